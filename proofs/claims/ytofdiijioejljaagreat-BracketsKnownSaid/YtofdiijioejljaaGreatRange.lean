/- A range over a function, by Calm: the iterator's own walk goes through the rounds as through calls (all that a round leaves is old for what follows); a round's body is walked in its own circumstances, with one block adopted. No function of the program in sight. -/
import Derived.RangeFuncNested
import Derived.RangeFuncLeaves
import Derived.OrdersIn
import Derived.TacticsIn
import Derived.Test.YtofdiijioejljaaGreatRowW
import Derived.Test.YtofdiijioejljaaGreatKeep
set_option linter.all false
namespace Go.Proofs.YtofdiijioejljaaGreat
open Go.RowKit

def notDefer (o : Oper) : Bool := match o.op with | .defer _ => false | _ => true
def Broad (F : Fence) : Prop := F = Fence.wide ∨ ∃ l, F = Fence.wide.inRound l
theorem Broad.wide : Broad Fence.wide := .inl rfl
theorem Broad.round (l : Nat) : Broad (Fence.wide.inRound l) := .inr ⟨l, rfl⟩
section
variable {Fe : Fence} {n : Nat} {P : Program} {o : Oper} {a : Act} {w : World} {K : Act → World → Prop} {Q : Exit → Act → World → Prop}
theorem Broad.fn (h : Broad Fe) (f : FuncId) : Fe.fn f := by rcases h with rfl | ⟨l, rfl⟩ <;> trivial
theorem Broad.depth (h : Broad Fe) : Fe.depth = none := by rcases h with rfl | ⟨l, rfl⟩ <;> rfl
theorem Broad.calls (h : Broad Fe) {f : FuncId} {args : Array Value} {R : Ending → World → Prop} (hc : Calls P f args w R) : CallsIn Fe n P f args w R := by
 have := (callsIn_wide (n := n)).2 hc
 rcases h with rfl | ⟨l, rfl⟩
 ·exact this
 ·exact this
theorem Broad.rows (h : Broad Fe) {r : String} {args : Array Value} {R : Value → World → Prop} (hc : Rows P r args w R) : RowsIn Fe n P r args w R := by
 have : RowsIn Fence.wide n P r args w R := fun c cs _ => let ⟨v, w', r, s⟩ := hc c cs; ⟨v, w', r, stepsIn_wide.2 s⟩
 rcases h with rfl | ⟨l, rfl⟩
 ·exact this
 ·exact this
theorem Broad.upon (h : Broad Fe) {r : Result Next} (hu : o.upon P a K Q r) : o.uponIn Fe n P a K Q r := by
 have hd : Fe.depth.isSome = true → 1 ≤ n := fun e => by rw [h.depth] at e; cases e
 cases r with
 | ok x w' =>
  cases x with
  | value v => exact hu
  | skip => exact hu
  | defer d => exact hu
  | enter f args => exact ⟨hd, h.calls hu⟩
  | row r args => exact ⟨hd, h.rows hu⟩
  | round l f tmps assign body => exact hu.elim
  | _ => exact hu.elim
 | halt x w' =>
  cases x with
  | panic v => exact hu
  | _ => exact hu.elim
theorem Broad.sem (h : Broad Fe) (hd : notDefer o = true) : o.semAt Fe.round a.eval = execOp a.eval o := by
 rcases h with rfl | ⟨l, rfl⟩
 ·rfl
 ·exact Oper.semAt_some l _ _ fun c e => by unfold notDefer at hd; rw [e] at hd; cases hd
theorem Broad.op (h : Broad Fe) (hd : notDefer o = true) (hw : o.wp P a w K Q) : o.wpIn Fe n P a w K Q := by
 refine ⟨fun f _ => h.fn f, ?_⟩
 rw [h.sem hd]
 exact h.upon hw
theorem Broad.opAt (h : Broad Fe) {ops : Array Oper} (hout : ¬ LetsOut Q) (hd : ops.toList.all notDefer = true) {i : Nat} (hw : wpOp P ops Q i K a w) : wpOpIn Fe n P ops Q i K a w := by
 unfold wpOp at hw
 unfold wpOpIn
 cases ho : ops[i]? with
 | none => rw [ho] at hw; exact hw
 | some o =>
  rw [ho] at hw
  simp only at hw ⊢
  have hd' : notDefer o = true := List.all_eq_true.1 hd o (by rw [← Array.getElem?_toList] at ho; exact List.mem_of_getElem? ho)
  split at hw
  ·rename_i h1; rw [if_pos h1]; exact h.op hd' (hw.resolve_right fun e => hout e.2)
  ·rename_i h1; rw [if_neg h1]; exact ⟨fun f _ => h.fn f, hw⟩
theorem Broad.any (h : Broad Fe) {md : Region.Mode} {ops : Array Oper} (hout : ¬ LetsOut Q) (hd : ops.toList.all notDefer = true) : ∀ (fuel : Nat) (listed : Array Bool) (a : Act) (w : World), wpAny P md ops Q fuel listed a w → wpAnyIn Fe n P md ops Q fuel listed a w
 | 0, _, _, _, hw => hw
 | fuel + 1, listed, a, w, hw => ⟨hw.1, fun i hi => wpOpIn_mono (fun a w hh => Broad.any h hout hd fuel _ a w hh) (h.opAt hout hd (hw.2 i hi))⟩
end

section
variable {Fe : Fence} {n : Nat} {C : Cx} {Q : Exit → Act → World → Prop} {ml : List FuncId} {full : Array Oper}
theorem vcOps_tailI (hB : Broad Fe) (hC : C.Ok) {m : Option (List FuncId)} {K : Fr → Hp → World → Prop} {tl : List Oper} (hQ : ∀ β F H w a w', K F H w → Rel C β F H a w' → KpS C.K w w' → wpListIn Fe n C.P full Q tl a w') :
  ∀ (l : List Oper), l.all notDefer = true → ∀ (β : Nat → Nat) (F : Fr) (H : Hp) (w : World) (a : Act) (w' : World), vcOps C m full l K F H w → Rel C β F H a w' → KpS C.K w w' → wpListIn Fe n C.P full Q (l ++ tl) a w'
 | [], _, β, F, H, w, a, w', h, hr, hk => hQ β F H w a w' h hr hk
 | o :: r, hd, β, F, H, w, a, w', h, hr, hk => by
  rw [List.all_cons, Bool.and_eq_true] at hd
  show wpListIn Fe n C.P full Q (o :: (r ++ tl)) a w'
  refine wpListIn_step fun K' hK' => ?_
  have := one_sound hC (next := K') (Q := Q) (k := vcOps C m full r K) h hr hk fun β' F' H' w1 a' w1' h1 h2 h3 => hK' _ _ (vcOps_tailI hB hC hQ r hd.2 β' F' H' w1 a' w1' h1 h2 h3)
  split at this
  ·rename_i hw; rw [if_pos hw]; exact hB.op hd.1 this
  ·rename_i hw; rw [if_neg hw]; exact ⟨fun f _ => hB.fn f, this⟩
theorem drawn_in (hB : Broad Fe) (hout : ¬ LetsOut Q) (hC : C.Ok) (hm : C.P.follows .mixedOrders = true) (hchk : drawOk C.SU ml full = true) (hd : full.toList.all notDefer = true) {K : Fr → Hp → World → Prop} (hQ : ∀ β F H w a w', K F H w → Rel C β F H a w' → KpS C.K w w' → Q .normal a w')
  {id : Nat} {β : Nat → Nat} {F : Fr} {H : Hp} {w : World} {a : Act} {w' : World} (h : vcOps C (some ml) full full.toList K F H w) (hr : Rel C β F H a w') (hk : KpS C.K w w') : (Code.region id full true).wpIn Fe n C.P Q a w' := by
 refine wpIn_region_any hm (hB.any hout hd _ _ _ _ ?_)
 refine drawn_any hC hchk hQ full.size (Array.replicate full.size false) (List.range full.size) β F H w a w'.drew (by simp) List.pairwise_lt_range ?_ (by simp) ?_ ?_ hr.drew hk.drew
 ·intro x
  rw [List.mem_range]
  constructor
  ·intro hx
   refine ⟨hx, ?_⟩
   simp [Array.getD_eq_getD_getElem?, Array.getElem?_replicate, hx]
  ·exact fun h => h.1
 ·intro j hj hl
  simp [Array.getD_eq_getD_getElem?, Array.getElem?_replicate, hj] at hl
 ·have : (List.range full.size).filterMap (full[·]?) = full.toList := by
   rw [List.range_eq_range', ← Array.length_toList]
   exact range_all full.toList 0 (fun j => by simp)
  rw [this]
  exact h
end

def postI (Fe : Fence) (P : Program) (Q : Exit → Act → World → Prop) : List It → Exit → Act → World → Prop
 | [] => Q
 | .code c :: k => Exit.then (fun a w => c.wpIn Fe 0 P (postI Fe P Q k) a w) (postI Fe P Q k)
 | .blk id :: k => Exit.inBlock id (postI Fe P Q k)
 | .back _ :: k => postI Fe P Q k
 | .scope :: k => postI Fe P Q k
def VSI (Fe : Fence) (C : Cx) (Q : Exit → Act → World → Prop) (stk : List It) (F : Fr) (H : Hp) (w : World) : Prop :=
 ∀ β a w', Rel C β F H a w' → KpS C.K w w' → postI Fe C.P Q stk .normal a w'
section
variable {Fe : Fence} {C : Cx} {Q : Exit → Act → World → Prop} {k : List It} {F F' : Fr} {H H' : Hp} {w : World} {id : Nat} {ops : Array Oper} {l' : List Oper}
theorem VSI.seq {x y : Code} (h : VSI Fe C Q (.code x :: .code y :: k) F H w) : VSI Fe C Q (.code (.seq x y) :: k) F H w := fun β a w' hr hk => wpIn_seq (h β a w' hr hk)
theorem VSI.block {c : Code} (h : VSI Fe C Q (.code c :: .blk id :: k) F H w) : VSI Fe C Q (.code (.block id c) :: k) F H w := fun β a w' hr hk => wpIn_block (h β a w' hr hk)
theorem VSI.blk (h : VSI Fe C Q k F H w) : VSI Fe C Q (.blk id :: k) F H w := fun β a w' hr hk => h β a w' hr hk
theorem VSI.region (hB : Broad Fe) (hC : C.Ok) (hd : ops.toList.all notDefer = true) (e : runD C ops 80 ops.toList F H = (l', F', H')) (h : vcOps C none ops l' (VSI Fe C Q k) F' H' w) : VSI Fe C Q (.code (.region id ops false) :: k) F H w := fun β a w' hr hk => by
 refine wpIn_region_list ?_
 rw [← List.append_nil ops.toList]
 exact vcOps_tailI hB hC (tl := []) (fun β F H w a w' h hr hk => h β a w' hr hk) ops.toList hd β F H w a w' (VO.run 80 e h) hr hk
theorem VSI.draw (hB : Broad Fe) (hout : ¬ LetsOut (postI Fe C.P Q k)) (hC : C.Ok) (hm : C.P.follows .mixedOrders = true) (hd : ops.toList.all notDefer = true) (e : runD C ops 80 ops.toList F H = (l', F', H')) (h : vcOps C (some []) ops l' (VSI Fe C Q k) F' H' w) (hchk : drawOk C.SU [] ops = true := by kernel_rfl) : VSI Fe C Q (.code (.region id ops true) :: k) F H w := fun β a w' hr hk =>
 drawn_in hB hout hC hm hchk hd (fun β F H w a w' h hr hk => h β a w' hr hk) (VO.run 80 e h) hr hk
theorem VSI.start {β : Nat → Nat} {a : Act} {w' : World} {c : Code} (h : VSI Fe C Q [.code c] F H w) (hr : Rel C β F H a w') (hk : KpS C.K w w') : c.wpIn Fe 0 C.P Q a w' := h β a w' hr hk
theorem VSI.done (h : ∀ β a w', Rel C β F H a w' → KpS C.K w w' → Q .normal a w') : VSI Fe C Q [] F H w := h
end

def Fr.vals (L : List (Nat × Value)) : Fr := Fr.of (L.map fun p => (p.1, .val p.2))
def ValL (F : Fr) : List (Nat × Value) → Prop
 | [] => True
 | p :: r => F p.1 = some (.val p.2) ∧ ValL F r
theorem ValL.mem {F : Fr} : ∀ {L : List (Nat × Value)} {p : Nat × Value}, ValL F L → p ∈ L → F p.1 = some (.val p.2)
 | q :: r, p, h, hm => by
  rcases List.mem_cons.1 hm with rfl | hm
  ·exact h.1
  ·exact ValL.mem h.2 hm
theorem vals_mem {L : List (Nat × Value)} {d : Nat} {v : AV} (h : Fr.vals L d = some v) : ∃ u, v = .val u ∧ (d, u) ∈ L := by
 have := Fr.of_mem h
 obtain ⟨p, hp, e⟩ := List.mem_map.1 this
 cases e
 exact ⟨p.2, rfl, hp⟩
structure Knows (N : Nat) (L : List (Nat × Value)) (a : Act) : Prop where
 defers : a.defers = []
 size : a.tmps.size = N
 tmp : ∀ p ∈ L, p.1 < N ∧ a.tmps.getD p.1 undef = p.2
theorem Knows.rel {C : Cx} {L : List (Nat × Value)} {a : Act} {w : World} (h : Knows C.N L a) (ho : C.Old w) : Rel C (fun _ => 0) (Fr.vals L) (fun _ => none) a w :=
 ⟨h.defers, h.size, fun d v hd => by obtain ⟨u, rfl, hm⟩ := vals_mem hd; exact (h.tmp _ hm).2, fun i t cs hi => (by cases hi), fun i j hi => absurd rfl hi, fun d v hd i hi => (by obtain ⟨u, rfl, hm⟩ := vals_mem hd; cases hi), fun d v hd => (by obtain ⟨u, rfl, hm⟩ := vals_mem hd; exact (h.tmp _ hm).1), ⟨fun i t cs hi => (by cases hi), fun i t cs hi => (by cases hi), fun i hi => rfl⟩, ho⟩
theorem Rel.knows {C : Cx} {β : Nat → Nat} {F : Fr} {H : Hp} {a : Act} {w : World} {L : List (Nat × Value)} (hr : Rel C β F H a w) (hL : ValL F L) : Knows C.N L a :=
 ⟨hr.defers, hr.size, fun p hp => ⟨hr.fits _ _ (hL.mem hp), hr.tmp _ _ (hL.mem hp)⟩⟩
def HeldR (N : Nat) (J : Nat → List (Nat × Value) → World → Prop) (n : Nat) (a : Act) (w : World) : Prop := ∃ L, J n L w ∧ Knows N L a
section
variable {C : Cx} {Q : Exit → Act → World → Prop} {k : List It} {F : Fr} {H : Hp} {w : World} {J : Nat → List (Nat × Value) → World → Prop}
theorem VS.loopR (D : World → Cx) (hP : ∀ w, (D w).P = C.P) (hN : ∀ w, (D w).N = C.N) (hO : ∀ w, (D w).Old w) (n0 : Nat) {body : Code} (h0 : ∀ w', KpS C.K w w' → C.Old w' → ∃ L, ValL F L ∧ J n0 L w')
  (round : ∀ n L W, J n L W → VS (D W) Q (.code body :: .back (fun a w => ∃ m, m < n ∧ HeldR C.N J m a w) :: k) (Fr.vals L) (fun _ => none) W) : VS C Q (.code (.loop body) :: k) F H w := fun β a w' hr hk => by
 obtain ⟨L, h1, h2⟩ := h0 w' hk hr.old
 refine wp_loop_ghost (HeldR C.N J) n0 ⟨L, h2, hr.knows h1⟩ ?_
 rintro n a1 w1 ⟨L1, hJ, hkn⟩
 have hkn' : Knows (D w1).N L1 a1 := by rw [hN]; exact hkn
 have := round n L1 w1 hJ _ a1 w1 (hkn'.rel (hO w1)) (KpS.refl _ _)
 rw [hP] at this
 exact this
theorem VS.backR {n N : Nat} (hN : C.N = N) (m : Nat) (hm : m < n) (L : List (Nat × Value)) (hL : ValL F L) (h : ∀ w', KpS C.K w w' → C.Old w' → J m L w') : VS C Q (.back (fun a w => ∃ m, m < n ∧ HeldR N J m a w) :: k) F H w := fun β a w' hr hk => by
 subst hN
 exact ⟨m, hm, L, h w' hk hr.old, hr.knows hL⟩
theorem VS.endA (hC : C.Ok) {fn : Func} {R : Ending → World → Prop} {vs : List AV} (h : resOf C F H fn.results.toList = some vs) (hR : ∀ w' β, KpS C.K w w' → C.Old w' → Ends C β H w' → R (.returned (tup (vs.map (AV.conc β)))) w') : VS C (bodyPost C.P fn R) [] F H w :=
 fun β a w' hr hk => ⟨hr.defers, _, results_run hC hr h, hR w' β hk hr.old ⟨hr.own, hr.apart⟩⟩

def YK (C : Cx) (Q : Exit → Act → World → Prop) (k : List It) (x : Operand) (ys : Array Operand) (d1 d2 : Nat) (F : Fr) (H : Hp) (w : World) : Prop :=
 ∃ (l : Nat) (us : List Value) (D : World → Cx), ev F x = some (.val (.func (.yield l) #[] #[])) ∧ evs F ys.toList = some us ∧ (∀ w, (D w).P = C.P) ∧ (∀ w, (D w).N = C.N) ∧ (∀ w, Cx.Old (D w) w) ∧ d1 < C.N ∧ d2 < C.N ∧
  ∀ w1, KpS C.K w w1 → C.Old w1 → YieldAt Fence.wide 0 C.P l us.toArray w1 fun e w2 => e = .returned (.bool true) ∧ ∃ L, ValL F L ∧ (L.all fun p => !Nat.beq p.1 d1 && !Nat.beq p.1 d2) = true ∧ VS (D w2) Q k (Fr.vals ((d2, .bool false) :: L)) (fun _ => none) w2
theorem VS.regionY (hC : C.Ok) {id : Nat} {ops : Array Oper} (j : Nat) {o1 o2 : Oper} {x : Operand} {ys : Array Operand} {ts : Array TypeId} {t : TypeId} {d1 d2 : Nat} (hj : ops.toList.drop j = [o1, o2]) (hd : ops.toList.all notDefer = true)
  (h1 : o1.op = .call { callee := .value x, args := ys, argTypes := ts }) (g1 : o1.guard = none) (e1 : o1.dst = some d1) (h2 : o2.op = .unOp .not t (.tmp d1)) (g2 : o2.guard = none) (e2 : o2.dst = some d2)
  (h : vcOps C none ops (ops.toList.take j) (YK C Q k x ys d1 d2) F H w) : VS C Q (.code (.region id ops false) :: k) F H w := fun β a w' hr hk => by
 refine (wpIn_wide (n := 0)).1 (wpIn_region_list ?_)
 rw [← List.take_append_drop j ops.toList, hj]
 refine vcOps_tailI Broad.wide hC (tl := [o1, o2]) (fun β F H w a w' h hr hk => ?_) (ops.toList.take j) (List.all_eq_true.2 fun o ho => List.all_eq_true.1 hd o (List.mem_of_mem_take ho)) β F H w a w' h hr hk
 obtain ⟨l, us, D, hx, hy, hP, hN, hO, hd1, hd2, hY⟩ := h
 obtain ⟨fn, tmps, assign, body, hyl, hR⟩ := hY w' hk hr.old
 have hx' : a.eval x = .func (.yield l) #[] #[] := hr.ev hx
 have hy' : ys.map a.eval = us.toArray := by
  have := hr.evs hy
  rw [← Array.toList_inj, Array.toList_map]; exact this
 refine wpListIn_plain g1 fun K hK => ⟨fun f _ => trivial, ?_⟩
 have hs : (o1.semAt Fence.wide.round a.eval).run C.P w' = .ok (.round l fn tmps assign body) w' := by
  show (execOp a.eval o1).run C.P w' = _
  unfold execOp
  rw [h1]
  simp only [resolve, hx', hy', Sem.run_bind, Sem.run_pure, Result.andThen_ok]
  show Sem.run C.P (Instr.yield l (#[] ++ us.toArray)) w' = _
  rw [Array.empty_append]
  exact hyl
 rw [hs, Oper.uponIn_round]
 refine ⟨fun e => (by cases e), hR.mono ?_⟩
 rintro e w2 ⟨rfl, L, hL, hLd, hv⟩
 refine hK _ _ ?_
 refine wpListIn_plain g2 fun K hK => ⟨fun f _ => trivial, ?_⟩
 have hsz : a.tmps.size = C.N := hr.size
 have ht : (a.put o1.dst (.bool true)).eval (.tmp d1) = .bool true := by
  rw [e1]
  simp [Act.put, Act.eval, hsz, hd1]
 have hs2 : (o2.semAt Fence.wide.round (a.put o1.dst (.bool true)).eval).run C.P w2 = .ok (.value (.bool false)) w2 := by
  show (execOp _ o2).run C.P w2 = _
  unfold execOp
  rw [h2]
  simp only [ht]
  rfl
 rw [hs2, Oper.uponIn_value]
 refine hK _ _ ?_
 show post C.P Q k .normal _ w2
 have hkn : Knows (D w2).N ((d2, .bool false) :: L) ((a.put o1.dst (.bool true)).put o2.dst (.bool false)) := by
  rw [hN]
  refine ⟨by rw [e1, e2]; exact hr.defers, by rw [e1, e2]; simp [Act.put, hsz], fun p hp => ?_⟩
  rw [e1, e2]
  rcases List.mem_cons.1 hp with rfl | hp
  ·exact ⟨hd2, by simp [Act.put, hsz, hd2]⟩
  ·have hm := List.all_eq_true.1 hLd p hp
   rw [Bool.and_eq_true, Bool.not_eq_true', Bool.not_eq_true'] at hm
   have n1 : d1 ≠ p.1 := fun e => by rw [e, Nat.beq_refl] at hm; cases hm.1
   have n2 : d2 ≠ p.1 := fun e => by rw [e, Nat.beq_refl] at hm; cases hm.2
   refine ⟨hr.fits _ _ (hL.mem hp), ?_⟩
   have := hr.tmp _ _ (hL.mem hp)
   simp [Act.put, Array.getD_eq_getD_getElem?, Array.getElem?_setIfInBounds, n1, n2] at this ⊢
   exact this
 have := hv _ _ w2 (hkn.rel (hO w2)) (KpS.refl _ _)
 rw [hP] at this
 exact this
end

theorem KpS.put {K : KC} {W : World} {l : Nat} {r r' : Loop} (h : W.heap[l]? = some (.loop r)) : KpS K W (W.putObj l (.loop r')) := by
 have hg := grownBy_putObj' W l (.loop r')
 have hne : ∀ g o, W.heap[g]? = some o → (∀ q, o ≠ Obj.loop q) → (W.putObj l (.loop r')).heap[g]? = some o := fun g o ho hq => by
  refine (hg.block g (Array.getElem?_eq_some_iff.1 ho).1 fun e => ?_).trans ho
  cases e
  rw [h] at ho; cases ho
  exact hq _ rfl
 refine ⟨hg.size, fun a x _ hx => ?_, fun t g cur _ _ hc => hne g _ hc fun q e => (by cases e), fun g es c hc => hne g _ hc fun q e => (by cases e)⟩
 have hlt := World.block_lt_of_cell? W a hx
 obtain ⟨o, ho⟩ : ∃ o, W.heap[a.block]? = some o := ⟨_, Array.getElem?_eq_getElem hlt⟩
 rw [World.cell?_of_block (w := W) ((hne _ o ho fun q e => ?_).trans ho.symm)]
 ·exact hx
 ·subst e
  simp only [World.cell?, ho] at hx
  cases hx
theorem But.put {ad : List Nat} {w W : World} (h : But ad w W) {l : Nat} (hl : w.heap.size ≤ l) (o : Obj) : But ad w (W.putObj l o) := by
 have hg := grownBy_putObj' W l o
 refine ⟨hg.os.trans h.os, hg.tape.trans h.tape, hg.output.trans h.output, Nat.le_trans h.size hg.size, fun g hgl hn => (hg.block g (Nat.lt_of_lt_of_le hgl h.size) fun e => ?_).trans (h.blk g hgl hn)⟩
 cases e; omega
theorem Cls.put {W : World} {b : Nat} {t : TypeId} {cs : Array Value} (h : Cls W b t cs) {l : Nat} {r : Loop} (hl : W.heap[l]? = some (.loop r)) (o : Obj) : Cls (W.putObj l o) b t cs := by
 have hg := grownBy_putObj' W l o
 refine (hg.block b h.lt fun e => ?_).trans h
 cases e
 have := hl.symm.trans h
 cases this
theorem wpIn_range {P : Program} {g : Operand} {ps : Array Tmp} {assign body : Code} {Q : Exit → Act → World → Prop} {a : Act} {w : World} {gf : Nat} {lb : Array Value} {Bo : Nat} (hBo : Bo < w.heap.size)
  (hg : a.eval g = .func (.func gf) #[] lb) (eg : ∀ args w, (callFunc gf args).run P w = .ok (.enter gf args) w) (J : Nat → World → Prop) (Pr : Nat → Array Value → World → Prop) (Fin : Nat → Prop)
  (hput : ∀ i W l r r', J i W → w.heap.size ≤ l → W.heap[l]? = some (.loop r) → J i (W.putObj l (.loop r'))) (hbeh : ∀ i W W', J i W → Beh W W' → J i W') (h0 : J 0 w) (hps : ∀ i vs W, Pr i vs W → vs.size = ps.size)
  (hseq : ∀ (l : Nat) (J' : Nat → World → Prop) (W : World), Beh w W → (∀ i W W', J' i W → Beh W W' → J' i W') → (∀ i W, J' i W → J i W) →
   (∀ i vs W1, J' i W1 → Pr i vs W1 → YieldAt Fence.wide 0 P l vs W1 fun e W' => e = .returned (.bool true) ∧ J' (i + 1) W') → J' 0 W →
   CallsIn Fence.wide 0 P gf (#[.func (.yield l) #[] #[]] ++ lb) W fun e W' => (∃ v, e = .returned v) ∧ ∃ i, Fin i ∧ J' i W')
  (hround : ∀ l i vs W, w.heap.size ≤ l → J i W → Pr i vs W → (∃ r, W.heap[l]? = some (.loop r)) →
   assign.wpIn (Fence.wide.inRound l) 0 P (Exit.then (fun a' W1 => Beh W W1 ∧ ∀ r', body.wpIn (Fence.wide.inRound l) 0 P (fun e _ W3 => e = .normal ∧ But [Bo] (W1.putObj l (.loop r')) W3 ∧ J (i + 1) W3) a' (W1.putObj l (.loop r'))) (fun _ _ _ => False))
    { tmps := (ps.zip vs).foldl (fun t (p, v) => t.setIfInBounds p v) a.tmps, defers := [] } W)
  (hdone : ∀ D i W, w.heap.size ≤ D → Fin i → J i W → W.heap[D]? = some (.deferred (some [])) → Q .normal { a with defers := { target := .collected D, args := #[] } :: a.defers } W) :
  (Code.rangeFunc g ps assign body).wpIn Fence.wide 0 P Q a w := by
 refine wpIn_rangeFunc fun fn hfn => ?_
 obtain ⟨rec, hrec⟩ : ∃ rec : LoopState → Option Code → Loop, rec = fun st pe => { state := st, pending := pe, fn, tmps := a.tmps, params := ps, assign, body, defers := w.heap.size } := ⟨_, rfl⟩
 obtain ⟨W1, hW1⟩ : ∃ W1, (w.alloc (.deferred (some []))).alloc (.loop (rec .ready none)) = W1 := ⟨_, rfl⟩
 have hL1 : W1.heap[w.heap.size + 1]? = some (.loop (rec .ready none)) := by
  rw [← hW1]; have := World.alloc_heap_new (w.alloc (.deferred (some []))) (.loop (rec .ready none)); rwa [World.size_alloc] at this
 have hK1 : W1.heap[w.heap.size]? = some (.deferred (some [])) := by
  rw [← hW1]; exact (Below.heap_alloc _ _ _ (by simp)).trans (World.alloc_heap_new w _)
 have hb1 : Beh w W1 := by rw [← hW1]; exact ((Beh.refl w).alloc _).alloc _
 obtain ⟨J', hJ'⟩ : ∃ J' : Nat → World → Prop, J' = fun i W => J i W ∧ W.heap[w.heap.size + 1]? = some (.loop (rec .ready none)) ∧ W.heap[w.heap.size]? = some (.deferred (some [])) := ⟨_, rfl⟩
 have hY : ∀ i vs W, J' i W → Pr i vs W → YieldAt Fence.wide 0 P (w.heap.size + 1) vs W fun e W' => e = .returned (.bool true) ∧ J' (i + 1) W' := by
  intro i vs W h hp
  rw [hJ'] at h ⊢
  obtain ⟨hi, hl, hk⟩ := h
  have hy := run_yield (P := P) (args := vs) hl (by rw [hrec, hps i vs W hp])
  rw [hrec] at hy
  refine ⟨fn, _, assign, body, hy, roundIn_of_wpIn hfn (wpIn_mono (hround _ i vs W (by omega) hi hp ⟨_, hl⟩) ?_)⟩
  rintro e a' Wa he
  cases e with
  | normal =>
   obtain ⟨hba, hbody⟩ := he
   have hla : Wa.heap[w.heap.size + 1]? = some (.loop (rec .ready none)) := (Below.block hba _ (Array.getElem?_eq_some_iff.1 hl).1).trans hl
   have hka : Wa.heap[w.heap.size]? = some (.deferred (some [])) := (Below.block hba _ (Array.getElem?_eq_some_iff.1 hk).1).trans hk
   have hlt := (Array.getElem?_eq_some_iff.1 hla).1
   refine ⟨_, run_beginRound hla (by rw [hrec]), wpIn_mono (hbody _) ?_⟩
   have hl2 : (Wa.putObj (w.heap.size + 1) (.loop { rec .ready none with state := .busy })).heap[w.heap.size + 1]? = some (.loop { rec .ready none with state := .busy }) := World.putObj_heap_same hlt
   have hk2 : (Wa.putObj (w.heap.size + 1) (.loop { rec .ready none with state := .busy })).heap[w.heap.size]? = some (.deferred (some [])) := (World.putObj_heap_other (by omega)).trans hka
   rintro e a3 W3 ⟨rfl, hbut, hJ3⟩
   have hne : ∀ j, w.heap.size ≤ j → j ∉ [Bo] := fun j hj hm => by rw [List.mem_singleton] at hm; omega
   have hl3 := (hbut.blk _ (Array.getElem?_eq_some_iff.1 hl2).1 (hne _ (by omega))).trans hl2
   have hk3 := (hbut.blk _ (Array.getElem?_eq_some_iff.1 hk2).1 (hne _ (Nat.le_refl _))).trans hk2
   have hr := run_endRound (P := P) none hl3
   refine ⟨_, _, hr, rfl, hput _ _ _ _ _ hJ3 (by omega) hl3, ?_, (World.putObj_heap_other (by omega)).trans hk3⟩
   rw [World.putObj_heap_same (Array.getElem?_eq_some_iff.1 hl3).1, hrec]
   rfl
  | _ => exact he.elim
 have key := hseq (w.heap.size + 1) J' W1 hb1 (by
   rw [hJ']
   exact fun i W W' h k => ⟨hbeh i W W' h.1 k, (Below.block k _ (Array.getElem?_eq_some_iff.1 h.2.1).1).trans h.2.1, (Below.block k _ (Array.getElem?_eq_some_iff.1 h.2.2).1).trans h.2.2⟩)
  (by rw [hJ']; exact fun i W h => h.1) hY (by rw [hJ']; exact ⟨hbeh 0 w W1 h0 hb1, hL1, hK1⟩)
 refine ⟨w.heap.size + 1, [{ target := .collected w.heap.size, args := #[] }], W1, { target := .fn (.func gf) lb, args := #[.func (.yield (w.heap.size + 1)) #[] #[]] }, W1, gf,
  #[.func (.yield (w.heap.size + 1)) #[] #[]] ++ lb, W1, ?_, ?_, ?_, ?_, ?_, ?_⟩
 ·rw [← hW1, hrec]; exact run_enterLoop_outer _ _ _ _ _
 ·simp only [resolve, hg]
  simp [go_sem]
 ·intro f' _
  trivial
 ·simp [invoke, go_sem, eg]
 ·intro e
  cases e
 ·refine key.mono ?_
  rintro e W2 ⟨⟨v, rfl⟩, i, hF, hJi⟩
  rw [hJ'] at hJi
  obtain ⟨hi, hl, hk⟩ := hJi
  have hr := run_endLoop (P := P) hl (by rw [hrec]; simp)
  refine ⟨none, _, by rw [hr, hrec], hdone _ i _ (Nat.le_refl _) hF (hput i _ _ _ _ hi (by omega) hl) ((World.putObj_heap_other (by omega)).trans hk)⟩

theorem KpS.putG {K : KC} {W : World} {l : Nat} {o o' : Obj} (h : W.heap[l]? = some o) (h1 : ∀ cs t x, o ≠ .cells cs t x) (h2 : ∀ es c, o ≠ .map es c) : KpS K W (W.putObj l o') := by
 have hg := grownBy_putObj' W l o'
 have hne : ∀ g q, W.heap[g]? = some q → q ≠ o → (W.putObj l o').heap[g]? = some q := fun g q hq hn => by
  refine (hg.block g (Array.getElem?_eq_some_iff.1 hq).1 fun e => ?_).trans hq
  cases e
  rw [h] at hq; cases hq
  exact hn rfl
 refine ⟨hg.size, fun a x _ hx => ?_, fun t g cur _ _ hc => hne g _ hc fun e => h1 _ _ _ e.symm, fun g es c hc => hne g _ hc fun e => h2 _ _ e.symm⟩
 have hlt := World.block_lt_of_cell? W a hx
 obtain ⟨q, hq⟩ : ∃ q, W.heap[a.block]? = some q := ⟨_, Array.getElem?_eq_getElem hlt⟩
 rw [World.cell?_of_block (w := W) ((hne _ q hq fun e => ?_).trans hq.symm)]
 ·exact hx
 ·subst e
  simp only [World.cell?, hq] at hx
  cases q with
  | cells cs t x => exact h1 _ _ _ rfl
  | _ => cases hx
theorem Cls.putG {W : World} {b : Nat} {t : TypeId} {cs : Array Value} (h : Cls W b t cs) {l : Nat} {o : Obj} (hl : W.heap[l]? = some o) (h1 : ∀ cs t x, o ≠ .cells cs t x) (o' : Obj) : Cls (W.putObj l o') b t cs := by
 have hg := grownBy_putObj' W l o'
 refine (hg.block b h.lt fun e => ?_).trans h
 cases e
 have := hl.symm.trans h
 cases this
 exact h1 _ _ _ rfl
section
variable {C : Cx} {F : Fr} {H : Hp} {w : World} {Q : Exit → Act → World → Prop} {k : List It}
theorem VS.range {g : Operand} {ps : Array Tmp} {assign body : Code} (h : ∀ β a w', Rel C β F H a w' → KpS C.K w w' → (Code.rangeFunc g ps assign body).wpIn Fence.wide 0 C.P (post C.P Q k) a w') : VS C Q (.code (.rangeFunc g ps assign body) :: k) F H w :=
 fun β a w' hr hk => wpIn_wide.1 (h β a w' hr hk)
theorem calm_enterM {f : FuncId} {fn : Func} {c : Code} {args : List Value} {R : Ending → World → Prop} (hf : C.P.funcs[f]? = some fn) (hb : fn.body = some c) (hN : fn.ntmps = C.N) (ha : args.length ≤ C.N)
  (h : VS C (bodyPostM Fence.wide 0 C.P fn R) [.code c] (Fr.args 0 args) (fun _ => none) C.w0) : Calls C.P f args.toArray C.w0 R := by
 refine (callsIn_wide (n := 0)).1 (callsIn_of_wp_marks hf hb trivial ((wpIn_wide (n := 0)).2 ?_))
 refine h (fun _ => 0) _ C.w0 ⟨rfl, ?_, fun d v hd => ?_, fun i t cs hi => (by cases hi), fun i j hi => absurd rfl hi, fun d v hd i hi => ?_, fun d v hd => ?_, ⟨fun i t cs hi => (by cases hi), fun i t cs hi => (by cases hi), fun i hi => rfl⟩, C.oldRefl⟩ (KpS.refl _ _)
 ·simp [hN]; omega
 ·obtain ⟨u, rfl, _, h2⟩ := Fr.args_at args 0 d v hd
  rw [Nat.sub_zero] at h2
  show (args.toArray ++ _).getD d undef = u
  have hlt := (List.getElem?_eq_some_iff.1 h2).1
  rw [Array.getD_eq_getD_getElem?, Array.getElem?_append_left (by simpa using hlt)]
  simp [h2]
 ·obtain ⟨u, rfl, _⟩ := Fr.args_at args 0 d _ hd
  cases hi
 ·obtain ⟨u, rfl, _, h2⟩ := Fr.args_at args 0 d _ hd
  rw [Nat.sub_zero] at h2
  have := (List.getElem?_eq_some_iff.1 h2).1
  omega
theorem VS.retM (hC : C.Ok) {fn : Func} {R : Ending → World → Prop} {vs : List AV} {us : List Value} (h : resOf C F H fn.results.toList = some vs) (hv : valsOf vs = some us) (hR : ∀ w', KpS C.K w w' → C.Old w' → R (.returned (tup us)) w') : VS C (bodyPostM Fence.wide 0 C.P fn R) (.code .ret :: k) F H w :=
 fun β a w' hr hk => wp_ret (post_ret (by
  obtain ⟨_, v, h1, h2⟩ := fin_ret hC h hv hR β a w' hr hk
  show LeavesInM Fence.wide 0 C.P fn a.tmps R a.defers .returning w'
  rw [hr.defers]
  exact ⟨v, h1, h2⟩))
end
theorem Rel.beh {C : Cx} {β : Nat → Nat} {F : Fr} {H : Hp} {a : Act} {w w' : World} (hr : Rel C β F H a w) (hb : Beh w w') : Rel C β F H a w' :=
 ⟨hr.defers, hr.size, hr.tmp, fun i t cs h => ⟨(hr.own i t cs h).new, (hr.own i t cs h).ty, (hr.own i t cs h).cls.beh hb, (hr.own i t cs h).ok⟩, hr.apart, hr.closed, hr.fits, hr.hp, C.thn hr.old hb⟩
def CK (C : Cx) (Q : Exit → Act → World → Prop) (k : List It) (full : Array Oper) (o : Oper) (F : Fr) (H : Hp) (w : World) : Prop :=
 ∃ g args vs, stepOf C full F H o = .call (.fn g args) ∧ valsOf args = some vs ∧ FnOk C.P g ∧
  ∀ w1, KpS C.K w w1 → C.Old w1 → Calls C.P g vs.toArray w1 fun e w2 => ∃ v, e = .returned v ∧ Beh w1 w2 ∧ ∀ β a a', Rel C β F H a w1 → Rel C β (F.puto o.dst (.val v)) H a' w2 → KpS C.K w w2 → post C.P Q k .normal a' w2
theorem VS.regionC {C : Cx} {F : Fr} {H : Hp} {w : World} {Q : Exit → Act → World → Prop} {k : List It} (hC : C.Ok) {id : Nat} {ops : Array Oper} (j : Nat) {o : Oper} (hj : ops.toList.drop j = [o]) (hd : ops.toList.all notDefer = true) (ho : notDefer o = true)
  (h : vcOps C none ops (ops.toList.take j) (CK C Q k ops o) F H w) : VS C Q (.code (.region id ops false) :: k) F H w := fun β a w' hr hk => by
 refine (wpIn_wide (n := 0)).1 (wpIn_region_list ?_)
 rw [← List.take_append_drop j ops.toList, hj]
 refine vcOps_tailI Broad.wide hC (tl := [o]) (fun β F H w a w' h hr hk => ?_) (ops.toList.take j) (List.all_eq_true.2 fun o ho => List.all_eq_true.1 hd o (List.mem_of_mem_take ho)) β F H w a w' h hr hk
 obtain ⟨g, args, vs, e, hv, hf, hcl⟩ := h
 refine wpListIn_step fun K hK => ?_
 have hb : stepOf C ops F H o ≠ .bad := fun e' => by rw [e] at e'; cases e'
 obtain ⟨hdst, ⟨hw, hs⟩ | ⟨hw, hs⟩⟩ := stepOf_inv hb
 ·rw [hs] at e; cases e
 ·rw [wants_sound hr hw, if_pos rfl]
  refine Broad.wide.op ho (does_wp hr (hs.symm.trans e) ?_)
  refine ⟨hf, ?_⟩
  rw [valsOf_some hv, conc_vals]
  refine (hcl w' hk hr.old).mono ?_
  rintro e w2 ⟨v, rfl, hb2, hcont⟩
  refine ⟨v, rfl, hK _ _ ?_⟩
  show post C.P Q k .normal _ w2
  exact hcont β a _ hr ((hr.beh hb2).put hdst (v := .val v) (fun _ hi => by cases hi)) (hk.thn (KpS.of hb2))
theorem But.beh {w w1 W : World} {ad : List Nat} (h : Beh w w1) (k : But ad w1 W) (hg : ∀ g ∈ ad, w.heap.size ≤ g) : Beh w W :=
 Below.trans h ⟨k.os, k.tape, k.output, k.size, fun g hgl => k.blk g (Nat.lt_of_lt_of_le hgl h.size) fun hm => by have := hg g hm; omega⟩
theorem rel_ad1 {P : Program} {w : World} {N : Nat} {K : KC} {SU : TypeId → Bool} {ti : TypeId → Option TI} {keep : ∀ b, b < w.heap.size → K.S b} {g : Nat} {t : TypeId} {cs : List Value} {ha : AdOk K [g] w} {a : Act} (L : List (Nat × Value)) (d : Nat)
  (hkn : Knows N ((d, .pointer (some ⟨g, 0, none⟩)) :: L) a) (hc : Cls w g t cs.toArray) (ht : K.fz t = false) (hk : cs.all okCell = true) :
  Rel (adCx P w N K SU ti keep [g] (one_nodup g) ha) (fun _ => g) (Fr.put (Fr.vals L) d (.box (2 * N) 0)) (Hp.one (2 * N) t cs) a w := by
 have hF : ∀ q v, Fr.put (Fr.vals L) d (.box (2 * N) 0) q = some v → (q = d ∧ v = .box (2 * N) 0) ∨ ∃ u, v = .val u ∧ (q, u) ∈ L := fun q v hq => by
  rw [Fr.put_at] at hq
  split at hq
  ·rename_i e; cases hq; exact .inl ⟨e, rfl⟩
  ·exact .inr (vals_mem hq)
 have hH : ∀ i t' cs', Hp.one (2 * N) t cs i = some (t', cs') → i = 2 * N ∧ t' = t ∧ cs' = cs.map .val := fun i t' cs' hi => by
  rw [Hp.one_at] at hi
  split at hi
  ·rename_i e; cases hi; exact ⟨e, rfl, rfl⟩
  ·cases hi
 refine ⟨hkn.defers, hkn.size, fun q v hq => ?_, fun i t' cs' hi => ?_, fun i j hi hj _ => ?_, fun q v hq i hi => ?_, fun q v hq => ?_, ⟨fun i t' cs' hi => ?_, fun i t' cs' hi => ?_, fun i hi => ?_⟩, ?_⟩
 ·rcases hF q v hq with ⟨rfl, rfl⟩ | ⟨u, rfl, hm⟩
  ·exact (hkn.tmp _ (List.mem_cons_self ..)).2
  ·exact (hkn.tmp _ (List.mem_cons_of_mem _ hm)).2
 ·obtain ⟨rfl, rfl, rfl⟩ := hH i t' cs' hi
  refine ⟨?_, ht, by rw [leaf_vals]; exact hc, vals_ok hk⟩
  show NewA N [g] w (2 * N) g
  unfold NewA
  rw [if_pos (by omega), Nat.sub_self]
  rfl
 ·rw [Hp.one_at] at hi hj
  split at hi
  ·split at hj
   ·omega
   ·exact absurd rfl hj
  ·exact absurd rfl hi
 ·rcases hF q v hq with ⟨rfl, rfl⟩ | ⟨u, rfl, hm⟩
  ·have : i = 2 * N := by simpa [AV.ids] using hi
   rw [Hp.one_at, if_pos this]; simp
  ·cases hi
 ·rcases hF q v hq with ⟨rfl, rfl⟩ | ⟨u, rfl, hm⟩
  ·exact (hkn.tmp _ (List.mem_cons_self ..)).1
  ·exact (hkn.tmp _ (List.mem_cons_of_mem _ hm)).1
 ·obtain ⟨rfl, rfl, rfl⟩ := hH i t' cs' hi
  exact ⟨ht, vals_ok hk⟩
 ·obtain ⟨rfl, rfl, rfl⟩ := hH i t' cs' hi
  intro j hj
  rw [lidsOf_vals] at hj; cases hj
 ·rw [Hp.one_at, if_neg]
  intro e
  have : (2 * N + [g].length) ≤ i := hi
  simp at this
  omega
 ·exact ⟨⟨rfl, rfl, rfl, Nat.le_refl _, fun _ _ _ => rfl⟩, ha⟩
theorem at_ad1 {P : Program} {w : World} {N : Nat} {K : KC} {SU : TypeId → Bool} {ti : TypeId → Option TI} {keep : ∀ b, b < w.heap.size → K.S b} {g : Nat} {ha : AdOk K [g] w} {x : Addr} {u : Value} (hb : x.block ≠ g) (h : w.cell? x = some u) : Cx.At (adCx P w N K SU ti keep [g] (one_nodup g) ha) x u := fun w1 hw1 => by
 have h1 : But [g] w w1 := hw1.1
 have hlt := World.block_lt_of_cell? w x h
 rw [World.cell?_of_block (w := w) (h1.blk _ hlt (fun hm => hb (List.mem_singleton.1 hm)))]
 exact h
theorem tail_sum {P : Program} {K : KC} {t : TypeId} {i : TI} (hi : TI.Ok P t i) (hz : K.fz t = false) {id : Nat} {ops : Array Oper} {o1 o2 o3 : Oper} {x y d z : Nat} {kv : Value} (hops : ops.toList = [o1, o2, o3])
  (h1 : o1.op = .load t (.tmp x)) (g1 : o1.guard = none) (e1 : o1.dst = some d) (h2 : o2.op = .store t (.tmp y) (.tmp d)) (g2 : o2.guard = none) (e2 : o2.dst = none) (h3 : o3.op = .assign (.const kv)) (g3 : o3.guard = none) (e3 : o3.dst = some z)
  {a : Act} {W : World} {bx bY D : Nat} {cs old : List Value} (hx : a.tmps.getD x undef = .pointer (some ⟨bx, 0, none⟩)) (hy : a.tmps.getD y undef = .pointer (some ⟨bY, 0, none⟩)) (hdx : d < a.tmps.size) (hzx : z < a.tmps.size) (hyd : Nat.beq d y = false) (hyz : Nat.beq z y = false)
  (hcx : Cls W bx t cs.toArray) (hcy : Cls W bY t old.toArray) (hl : cs.length = i.size) (ho : old.length = i.size) (hagg : i.agg = true) (hok : cs.all okCell = true) (hoo : old.all okCell = true)
  {fn : Func} (hfn : fn.results = #[.cell y t, .tmp z]) (hD : W.heap[D]? = some (.deferred (some []))) (hds : a.defers = [{ target := .collected D, args := #[] }]) {R : Ending → World → Prop}
  (hR : ∀ W', KpS K W W' → But [bY, D] W W' → R (.returned (.tuple #[.agg cs.toArray, kv])) W') :
  (Code.seq (.region id ops false) .ret).wp P (bodyPostM Fence.wide 0 P fn R) a W := by
 refine wp_seq (wp_region_list ?_)
 rw [hops]
 have n1 : d ≠ y := fun e => by rw [e, Nat.beq_refl] at hyd; cases hyd
 have n2 : z ≠ y := fun e => by rw [e, Nat.beq_refl] at hyz; cases hyz
 have hone : ∀ v ∈ cs, v.oneCell' = true := fun v hv => okCell_one (List.all_eq_true.1 hok v hv)
 have hld := run_loadVar_any hi ⟨bx, 0, none⟩ cs hl W (fun j u hj => by rw [Addr.add_mid, Nat.zero_add]; exact Cls.cell (b := bx) hcx (by simpa using hj))
 have hmk : mkRead i cs = .agg cs.toArray := by unfold mkRead; rw [hagg]; rfl
 rw [hmk] at hld
 refine wpList_plain g1 fun K1 hK1 => Oper.wp_value (v := .agg cs.toArray) (w' := W) ?_ (hK1 _ _ ?_)
 ·have he : a.eval (.tmp x) = .pointer (some ⟨bx, 0, none⟩) := hx
  simp [execOp, h1, he, Instr.loadAt, Instr.sureAddr, hld]
 rw [e1]
 have hz0 := hi.size
 have hst : (Instr.storeAt t (.pointer (some ⟨bY, 0, none⟩)) (.agg cs.toArray)).run P W = .ok () (W.setCells bY 0 cs) := by
  cases hq : P.info? t with
  | none => rw [hq] at hz0; simp at hz0
  | some ti =>
   rw [hq] at hz0
   simp at hz0
   have := run_storeCells_cells (P := P) bY 0 cs 0 W (fun j hj => by
     obtain ⟨q, hq⟩ : ∃ q, old[0 + j]? = some q := ⟨_, List.getElem?_eq_getElem (by omega)⟩
     rw [Nat.add_zero, Cls.cell (b := bY) hcy (by simpa using hq)]; rfl)
    (fun j _ => Cls.frozen (b := bY) hcy _) hone
   rw [Nat.add_zero] at this
   simp only [Instr.storeAt, Instr.sureAddr, storeVar, sizeOf, typeInfo, Sem.run_bind, Sem.run_pure, Result.andThen_ok]
   simp [hq, hz0, ← hl, Value.cells, this]
 obtain ⟨k1, k2, k3, -⟩ := setCells_all (K := K) cs 0 W old hcy hz hoo hok
 have hset : setL old 0 cs = cs := by
  rw [setL_eq cs old 0 (by omega), List.take_zero, List.drop_of_length_le (by omega), List.append_nil, List.nil_append]
 rw [hset] at k2
 obtain ⟨s1, s2, s3, s4⟩ := setCells_same (b := bY) cs 0 W
 have hbut : But [bY, D] W (W.setCells bY 0 cs) := ⟨s1, s2, s3, s4, fun g _ hn => setCells_block cs 0 W g (fun e => hn (by simp [e]))⟩
 have hne : D ≠ bY := fun e => by
  have := hD.symm.trans (e ▸ hcy)
  cases this
 have hD2 : (W.setCells bY 0 cs).heap[D]? = some (.deferred (some [])) := (setCells_block cs 0 W D hne).trans hD
 generalize W.setCells bY 0 cs = W2 at *
 refine wpList_plain g2 fun K1 hK1 => Oper.wp_skip (w' := W2) ?_ (hK1 _ _ ?_)
 ·have he : (a.put (some d) (.agg cs.toArray)).eval (.tmp y) = .pointer (some ⟨bY, 0, none⟩) := by
   simpa [Act.put, Act.eval, Array.getD_eq_getD_getElem?, Array.getElem?_setIfInBounds, n1] using hy
  have hv : (a.put (some d) (.agg cs.toArray)).eval (.tmp d) = .agg cs.toArray := by
   simp [Act.put, Act.eval, hdx]
  simp only [execOp, h2, he, hv, Sem.run_bind, hst, Result.andThen_ok, Sem.run_pure]
 rw [e2]
 refine wpList_plain g3 fun K1 hK1 => Oper.wp_value (v := kv) (w' := W2) ?_ (hK1 _ _ ?_)
 ·simp only [execOp, h3, Sem.run_pure]; rfl
 rw [e3]
 show Code.ret.wp P _ _ W2
 refine wp_ret ?_
 obtain ⟨a1, ha1⟩ : ∃ a1, a1 = ((a.put (some d) (.agg cs.toArray)).put none undef).put (some z) kv := ⟨_, rfl⟩
 have ht : a1.tmps = (a.tmps.setIfInBounds d (.agg cs.toArray)).setIfInBounds z kv := by rw [ha1]; rfl
 have hdf : a1.defers = a.defers := by rw [ha1]; rfl
 rw [← ha1]
 show LeavesInM Fence.wide 0 P fn a1.tmps R a1.defers .returning W2
 rw [hdf, hds]
 refine ⟨by simp, .inl ⟨D, W2.putObj D (.deferred none), rfl, run_takeDeferred hD2, ?_⟩⟩
 have k4 : Cls (W2.putObj D (.deferred none)) bY t cs.toArray := Cls.putG k2 hD2 (by intro _ _ _ e; cases e) _
 have k5 : KpS K W2 (W2.putObj D (.deferred none)) := KpS.putG hD2 (by intro _ _ _ e; cases e) (by intro _ _ e; cases e)
 have hgp := grownBy_putObj' W2 D (.deferred none)
 refine ⟨.tuple #[.agg cs.toArray, kv], ?_, hR _ (k1.thn k5) ⟨hgp.os.trans hbut.os, hgp.tape.trans hbut.tape, hgp.output.trans hbut.output, Nat.le_trans hbut.size hgp.size, fun g hg hn => ?_⟩⟩
 ·have hl2 := run_loadVar_any hi ⟨bY, 0, none⟩ cs hl (W2.putObj D (.deferred none)) (fun j u hj => by rw [Addr.add_mid, Nat.zero_add]; exact Cls.cell (b := bY) k4 (by simpa using hj))
  rw [hmk] at hl2
  have hyt : a1.tmps.getD y undef = .pointer (some ⟨bY, 0, none⟩) := by
   rw [ht]
   simpa [Array.getD_eq_getD_getElem?, Array.getElem?_setIfInBounds, n1, n2] using hy
  have hzt : a1.tmps.getD z undef = kv := by
   rw [ht]
   simp [hzx]
  unfold results
  rw [hfn]
  rw [Array.getD_eq_getD_getElem?] at hyt hzt
  simp [hyt, hzt, asAddr, hl2]
 ·refine (hgp.block g (Nat.lt_of_lt_of_le hg hbut.size) fun e => ?_).trans (hbut.blk g hg hn)
  cases e
  exact hn (by simp)
end Go.Proofs.YtofdiijioejljaaGreat
