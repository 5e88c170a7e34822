/- What the span layer's ranges over its iterator compute: since when; the row of all runs. -/
import Derived.Maps.AppendAt
import Derived.Test.YtfalckgdhhgfaaaSpanD
namespace Go.Proofs.Ytfalckgdhhgfaaa
open Go.RowKit Go.Shelf
attribute [local go_sem] Oper.semAt_some

theorem KpB.trans {n₀ Bo : Nat} {A B C : World} (h : KpB n₀ Bo A B) (k : KpB n₀ Bo B C) : KpB n₀ Bo A C := by
  refine ⟨h.1.trans k.1, Nat.le_trans h.2.1 k.2.1, fun j o hj ho hne hnr => ?_, fun v g hv hg => ?_⟩
  · have h1 := h.2.2.1 j o hj ho hne hnr
    refine k.2.2.1 j o h1 ho hne fun v hv hg => ?_
    rcases h.2.2.2 v j hv hg with ⟨v0, h2, h3⟩ | ⟨h2, _⟩
    · exact hnr v0 h2 h3
    · have := (Array.getElem?_eq_some_iff.1 hj).1; omega
  · rcases k.2.2.2 v g hv hg with ⟨v1, h2, h3⟩ | ⟨h2, h3⟩
    · rcases h.2.2.2 v1 g h2 h3 with h4 | ⟨h4, h5⟩
      · exact .inl h4
      · exact .inr ⟨h4, by have := k.2.1; omega⟩
    · exact .inr ⟨by have := h.2.1; omega, h3⟩
theorem KpB.put {n₀ Bo : Nat} {w : World} (hn : n₀ ≤ w.heap.size) (W : World) (l : Nat) (o o' : Obj) (hl : w.heap.size ≤ l) (h : W.heap[l]? = some o) (hc : o.isCells = false) (hw : o.isWalk = false) (hB : Bo < w.heap.size) : KpB n₀ Bo W (W.putObj l o') := by
  have hk := grownBy_putObj' W l o'
  refine ⟨belowK_b hn W l o o' hl h hc hw, hk.size, fun j oj hj hoj hne _ => ?_, fun v g hv hg => .inl ⟨v, ?_, hg⟩⟩
  · have hjl : j ≠ l := fun e => by subst e; rw [h] at hj; cases hj; rw [hoj] at hc; cases hc
    exact (hk.block j (Array.getElem?_eq_some_iff.1 hj).1 (fun e => hjl (by cases e; rfl))).trans hj
  · have : (W.putObj l o').cell? ⟨Bo, 0, none⟩ = W.cell? ⟨Bo, 0, none⟩ := (belowK_b (Nat.le_refl _) W l o o' hl h hc hw).cell (p := ⟨Bo, 0, none⟩) hB
    rw [← this]; exact hv

theorem KpB.of_below {n₀ Bo : Nat} {W W' : World} (h : Below W.heap.size W W') (hn : n₀ ≤ W.heap.size) (hB : Bo < W.heap.size) : KpB n₀ Bo W W' :=
  ⟨h.mono hn, h.size, fun k o hk _ _ _ => (h.block k (Array.getElem?_eq_some_iff.1 hk).1).trans hk, fun v g hv hg => .inl ⟨v, by rw [← h.cell (p := ⟨Bo, 0, none⟩) hB]; exact hv, hg⟩⟩
theorem box2_own {β : Type} (b : Nat) (f g : β → Int) (B : Nat) : OwnFrom B (fun s W => Box2 W b (f s) (g s)) := fun s W W' row hs hg hr => by
  have hne : some b ≠ row := fun e => by
    obtain ⟨_, o, ho, hc⟩ := hr b e.symm
    rw [show W.heap[b]? = _ from hs] at ho; cases ho; cases hc
  exact (hg.block b hs.lt hne).trans hs

/-- none of them holds the year -/
def NoIn (pre : List (Int × Int)) (y : Int) : Prop := ∀ t ∈ pre, ¬ (t.1 ≤ y ∧ y ≤ t.2)
theorem NoIn.snoc {pre : List (Int × Int)} {y : Int} {x : Int × Int} (h : NoIn pre y) (hx : ¬ (x.1 ≤ y ∧ y ≤ x.2)) : NoIn (pre ++ [x]) y := fun t ht =>
  (List.mem_append.1 ht).elim (h t) (fun h => by simp only [List.mem_singleton] at h; subst h; exact hx)
theorem since_last {f : Int → Bool} {n : Nat} {pre : List (Int × Int)} {x : Int × Int} {y : Int} (h : pre ++ [x] <+: spansFrom f n 0) (h0 : ∀ t ∈ pre, ¬ (t.1 ≤ y ∧ y ≤ t.2)) (h1 : x.1 ≤ y ∧ y ≤ x.2) : sinceL (spansFrom f n 0) y = x.1 := by
  obtain ⟨rest, hr⟩ := h
  rw [← hr]
  refine since_hit (k := pre.length) (by simp) ?_ h1
  intro t ht
  rw [List.append_assoc, List.take_append_of_le_length (Nat.le_refl _), List.take_length] at ht
  exact h0 t ht

set_option maxRecDepth 100000 in
set_option maxHeartbeats 4000000 in
theorem since_in (n : Nat) (hn : 6 ≤ n) (v : Value) (y e : Int) (M : List (List Bool)) (w : World) (hg : RdGrid w v M) :
    CallsIn Fence.wide n Try.prog 11 #[.agg #[v], .int .i64 y, .int .i64 e] w fun x w' => x = .returned (.int .i64 (sinceL (spansFrom (fun z => mem M z e) M.length 0) y)) ∧ Below w.heap.size w w' := by
  have h1 : 1 ≤ n := by omega
  refine callsIn_of_wp_marks Try.func11 rfl trivial ?_ rfl
  simp only [Try.ntmps11, List.size_toArray, List.length_cons, List.length_nil, Nat.reduceAdd, Nat.reduceSub, Array.replicate_succ, Array.replicate_zero, List.push_toArray, List.append_toArray, List.nil_append, List.cons_append]
  gi_wp2_with fail
  refine ⟨trivial, (callsIn_wide.2 (spans_any v e _)).mono ?_⟩
  rintro x w' ⟨rfl, rfl⟩
  simp only [World.size_alloc]
  gi_wp2_with fail
  have bY := (((Boxed.new (w.alloc (.cells #[v] 26)) 3 (.int .i64 y)).alloc (.cells #[.int .i64 0] 3)).alloc (.cells #[v] 26)).alloc (.cells #[.int .i64 e] 3)
  have bR := ((Boxed.new ((w.alloc (.cells #[v] 26)).alloc (.cells #[.int .i64 y] 3)) 3 (.int .i64 0)).alloc (.cells #[v] 26)).alloc (.cells #[.int .i64 e] 3)
  have b1 := (Boxed.new (((w.alloc (.cells #[v] 26)).alloc (.cells #[.int .i64 y] 3)).alloc (.cells #[.int .i64 0] 3)) 26 v).alloc (.cells #[.int .i64 e] 3)
  have b2 := Boxed.new ((((w.alloc (.cells #[v] 26)).alloc (.cells #[.int .i64 y] 3)).alloc (.cells #[.int .i64 0] 3)).alloc (.cells #[v] 26)) 3 (.int .i64 e)
  simp only [World.size_alloc] at bY bR b1 b2
  have hB0 := (((((Below.refl w.heap.size w).alloc (Nat.le_refl _) (.cells #[v] 26)).alloc (by simp) (.cells #[.int .i64 y] 3)).alloc (by simp; omega) (.cells #[.int .i64 0] 3)).alloc (by simp; omega) (.cells #[v] 26)).alloc (by simp; omega) (.cells #[.int .i64 e] 3)
  have hsz : (((((w.alloc (.cells #[v] 26)).alloc (.cells #[.int .i64 y] 3)).alloc (.cells #[.int .i64 0] 3)).alloc (.cells #[v] 26)).alloc (.cells #[.int .i64 e] 3)).heap.size = w.heap.size + 5 := by simp
  obtain ⟨W0, hW0⟩ : ∃ W0, ((((w.alloc (.cells #[v] 26)).alloc (.cells #[.int .i64 y] 3)).alloc (.cells #[.int .i64 0] 3)).alloc (.cells #[v] 26)).alloc (.cells #[.int .i64 e] 3) = W0 := ⟨_, rfl⟩
  rw [hW0] at bY bR b1 b2 hB0 hsz ⊢
  clear hW0
  have hro : RefOK (w.heap.size + 1) W0 := fun u g hu hgg => by rw [bY.cell] at hu; cases hu; cases hgg
  refine wpIn_rangeFunc_ownH rfl h1 (gf := 31) (lb := #[.pointer (some ⟨w.heap.size + 1 + 1 + 1, 0, none⟩), .pointer (some ⟨w.heap.size + 1 + 1 + 1 + 1, 0, none⟩)]) rfl trivial (enters_of Try.func31 (by kernel_rfl) rfl)
    (spans_stops (n - 1) (by omega) _ _ (w.heap.size + 1) v e M W0 W0 (hg.below hB0) b1.cell b2.cell (Below.refl _ _) hro (by omega)) KpB.trans (fun W l o o' a b c d => KpB.put (Nat.le_refl _) W l o o' a b c d (by omega)) (Below.refl _ _) (fun _ => rfl)
    (fun pre W => ((Boxed W (w.heap.size + 1) 3 (.int .i64 y) ∧ Boxed W (w.heap.size + 1 + 1) 3 (.int .i64 0)) ∧ NoIn pre y) ∧ Below W0.heap.size W0 W)
    (fun c pre W => ((c = .ret ∧ ∃ p0 x, pre = p0 ++ [x] ∧ NoIn p0 y ∧ x.1 ≤ y ∧ y ≤ x.2 ∧ Boxed W (w.heap.size + 1 + 1) 3 (.int .i64 x.1))) ∧ Below w.heap.size w W)
    (OwnFrom.and (OwnFrom.and (OwnFrom.and (Own.from (boxed_own _ _ _) _) (Own.from (boxed_own _ _ _) _)) (ownFrom_pure _ _)) (ownFrom_below (Nat.le_refl _) (Nat.le_refl _)))
    (fun c => OwnFrom.and (Own.from (fun s A B row hs hg hr => by
      obtain ⟨hc, p0, x, e1, e2, e3, e4, e5⟩ := hs
      exact ⟨hc, p0, x, e1, e2, e3, e4, boxed_own _ _ (fun (_ : Unit) => Value.int .i64 x.1) () A B row e5 hg hr⟩) _) (ownFrom_below (Nat.le_refl _) (by omega)))
    ⟨⟨⟨bY, bR⟩, fun t ht => by cases ht⟩, Below.refl _ _⟩
    (fun x a' W => ∃ Bx, W0.heap.size ≤ Bx ∧ Box2 W Bx x.1 x.2 ∧ a' = { tmps := #[.agg #[v], .int .i64 y, .int .i64 e, .pointer (some ⟨w.heap.size, 0, none⟩), .pointer (some ⟨w.heap.size + 1, 0, none⟩), undef, .pointer (some ⟨w.heap.size + 1 + 1, 0, none⟩), .pointer (some ⟨Bx, 0, none⟩), .agg #[v], .int .i64 e, .func (.func 31) #[] #[.pointer (some ⟨w.heap.size + 1 + 1 + 1, 0, none⟩), .pointer (some ⟨w.heap.size + 1 + 1 + 1 + 1, 0, none⟩)], .agg #[.int .i64 x.1, .int .i64 x.2], undef, undef, undef, undef, undef, undef, undef, undef, undef, undef, undef, undef], defers := [] })
    (fun x a' _ X Y row hs hg hr => by obtain ⟨Bx, h1, h2, h3⟩ := hs; exact ⟨Bx, h1, box2_own Bx (fun (_ : Unit) => x.1) (fun _ => x.2) _ () X Y row h2 hg hr, h3⟩)
    ?assign ?body ?done ?stop
  case assign =>
    rintro l pre x W K ⟨⟨⟨bY1, bR1⟩, hno⟩, hB1⟩ hK
    simp only [spanEnc]
    gi_wp2_with fail
    have hsW := bY1.lt
    exact hK _ _ ((KeepsOthers.alloc _ _).from _) (KpB.of_below ((Below.refl _ _).alloc (Nat.le_refl _) _) hB1.size hsW) ⟨⟨⟨bY1.alloc _, bR1.alloc _⟩, hno⟩, hB1.alloc hB1.size _⟩ ⟨W.heap.size, hB1.size, Box2.new _ _ _, rfl⟩
  case body =>
    rintro l pre x a' W hl hrec ⟨⟨⟨bY1, bR1⟩, hno⟩, hB1⟩ ⟨Bx, hBx, bX, rfl⟩ hlt
    have k0 := bX.cell0
    have k1 := bX.cell1
    have k3 := bX.lt
    have cY := bY1.cell
    have lY := bY1.lt
    have cR := bR1.cell
    have fR := bR1.frozen
    have lR := bR1.lt
    by_cases hx1 : x.1 ≤ y
    · by_cases hx2 : y ≤ x.2
      · gi_wp2_with fail
        exact ⟨(KeepsOthers.setCell _ _ _).from _, ⟨rfl, pre, x, rfl, hno, hx1, hx2, bR1.set _⟩, (hB0.trans (hB1.mono (by omega))).setCell (p := ⟨w.heap.size + 1 + 1, 0, none⟩) (by simp; omega) _⟩
      · gi_wp2_with fail
        exact ⟨KeepsFrom.refl _ _, KpB.of_below (Below.refl _ _) (by omega) lY, ⟨⟨bY1, bR1⟩, hno.snoc (fun h => by omega)⟩, hB1.mono (by omega)⟩
    · gi_wp2_with fail
      exact ⟨KeepsFrom.refl _ _, KpB.of_below (Below.refl _ _) (by omega) lY, ⟨⟨bY1, bR1⟩, hno.snoc (fun h => by omega)⟩, hB1.mono (by omega)⟩
  case done =>
    rintro D ys W hD rfl ⟨⟨⟨bY1, bR1⟩, hno⟩, hB1⟩ hK
    have cR := bR1.cell
    have fR := bR1.frozen
    have lR := bR1.lt
    gi_wp2_with fail
    have hK' := (KeepsOthers.setCell W ⟨w.heap.size + 1 + 1, 0, none⟩ (.int .i64 (-1))).same D _ hK rfl
    refine ⟨by simp, .inl ⟨_, _, rfl, run_takeDeferred hK', ?_⟩⟩
    have hc5 := cell_kept (bR1.set (.int .i64 (-1))).cell (grownBy_putObj' _ D (.deferred none)) (fun r e => by cases e; exact ⟨_, hK', rfl⟩)
    refine ⟨.int .i64 (-1), ?_, by rw [since_none hno], ((hB0.trans (hB1.mono (by omega))).setCell (p := ⟨w.heap.size + 1 + 1, 0, none⟩) (by simp; omega) _).trans (belowK_b (w := w) (Nat.le_refl _) _ D _ _ (by omega) hK' rfl rfl)⟩
    simp [results, Try.f11, go_sem, hc5]
  case stop =>
    rintro D c pre W hD hpre ⟨⟨rfl, p0, x, rfl, hno, hx1, hx2, bR1⟩, hB1⟩ hK
    gi_wp2_with fail
    refine ⟨by simp, .inl ⟨_, _, rfl, run_takeDeferred hK, ?_⟩⟩
    have hc5 := cell_kept bR1.cell (grownBy_putObj' _ D (.deferred none)) (fun r e => by cases e; exact ⟨_, hK, rfl⟩)
    refine ⟨.int .i64 x.1, ?_, by rw [since_last hpre hno ⟨hx1, hx2⟩], hB1.trans (belowK_b (w := w) (Nat.le_refl _) W D _ _ (by omega) hK rfl rfl)⟩
    simp [results, Try.f11, go_sem, hc5]

theorem since_any (v : Value) (y e : Int) (M : List (List Bool)) (w : World) (hg : RdGrid w v M) :
    Calls Try.prog 11 #[.agg #[v], .int .i64 y, .int .i64 e] w fun x w' => x = .returned (.int .i64 (sinceL (spansFrom (fun z => mem M z e) M.length 0) y)) ∧ Below w.heap.size w w' :=
  callsIn_wide.1 (since_in 6 (by omega) v y e M w hg)

theorem wpListIn_append_own_at {F : Fence} {n : Nat} {P : Program} (w : World) {ops : Array Oper} {rest : List Oper} {o : Oper} {a : Act} {Q : Exit → Act → World → Prop}
    (hg : o.guard = none) (s x : Operand) (t : TypeId) (hop : o.op = Op.call { callee := Callee.builtin Builtin.append, args := #[s, x], argTypes := #[t, t] })
    (base : Nat) (e : TypeId) (i : TypeInfo) (z : Value) (size bytes : Nat) (h1 : P.underlying t = some (.slice e)) (h2 : P.info? e = some i) (h3 : i.zero = some z) (h4 : i.size = size) (h5 : i.bytes = bytes) (h6 : z.cells.size = size) (h7 : 0 < size)
    (v : Value) (k : Nat) (xs : List Value) (hs : a.eval s = v) (hown : w.ownsRow base e size v k xs) (ad : Addr) (m c : Nat) (news : List Value) (hx : a.eval x = .slice (some ad) m c) (hn : news.length = m * size)
    (hc : ∀ j u, news[j]? = some u → w.cell? (ad.add j) = some u) (h1c : ∀ u ∈ news, u.oneCell' = true) (b1 : k + m ≤ maxLen) (b2 : (k + m) * bytes ≤ 140737488355328) (b3 : base ≤ w.heap.size)
    (hK : ∀ v' w', w'.ownsRow base e size v' (k + m) (xs ++ news) → w.grownBy w' v.ownBlock → (v'.ownBlock = v.ownBlock ∨ v'.ownBlock = some w.heap.size) → wpListIn F n P ops Q rest (a.put o.dst v') w') :
    wpListIn F n P ops Q (o :: rest) a w := by
  refine wpListIn_plain hg fun K hK' => ?_
  obtain ⟨v', w', hrun, r1, r2, _, r3⟩ := run_append_own_at (P := P) w base t o.type e i z size bytes h1 h2 h3 h4 h5 h6 h7 v k xs hown ad m c news hn hc h1c b1 b2 b3
  unfold Oper.wpIn
  refine ⟨?_, ?_⟩
  · simp [Oper.about, hop, resolve, Target.leads, Sem.run_pure]
  · rw [Oper.semAt_plain F _ _ (by rw [hop]; intro c hc'; cases hc')]
    simp [execOp, hop, resolve, invoke, builtin, hs, hx, hrun, Result.andThen]
    exact hK' _ _ (hK v' w' r1 r2 r3)

theorem spans_len (f : Int → Bool) (n : Nat) : (spansFrom f n 0).length ≤ n := by
  unfold spansFrom
  rw [List.length_map]
  refine Nat.le_trans (List.length_filter_le _ _) ?_
  rw [List.length_range']; omega
theorem two_new (W : World) (x y : Int) (t : TypeId) : ∀ (j : Nat) (u : Value), [Value.int .i64 x, Value.int .i64 y][j]? = some u → (W.alloc (.cells #[.int .i64 x, .int .i64 y] t)).cell? ((⟨W.heap.size, 0, none⟩ : Addr).add j) = some u := by
  intro j u hj
  rw [show (⟨W.heap.size, 0, none⟩ : Addr).add j = ⟨W.heap.size, j, none⟩ by unfold Addr.add; split <;> simp_all, World.cell?_alloc_new]
  simpa using hj
theorem infoSpan : (Try.prog.info? 31).map (fun i => (i.zero, i.size, i.bytes)) = some (some (.agg #[.int .i64 0, .int .i64 0]), 2, 16) := by kernel_rfl

/-- what a round that appends keeps -/
theorem KpB.appended {n₀ B0 Bo k m : Nat} {W w1 : World} {t e : TypeId} {size : Nat} {v v' : Value} {xs ys : List Value} {tmp : Obj} (hn : n₀ ≤ W.heap.size) (hnB : n₀ ≤ Bo) (h0 : n₀ ≤ B0)
    (hv : Boxed W Bo t v) (hrow : W.ownsRow B0 e size v k xs) (hB1 : Boxed (w1.setCell ⟨Bo, 0, none⟩ v') Bo t v') (hgrow : (W.alloc tmp).grownBy w1 v.ownBlock)
    (hown' : w1.ownsRow B0 e size v' m ys) (hat : v'.ownBlock = v.ownBlock ∨ v'.ownBlock = some (W.alloc tmp).heap.size) : KpB n₀ Bo W (w1.setCell ⟨Bo, 0, none⟩ v') := by
  have hs1 : W.heap.size + 1 ≤ w1.heap.size := by have := hgrow.size; rwa [World.size_alloc] at this
  have hset := grownBy_setCell' w1 Bo v'
  refine ⟨?_, ?_, fun j o hj ho hne hnr => ?_, fun u g hu hg => ?_⟩
  · refine (((Below.refl n₀ W).alloc hn tmp).grown hgrow (by simp; omega) fun j ej => ?_).setCell (p := ⟨Bo, 0, none⟩) hnB v'
    have := (hrow.lt j ej).1; omega
  · have := hset.size; omega
  · have hjl := (Array.getElem?_eq_some_iff.1 hj).1
    have e1 : (W.alloc tmp).heap[j]? = W.heap[j]? := Below.heap_alloc W tmp j hjl
    have e2 : w1.heap[j]? = (W.alloc tmp).heap[j]? := hgrow.block j (by rw [World.size_alloc]; omega) (fun h => hnr v hv.cell h.symm)
    have e3 := hset.block j (by omega) (fun h => hne (by cases h; rfl))
    exact ((e3.trans e2).trans e1).trans hj
  · rw [hB1.cell] at hu
    cases hu
    rcases hat with h | h
    · exact .inl ⟨v, hv.cell, by rw [← h]; exact hg⟩
    · rw [h, World.size_alloc] at hg
      simp only [Option.some.injEq] at hg
      subst hg
      have h2 := (hown'.lt _ (by rw [h, World.size_alloc])).2
      exact .inr ⟨by omega, by have := hset.size; omega⟩

set_option maxRecDepth 100000 in
set_option maxHeartbeats 4000000 in
theorem appendSeq_in (n : Nat) (hn : 6 ≤ n) (B1 B2 : Nat) (v : Value) (e : Int) (M : List (List Bool)) (w0 w : World) (hg : RdGrid w0 v M) (hM : M.length ≤ 1000) (h1 : w0.cell? ⟨B1, 0, none⟩ = some v) (h2 : w0.cell? ⟨B2, 0, none⟩ = some (.int .i64 e)) (hw : Below w0.heap.size w0 w) :
    CallsIn Fence.wide n Try.prog 30 #[.slice none 0 0, .func (.func 31) #[] #[.pointer (some ⟨B1, 0, none⟩), .pointer (some ⟨B2, 0, none⟩)]] w fun x w' => (∃ v', x = .returned v' ∧ w'.ownsRow w.heap.size 31 2 v' (spansFrom (fun z => mem M z e) M.length 0).length (spanCells (spansFrom (fun z => mem M z e) M.length 0))) ∧ Below w.heap.size w w' := by
  have hn1 : 1 ≤ n := by omega
  obtain ⟨i0, hi, hz0, hz1, hz2⟩ := info_parts infoSpan
  refine callsIn_of_wp_marks Try.func30 rfl trivial ?_ rfl
  simp only [Try.ntmps30, List.size_toArray, List.length_cons, List.length_nil, Nat.reduceAdd, Nat.reduceSub, Array.replicate_succ, Array.replicate_zero, List.push_toArray, List.append_toArray, List.nil_append, List.cons_append]
  gi_wp2_with fail
  have bO := Boxed.new w 27 (.slice none 0 0)
  have hB0 := (Below.refl w.heap.size w).alloc (Nat.le_refl _) (.cells #[.slice none 0 0] 27)
  have hsz : (w.alloc (.cells #[.slice none 0 0] 27)).heap.size = w.heap.size + 1 := by simp
  obtain ⟨W0, hW0⟩ : ∃ W0, w.alloc (.cells #[.slice none 0 0] 27) = W0 := ⟨_, rfl⟩
  rw [hW0] at bO hB0 hsz ⊢
  clear hW0
  have hro : RefOK w.heap.size W0 := fun u g hu hgg => by rw [bO.cell] at hu; cases hu; cases hgg
  have hsw := hw.size
  refine wpIn_rangeFunc_ownH rfl hn1 (gf := 31) (lb := #[.pointer (some ⟨B1, 0, none⟩), .pointer (some ⟨B2, 0, none⟩)]) rfl trivial (enters_of Try.func31 (by kernel_rfl) rfl)
    (spans_stops (n - 1) (by omega) _ _ w.heap.size v e M w0 W0 hg h1 h2 (Below.thn hw hB0) hro (by omega)) KpB.trans (fun W l o o' a b c d => KpB.put (by omega) W l o o' a b c d (by omega)) (Below.refl _ _) (fun _ => rfl)
    (fun pre W => (∃ v', Boxed W w.heap.size 27 v' ∧ W.ownsRow w.heap.size 31 2 v' pre.length (spanCells pre) ∧ True) ∧ Below w.heap.size w W)
    (fun _ _ _ => False)
    (OwnFrom.and (Own.from (holdsRow_own w.heap.size w.heap.size _ _ 2 (fun pre : List (Int × Int) => pre.length) (fun pre => spanCells pre) (fun _ _ => True)) _) (ownFrom_below (Nat.le_refl _) (by omega)))
    (fun _ _ _ _ _ hs _ _ => hs)
    ⟨⟨_, bO, World.ownsRow_nil _ _ _ _, trivial⟩, hB0⟩
    (fun x a' W => ∃ Bx, W0.heap.size ≤ Bx ∧ Box2 W Bx x.1 x.2 ∧ a' = { tmps := #[.slice none 0 0, .func (.func 31) #[] #[.pointer (some ⟨B1, 0, none⟩), .pointer (some ⟨B2, 0, none⟩)], .pointer (some ⟨w.heap.size, 0, none⟩), undef, .slice none 0 0, .pointer (some ⟨Bx, 0, none⟩), .func (.func 31) #[] #[.pointer (some ⟨B1, 0, none⟩), .pointer (some ⟨B2, 0, none⟩)], .agg #[.int .i64 x.1, .int .i64 x.2], undef, undef, undef, undef, undef], defers := [] })
    (fun x a' _ X Y row hs hg hr => by obtain ⟨Bx, h1, h2, h3⟩ := hs; exact ⟨Bx, h1, box2_own Bx (fun (_ : Unit) => x.1) (fun _ => x.2) _ () X Y row h2 hg hr, h3⟩)
    ?assign ?body ?done ?stop
  case assign =>
    rintro l pre x W K ⟨⟨v', bV, hrow, _⟩, hB1⟩ hK
    simp only [spanEnc]
    gi_wp2_with fail
    have hsW := bV.lt
    exact hK _ _ ((KeepsOthers.alloc _ _).from _) (KpB.of_below ((Below.refl _ _).alloc (Nat.le_refl _) _) (by omega) hsW) ⟨⟨v', bV.alloc _, hrow.alloc _, trivial⟩, hB1.alloc (by omega) _⟩ ⟨W.heap.size, by omega, Box2.new _ _ _, rfl⟩
  case body =>
    rintro l pre x a' W hl hrec ⟨⟨v', bV, hrow, _⟩, hB1⟩ ⟨Bx, hBx, bX, rfl⟩ hlt
    have k0 := bX.cell0
    have k1 := bX.cell1
    have k3 := bX.lt
    have cV := bV.cell
    have lV := bV.lt
    have hpl : pre.length ≤ 1000 := by have := spans_len (fun z => mem M z e) M.length; omega
    gi_wp2_with (gi_at_builtin; refine wpListIn_append_own_at _ rfl _ _ 27 rfl w.heap.size 31 i0 _ 2 16 Try.underlying27 hi hz0 hz1 hz2 rfl (by decide) _ _ _ rfl (hrow.alloc _) ⟨W.heap.size, 0, none⟩ 1 1 [.int .i64 x.1, .int .i64 x.2] rfl rfl (two_new _ _ _ _) (by simp [Value.oneCell']) (by unfold maxLen; omega) (by omega) (by have := hB1.size; simp; omega) ?_; intro v1 w1 hown' hgrow hat; obtain ⟨g', cap', rfl⟩ := ownsRow_succ hown'; obtain ⟨hv1, hv2, hr2, hk2, hb2⟩ := bV.appended (by decide) hrow hB1.size (Nat.le_refl _) hown' hgrow; have hc1 := hv1.cell; have hf1 := hv1.frozen)
    exact ⟨hk2.from _, KpB.appended (by omega) (by omega) (by omega) bV hrow hv2 hgrow hown' hat, ⟨⟨_, hv2, by rw [List.length_append, spanCells_snoc]; exact hr2, trivial⟩, hB1.trans hb2⟩⟩
  case done =>
    rintro D ys W hD rfl ⟨⟨v', bV, hrow, _⟩, hB1⟩ hK
    have cV := bV.cell
    have lV := bV.lt
    gi_wp2_with fail
    refine ⟨by simp, .inl ⟨_, _, rfl, run_takeDeferred hK, ?_⟩⟩
    exact ⟨_, results_tmp rfl _ _ _, ⟨_, rfl, ownsRow_putObj hrow _ hK rfl⟩, hB1.trans (belowK_b (w := w) (Nat.le_refl _) W D _ _ (by omega) hK rfl rfl)⟩
  case stop =>
    rintro D c pre W _ _ h _
    exact h.elim

theorem collect_any (B1 B2 : Nat) (v : Value) (e : Int) (M : List (List Bool)) (w0 w : World) (hg : RdGrid w0 v M) (hM : M.length ≤ 1000) (h1 : w0.cell? ⟨B1, 0, none⟩ = some v) (h2 : w0.cell? ⟨B2, 0, none⟩ = some (.int .i64 e)) (hw : Below w0.heap.size w0 w) :
    Calls Try.prog 17 #[.func (.func 31) #[] #[.pointer (some ⟨B1, 0, none⟩), .pointer (some ⟨B2, 0, none⟩)]] w fun x w' => (∃ v', x = .returned v' ∧ w'.ownsRow w.heap.size 31 2 v' (spansFrom (fun z => mem M z e) M.length 0).length (spanCells (spansFrom (fun z => mem M z e) M.length 0))) ∧ Below w.heap.size w w' := by
  refine walk_q fun R' hR' => ?_
  go_enter Try.func17, Try.ntmps17
  go_wp2_with fail
  refine (callsIn_wide.1 (appendSeq_in 6 (by omega) B1 B2 v e M w0 w hg hM h1 h2 hw)).mono ?_
  rintro x w1 ⟨⟨v', rfl, hown⟩, hb⟩
  go_wp2_with fail
  exact hR'.out _ _ ⟨⟨v', rfl, hown⟩, hb⟩

theorem spansRow_any (v : Value) (e : Int) (M : List (List Bool)) (w : World) (hg : RdGrid w v M) (hM : M.length ≤ 1000) :
    Calls Try.prog 7 #[.agg #[v], .int .i64 e] w fun x w' => (∃ v', x = .returned v' ∧ w'.ownsRow w.heap.size 31 2 v' (spansFrom (fun z => mem M z e) M.length 0).length (spanCells (spansFrom (fun z => mem M z e) M.length 0))) ∧ Below w.heap.size w w' := by
  refine walk_q fun R' hR' => ?_
  go_enter Try.func7, Try.ntmps7
  go_wp2_with fail
  refine (spans_any v e _).mono ?_
  rintro x w1 ⟨rfl, rfl⟩
  have b1 := (Boxed.new (w.alloc (.cells #[v] 26)) 26 v).alloc (.cells #[.int .i64 e] 3)
  have b2 := Boxed.new ((w.alloc (.cells #[v] 26)).alloc (.cells #[v] 26)) 3 (.int .i64 e)
  have hB0 := (((Below.refl w.heap.size w).alloc (Nat.le_refl _) (.cells #[v] 26)).alloc (by simp) (.cells #[v] 26)).alloc (by simp; omega) (.cells #[.int .i64 e] 3)
  simp only [World.size_alloc] at b1 b2 ⊢
  obtain ⟨W0, hW0⟩ : ∃ W0, ((w.alloc (.cells #[v] 26)).alloc (.cells #[v] 26)).alloc (.cells #[.int .i64 e] 3) = W0 := ⟨_, rfl⟩
  rw [hW0] at b1 b2 hB0 ⊢
  clear hW0
  go_wp2_with fail
  refine (collect_any _ _ v e M W0 W0 (hg.below hB0) hM b1.cell b2.cell (Below.refl _ _)).mono ?_
  rintro x w1 ⟨⟨v', rfl, hown⟩, hb⟩
  go_wp2_with fail
  exact hR'.out _ _ ⟨⟨v', rfl, Own.mono hown hB0.size⟩, Below.thn hB0 hb⟩

end Go.Proofs.Ytfalckgdhhgfaaa
