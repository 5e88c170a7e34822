/- What slices.Repeat computes of a row of one element; the library's Mul, of one and a small number. -/
import Derived.Test.YtkafabgcdlfhiaaWrite
import Derived.Lib.VarintBits
set_option linter.all false
namespace Go.Proofs.Ytkafabgcdlfhiaa
open Go.RowKit

theorem u64_low (y : Nat) (h : y < 4294967296) : bits .and .u64 (y : Int) 4294967295 = y := by
  rw [show (4294967295 : Int) = 2 ^ 32 - 1 from rfl, bits_mask .u64 64 (by decide) wraps_u64 32 (by decide) y (by omega) (by omega)]
  omega
theorem u64_or0 (x : Int) (h0 : 0 ≤ x) (h1 : x < 18446744073709551616) : bits .or .u64 0 x = x := by
  rw [u64_orv0 0 x (by omega) (by omega) h0 (by omega) h1]; omega
set_option maxHeartbeats 1000000 in
theorem mul64_any (y : Nat) (w : World) (hy : y ≤ 1000) :
    Calls Try.prog 77 #[.int .u64 1, .int .u64 (y : Int)] w fun e w' => e = .returned (.tuple #[.int .u64 0, .int .u64 (y : Int)]) ∧ w' = w := by
  refine walk_q fun R' hR' => ?_
  have e1 : bits .and .u64 1 4294967295 = 1 := u64_low 1 (by omega)
  have e2 := u64_low y (by omega)
  have e3 : (y : Int) / 4294967296 = 0 := by omega
  have e4 : IntKind.u64.wrap (y : Int) = y := IntWalk.u64_in _ (by omega)
  have e5 : IntKind.u64.wrap 0 = 0 := by decide
  have e6 : bits .and .u64 0 4294967295 = 0 := u64_low 0 (by omega)
  go_enter Try.func77, Try.ntmps77
  go_wp2
  refine hR'.out _ _ ⟨?_, rfl⟩
  simp [e1, e2, e3, e4, e5, e6]
theorem mul_any (y : Nat) (w : World) (hy : y ≤ 1000) :
    Calls Try.prog 66 #[.int .u64 1, .int .u64 (y : Int)] w fun e w' => e = .returned (.tuple #[.int .u64 0, .int .u64 (y : Int)]) ∧ Beh w w' := by
  refine walk_q fun R' hR' => ?_
  go_enter Try.func66, Try.ntmps66
  go_wp2_with fail
  refine (mul64_any y w hy).mono ?_
  rintro e w1 ⟨rfl, rfl⟩
  go_wp2
  exact hR'.out _ _ ⟨rfl, Beh.refl _⟩

/-! copy onto an own row -/
section
variable {P : Program}
theorem run_copy_any (w : World) (dT sT ty elem : TypeId) (b o dLen dCap : Nat) (a : Addr) (sLen sCap sz k : Nat) (cs : List Value)
    (hu : P.underlying dT = some (.slice elem)) (hs : (P.info? elem).map (·.size) = some sz) (hk : Nat.min sLen dLen = k) (hn : cs.length = k * sz)
    (hsrc : ∀ j v, cs[j]? = some v → w.cell? (a.add j) = some v) (hc : ∀ j, j < cs.length → (w.cell? ⟨b, o + j, none⟩).isSome = true) (hf : ∀ j, j < cs.length → w.frozen? ⟨b, o + j, none⟩ = false) (h1 : ∀ v ∈ cs, v.oneCell' = true) :
    (Builtin.copy_ #[dT, sT] ty #[.slice (some ⟨b, o, none⟩) dLen dCap, .slice (some a) sLen sCap]).run P w = .ok (goInt k) (w.setCells b o cs) := by
  have hl := run_loadCells_list (P := P) w a cs hsrc
  have hst := run_storeCells_cells (P := P) b o cs 0 w (by simpa using hc) (by simpa using hf) h1
  cases hq : P.info? elem with
  | none => simp [hq] at hs
  | some i =>
    have hi : i.size = sz := by simpa [hq] using hs
    rw [hn] at hl
    simp [Builtin.copy_, run_underlying hu, Builtin.lenOf, Builtin.firstCells, sizeOf, typeInfo, hq, hi, hk, hl, hst]
end
section
variable {C : Cx} {F : Fr} {H : Hp} {w : World} {m : Option (List FuncId)} {full : Array Oper} {K : Fr → Hp → World → Prop} {o : Oper} {r : List Oper}
/-- copy onto an own row: of k elements, whose cells are told -/
theorem VO.copy (hC : C.Ok) {t e : TypeId} {it ie : TI} {sz d off n c k : Nat} {x y : Operand} {src : AV} {pre old post news : List AV}
    (e0 : stepOf C full F H o = .call (.op o [.row d off n c, src])) (ho : o.op = .call { callee := .builtin .copy, args := #[x, y], argTypes := #[t, t] })
    (hit : C.ti t = some it) (hel : it.elem = some (e, sz)) (hie : C.ti e = some ie) (hl : 1 ≤ lvl C.SU m o)
    (hH : H d = some (e, pre ++ (old ++ post))) (hoff : pre.length = off) (hold : old.length = k * sz) (hnews : news.length = k * sz) (hok : news.all okLeaf = true) (hlid : lidsOf (pre ++ (news ++ post)) = []) (hkl : k ≤ n)
    (hsrc : ∀ w1 β, KpS C.K w w1 → C.Old w1 → OwnAt C β H (idsOf [.row d off n c, src]) w1 → ∃ p mm cc, src.conc β = .slice (some p) mm cc ∧ Nat.min mm n = k ∧ ∀ j u, (news.map (AV.leaf β))[j]? = some u → w1.cell? (p.add j) = some u)
    (hK : ∀ w2, KpS C.K w w2 → C.Old w2 → vcOps C m full r K (F.puto o.dst (.val (.int .i64 (k : Int)))) (H.put d (e, pre ++ (news ++ post))) w2) : vcOps C m full (o :: r) K F H w := by
  show one C m full o (vcOps C m full r K) F H w
  unfold one
  rw [e0]
  intro w1 β h1 h2 h3
  obtain ⟨hu, hsz⟩ := (hC t it hit).isSlice e sz hel
  have hiE := hC e ie hie
  have hs1 : (C.P.info? e).map (·.size) = some sz := by
    cases hti : C.P.info? e with
    | none => have := hiE.size; rw [hti] at this; simp at this
    | some ti =>
      have := hsz w1
      simp [sizeOf, typeInfo, hti] at this
      simp [this]
  obtain ⟨p, mm, cc, hsc, hmin, hcells⟩ := hsrc w1 β h1 h2 h3
  have hR : Reach H (idsOf [.row d off n c, src]) d := .base (List.mem_append_left _ (List.mem_singleton.2 rfl))
  obtain ⟨g1, g2, g3, g4⟩ := h3.own d hR e _ hH
  have hone : ∀ u ∈ news.map (AV.leaf β), u.oneCell' = true := fun u hu => okCell_one (List.all_eq_true.1 (okLeafs (β := β) hok) u hu)
  have hlen : ((pre ++ (old ++ post)).map (AV.leaf β)).length = off + k * sz + post.length := by simp only [List.length_map, List.length_append, hoff, hold]; omega
  have hrun := run_copy_any (P := C.P) w1 t t o.type e (β d) off n c p mm cc sz k (news.map (AV.leaf β)) hu hs1 hmin (by rw [List.length_map, hnews]) hcells
    (fun j hj => by
      rw [List.length_map, hnews] at hj
      obtain ⟨z, hz⟩ : ∃ z, ((pre ++ (old ++ post)).map (AV.leaf β))[off + j]? = some z := ⟨_, List.getElem?_eq_getElem (by rw [hlen]; omega)⟩
      rw [g3.cell (u := z) (by simpa using hz)]; rfl)
    (fun j _ => g3.frozen _) hone
  obtain ⟨k1, k2, k3, k4⟩ := setCells_all (K := C.K) (news.map (AV.leaf β)) off w1 ((pre ++ (old ++ post)).map (AV.leaf β)) g3 g2 (okLeafs g4) (okLeafs hok)
  obtain ⟨s1, s2, s3, _⟩ := setCells_same (b := β d) (news.map (AV.leaf β)) off w1
  have hall : (pre ++ (news ++ post)).all okLeaf = true := by
    simp only [List.all_append, Bool.and_eq_true] at g4 ⊢
    exact ⟨g4.1, hok, g4.2.2⟩
  refine ⟨.int .i64 (k : Int), w1.setCells (β d) off (news.map (AV.leaf β)), fun ρ hρ => .inl ?_, β, .val (.int .i64 (k : Int)), none, [(d, (e, pre ++ (news ++ post)))], rfl, fun i hi => (by cases hi), .inl (by omega), .inr rfl, ?_, fun a1 a2 a3 ρ hρ => hK _ a1 a3⟩
  · rw [ho] at hρ
    simp [Op.operands, Call.operands] at hρ
    obtain ⟨q1, q2⟩ := hρ
    have q1' : ρ x = .slice (some ⟨β d, off, none⟩) n c := q1
    have q2' : ρ y = .slice (some p) mm cc := q2.trans hsc
    unfold execOp
    simp only [ho, resolve, invoke, builtin, Sem.run_bind, Sem.run_pure, Result.andThen_ok, List.map_toArray, List.map_cons, List.map_nil, q1', q2', hrun]
    rfl
  · refine ⟨s1, s2, s3, k1.size, fun q hq hx _ _ => setCells_block _ _ _ q (hx _ (List.mem_singleton.2 rfl)), fun _ _ => rfl, fun i hi => (by cases hi), fun i hi => (by cases hi), fun x hx => ?_, fun x hx => ?_, by simp, fun x hx y hy _ => ?_, fun x hx j hj => ?_⟩
    · cases List.mem_singleton.1 hx
      refine ⟨g1, g2, ?_, hall⟩
      rw [setL_eq _ _ _ (by rw [hlen, List.length_map, hnews]; omega)] at k2
      have : ((pre ++ (old ++ post)).map (AV.leaf β)).take off ++ (news.map (AV.leaf β) ++ ((pre ++ (old ++ post)).map (AV.leaf β)).drop (off + (news.map (AV.leaf β)).length)) = (pre ++ (news ++ post)).map (AV.leaf β) := by
        rw [List.length_map, hnews, ← hold, ← hoff, ← List.map_take, ← List.map_drop, List.take_left', List.map_append, List.map_append, ← List.append_assoc pre old post, List.drop_left']
        · rw [List.length_append]
        · rfl
      rw [this] at k2
      exact k2
    · cases List.mem_singleton.1 hx
      exact .inl ⟨by rw [hH]; simp, by simp, hR, rfl⟩
    · cases List.mem_singleton.1 hx; cases List.mem_singleton.1 hy; rfl
    · cases List.mem_singleton.1 hx
      rw [hlid] at hj; cases hj
end

def four0 : List Value := [.bool false, .slice none 0 0, .bool false, .slice none 0 0]
/-- so many times the same cells -/
def times {α : Type} (n : Nat) (l : List α) : List α := (List.replicate n l).flatten
theorem times_len {α : Type} (n : Nat) (l : List α) : (times n l).length = n * l.length := by simp [times]
theorem times_add {α : Type} (n m : Nat) (l : List α) : times (n + m) l = times n l ++ times m l := by unfold times; rw [List.replicate_append_replicate.symm, List.flatten_append]
theorem times_zeros : ∀ (n : Nat) (l : List Value), zerosL n (l.map .val) = (times n l).map .val
  | 0, _ => rfl
  | n + 1, l => by rw [zerosL, times_zeros n l, Nat.add_comm n 1, times_add 1 n]; simp [times]
theorem times_at {α : Type} {l : List α} {k : Nat} (hk : l.length = k) : ∀ (n i j : Nat) (u : α), i < n → l[j]? = some u → (times n l)[i * k + j]? = some u := by
  intro n
  induction n with
  | zero => intro i j u hi; omega
  | succ n ih =>
    intro i j u hi hj
    have hjk : j < k := by have := (List.getElem?_eq_some_iff.1 hj).1; omega
    rw [Nat.add_comm n 1, times_add]
    have h1 : times 1 l = l := by simp [times]
    rw [h1]
    cases i with
    | zero => rw [Nat.zero_mul, Nat.zero_add, List.getElem?_append_left (by omega)]; exact hj
    | succ i =>
      rw [List.getElem?_append_right (by rw [hk, Nat.add_mul]; omega)]
      rw [show (i + 1) * k + j - l.length = i * k + j by rw [hk, Nat.add_mul]; omega]
      exact ih i j u (by omega) hj
theorem times_ok {n : Nat} {l : List Value} (h : l.all okCell = true) : (times n l).all okCell = true := List.all_eq_true.2 fun x hx => by
  obtain ⟨y, hy, hxy⟩ := List.mem_flatten.1 hx
  rw [List.eq_of_mem_replicate hy] at hxy
  exact List.all_eq_true.1 h x hxy
/-- four cells read as a fraction -/
def RatE (kk : Nat) (w : World) (cs : List Value) (q : Rat) : Prop := ∃ s p n c t y m d, cs = [Value.bool s, .slice p n c, .bool t, .slice y m d] ∧ RatIn w (.agg #[.bool s, .slice p n c, .bool t, .slice y m d]) q kk
theorem ratE_ok (kk : Nat) : ElOk (RatE kk) 4 where
  kp := fun ⟨s, p, n, c, t, y, m, d, e, h⟩ k => ⟨s, p, n, c, t, y, m, d, e, h.kp k⟩
  len := fun ⟨_, _, _, _, _, _, _, _, e, _⟩ => by rw [e]; rfl
  ok := fun ⟨_, _, _, _, _, _, _, _, e, _⟩ => by rw [e]; rfl
theorem SlIn.rats {w : World} {v : Value} {qs : List Rat} {k : Nat} (h : SlIn (RatE k) 4 w v qs) : RatsIn w v qs k := by
  obtain ⟨p, c, hv, h1, h2, h3⟩ := h
  refine ⟨p, c, hv, h1, h2, fun i q hq => ?_⟩
  obtain ⟨b, off, cs, hp, hc, s, p', n', c', t, r, m, d, e, hr⟩ := h3 i q hq
  subst e
  exact ⟨b, off, s, p', n', c', t, r, m, d, hp, hc, hr⟩
theorem RowE.rep {α : Type} {E : World → List Value → α → Prop} {w : World} {a : α} {cs : List Value} (h : E w cs a) : ∀ n, RowE E w (List.replicate n a) (List.replicate n cs)
  | 0 => .nil
  | n + 1 => .cons h (RowE.rep h n)
set_option maxHeartbeats 2000000 in
theorem repeat_any (b off cc N : Nat) (s : Bool) (p : Option Addr) (n c : Nat) (t : Bool) (y : Option Addr) (m d : Nat) (q : Rat) (kk : Nat) (w : World) (hc : ∀ j u, [.bool s, .slice p n c, .bool t, .slice y m d][j]? = some u → w.cell? ⟨b, off + j, none⟩ = some u) (hq : RatIn w (.agg #[.bool s, .slice p n c, .bool t, .slice y m d]) q kk) (hN : N ≤ 40) :
    Calls Try.prog 57 #[.slice (some ⟨b, off, none⟩) 1 cc, .int .i64 (N : Int)] w fun e w' => ∃ v, e = .returned v ∧ RowNew (RatE kk) 4 26 w.heap.size w' v (List.replicate N q) ∧ Beh w w' := by
  obtain ⟨l4, hl4⟩ : ∃ l, l = [Value.bool s, .slice p n c, .bool t, .slice y m d] := ⟨_, rfl⟩
  rw [← hl4] at hc
  have hlen4 : l4.length = 4 := by rw [hl4]; rfl
  have hok4 : l4.all okCell = true := by rw [hl4]; rfl
  refine calm_enter (C := cxOf Try.prog w _) (args := [_, _]) Try.func57 rfl Try.ntmps57 (Nat.le_of_ble_eq_true rfl) ?_
  (repeat (first | refine wN ?_ | refine wP rfl ?_ | refine cx_r rfl ?_ | refine cx_d (by kernel_rfl) rfl ?_ | refine wO rfl rfl ?_))
  refine VO.fix 17 rfl (congrArg (fun z => AV.val (.int .u64 z)) (IntWalk.u64_in (N : Int) (by omega))) ?_
  refine VO.call rfl rfl (fk Try.func66) (fun wa1 ka1 ba1 => (mul_any N wa1 (by omega)).mono ?_)
  rintro e w1 ⟨rfl, hb1⟩
  skip
  refine ⟨_, rfl, hb1, fun kb1 _ bb1 => wV rfl ?_⟩
  (repeat (first | refine wN ?_ | refine wP rfl ?_ | refine cx_r rfl ?_ | refine cx_d (by kernel_rfl) rfl ?_ | refine wO rfl rfl ?_))
  refine VS.condN rfl (decide_eq_false (show ¬ (N : Int) > 9223372036854775807 by omega)) ?_
  (repeat (first | refine wN ?_ | refine wP rfl ?_ | refine cx_r rfl ?_ | refine cx_d (by kernel_rfl) rfl ?_ | refine wO rfl rfl ?_))
  refine VO.fix 29 rfl (congrArg (fun z => AV.val (.int .i64 z)) (IntWalk.i64_in (N : Int) (by omega))) ?_
  (repeat (first | refine wN ?_ | refine wP rfl ?_ | refine cx_r rfl ?_ | refine cx_d (by kernel_rfl) rfl ?_ | refine wO rfl rfl ?_))
  refine VO.cond rfl ⟨rfl, by omega, ?_⟩ (wV rfl ?_)
  · show (N : Int) * (24 * ((4 : Nat) : Int)) ≤ 140737488355328
    omega
  (repeat (first | refine wN ?_ | refine wP rfl ?_ | refine cx_r rfl ?_ | refine cx_d (by kernel_rfl) rfl ?_ | refine wO rfl rfl ?_))
  have hz : zerosL ((N : Int).toNat) (four0.map .val) = (times N four0).map .val := by rw [Int.toNat_natCast, times_zeros]
  refine VO.fixH 30 rfl (show _ = (times N four0).map .val from hz) ?_
  refine VO.fix 31 rfl (congrArg (fun z => AV.row 30 0 z z) (Int.toNat_natCast N)) ?_
  refine VO.fix 7 rfl (congrArg (fun z => AV.row 30 0 z z) (Int.toNat_natCast N)) ?_
  obtain ⟨k, hk⟩ : ∃ k, k = min 1 N := ⟨_, rfl⟩
  have hkN : k ≤ N := by omega
  refine VO.copy (cx_ok _ _) (t := 58) (e := 26) (sz := 4) (k := k) (pre := []) (old := (times k four0).map .val) (post := (times (N - k) four0).map .val) (news := (times k l4).map .val) rfl rfl rfl rfl rfl (Nat.le_of_ble_eq_true rfl)
    (congrArg (fun l => some (_, l)) (by rw [List.nil_append, ← List.map_append, ← times_add, show k + (N - k) = N by omega])) rfl (by rw [List.length_map, times_len]; rfl) (by rw [List.length_map, times_len, hlen4]) (vals_ok (times_ok hok4)) (by rw [List.nil_append, ← List.map_append, lidsOf_vals]) hkN
    (fun w1 β k1 b1 ho => ⟨_, _, _, rfl, by show Nat.min 1 N = k; rw [hk], fun j u hj => by
      rw [leaf_vals] at hj
      rw [Addr.add_mid]
      have hk1 : k = 1 := by
        rcases Nat.eq_zero_or_pos k with e | e
        · rw [e] at hj; simp [times] at hj
        · omega
      rw [hk1] at hj
      exact Beh.cell b1 (hc j u (by simpa [times] using hj))⟩)
    (fun w2 k2 b2 => wV rfl ?_)
  (repeat (first | refine wN ?_ | refine wP rfl ?_ | refine cx_r rfl ?_ | refine cx_d (by kernel_rfl) rfl ?_ | refine wO rfl rfl ?_))
  refine VS.loop (J := fun m L M w' => ∃ z, z ≤ N ∧ (z = 0 → N = 0) ∧ m = N - z ∧ L = [(7, .row 30 0 N N), (8, .val (.int .i64 (z : Int)))] ∧ M = [(30, (26, (times z l4 ++ times (N - z) four0).map .val))]) (N - k) ⟨_, _, ?_, ?_, ?_, ?_, ⟨k, hkN, by omega, rfl, rfl, rfl⟩⟩ ?_
  · (repeat (first | exact trivial | refine ⟨rfl, ?_⟩))
  · refine ⟨congrArg (fun l => some (_, l)) ?_, trivial⟩
    rw [List.nil_append, List.map_append]
  · rfl
  · (repeat (first | exact trivial | refine ⟨ClosedC.lit rfl, ?_⟩ | refine ⟨ClosedC.vals _, ?_⟩))
  rintro mm L M wJ ⟨z, hzN, hz0, rfl, rfl, rfl⟩
  (repeat (first | refine wN ?_ | refine wP rfl ?_ | refine cx_r rfl ?_ | refine cx_d (by kernel_rfl) rfl ?_ | refine wO rfl rfl ?_))
  by_cases hlt : z < N
  · refine VS.condY rfl (decide_eq_true (Int.ofNat_lt.2 hlt)) ?_
    (repeat (first | refine wN ?_ | refine wP rfl ?_ | refine cx_r rfl ?_ | refine cx_d (by kernel_rfl) rfl ?_ | refine wO rfl rfl ?_))
    refine VO.cond rfl ⟨(by first | exact Int.le_refl _ | omega | (simp; done) | (simp; omega)), (by first | exact Int.le_refl _ | omega | (simp; done) | (simp; omega)), (by first | exact Int.le_refl _ | omega | (simp; done) | (simp; omega)), (by first | exact Int.le_refl _ | omega | (simp; done) | (simp; omega))⟩ (wV rfl ?_)
    refine VO.fix 41 rfl (show _ = AV.row 30 (z * 4) (N - z) (N - z) by simp; omega) ?_
    (repeat (first | refine wN ?_ | refine wP rfl ?_ | refine cx_r rfl ?_ | refine cx_d (by kernel_rfl) rfl ?_ | refine wO rfl rfl ?_))
    refine VO.cond rfl ⟨(by first | exact Int.le_refl _ | omega | (simp; done) | (simp; omega)), (by first | exact Int.le_refl _ | omega | (simp; done) | (simp; omega)), (by first | exact Int.le_refl _ | omega | (simp; done) | (simp; omega)), (by first | exact Int.le_refl _ | omega | (simp; done) | (simp; omega))⟩ (wV rfl ?_)
    refine VO.fix 44 rfl (show _ = AV.row 30 0 z N by simp) ?_
    obtain ⟨j, hj⟩ : ∃ j, j = min z (N - z) := ⟨_, rfl⟩
    refine VO.copy (cx_ok _ _) (t := 58) (e := 26) (sz := 4) (k := j) (pre := (times z l4).map .val) (old := (times j four0).map .val) (post := (times (N - z - j) four0).map .val) (news := (times j l4).map .val) rfl rfl rfl rfl rfl (Nat.le_of_ble_eq_true rfl)
      (congrArg (fun l => some (_, l)) (by rw [← List.map_append, ← List.map_append, ← times_add, show j + (N - z - j) = N - z by omega])) (by rw [List.length_map, times_len, hlen4]) (by rw [List.length_map, times_len]; rfl) (by rw [List.length_map, times_len, hlen4]) (vals_ok (times_ok hok4)) (by rw [← List.map_append, ← List.map_append, lidsOf_vals]) (by omega)
      (fun w1 β k1 b1 ho => ⟨_, _, _, rfl, by show Nat.min z (N - z) = j; rw [hj], fun o u hu => by
        rw [leaf_vals] at hu
        rw [Addr.add_mid]
        have hcl := (ho.own 30 (.base (List.mem_append_left _ (List.mem_singleton.2 rfl))) _ _ rfl).cls
        refine hcl.cell ?_
        rw [leaf_vals, Nat.zero_add, List.getElem?_toArray, show z = j + (z - j) by omega, times_add, List.append_assoc, List.getElem?_append_left (List.getElem?_eq_some_iff.1 hu).1]
        exact hu⟩)
      (fun w2 k2 b2 => wV rfl ?_)
    refine VO.fix 8 rfl (congrArg (fun z => AV.val (.int .i64 z)) (show IntKind.i64.wrap ((z : Int) + (j : Int)) = ((z + j : Nat) : Int) by rw [IntWalk.i64_in _ (by omega)]; omega)) ?_
    (repeat (first | refine wN ?_ | refine wP rfl ?_ | refine cx_r rfl ?_ | refine cx_d (by kernel_rfl) rfl ?_ | refine wO rfl rfl ?_))
    refine VS.back (N - (z + j)) (by omega) ⟨_, _, ?_, ?_, ?_, ?_, ⟨z + j, by omega, by omega, rfl, rfl, rfl⟩⟩
    · (repeat (first | exact trivial | refine ⟨rfl, ?_⟩))
    · refine ⟨congrArg (fun l => some (_, l)) ?_, trivial⟩
      rw [← List.map_append, ← List.map_append, ← List.append_assoc, ← times_add, show N - z - j = N - (z + j) by omega]
    · rfl
    · (repeat (first | exact trivial | refine ⟨ClosedC.lit rfl, ?_⟩ | refine ⟨ClosedC.vals _, ?_⟩))
  · refine VS.condN rfl (decide_eq_false (fun e => hlt (Int.ofNat_lt.1 e))) ?_
    obtain rfl : z = N := by omega
    (repeat (first | refine wN ?_ | refine wP rfl ?_ | refine cx_r rfl ?_ | refine cx_d (by kernel_rfl) rfl ?_ | refine wO rfl rfl ?_))
    refine VS.retA (cx_ok _ _) rfl (fun wz β kz bz en => ?_)
    have ho := en.own 30 _ _ rfl
    rw [show (times z l4 ++ times (z - z) four0).map AV.val = (List.replicate z l4).flatten.map AV.val ++ [] by rw [Nat.sub_self]; simp [times]] at ho
    have hI : RatE kk wz l4 q := ⟨_, _, _, _, _, _, _, _, hl4, hq.kp (Kp.of (U := UU) bz)⟩
    exact ⟨_, rfl, rowNew_own ho (RowE.rep hI z) (List.length_replicate).symm (Nat.le_refl _) (by omega) (by rw [List.append_nil, List.length_map]; exact (times_len z l4).trans (by rw [hlen4])), bz⟩
end Go.Proofs.Ytkafabgcdlfhiaa
