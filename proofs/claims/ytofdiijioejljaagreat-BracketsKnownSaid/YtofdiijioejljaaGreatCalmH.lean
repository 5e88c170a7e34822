/- Calm walks: append onto nil, and onto an own row; rows of numbers that are told. -/
import Derived.Test.YtofdiijioejljaaGreatCalmG
import Derived.Deep.AppendSrc
import Derived.Laws.AppendOwn
set_option linter.all false
namespace Go.Proofs.YtofdiijioejljaaGreat
open Go.RowKit

theorem zeroCells_toList (z : Value) (n : Nat) : ∃ vs : List Value, Builtin.zeroCells z.cells n = vs.toArray ∧ vs.length = n * z.cells.size ∧ (z.cells.toList.all okCell = true → vs.all okCell = true) := by
 refine ⟨(Builtin.zeroCells z.cells n).toList, by simp, by simp [Builtin.zeroCells], fun h => ?_⟩
 unfold Builtin.zeroCells
 rw [Array.toList_map, Array.toList_range]
 refine List.all_eq_true.2 fun x hx => ?_
 obtain ⟨i, hi, rfl⟩ := List.mem_map.1 hx
 have hp : 0 < z.cells.size := by
  rcases Nat.eq_zero_or_pos z.cells.size with e | e
  ·rw [e, Nat.mul_zero] at hi; simp at hi
  ·exact e
 have hlt := Nat.mod_lt i hp
 have : z.cells[i % z.cells.size]! = z.cells[i % z.cells.size] := by simp [hlt]
 rw [this]
 exact List.all_eq_true.1 h _ (by simp)

section
variable {C : Cx} {F : Fr} {H : Hp} {w : World} {m : Option (List FuncId)} {full : Array Oper} {K : Fr → Hp → World → Prop} {o : Oper} {r : List Oper}

theorem VO.appG (hC : C.Ok) {t e : TypeId} {it ie : TI} {sz n c mm : Nat} {x y : Operand} {base src : AV} {known spare news : List AV} {dst : Nat} {del : Option Nat}
  (e0 : stepOf C full F H o = .call (.op o [base, src])) (ho : o.op = .call { callee := .builtin .append, args := #[x, y], argTypes := #[t, t] })
  (hit : C.ti t = some it) (hel : it.elem = some (e, sz)) (hie : C.ti e = some ie) (hU : C.K.fz e = false) (hzo : ie.zero.cells.toList.all okCell = true)
  (hd : o.dst = some dst) (hN : dst < C.N) (hl : lvl C.SU m o = 2)
  (hbase : ((base = .val (.slice none 0 0) ∧ n = 0 ∧ c = 0 ∧ known = [] ∧ spare = [] ∧ del = none ∧ 0 < mm) ∨ ∃ i, base = .row i 0 n c ∧ H i = some (e, known ++ spare) ∧ del = some i) ∨ ∃ (b off : Nat) (ks : List Value), base = .val (.slice (some ⟨b, off, none⟩) n c) ∧ c = n ∧ known = ks.map .val ∧ spare = [] ∧ del = none ∧ 0 < mm ∧ ∀ w1, KpS C.K w w1 → C.Old w1 → ∀ j u, ks[j]? = some u → w1.cell? ⟨b, off + j, none⟩ = some u)
  (hdst : H dst = none ∨ del = some dst) (hk : known.length = n * sz) (hsp : (known ++ spare).length = c * sz) (hnc : n ≤ c) (hcm : c ≤ 9223372036854775807)
  (hlid : lidsOf known = [] ∧ lidsOf spare = [] ∧ lidsOf news = []) (hok : known.all okLeaf = true ∧ spare.all okLeaf = true ∧ news.all okLeaf = true) (hnl : news.length = mm * sz) (hbytes : (n + mm) * (24 * sz) ≤ 140737488355328)
  (hsrc : ∀ w1 β, KpS C.K w w1 → C.Old w1 → OwnAt C β H (idsOf [base, src]) w1 → ∃ p cc, src.conc β = .slice p mm cc ∧ (mm = 0 ∨ ∃ b off, p = some ⟨b, off, none⟩ ∧ ∀ j u, (news.map (AV.leaf β))[j]? = some u → w1.cell? ⟨b, off + j, none⟩ = some u))
  (hK : ∀ w2 cap spare' ρ, KpS C.K w w2 → C.Old w2 → (∀ x, okCell (ρ x) = true) → n + mm ≤ cap → cap ≤ 9223372036854775807 → ((known ++ news) ++ spare').length = cap * sz → spare'.all okLeaf = true → lidsOf spare' = [] →
   vcOps C m full r K ((F.forget del ρ).puto o.dst (.row dst 0 (n + mm) cap)) ((H.forget del ρ).put dst (e, (known ++ news) ++ spare')) w2) : vcOps C m full (o :: r) K F H w := by
 show one C m full o (vcOps C m full r K) F H w
 unfold one
 rw [e0]
 intro w1 β h1 h2 h3
 obtain ⟨hu, hsz⟩ := (hC t it hit).isSlice e sz hel
 have hiE := hC e ie hie
 cases hti : C.P.info? e with
 | none => have := hiE.size; rw [hti] at this; simp at this
 | some ti =>
  have hs1 : ti.size = ie.size := by have := hiE.size; rw [hti] at this; simpa using this
  have hz1 : ti.zero = some ie.zero := by have := hiE.izero; rw [hti] at this; simpa using this
  have hb1 : ti.bytes ≤ 24 * ie.size := Nat.le_of_ble_eq_true (by have := hiE.bytes; rw [hti] at this; simpa using this)
  have hse : sz = ti.size := by
   have := hsz w1
   simp [sizeOf, typeInfo, hti] at this
   exact this.symm
  have hpos : 0 < sz := by rw [hse, hs1]; exact hiE.pos
  have hzs : ie.zero.cells.size = sz := by rw [hiE.zsize, hse, hs1]
  have hcap : n + mm ≤ 140737488355328 := by
   have : (n + mm) * 24 ≤ (n + mm) * (24 * sz) := Nat.mul_le_mul_left _ (by omega)
   omega
  have hby : (n + mm) * ti.bytes ≤ 140737488355328 := Nat.le_trans (Nat.mul_le_mul_left _ (by rw [hse, hs1]; exact hb1)) hbytes
  obtain ⟨p, cc, hsc, hsp2⟩ := hsrc w1 β h1 h2 h3
  have hS : Src C.P ti.size t (.slice p mm cc) mm (news.map (AV.leaf β)) w1 := by
   have hone : ∀ u ∈ news.map (AV.leaf β), u.oneCell' = true := fun u hu => okCell_one (List.all_eq_true.1 (okLeafs (β := β) hok.2.2) u hu)
   rcases hsp2 with rfl | ⟨b, off, rfl, hc⟩
   ·have : news = [] := List.eq_nil_of_length_eq_zero (by simpa using hnl)
    subst this
    cases p with
    | none => exact Src.ofNil w1 hu cc
    | some a => exact Src.ofSlice w1 hu a 0 cc [] (by simp) (fun j u hj => by simp at hj) hone
   ·refine Src.ofSlice w1 hu ⟨b, off, none⟩ mm cc _ (by rw [List.length_map, hnl, hse]) (fun j u hj => ?_) hone
    rw [Addr.add_mid]
    exact hc j u hj
  have heval : ∀ ρ : Operand → Value, o.op.operands.toList.map ρ = [base, src].map (AV.conc β) → ρ x = base.conc β ∧ ρ y = .slice p mm cc := fun ρ h => by
   rw [ho] at h
   simp [Op.operands, Call.operands] at h
   exact ⟨h.1, h.2.trans hsc⟩
  have hrun : ∀ {v : Value} {w2 : World}, (Builtin.append_ #[t, t] o.type #[base.conc β, .slice p mm cc]).run C.P w1 = .ok v w2 → ∀ ρ : Operand → Value, o.op.operands.toList.map ρ = [base, src].map (AV.conc β) → (execOp ρ o).run C.P w1 = .ok (.value v) w2 := fun {v w2} hv ρ hρ => by
   obtain ⟨q1, q2⟩ := heval ρ hρ
   unfold execOp
   simp only [ho, resolve, invoke, builtin, Sem.run_bind, Sem.run_pure, Result.andThen_ok, List.map_toArray, List.map_cons, List.map_nil, q1, q2, hv]
  have hg : ∀ i, del = some i → Reach H (idsOf [base, src]) i ∧ H i ≠ none := fun i hi => by
   rcases hbase with (⟨_, _, _, _, _, e, _⟩ | ⟨i', rfl, hH, e⟩) | ⟨_, _, _, _, _, _, _, e, _⟩
   ·rw [e] at hi; cases hi
   ·rw [e] at hi; cases hi
    exact ⟨.base (by simp [idsOf, AV.ids]), by rw [hH]; simp⟩
   ·rw [e] at hi; cases hi
  -- what is owed at the end, once the block of the new row is known
  have fin : ∀ (w2 : World) (b cap : Nat) (spare' : List AV), (∀ ρ : Operand → Value, o.op.operands.toList.map ρ = [base, src].map (AV.conc β) → (execOp ρ o).run C.P w1 = .ok (.value (.slice (some ⟨b, 0, none⟩) (n + mm) cap)) w2) →
    w2.os = w1.os → w2.tape = w1.tape → w2.output = w1.output → w1.heap.size ≤ w2.heap.size → (∀ q, q < w1.heap.size → q ≠ b → w2.heap[q]? = w1.heap[q]?) → (w1.heap.size ≤ b ∨ ∃ i, del = some i ∧ b = β i) →
    n + mm ≤ cap → cap ≤ 9223372036854775807 → ((known ++ news) ++ spare').length = cap * sz → spare'.all okLeaf = true → lidsOf spare' = [] → Cls w2 b e (((known ++ news) ++ spare').map (AV.leaf β)).toArray →
    Does C.P (.op o [base, src]) β w1 fun e w2 => ∃ β' r' del ups, e = .returned (r'.conc β') ∧ (∀ i ∈ r'.ids, i ∈ ups.map (·.1) ∨ (Reach H (Doer.op o [base, src]).ids i ∧ H i ≠ none ∧ del ≠ some i)) ∧ (1 ≤ lvl C.SU m o ∨ ups = []) ∧ (2 ≤ lvl C.SU m o ∨ del = none) ∧
     Chg C β β' H (Doer.op o [base, src]).ids del ups w1 w2 ∧ (KpS C.K w w2 → KpS C.K w1 w2 → C.Old w2 → ∀ ρ, (∀ x, okCell (ρ x) = true) → vcOps C m full r K ((F.forget del ρ).puto o.dst r') ((H.forget del ρ).updAll ups) w2) := by
   intro w2 b cap spare' hrun q1 q2 q3 q4 q5 q6 q7 q8 q9 q10 q11 q12
   let β' : Nat → Nat := fun i => if i = dst then b else β i
   have hbd : β' dst = b := if_pos rfl
   have hall : ((known ++ news) ++ spare').all okLeaf = true := by simp only [List.all_append, hok.1, hok.2.2, q10]; rfl
   have hlids : lidsOf ((known ++ news) ++ spare') = [] := by rw [lidsOf_append, lidsOf_append, hlid.1, hlid.2.2, q11]; rfl
   have hnew : C.New dst b := by
    rcases q6 with e | ⟨i, hi, e⟩
    ·exact C.newOf _ _ (by omega) (by have := C.oldSize _ h2; omega)
    ·obtain ⟨g1, g2⟩ := hg i hi
     cases hh : H i with
     | none => exact absurd hh g2
     | some c' => rw [e]; exact C.newMv i dst _ (h3.own i g1 c'.1 c'.2 hh).new (by omega)
   have hleft : ∀ i, del = some i → w2.heap[β i]? = w1.heap[β i]? ∨ ∃ x ∈ [(dst, (e, (known ++ news) ++ spare'))], β' x.1 = β i := fun i hi => by
    by_cases e' : β i = b
    ·exact .inr ⟨_, List.mem_singleton.2 rfl, hbd.trans e'.symm⟩
    ·obtain ⟨g1, g2⟩ := hg i hi
     cases hh : H i with
     | none => exact absurd hh g2
     | some c' => exact .inl (q5 _ (h3.own i g1 c'.1 c'.2 hh).cls.lt e')
   refine ⟨_, w2, fun ρ hρ => .inl (hrun ρ hρ), β', .row dst 0 (n + mm) cap, del, [(dst, (e, (known ++ news) ++ spare'))], ?_, fun i hi => .inl (by simpa [AV.ids] using hi), .inl (by omega), .inl (by omega), ?_, fun a1 a2 a3 ρ hρ => hK w2 cap spare' ρ a1 a3 hρ q7 q8 q9 q10 q11⟩
   ·show Ending.returned _ = .returned (Value.slice (some ⟨β' dst, 0, none⟩) (n + mm) cap); rw [hbd]
   ·refine ⟨q1, q2, q3, q4, fun k hk hx hdl _ => q5 k hk (by have := hx _ (List.mem_singleton.2 rfl); simpa [hbd] using this), fun i hi => if_neg (by simpa using hi), hg, fun i hi => (hleft i hi).imp .inl id, fun x hx => ?_, fun x hx => ?_, by simp, fun x hx y hy _ => ?_, fun x hx j hj => ?_⟩
    ·cases List.mem_singleton.1 hx
     refine ⟨by rw [hbd]; exact hnew, hU, ?_, hall⟩
     rw [hbd, leafs_agree (β := β) (fun i hi => by rw [hlids] at hi; cases hi)]
     exact q12
    ·cases List.mem_singleton.1 hx
     refine .inr ⟨hdst, by omega, ?_⟩
     rcases q6 with e | ⟨i, hi, e⟩
     ·exact .inl (by rw [hbd]; exact e)
     ·exact .inr ⟨i, hi, by rw [hbd]; exact e⟩
    ·cases List.mem_singleton.1 hx; cases List.mem_singleton.1 hy; rfl
    ·cases List.mem_singleton.1 hx
     rw [hlids] at hj; cases hj
  -- the arm that grows
  have grow : c < n + mm → (∃ bp, base.conc β = .slice bp n c ∧ (Builtin.firstCells ti.size n (.slice bp n c)).run C.P w1.drew = .ok (known.map (AV.leaf β)).toArray w1.drew) → Does C.P (.op o [base, src]) β w1 fun e w2 => ∃ β' r' del ups, e = .returned (r'.conc β') ∧ (∀ i ∈ r'.ids, i ∈ ups.map (·.1) ∨ (Reach H (Doer.op o [base, src]).ids i ∧ H i ≠ none ∧ del ≠ some i)) ∧ (1 ≤ lvl C.SU m o ∨ ups = []) ∧ (2 ≤ lvl C.SU m o ∨ del = none) ∧
        Chg C β β' H (Doer.op o [base, src]).ids del ups w1 w2 ∧ (KpS C.K w w2 → KpS C.K w1 w2 → C.Old w2 → ∀ ρ, (∀ x, okCell (ρ x) = true) → vcOps C m full r K ((F.forget del ρ).puto o.dst r') ((H.forget del ρ).updAll ups) w2) := by
   rintro hgt ⟨bp, hbp, hfc⟩
   have hr := run_append_grow_src (P := C.P) w1 t t o.type e ti ie.zero hu hti hz1 bp n c (known.map (AV.leaf β)) hfc (.slice p mm cc) mm (news.map (AV.leaf β)) hS hgt (by omega) (growslice_fits hgt hby)
   obtain ⟨zs, hz2, hz3, hz4⟩ := zeroCells_toList ie.zero (grownCap w1 (n + mm) c e - (n + mm))
   have hge := grownCap_ge w1 (n + mm) c e
   have hle := grownCap_le_maxLen w1 (n + mm) c e (by simp only [maxLen]; omega)
   rw [hz2] at hr
   have hbeh : Beh w1 (w1.drew.alloc (.cells ((known.map (AV.leaf β) ++ news.map (AV.leaf β)).toArray ++ zs.toArray) e)) := (Beh.refl w1).drew.alloc _
   refine fin _ w1.heap.size (grownCap w1 (n + mm) c e) (zs.map .val) (hrun (by rw [hbp]; exact hr)) hbeh.os hbeh.tape hbeh.output hbeh.size (fun q hq _ => Below.block hbeh q hq) (.inl (Nat.le_refl _)) hge (by simpa [maxLen] using hle) ?_ (vals_ok (hz4 hzo)) (lidsOf_vals zs) ?_
   ·rw [List.length_append, List.length_append, List.length_map, hk, hnl, hz3, hzs, ← Nat.add_mul, ← Nat.add_mul]
    congr 1
    omega
   ·have : (((known ++ news) ++ zs.map AV.val).map (AV.leaf β)).toArray = (known.map (AV.leaf β) ++ news.map (AV.leaf β)).toArray ++ zs.toArray := by
     rw [List.map_append, List.map_append, leaf_vals]
     apply Array.ext'
     rw [Array.toList_append]
    rw [this]
    exact Cls.newAt (w := w1.drew) rfl _ _
  rcases hbase with (⟨rfl, rfl, rfl, rfl, rfl, rfl, hmm⟩ | ⟨i, rfl, hH, rfl⟩) | ⟨b, off, ks, rfl, rfl, rfl, rfl, rfl, hmm, hcell⟩
  ·refine grow (by omega) ⟨none, rfl, ?_⟩
   exact run_firstCells_none w1.drew ti.size 0 0 0
  ·obtain ⟨g1, g2, g3, g4⟩ := h3.own i (.base (List.mem_append_left _ (List.mem_singleton.2 rfl))) e _ hH
   by_cases hroom : n + mm ≤ c
   ·have hfit : n * sz + news.length ≤ (known ++ spare).length := by rw [hsp, hnl, ← Nat.add_mul]; exact Nat.mul_le_mul_right _ hroom
    have hr := run_append_room_src (P := C.P) w1 t t o.type e ti hu hti (β i) 0 n c (.slice p mm cc) mm (news.map (AV.leaf β)) hS hroom (fun j hj => by
      rw [List.length_map] at hj
      obtain ⟨z, hz⟩ : ∃ z, ((known ++ spare).map (AV.leaf β))[0 + n * ti.size + j]? = some z := ⟨_, List.getElem?_eq_getElem (by rw [List.length_map, ← hse]; omega)⟩
      rw [g3.cell (u := z) (by simpa using hz)]; rfl)
     (fun j _ => g3.frozen _)
    rw [Nat.zero_add, ← hse] at hr
    obtain ⟨k1, k2, k3, k4⟩ := setCells_all (K := C.K) (news.map (AV.leaf β)) (n * sz) w1 ((known ++ spare).map (AV.leaf β)) g3 g2 (okLeafs g4) (okLeafs hok.2.2)
    obtain ⟨s1, s2, s3, _⟩ := setCells_same (b := β i) (news.map (AV.leaf β)) (n * sz) w1
    refine fin _ (β i) c (spare.drop (mm * sz)) (hrun hr) s1 s2 s3 k1.size (fun q _ hq => setCells_block _ _ _ q hq) (.inr ⟨i, rfl, rfl⟩) hroom hcm ?_ ?_ ?_ ?_
    ·simp only [List.length_append, List.length_drop] at hsp hfit ⊢
     omega
    ·exact List.all_eq_true.2 fun x hx => List.all_eq_true.1 hok.2.1 x (List.mem_of_mem_drop hx)
    ·rw [List.eq_nil_iff_forall_not_mem]
     intro j hj
     obtain ⟨v, hv, hj'⟩ := mem_lidsOf.1 hj
     have : j ∈ lidsOf spare := mem_lidsOf.2 ⟨v, List.mem_of_mem_drop hv, hj'⟩
     rw [hlid.2.1] at this; cases this
    ·rw [setL_eq _ _ _ (by simp only [List.length_map]; omega)] at k2
     have : ((known ++ spare).map (AV.leaf β)).take (n * sz) ++ (news.map (AV.leaf β) ++ ((known ++ spare).map (AV.leaf β)).drop (n * sz + (news.map (AV.leaf β)).length)) = (((known ++ news) ++ spare.drop (mm * sz)).map (AV.leaf β)) := by
      rw [List.length_map, hnl, ← List.map_take, ← List.map_drop, ← hk, List.take_left', List.drop_append, List.map_append, List.map_append]
      ·rw [List.drop_of_length_le (by omega)]
       simp [List.map_append, hk]
      ·rfl
     rw [this] at k2
     exact k2
   ·refine grow (by omega) ⟨some ⟨β i, 0, none⟩, rfl, ?_⟩
    refine run_firstCells_some w1.drew ti.size n ⟨β i, 0, none⟩ n c (known.map (AV.leaf β)) (by rw [List.length_map, hk, hse]) (fun j u hj => ?_)
    rw [Addr.add_mid]
    have hlt := (List.getElem?_eq_some_iff.1 hj).1
    have : w1.cell? ⟨β i, 0 + j, none⟩ = some u := g3.cell (by
     rw [List.map_append]
     simp only [Nat.zero_add]
     simpa [List.getElem?_append_left hlt] using hj)
    exact this
  ·refine grow (by omega) ⟨some ⟨b, off, none⟩, rfl, ?_⟩
   refine run_firstCells_some w1.drew ti.size _ ⟨b, off, none⟩ _ _ ((ks.map AV.val).map (AV.leaf β)) (by rw [List.length_map, hk, hse]) (fun j u hj => ?_)
   rw [Addr.add_mid]
   rw [leaf_vals] at hj
   exact hcell w1 h1 h2 j u hj

theorem VO.app (hC : C.Ok) {t e : TypeId} {it ie : TI} {sz n c mm : Nat} {x y : Operand} {base src : AV} {known spare news : List AV} {dst : Nat} {del : Option Nat}
  (e0 : stepOf C full F H o = .call (.op o [base, src])) (ho : o.op = .call { callee := .builtin .append, args := #[x, y], argTypes := #[t, t] })
  (hit : C.ti t = some it) (hel : it.elem = some (e, sz)) (hie : C.ti e = some ie) (hU : C.K.fz e = false) (hzo : ie.zero.cells.toList.all okCell = true)
  (hd : o.dst = some dst) (hN : dst < C.N) (hl : lvl C.SU m o = 2)
  (hbase : (base = .val (.slice none 0 0) ∧ n = 0 ∧ c = 0 ∧ known = [] ∧ spare = [] ∧ del = none ∧ 0 < mm) ∨ ∃ i, base = .row i 0 n c ∧ H i = some (e, known ++ spare) ∧ del = some i)
  (hdst : H dst = none ∨ del = some dst) (hk : known.length = n * sz) (hsp : (known ++ spare).length = c * sz) (hnc : n ≤ c) (hcm : c ≤ 9223372036854775807)
  (hlid : lidsOf known = [] ∧ lidsOf spare = [] ∧ lidsOf news = []) (hok : known.all okLeaf = true ∧ spare.all okLeaf = true ∧ news.all okLeaf = true) (hnl : news.length = mm * sz) (hbytes : (n + mm) * (24 * sz) ≤ 140737488355328)
  (hsrc : ∀ w1 β, KpS C.K w w1 → C.Old w1 → OwnAt C β H (idsOf [base, src]) w1 → ∃ p cc, src.conc β = .slice p mm cc ∧ (mm = 0 ∨ ∃ b off, p = some ⟨b, off, none⟩ ∧ ∀ j u, (news.map (AV.leaf β))[j]? = some u → w1.cell? ⟨b, off + j, none⟩ = some u))
  (hK : ∀ w2 cap spare' ρ, KpS C.K w w2 → C.Old w2 → (∀ x, okCell (ρ x) = true) → n + mm ≤ cap → cap ≤ 9223372036854775807 → ((known ++ news) ++ spare').length = cap * sz → spare'.all okLeaf = true → lidsOf spare' = [] →
   vcOps C m full r K ((F.forget del ρ).puto o.dst (.row dst 0 (n + mm) cap)) ((H.forget del ρ).put dst (e, (known ++ news) ++ spare')) w2) : vcOps C m full (o :: r) K F H w :=
 VO.appG hC e0 ho hit hel hie hU hzo hd hN hl (.inl hbase) hdst hk hsp hnc hcm hlid hok hnl hbytes hsrc hK

theorem VO.lit (hC : C.Ok) {t e : TypeId} {n : Nat} {ps : Array (Nat × Operand)} {it ie : TI} {args : List AV} (vs : List Value)
  (e0 : stepOf C full F H o = .call (.op o args)) (ha : args = vs.map .val) (ho : o.op = .buildSlice t n ps) (hit : C.ti t = some it) (hel : it.elem = some (e, 1)) (hie : C.ti e = some ie)
  (hrow : rowL 1 0 ((ps.toList.map (·.1)).zip (vs.map .val)) = some (vs.map .val)) (hps : ps.size = n) (hvs : vs.length = n) (hn : n ≤ 16777216)
  (hK : ∀ w2 b, KpS C.K w w2 → C.Old w2 → w2.ownsRow C.w0.heap.size e 1 (.slice (some ⟨b, 0, none⟩) n n) n vs → vcOps C m full r K (F.puto o.dst (.val (.slice (some ⟨b, 0, none⟩) n n))) H w2) : vcOps C m full (o :: r) K F H w := by
 refine VO.callR e0 fun w1 β h1 h2 _ => ?_
 obtain ⟨hu, hsz⟩ := (hC t it hit).isSlice e 1 hel
 have hz0 := (hC e ie hie).zero
 have hb : Beh w1 (w1.alloc (.cells vs.toArray e)) := (Beh.refl w1).alloc _
 refine ⟨.slice (some ⟨w1.heap.size, 0, none⟩) n n, w1.alloc (.cells vs.toArray e), fun ρ hρ => .inl ?_, _, rfl, hb, fun a1 a2 a3 => hK _ w1.heap.size a1 a3 ?_⟩
 ·rw [ho, ha, conc_vals] at hρ
  have hl : (ps.map fun x => (x.1, ρ x.2)).toList = ((ps.toList.map (·.1)).zip (vs.map AV.val)).map fun p => (p.1, p.2.conc (fun _ => 0)) := by
   have h3 : ps.toList.map (fun x => ρ x.2) = vs := by
    rw [← hρ]; simp [Op.operands]
   rw [Array.toList_map, ← h3]
   generalize ps.toList = l
   induction l with
   | nil => rfl
   | cons q r ih => simp only [List.map_cons, List.zip_cons_cons]; rw [ih]; rfl
  have hfill : ∀ A : Array Value, A.size = n * 1 → Instr.fill (fun i => some (i * 1, 1)) A (((ps.toList.map (·.1)).zip (vs.map AV.val)).map fun p => (p.1, p.2.conc (fun _ => 0))) = some vs.toArray := fun A hA => by
   have := rowL_fill (β := fun _ => 0) (sz := 1) _ 0 [] A.toList hrow (by simp) (by rw [Array.length_toList, hA]; simp [hps, hvs])
   rw [leaf_vals] at this
   simpa using this
  simp only [execOp, ho, Instr.buildSlice, Sem.run_bind, run_underlying hu, Result.andThen_ok, hsz]
  rw [if_neg (by omega)]
  by_cases h0 : n * 1 = 0
  ·simp only [if_pos h0, Sem.run_bind, Sem.run_pure, Result.andThen_ok]
   rw [hl, hfill _ (by simp)]
   simp [newRow]
  ·simp only [if_neg h0, Sem.run_bind, Sem.run_pure, Result.andThen_ok, hz0]
   rw [hl, hfill _ (by simp)]
   simp [newRow]
 ·refine ⟨by rw [hvs, Nat.mul_one], .inr ⟨w1.heap.size, n, vs.toArray, rfl, C.oldSize _ h2, World.alloc_heap_new w1 _, Nat.le_refl _, by simp only [maxLen]; omega, by simp [hvs], ?_⟩⟩
  rw [List.take_of_length_le (by simp [hvs])]
theorem VO.appU (hC : C.Ok) {t e : TypeId} {it ie : TI} {x y : Operand} {src : Value} {n : Nat} {news : List Value}
  (e0 : stepOf C full F H o = .call (.op o [.val (.slice none 0 0), .val src])) (ho : o.op = .call { callee := .builtin .append, args := #[x, y], argTypes := #[t, t] })
  (hit : C.ti t = some it) (hel : it.elem = some (e, 1)) (hie : C.ti e = some ie) (h1c : ∀ u ∈ news, u.oneCell' = true) (hn : n * 24 ≤ 140737488355328)
  (hsrc : ∀ w1, KpS C.K w w1 → C.Old w1 → Rd w1 1 src n news)
  (hK : ∀ w2 p c, KpS C.K w w2 → C.Old w2 → w2.ownsRow C.w0.heap.size e 1 (.slice p n c) n news → vcOps C m full r K (F.puto o.dst (.val (.slice p n c))) H w2) : vcOps C m full (o :: r) K F H w := by
 refine VO.callR e0 fun w1 β h1 h2 _ => ?_
 obtain ⟨hu, hsz⟩ := (hC t it hit).isSlice e 1 hel
 have hiE := hC e ie hie
 cases hti : C.P.info? e with
 | none => have := hiE.size; rw [hti] at this; simp at this
 | some ti =>
  have hs1 : ti.size = ie.size := by have := hiE.size; rw [hti] at this; simpa using this
  have hz1 : ti.zero = some ie.zero := by have := hiE.izero; rw [hti] at this; simpa using this
  have hb1 : ti.bytes ≤ 24 * ie.size := Nat.le_of_ble_eq_true (by have := hiE.bytes; rw [hti] at this; simpa using this)
  have hse : 1 = ti.size := by
   have := hsz w1
   simp [sizeOf, typeInfo, hti] at this
   exact this.symm
  have hby : (0 + n) * ti.bytes ≤ 140737488355328 := Nat.le_trans (Nat.mul_le_mul_left _ (show ti.bytes ≤ 24 by omega)) (by omega)
  obtain ⟨v', w', hr, q1, q2⟩ := run_append_rd (P := C.P) w1 C.w0.heap.size t o.type e ti ie.zero ti.size ti.bytes hu hti hz1 rfl rfl (by rw [hiE.zsize, hs1]) (by rw [hs1]; exact hiE.pos) (.slice none 0 0) 0 [] (World.ownsRow_nil w1 _ _ _) src n news (hse ▸ hsrc w1 h1 h2) h1c (by simp only [maxLen]; omega) hby (C.oldSize _ h2)
  rw [Nat.zero_add, List.nil_append, ← hse] at q1
  obtain ⟨p, c, rfl, _⟩ := Own.form q1
  refine ⟨_, w', fun ρ hρ => .inl ?_, _, rfl, ⟨q2.os, q2.tape, q2.output, q2.size, fun k hk => q2.block k hk (by simp [Value.ownBlock])⟩, fun a1 a2 a3 => hK w' p c a1 a3 q1⟩
  rw [ho] at hρ
  simp [Op.operands, Call.operands] at hρ
  obtain ⟨g1, g2⟩ := hρ
  unfold execOp
  simp only [ho, resolve, invoke, builtin, Sem.run_bind, Sem.run_pure, Result.andThen_ok, List.map_toArray, List.map_cons, List.map_nil, g1, g2, AV.conc, hr]
end
end Go.Proofs.YtofdiijioejljaaGreat
