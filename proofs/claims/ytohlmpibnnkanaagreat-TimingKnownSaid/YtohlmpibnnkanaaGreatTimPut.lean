/- A ledger of expenses: New, Put. -/
import Derived.Test.YtohlmpibnnkanaaGreatTimBase
import Derived.Test.YtohlmpibnnkanaaGreatAdopt
import Derived.Test.YtohlmpibnnkanaaGreatTimRef
set_option linter.all false
set_option maxRecDepth 4000
namespace Go.Proofs.YtohlmpibnnkanaaGreat
open Go.RowKit
attribute [local irreducible] vcOps VS

abbrev KP : KC := ⟨UU, fun _ => True, fun t => !(Nat.beq t 122 || (Nat.beq t 36 || Nat.beq t 33))⟩
abbrev cxP (P : Program) (w : World) (N : Nat) (ad : List Nat) (hd : ad.Nodup) (ha : AdOk KP ad w) : Cx := adCx P w N KP (fun t => Nat.beq t 29) table (fun _ _ => trivial) ad hd ha
theorem cxP_ok (w : World) (N : Nat) {ad : List Nat} {hd : ad.Nodup} {ha : AdOk KP ad w} : (cxP Tryz.prog w N ad hd ha).Ok := table_ok
theorem cxP_mixed (w : World) (N : Nat) {ad : List Nat} {hd : ad.Nodup} {ha : AdOk KP ad w} : (cxP Tryz.prog w N ad hd ha).P.follows .mixedOrders = true := by show Tryz.prog.follows .mixedOrders = true; kernel_rfl
section
variable {C : Cx} {m : Option (List FuncId)} {full : Array Oper} {K : Fr → Hp → World → Prop} {F F' : Fr} {H H' : Hp} {w w1 : World} {N : Nat} {o : Oper} {r l l' : List Oper} {Q : Exit → Act → World → Prop} {k k' : List It} {v : AV} {u : Option (Nat × (TypeId × List AV))} {id : Nat} {ops : Array Oper}
theorem cxP_r {ad : List Nat} {hd : ad.Nodup} {ha : AdOk KP ad w1} (e : runD (cxP Tryz.prog w1 N ad hd ha) ops 80 ops.toList F H = (l', F', H')) (h : vcOps (cxP Tryz.prog w1 N ad hd ha) none ops l' (VS (cxP Tryz.prog w1 N ad hd ha) Q k) F' H' w) : VS (cxP Tryz.prog w1 N ad hd ha) Q (.code (.region id ops false) :: k) F H w := VS.region (cxP_ok _ _) (VO.run 80 e h)
theorem cxP_d {ad : List Nat} {hd : ad.Nodup} {ha : AdOk KP ad w1} (e : runD (cxP Tryz.prog w1 N ad hd ha) ops 80 ops.toList F H = (l', F', H')) (h : vcOps (cxP Tryz.prog w1 N ad hd ha) (some []) ops l' (VS (cxP Tryz.prog w1 N ad hd ha) Q k) F' H' w) (hchk : drawOk (cxP Tryz.prog w1 N ad hd ha).SU [] ops = true := by kernel_rfl) : VS (cxP Tryz.prog w1 N ad hd ha) Q (.code (.region id ops true) :: k) F H w := VS.draw (cxP_ok _ _) (cxP_mixed _ _) [] hchk (VO.run 80 e h)
end
structure LedR (kk : Nat) (w : World) (g r n c : Nat) (vs : List (List Value)) (spare : List Value) (l : List RExp) : Prop where
 len : n = l.length
 ne : g ≠ r
 led : Cls w g 122 #[.slice (some ⟨r, 0, none⟩) n c]
 row : Cls w r 36 (vs.flatten ++ spare).toArray
 el : RowE (ExpE kk) w l vs
 ok : spare.all okCell = true
 le : n ≤ c
 cm : c ≤ 9223372036854775807
 fl : (vs.flatten ++ spare).length = c * 6
def LedAt (kk : Nat) (w : World) (B g : Nat) (l : List RExp) : Prop :=
 (l = [] ∧ Cls w g 122 #[.slice none 0 0]) ∨ ∃ r n c vs spare, B ≤ r ∧ LedR kk w g r n c vs spare l
theorem tNew_any (w : World) : Calls Tryz.prog 35 #[] w fun o w' => ∃ g, o = .returned (.pointer (some ⟨g, 0, none⟩)) ∧ w.heap.size ≤ g ∧ Cls w' g 122 #[.slice none 0 0] ∧ Beh w w' := by
 refine calm_enter (C := cxOf Tryz.prog w _) (args := []) Tryz.func35 rfl Tryz.ntmps35 (Nat.le_of_ble_eq_true rfl) ?_
 (repeat first|refine wN ?_|refine wP rfl ?_|refine cx_r rfl ?_|refine cx_d rfl ?_|refine wO rfl rfl ?_)
 refine VS.retA (cx_ok _ _) rfl (fun wz β kz bz en => ?_)
 exact ⟨_, rfl, (en.own 2 _ _ rfl).new, (en.own 2 _ _ rfl).cls, bz⟩
end Go.Proofs.YtohlmpibnnkanaaGreat
/- A ledger of expenses: Put. -/
namespace Go.Proofs.YtohlmpibnnkanaaGreat
open Go.RowKit
attribute [local irreducible] vcOps VS

def eput1 (l : List RExp) (e : RExp) : List RExp := if ewrong e.exp = true then l else if e.exp.2.2.2 = 0 then l else l ++ [e]
def Left (w : World) (r : Nat) : Prop := ∃ (t : TypeId) (cs : List Value), Cls w r t cs.toArray ∧ KP.fz t = false ∧ cs.all okCell = true
set_option maxRecDepth 4000 in
set_option maxHeartbeats 4000000 in
theorem tPut_row (g r n c : Nat) (vs : List (List Value)) (spare : List Value) (l : List RExp) (v : Value) (y m : Int) (s : Bool) (xs : List Nat) (t : Bool) (ys : List Nat) (kk : Nat) (w : World)
  (hL : LedR kk w g r n c vs spare l) (hv : RatRaw w v s xs t ys) (hy : i64b y) (hm : i64b m) (hx1 : xs.length ≤ kk) (hx2 : ys.length ≤ kk) (hk : kk ≤ 1024) (hn64 : n ≤ 1000) :
  Calls Tryz.prog 36 #[.pointer (some ⟨g, 0, none⟩), .int .i64 y, .int .i64 m, v] w fun o w' => o = .returned (.int .i64 (if ewrong (RExp.exp (y, m, s, xs, t, ys)) = true then 2 else 0)) ∧ But [g, r] w w' ∧ Left w' r ∧
   ∃ r' n' c' vs' spare', (w.heap.size ≤ r' ∨ r' = r) ∧ LedR kk w' g r' n' c' vs' spare' (eput1 l (y, m, s, xs, t, ys)) := by
 obtain ⟨hnl, hgr, hg, hr, hrow, hsp, hnc, hcm, hlen⟩ := hL
 obtain ⟨e, hee⟩ : ∃ e : RExp, e = (y, m, s, xs, t, ys) := ⟨_, rfl⟩
 rw [← hee]
 have hin := hv.in hx1 hx2
 have hraw := hv
 obtain ⟨p, cp, q, cq, rfl, -⟩ := hv.form'
 have hE0 : ExpE kk w [.int .i64 y, .int .i64 m, .bool s, .slice p xs.length cp, .bool t, .slice q ys.length cq] e := by rw [hee]; exact ⟨_, _, _, _, rfl, hy, hm, hraw, hx1, hx2⟩
 have hq : e.exp.2.2.2 = rq s xs t ys := by rw [hee]; rfl
 obtain ⟨hok1, hln1⟩ := hrow.ok (exp_ok kk)
 have hcells : (vs.flatten.map AV.val ++ spare.map AV.val).all okLeaf = true := by rw [← List.map_append]; exact vals_ok (by rw [List.all_append, hok1, hsp]; rfl)
 have hsl : AdsOk KP 51 [g, r] [(122, [.row 103 0 n c]), (36, vs.flatten.map .val ++ spare.map .val)] w := by
  refine ⟨rfl, by simp [hgr], fun j g' c' hj hc => ?_, fun c' hc => ?_, fun c' hc k hk => ?_⟩
  ·match j, hj, hc with
   | 0, hj, hc => cases hj; cases hc; exact hg
   | 1, hj, hc => cases hj; cases hc; rw [← List.map_append, leaf_vals]; exact hr
   | j + 2, hj, _ => simp at hj
  ·rcases List.mem_cons.1 hc with rfl | hc
   ·exact ⟨rfl, rfl⟩
   ·cases List.mem_singleton.1 hc
    exact ⟨rfl, hcells⟩
  ·rcases List.mem_cons.1 hc with rfl | hc
   ·have : k = 103 := by simpa [lidsOf, AV.lids] using hk
    subst this; exact ⟨by omega, by show 103 < 2 * 51 + 2; omega⟩
   ·cases List.mem_singleton.1 hc
    rw [← List.map_append, lidsOf_vals] at hk; cases hk
 refine calm_enterN Tryz.prog w _ KP (fun t => Nat.beq t 29) table (fun _ _ => trivial) (ad := [g, r]) (us := [_, _, _]) Tryz.func36 rfl Tryz.ntmps36 (Nat.le_of_ble_eq_true rfl) hsl (Nat.le_of_ble_eq_true rfl) ?_
 (repeat first|refine wN ?_|refine wP rfl ?_|refine cxP_r rfl ?_|refine cxP_d rfl ?_|refine wO rfl rfl ?_)
 cases hw : ewrong e.exp with
 | true =>
  have hp : eput1 l e = l := if_pos hw
  refine VO.call rfl rfl (fk Tryz.func62) (fun wa1 ka1 ba1 => (twrong_any _ e kk wa1 ⟨_, rfl, hE0.kp ka1⟩ (by omega) 2 (by rw [hw]; rfl)).mono ?_)
  rintro e w1 ⟨rfl, hb1⟩
  skip
  refine ⟨_, rfl, hb1, fun kb1 _ bb1 => wV rfl ?_⟩
  (repeat first|refine wN ?_|refine wP rfl ?_|refine cxP_r rfl ?_|refine cxP_d rfl ?_|refine wO rfl rfl ?_)
  refine VO.call rfl rfl (fk Tryz.func62) (fun wa2 ka2 ba2 => (twrong_any _ e kk wa2 ⟨_, rfl, hE0.kp (kb1.thn ka2)⟩ (by omega) 2 (by rw [hw]; rfl)).mono ?_)
  rintro e w2 ⟨rfl, hb2⟩
  skip
  refine ⟨_, rfl, hb2, fun kb2 _ bb2 => wV rfl ?_⟩
  (repeat first|refine wN ?_|refine wP rfl ?_|refine cxP_r rfl ?_|refine cxP_d rfl ?_|refine wO rfl rfl ?_)
  refine VS.retA (cxP_ok _ _) rfl (fun wz β kz oz en => ?_)
  rw [hp]
  obtain ⟨o1, o2⟩ := ownN (en.own 102 _ _ rfl) 0 g rfl rfl
  obtain ⟨o3, o4⟩ := ownN (en.own 103 _ _ rfl) 1 r rfl rfl
  rw [List.map_append, leaf_vals, leaf_vals] at o4
  refine ⟨rfl, oz.1, oz.2 r (by simp), r, n, c, vs, spare, .inr rfl, hnl, hgr, ?_, o4, hrow.kp (exp_ok kk) (Kp.of (U := UU) (Beh.refl _) |>.thn ?_), hsp, hnc, hcm, hlen⟩
  ·have : β 103 = r := o3
   rw [← this]; exact o2
  ·exact ((kb1.thn kb2).thn kz).weak
 | false =>
  have hn65 : ((n : Int) == 65536) = false := by rw [beq_eq_false_iff_ne]; omega
  refine VO.call rfl rfl (fk Tryz.func62) (fun wa1 ka1 ba1 => (twrong_any _ e kk wa1 ⟨_, rfl, hE0.kp ka1⟩ (by omega) 0 (by rw [hw]; rfl)).mono ?_)
  rintro e w1 ⟨rfl, hb1⟩
  skip
  refine ⟨_, rfl, hb1, fun kb1 _ bb1 => wV rfl ?_⟩
  (repeat first|refine wN ?_|refine wP rfl ?_|refine cxP_r rfl ?_|refine cxP_d rfl ?_|refine wO rfl rfl ?_)
  refine VS.condN rfl hn65 ?_
  (repeat first|refine wN ?_|refine wP rfl ?_|refine cxP_r rfl ?_|refine cxP_d rfl ?_|refine wO rfl rfl ?_)
  by_cases hq0 : rq s xs t ys = 0
  ·have hp : eput1 l e = l := by unfold eput1; rw [hw, if_neg (by simp), if_pos (hq.trans hq0)]
   refine VO.call rfl rfl (fk Tryz.func20) (fun wa2 ka2 ba2 => (ratSign_ok _ (rq s xs t ys) kk wa2 (hin.kp (kb1.thn ka2)) (by omega) 0 (rcmp_zero' hq0)).mono ?_)
   rintro e w2 ⟨rfl, hb2⟩
   skip
   refine ⟨_, rfl, hb2, fun kb2 _ bb2 => wV rfl ?_⟩
   (repeat first|refine wN ?_|refine wP rfl ?_|refine cxP_r rfl ?_|refine cxP_d rfl ?_|refine wO rfl rfl ?_)
   refine VS.retA (cxP_ok _ _) rfl (fun wz β kz oz en => ?_)
   rw [hp]
   obtain ⟨o1, o2⟩ := ownN (en.own 102 _ _ rfl) 0 g rfl rfl
   obtain ⟨o3, o4⟩ := ownN (en.own 103 _ _ rfl) 1 r rfl rfl
   rw [List.map_append, leaf_vals, leaf_vals] at o4
   refine ⟨rfl, oz.1, oz.2 r (by simp), r, n, c, vs, spare, .inr rfl, hnl, hgr, ?_, o4, hrow.kp (exp_ok kk) ((kb1.thn kb2).thn kz).weak, hsp, hnc, hcm, hlen⟩
   have : β 103 = r := o3
   rw [← this]; exact o2
  ·have hp : eput1 l e = l ++ [e] := by unfold eput1; rw [hw, if_neg (by simp), if_neg (fun h => hq0 (hq.symm.trans h))]
   obtain ⟨sg, hsg⟩ : ∃ sg, rcmp (rq s xs t ys) 0 = sg := ⟨_, rfl⟩
   have hsg0 : sg ≠ 0 := by rw [← hsg]; exact rcmp_ne hq0
   refine VO.call rfl rfl (fk Tryz.func20) (fun wa2 ka2 ba2 => (ratSign_ok _ (rq s xs t ys) kk wa2 (hin.kp (kb1.thn ka2)) (by omega) sg hsg).mono ?_)
   rintro e w2 ⟨rfl, hb2⟩
   skip
   refine ⟨_, rfl, hb2, fun kb2 _ bb2 => wV rfl ?_⟩
   (repeat first|refine wN ?_|refine wP rfl ?_|refine cxP_r rfl ?_|refine cxP_d rfl ?_|refine wO rfl rfl ?_)
   refine VS.condY rfl (by simp [hsg0]) ?_
   (repeat first|refine wN ?_|refine wP rfl ?_|refine cxP_r rfl ?_|refine cxP_d rfl ?_|refine wO rfl rfl ?_)
   refine VO.callF rfl (fk Tryz.func42) (fun wa3 β ka3 ba3 ho => (ratSum_any _ [rq s xs t ys] kk wa3 (ownV_rats (ho.own 36 (.base (List.mem_singleton.2 rfl)) _ _ rfl) [] (vs := [[.bool s, .slice p xs.length cp, .bool t, .slice q ys.length cq]]) (by rfl) rfl (RatRow.cons (hin.kp ((kb1.thn kb2).thn ka3)) RatRow.nil) (Nat.le_of_ble_eq_true rfl) (by decide)) (by unfold stepSz up1; simp; omega)).mono ?_)
   rintro o w3 ⟨r3, rfl, q3, hs3, hb3⟩
   rw [rsum_one] at q3
   have hraw3 := q3.rd.raw
   have hrt : rtB s xs t ys = true := by have := (ewrong_no hw).2.2.2.2; rw [hee] at this; exact this
   obtain ⟨hr1, hr2, hr3, hr4⟩ := rt_canon hrt hraw.lims.1 hraw.lims.2
   rw [hr1, hr2, hr3, hr4] at hraw3
   obtain ⟨p4, c4, y4, d4, rfl, -⟩ := hraw3.form'
   refine ⟨_, rfl, hb3, fun kb3 _ bb3 => wV rfl ?_⟩
   (repeat first|refine wN ?_|refine wP rfl ?_|refine cxP_r rfl ?_|refine cxP_d rfl ?_|refine wO rfl rfl ?_)
   have hE3 : ExpE kk w3 [.int .i64 y, .int .i64 m, .bool s, .slice p4 xs.length c4, .bool t, .slice y4 ys.length d4] e := by rw [hee]; exact ⟨_, _, _, _, rfl, hy, hm, hraw3, hx1, hx2⟩
   refine VO.app (cxP_ok _ _) (t := 22) (e := 36) (sz := 6) (n := n) (c := c) (mm := 1) (known := vs.flatten.map .val) (spare := spare.map .val) (del := some 103) (news := ([.int .i64 y, .int .i64 m, .bool s, .slice p4 xs.length c4, .bool t, .slice y4 ys.length d4] : List Value).map .val) (dst := 47) rfl rfl rfl rfl rfl rfl rfl rfl (Nat.le_of_ble_eq_true rfl) rfl (.inr ⟨103, rfl, rfl, rfl⟩) (.inl rfl) (by rw [List.length_map, hln1, hnl]) (by rw [← List.map_append, List.length_map]; exact hlen) hnc hcm ⟨lidsOf_vals _, lidsOf_vals _, rfl⟩ ⟨vals_ok hok1, vals_ok hsp, rfl⟩ rfl (by omega)
    (fun w1 β k1 b1 ho => ⟨_, _, rfl, .inr ⟨β 46, 0, rfl, own_src (rest := []) (ho.own 46 (.base (List.mem_append_right _ (List.mem_singleton.2 rfl))) _ _ rfl) rfl⟩⟩)
    (fun w13 cap' spare' ρ k13 b13 hρ hc1 hc2 hlen2 hok' hlid' => wV rfl ?_)
   (repeat first|refine wN ?_|refine wP rfl ?_|refine cxP_r rfl ?_|refine cxP_d rfl ?_|refine wO rfl rfl ?_)
   refine VS.retA (cxP_ok _ _) rfl (fun wz β kz oz en => ?_)
   rw [hp]
   obtain ⟨o1, o2⟩ := ownN (en.own 102 _ _ rfl) 0 g rfl rfl
   have o3 := en.own 47 _ _ rfl
   have o5 : β 47 ≠ g := fun e => absurd (en.apart 102 47 (by intro h; cases h) (by intro h; cases h) (o1.trans e.symm)) (by decide)
   have o6 : w.heap.size ≤ β 47 ∨ β 47 = r := by
    have := newA_cases (show NewA 51 [g, r] w 47 (β 47) from o3.new)
    simpa [o5] using this
   have o7 := o3.cls
   rw [List.map_append, List.map_append, leaf_vals, leaf_vals] at o7
   refine ⟨rfl, oz.1, oz.2 r (by simp), β 47, n + 1, cap', vs ++ [[.int .i64 y, .int .i64 m, .bool s, .slice p4 xs.length c4, .bool t, .slice y4 ys.length d4]], spare'.map (AV.leaf β), o6, by simp [hnl], fun e => o5 e.symm, o2, ?_, ?_, okLeafs hok', hc1, hc2, ?_⟩
   ·rw [List.flatten_append]; exact o7
   ·exact (hrow.kp (exp_ok kk) ((kb1.thn kb2).thn (kb3.thn (k13.thn kz))).weak).snoc (hE3.kp (k13.thn kz).weak)
   ·have := hlen2
    simp only [List.length_append, List.length_map, List.length_cons, List.length_nil, List.flatten_append, List.flatten_cons, List.flatten_nil, List.append_nil] at this ⊢
    omega
end Go.Proofs.YtohlmpibnnkanaaGreat
/- A ledger of expenses: Put, where there is no row yet; and what may not be put. -/
namespace Go.Proofs.YtohlmpibnnkanaaGreat
open Go.RowKit
attribute [local irreducible] vcOps VS

theorem tPut_wrong (a : Addr) (v : Value) (y m : Int) (s : Bool) (xs : List Nat) (t : Bool) (ys : List Nat) (kk : Nat) (w : World)
  (hv : RatRaw w v s xs t ys) (hy : i64b y) (hm : i64b m) (hx1 : xs.length ≤ kk) (hx2 : ys.length ≤ kk) (hk : kk ≤ 1024) (hw : ewrong (RExp.exp (y, m, s, xs, t, ys)) = true) :
  Calls Tryz.prog 36 #[.pointer (some a), .int .i64 y, .int .i64 m, v] w fun o w' => o = .returned (.int .i64 2) ∧ Beh w w' := by
 have hraw := hv
 obtain ⟨p, cp, q, cq, rfl, -⟩ := hv.form'
 have hE0 : ExpE kk w [.int .i64 y, .int .i64 m, .bool s, .slice p xs.length cp, .bool t, .slice q ys.length cq] (y, m, s, xs, t, ys) := ⟨_, _, _, _, rfl, hy, hm, hraw, hx1, hx2⟩
 have hEV : ExpV kk w (.agg #[.int .i64 y, .int .i64 m, .bool s, .slice p xs.length cp, .bool t, .slice q ys.length cq]) (y, m, s, xs, t, ys) := ⟨_, rfl, hE0⟩
 refine calm_enter (C := cxOf Tryz.prog w _) (args := [_, _, _, _]) Tryz.func36 rfl Tryz.ntmps36 (Nat.le_of_ble_eq_true rfl) ?_
 (repeat first|refine wN ?_|refine wP rfl ?_|refine cx_r rfl ?_|refine cx_d rfl ?_|refine wO rfl rfl ?_)
 refine VO.call rfl rfl (fk Tryz.func62) (fun wa1 ka1 ba1 => (twrong_any _ _ kk wa1 hEV.k (by omega) 2 (by rw [hw]; rfl)).mono ?_)
 rintro e w1 ⟨rfl, hb1⟩
 skip
 refine ⟨_, rfl, hb1, fun kb1 _ bb1 => wV rfl ?_⟩
 (repeat first|refine wN ?_|refine wP rfl ?_|refine cx_r rfl ?_|refine cx_d rfl ?_|refine wO rfl rfl ?_)
 refine VO.call rfl rfl (fk Tryz.func62) (fun wa2 ka2 ba2 => (twrong_any _ _ kk wa2 hEV.k (by omega) 2 (by rw [hw]; rfl)).mono ?_)
 rintro e w2 ⟨rfl, hb2⟩
 skip
 refine ⟨_, rfl, hb2, fun kb2 _ bb2 => wV rfl ?_⟩
 (repeat first|refine wN ?_|refine wP rfl ?_|refine cx_r rfl ?_|refine cx_d rfl ?_|refine wO rfl rfl ?_)
 refine VS.ret (cx_ok _ _) rfl rfl (fun wz kz bz => ?_)
 exact ⟨rfl, bz⟩
theorem tPut_null (v : Value) (y m : Int) (s : Bool) (xs : List Nat) (t : Bool) (ys : List Nat) (w : World) (hv : RatRaw w v s xs t ys) :
  Calls Tryz.prog 36 #[.pointer none, .int .i64 y, .int .i64 m, v] w fun o w' => o = .returned (.int .i64 1) ∧ Beh w w' := by
 obtain ⟨p, cp, q, cq, rfl, -⟩ := hv.form'
 refine calm_enter (C := cxOf Tryz.prog w _) (args := [_, _, _, _]) Tryz.func36 rfl Tryz.ntmps36 (Nat.le_of_ble_eq_true rfl) ?_
 (repeat first|refine wN ?_|refine wP rfl ?_|refine cx_r rfl ?_|refine cx_d rfl ?_|refine wO rfl rfl ?_)
 refine VS.ret (cx_ok _ _) rfl rfl (fun wz kz bz => ?_)
 exact ⟨rfl, bz⟩
set_option maxRecDepth 4000 in
set_option maxHeartbeats 4000000 in
theorem tPut_nil (g : Nat) (v : Value) (y m : Int) (s : Bool) (xs : List Nat) (t : Bool) (ys : List Nat) (kk : Nat) (w : World)
  (hg : Cls w g 122 #[.slice none 0 0]) (hv : RatRaw w v s xs t ys) (hy : i64b y) (hm : i64b m) (hx1 : xs.length ≤ kk) (hx2 : ys.length ≤ kk) (hk : kk ≤ 1024) :
  Calls Tryz.prog 36 #[.pointer (some ⟨g, 0, none⟩), .int .i64 y, .int .i64 m, v] w fun o w' => o = .returned (.int .i64 (if ewrong (RExp.exp (y, m, s, xs, t, ys)) = true then 2 else 0)) ∧ But [g] w w' ∧ LedAt kk w' w.heap.size g (eput1 [] (y, m, s, xs, t, ys)) ∧ (eput1 [] (y, m, s, xs, t, ys) = [] → Cls w' g 122 #[.slice none 0 0]) := by
 obtain ⟨e, hee⟩ : ∃ e : RExp, e = (y, m, s, xs, t, ys) := ⟨_, rfl⟩
 rw [← hee]
 have hin := hv.in hx1 hx2
 have hraw := hv
 obtain ⟨p, cp, q, cq, rfl, -⟩ := hv.form'
 have hE0 : ExpE kk w [.int .i64 y, .int .i64 m, .bool s, .slice p xs.length cp, .bool t, .slice q ys.length cq] e := by rw [hee]; exact ⟨_, _, _, _, rfl, hy, hm, hraw, hx1, hx2⟩
 have hq : e.exp.2.2.2 = rq s xs t ys := by rw [hee]; rfl
 have hsl : AdsOk KP 51 [g] [(122, [.val (.slice none 0 0)])] w := by
  refine ⟨rfl, by simp, fun j g' c' hj hc => ?_, fun c' hc => ?_, fun c' hc k hk => ?_⟩
  ·match j, hj, hc with
   | 0, hj, hc => cases hj; cases hc; exact hg
   | j + 1, hj, _ => simp at hj
  ·cases List.mem_singleton.1 hc; exact ⟨rfl, rfl⟩
  ·cases List.mem_singleton.1 hc; cases hk
 refine calm_enterN Tryz.prog w _ KP (fun t => Nat.beq t 29) table (fun _ _ => trivial) (ad := [g]) (us := [_, _, _]) Tryz.func36 rfl Tryz.ntmps36 (Nat.le_of_ble_eq_true rfl) hsl (Nat.le_of_ble_eq_true rfl) ?_
 (repeat first|refine wN ?_|refine wP rfl ?_|refine cxP_r rfl ?_|refine cxP_d rfl ?_|refine wO rfl rfl ?_)
 cases hw : ewrong e.exp with
 | true =>
  have hp : eput1 [] e = [] := if_pos hw
  refine VO.call rfl rfl (fk Tryz.func62) (fun wa1 ka1 ba1 => (twrong_any _ e kk wa1 ⟨_, rfl, hE0.kp ka1⟩ (by omega) 2 (by rw [hw]; rfl)).mono ?_)
  rintro e w1 ⟨rfl, hb1⟩
  skip
  refine ⟨_, rfl, hb1, fun kb1 _ bb1 => wV rfl ?_⟩
  (repeat first|refine wN ?_|refine wP rfl ?_|refine cxP_r rfl ?_|refine cxP_d rfl ?_|refine wO rfl rfl ?_)
  refine VO.call rfl rfl (fk Tryz.func62) (fun wa2 ka2 ba2 => (twrong_any _ e kk wa2 ⟨_, rfl, hE0.kp (kb1.thn ka2)⟩ (by omega) 2 (by rw [hw]; rfl)).mono ?_)
  rintro e w2 ⟨rfl, hb2⟩
  skip
  refine ⟨_, rfl, hb2, fun kb2 _ bb2 => wV rfl ?_⟩
  (repeat first|refine wN ?_|refine wP rfl ?_|refine cxP_r rfl ?_|refine cxP_d rfl ?_|refine wO rfl rfl ?_)
  refine VS.retA (cxP_ok _ _) rfl (fun wz β kz oz en => ?_)
  rw [hp]
  obtain ⟨o1, o2⟩ := ownN (en.own 102 _ _ rfl) 0 g rfl rfl
  exact ⟨rfl, oz.1, .inl ⟨rfl, o2⟩, fun _ => o2⟩
 | false =>
  refine VO.call rfl rfl (fk Tryz.func62) (fun wa1 ka1 ba1 => (twrong_any _ e kk wa1 ⟨_, rfl, hE0.kp ka1⟩ (by omega) 0 (by rw [hw]; rfl)).mono ?_)
  rintro e w1 ⟨rfl, hb1⟩
  skip
  refine ⟨_, rfl, hb1, fun kb1 _ bb1 => wV rfl ?_⟩
  (repeat first|refine wN ?_|refine wP rfl ?_|refine cxP_r rfl ?_|refine cxP_d rfl ?_|refine wO rfl rfl ?_)
  by_cases hq0 : rq s xs t ys = 0
  ·have hp : eput1 [] e = [] := by unfold eput1; rw [hw, if_neg (by simp), if_pos (hq.trans hq0)]
   refine VO.call rfl rfl (fk Tryz.func20) (fun wa2 ka2 ba2 => (ratSign_ok _ (rq s xs t ys) kk wa2 (hin.kp (kb1.thn ka2)) (by omega) 0 (rcmp_zero' hq0)).mono ?_)
   rintro e w2 ⟨rfl, hb2⟩
   skip
   refine ⟨_, rfl, hb2, fun kb2 _ bb2 => wV rfl ?_⟩
   (repeat first|refine wN ?_|refine wP rfl ?_|refine cxP_r rfl ?_|refine cxP_d rfl ?_|refine wO rfl rfl ?_)
   refine VS.retA (cxP_ok _ _) rfl (fun wz β kz oz en => ?_)
   rw [hp]
   obtain ⟨o1, o2⟩ := ownN (en.own 102 _ _ rfl) 0 g rfl rfl
   exact ⟨rfl, oz.1, .inl ⟨rfl, o2⟩, fun _ => o2⟩
  ·have hp : eput1 [] e = [e] := by unfold eput1; rw [hw, if_neg (by simp), if_neg (fun h => hq0 (hq.symm.trans h))]; rfl
   obtain ⟨sg, hsg⟩ : ∃ sg, rcmp (rq s xs t ys) 0 = sg := ⟨_, rfl⟩
   have hsg0 : sg ≠ 0 := by rw [← hsg]; exact rcmp_ne hq0
   refine VO.call rfl rfl (fk Tryz.func20) (fun wa2 ka2 ba2 => (ratSign_ok _ (rq s xs t ys) kk wa2 (hin.kp (kb1.thn ka2)) (by omega) sg hsg).mono ?_)
   rintro e w2 ⟨rfl, hb2⟩
   skip
   refine ⟨_, rfl, hb2, fun kb2 _ bb2 => wV rfl ?_⟩
   (repeat first|refine wN ?_|refine wP rfl ?_|refine cxP_r rfl ?_|refine cxP_d rfl ?_|refine wO rfl rfl ?_)
   refine VS.condY rfl (by simp [hsg0]) ?_
   (repeat first|refine wN ?_|refine wP rfl ?_|refine cxP_r rfl ?_|refine cxP_d rfl ?_|refine wO rfl rfl ?_)
   refine VO.callF rfl (fk Tryz.func42) (fun wa3 β ka3 ba3 ho => (ratSum_any _ [rq s xs t ys] kk wa3 (ownV_rats (ho.own 36 (.base (List.mem_singleton.2 rfl)) _ _ rfl) [] (vs := [[.bool s, .slice p xs.length cp, .bool t, .slice q ys.length cq]]) (by rfl) rfl (RatRow.cons (hin.kp ((kb1.thn kb2).thn ka3)) RatRow.nil) (Nat.le_of_ble_eq_true rfl) (by decide)) (by unfold stepSz up1; simp; omega)).mono ?_)
   rintro o w3 ⟨r3, rfl, q3, hs3, hb3⟩
   rw [rsum_one] at q3
   have hraw3 := q3.rd.raw
   have hrt : rtB s xs t ys = true := by have := (ewrong_no hw).2.2.2.2; rw [hee] at this; exact this
   obtain ⟨hr1, hr2, hr3, hr4⟩ := rt_canon hrt hraw.lims.1 hraw.lims.2
   rw [hr1, hr2, hr3, hr4] at hraw3
   obtain ⟨p4, c4, y4, d4, rfl, -⟩ := hraw3.form'
   refine ⟨_, rfl, hb3, fun kb3 _ bb3 => wV rfl ?_⟩
   (repeat first|refine wN ?_|refine wP rfl ?_|refine cxP_r rfl ?_|refine cxP_d rfl ?_|refine wO rfl rfl ?_)
   have hE3 : ExpE kk w3 [.int .i64 y, .int .i64 m, .bool s, .slice p4 xs.length c4, .bool t, .slice y4 ys.length d4] e := by rw [hee]; exact ⟨_, _, _, _, rfl, hy, hm, hraw3, hx1, hx2⟩
   refine VO.app (cxP_ok _ _) (t := 22) (e := 36) (sz := 6) (n := 0) (c := 0) (mm := 1) (known := []) (spare := []) (del := none) (news := ([.int .i64 y, .int .i64 m, .bool s, .slice p4 xs.length c4, .bool t, .slice y4 ys.length d4] : List Value).map .val) (dst := 47) rfl rfl rfl rfl rfl rfl rfl rfl (Nat.le_of_ble_eq_true rfl) rfl (.inl ⟨rfl, rfl, rfl, rfl, rfl, rfl, by omega⟩) (.inl rfl) rfl rfl (Nat.le_refl _) (by omega) ⟨rfl, rfl, rfl⟩ ⟨rfl, rfl, rfl⟩ rfl (by omega)
    (fun w1 β k1 b1 ho => ⟨_, _, rfl, .inr ⟨β 46, 0, rfl, own_src (rest := []) (ho.own 46 (.base (List.mem_append_right _ (List.mem_singleton.2 rfl))) _ _ rfl) rfl⟩⟩)
    (fun w13 cap' spare' ρ k13 b13 hρ hc1 hc2 hlen2 hok' hlid' => wV rfl ?_)
   (repeat first|refine wN ?_|refine wP rfl ?_|refine cxP_r rfl ?_|refine cxP_d rfl ?_|refine wO rfl rfl ?_)
   refine VS.retA (cxP_ok _ _) rfl (fun wz β kz oz en => ?_)
   rw [hp]
   obtain ⟨o1, o2⟩ := ownN (en.own 102 _ _ rfl) 0 g rfl rfl
   have o3 := en.own 47 _ _ rfl
   have o5 : β 47 ≠ g := fun e => absurd (en.apart 102 47 (by intro h; cases h) (by intro h; cases h) (o1.trans e.symm)) (by decide)
   have o6 : w.heap.size ≤ β 47 := by
    have := newA_cases (show NewA 51 [g] w 47 (β 47) from o3.new)
    simpa [o5] using this
   have o7 := o3.cls
   rw [List.map_append, List.map_append, leaf_vals] at o7
   refine ⟨rfl, oz.1, .inr ⟨β 47, 1, cap', [[.int .i64 y, .int .i64 m, .bool s, .slice p4 xs.length c4, .bool t, .slice y4 ys.length d4]], spare'.map (AV.leaf β), o6, rfl, fun e => o5 e.symm, o2, ?_, ?_, okLeafs hok', by omega, hc2, ?_⟩, fun h => by cases h⟩
   ·exact o7
   ·exact .cons (hE3.kp (k13.thn kz).weak) .nil
   ·have := hlen2
    simp only [List.length_append, List.length_map, List.length_cons, List.length_nil, List.flatten_cons, List.flatten_nil, List.append_nil] at this ⊢
    omega
end Go.Proofs.YtohlmpibnnkanaaGreat
/- A call of New, or of Put, in a function that holds the ledger's blocks as own variables. -/
namespace Go.Proofs.YtohlmpibnnkanaaGreat
open Go.RowKit

section
variable {C : Cx} {F : Fr} {H : Hp} {w : World} {m : Option (List FuncId)} {full : Array Oper} {K : Fr → Hp → World → Prop} {o : Oper} {r : List Oper}
theorem VO.callB {d : Doer} {dst : Nat} {t : TypeId} {cs : List Value} (e : stepOf C full F H o = .call d) (hd : o.dst = some dst) (h0 : H dst = none) (hN : dst < C.N) (hl : 1 ≤ lvl C.SU m o) (ht : C.K.fz t = false) (hc : cs.all okCell = true)
  (h : ∀ w1 β, KpS C.K w w1 → C.Old w1 → OwnAt C β H d.ids w1 → Does C.P d β w1 fun e w2 => ∃ g, e = .returned (.pointer (some ⟨g, 0, none⟩)) ∧ Beh w1 w2 ∧ w1.heap.size ≤ g ∧ Cls w2 g t cs.toArray ∧
   (KpS C.K w w2 → KpS C.K w1 w2 → C.Old w2 → vcOps C m full r K (F.puto o.dst (.box dst 0)) (H.put dst (t, cs.map .val)) w2)) : vcOps C m full (o :: r) K F H w := by
 show one C m full o (vcOps C m full r K) F H w
 unfold one
 rw [e]
 refine fun w1 β h1 h2 h3 => (h w1 β h1 h2 h3).mono ?_
 rintro e w2 ⟨g, rfl, hb, q1, q2, k2⟩
 let β' : Nat → Nat := fun i => if i = dst then g else β i
 have hbd : β' dst = g := if_pos rfl
 refine ⟨β', .box dst 0, none, [(dst, (t, cs.map AV.val))], ?_, fun i hi => .inl (by simpa [AV.ids] using hi), .inl hl, .inr rfl, ?_, fun a1 a2 a3 _ _ => k2 a1 a2 a3⟩
 ·show Ending.returned _ = .returned (Value.pointer (some ⟨β' dst, 0, none⟩)); rw [hbd]
 ·refine ⟨hb.os, hb.tape, hb.output, hb.size, fun k hk _ _ _ => Below.block hb k hk, fun i hi => if_neg (by simpa using hi), fun i hi => (by cases hi), fun i hi => (by cases hi), fun x hx => ?_, fun x hx => ?_, by simp, fun x hx y hy _ => ?_, fun x hx j hj => ?_⟩
  ·cases List.mem_singleton.1 hx
   refine ⟨by rw [hbd]; exact C.newOf _ _ (by omega) (by have := C.oldSize _ h2; omega), ht, ?_, vals_ok hc⟩
   rw [hbd, leaf_vals]; exact q2
  ·cases List.mem_singleton.1 hx
   exact .inr ⟨.inl h0, by omega, .inl (by rw [hbd]; exact q1)⟩
  ·cases List.mem_singleton.1 hx; cases List.mem_singleton.1 hy; rfl
  ·cases List.mem_singleton.1 hx
   rw [lidsOf_vals] at hj; cases hj
theorem row_lids (i o n c : Nat) : lidsOf [AV.row i o n c] = [i] := rfl
theorem VO.callPut0 {d1 d2 : Nat} {v : Value} {y z : Int} {s : Bool} {xs : List Nat} {t : Bool} {ys : List Nat} (kk : Nat) {code : Int} {l' : List RExp} (hcode : (if ewrong (RExp.exp (y, z, s, xs, t, ys)) = true then (2 : Int) else 0) = code) (hl' : eput1 [] (y, z, s, xs, t, ys) = l') (hP : C.P = Tryz.prog) (e : stepOf C full F H o = .call (.fn 36 [.box d1 0, .val (.int .i64 y), .val (.int .i64 z), .val v])) (hf : FnOk C.P 36)
  (h1 : H d1 = some (122, [.val (.slice none 0 0)])) (h2 : H d2 = none) (hne : d1 ≠ d2) (hd2 : d2 < 2 * C.N) (hl : 1 ≤ lvl C.SU m o) (ht2 : C.K.fz 36 = false)
  (hv : ∀ w1, KpS C.K w w1 → C.Old w1 → RatRaw w1 v s xs t ys) (hy : i64b y) (hz : i64b z) (hx1 : xs.length ≤ kk) (hx2 : ys.length ≤ kk) (hk : kk ≤ 1024)
  (k1 : ∀ w2, KpS C.K w w2 → C.Old w2 → l' = [] → vcOps C m full r K (F.puto o.dst (.val (.int .i64 code))) (H.put d1 (122, [.val (.slice none 0 0)])) w2)
  (k2 : ∀ w2 n c vs spare, KpS C.K w w2 → C.Old w2 → l' ≠ [] → n = l'.length → RowE (ExpE kk) w2 l' vs → spare.all okCell = true → n ≤ c → c ≤ 9223372036854775807 → (vs.flatten ++ spare).length = c * 6 →
   vcOps C m full r K (F.puto o.dst (.val (.int .i64 code))) ((H.put d1 (122, [.row d2 0 n c])).put d2 (36, vs.flatten.map .val ++ spare.map .val)) w2) : vcOps C m full (o :: r) K F H w := by
 subst hcode hl'
 show one C m full o (vcOps C m full r K) F H w
 unfold one
 rw [e]
 intro w1 β a1 a2 a3
 have hr1 : Reach H (Doer.fn 36 [.box d1 0, .val (.int .i64 y), .val (.int .i64 z), .val v]).ids d1 := .base (by simp [Doer.ids, idsOf, AV.ids])
 have o1 := a3.own d1 hr1 _ _ h1
 refine ⟨hf, (Calls.mono (show Calls C.P 36 #[.pointer (some ⟨β d1, 0, none⟩), .int .i64 y, .int .i64 z, v] w1 _ from hP ▸ tPut_nil (β d1) v y z s xs t ys kk w1 o1.cls (hv w1 a1 a2) hy hz hx1 hx2 hk) ?_)⟩
 rintro e w2 ⟨rfl, hb, hled, hcn⟩
 by_cases hnil : eput1 [] (y, z, s, xs, t, ys) = []
 ·have hc := hcn hnil
  refine ⟨β, .val _, none, [(d1, (122, [.val (.slice none 0 0)]))], rfl, fun i hi => (by cases hi), .inl hl, .inr rfl, ?_, fun a b c _ _ => k1 w2 a c hnil⟩
  refine ⟨hb.os, hb.tape, hb.output, hb.size, fun k hk hx _ _ => hb.blk k hk (by simpa using hx), fun _ _ => rfl, fun i hi => (by cases hi), fun i hi => (by cases hi), fun x hx => ?_, fun x hx => ?_, by simp, fun x hx y hy _ => ?_, fun x hx j hj => ?_⟩
  ·cases List.mem_singleton.1 hx
   exact ⟨o1.new, o1.ty, hc, rfl⟩
  ·cases List.mem_singleton.1 hx
   exact .inl ⟨by rw [h1]; simp, by simp, hr1, rfl⟩
  ·cases List.mem_singleton.1 hx; cases List.mem_singleton.1 hy; rfl
  ·cases List.mem_singleton.1 hx
   cases hj
 ·obtain ⟨r', n, c, vs, spare, hB, hL⟩ := hled.resolve_left (fun h => hnil h.1)
  let β' : Nat → Nat := fun i => if i = d2 then r' else β i
  have hb2 : β' d2 = r' := if_pos rfl
  have hb1 : β' d1 = β d1 := if_neg hne
  have hmap : vs.flatten.map AV.val ++ spare.map AV.val = (vs.flatten ++ spare).map AV.val := by rw [List.map_append]
  have hok : (vs.flatten.map AV.val ++ spare.map AV.val).all okLeaf = true := by rw [hmap]; exact vals_ok (by rw [List.all_append, (hL.el.ok (exp_ok kk)).1, hL.ok]; rfl)
  refine ⟨β', .val _, none, [(d1, (122, [.row d2 0 n c])), (d2, (36, vs.flatten.map AV.val ++ spare.map AV.val))], rfl, fun i hi => (by cases hi), .inl hl, .inr rfl, ?_, fun a _ b _ _ => k2 w2 n c vs spare a b hnil hL.len hL.el hL.ok hL.le hL.cm hL.fl⟩
  refine ⟨hb.os, hb.tape, hb.output, hb.size, fun k hk hx _ _ => hb.blk k hk ?_, fun i hi => if_neg ?_, fun i hi => (by cases hi), fun i hi => (by cases hi), fun x hx => ?_, fun x hx => ?_, by simpa using hne, fun x hx y hy he => ?_, fun x hx j hj => ?_⟩
  ·have := hx (d1, (122, [.row d2 0 n c])) (by simp)
   simpa [hb1] using this
  ·intro h; exact hi (by simp [h])
  ·rcases List.mem_cons.1 hx with rfl | hx
   ·refine ⟨?_, o1.ty, ?_, rfl⟩
    ·show C.New d1 (β' d1); rw [hb1]; exact o1.new
    ·show Cls w2 (β' d1) _ (#[.slice (some ⟨β' d2, 0, none⟩) n c])
     rw [hb1, hb2]; exact hL.led
   ·cases List.mem_singleton.1 hx
    refine ⟨by rw [hb2]; exact C.newOf _ _ hd2 (by have := C.oldSize _ a2; omega), ht2, ?_, hok⟩
    rw [hb2, hmap, leaf_vals]; exact hL.row
  ·rcases List.mem_cons.1 hx with rfl | hx
   ·exact .inl ⟨by rw [h1]; simp, by simp, hr1, hb1⟩
   ·cases List.mem_singleton.1 hx
    exact .inr ⟨.inl h2, hd2, .inl (by rw [hb2]; exact hB)⟩
  ·have hne' := hL.ne
   rcases List.mem_cons.1 hx with rfl | hx <;> rcases List.mem_cons.1 hy with rfl | hy
   ·rfl
   ·cases List.mem_singleton.1 hy
    exact absurd (hb1.symm.trans (he.trans hb2)) hne'
   ·cases List.mem_singleton.1 hx
    exact absurd (hb1.symm.trans (he.symm.trans hb2)) hne'
   ·cases List.mem_singleton.1 hx; cases List.mem_singleton.1 hy; rfl
  ·rcases List.mem_cons.1 hx with rfl | hx
   ·rw [row_lids] at hj
    cases List.mem_singleton.1 hj
    exact .inl (by simp)
   ·cases List.mem_singleton.1 hx
    rw [hmap, lidsOf_vals] at hj; cases hj
theorem VO.callPut1 {d1 d2 n c : Nat} {vs : List (List Value)} {spare : List Value} {l : List RExp} {v : Value} {y z : Int} {s : Bool} {xs : List Nat} {t : Bool} {ys : List Nat} (kk : Nat) {code : Int} {l' : List RExp} (hcode : (if ewrong (RExp.exp (y, z, s, xs, t, ys)) = true then (2 : Int) else 0) = code) (hl' : eput1 l (y, z, s, xs, t, ys) = l') (hP : C.P = Tryz.prog) (e : stepOf C full F H o = .call (.fn 36 [.box d1 0, .val (.int .i64 y), .val (.int .i64 z), .val v])) (hf : FnOk C.P 36)
  (h1 : H d1 = some (122, [.row d2 0 n c])) (h2 : H d2 = some (36, vs.flatten.map .val ++ spare.map .val)) (hne : d1 ≠ d2) (hd2 : d2 < 2 * C.N) (hl : 2 ≤ lvl C.SU m o)
  (hn : n = l.length) (hrow : RowE (ExpE kk) w l vs) (hsp : spare.all okCell = true) (hnc : n ≤ c) (hcm : c ≤ 9223372036854775807) (hfl : (vs.flatten ++ spare).length = c * 6)
  (hU : ∀ w1, KpS C.K w w1 → Kp UU w w1) (hT : ∀ t, KP.fz t = false → C.K.fz t = false)
  (hv : ∀ w1, KpS C.K w w1 → C.Old w1 → RatRaw w1 v s xs t ys) (hy : i64b y) (hz : i64b z) (hx1 : xs.length ≤ kk) (hx2 : ys.length ≤ kk) (hk : kk ≤ 1024) (hn64 : n ≤ 1000)
  (k2 : ∀ w2 n' c' vs' spare' ρ, KpS C.K w w2 → C.Old w2 → (∀ x, okCell (ρ x) = true) → n' = l'.length → RowE (ExpE kk) w2 l' vs' → spare'.all okCell = true → n' ≤ c' → c' ≤ 9223372036854775807 → (vs'.flatten ++ spare').length = c' * 6 →
   vcOps C m full r K ((F.forget (some d2) ρ).puto o.dst (.val (.int .i64 code))) (((H.forget (some d2) ρ).put d1 (122, [.row d2 0 n' c'])).put d2 (36, vs'.flatten.map .val ++ spare'.map .val)) w2) : vcOps C m full (o :: r) K F H w := by
 subst hcode hl'
 show one C m full o (vcOps C m full r K) F H w
 unfold one
 rw [e]
 intro w1 β a1 a2 a3
 have hr1 : Reach H (Doer.fn 36 [.box d1 0, .val (.int .i64 y), .val (.int .i64 z), .val v]).ids d1 := .base (by simp [Doer.ids, idsOf, AV.ids])
 have hr2 : Reach H (Doer.fn 36 [.box d1 0, .val (.int .i64 y), .val (.int .i64 z), .val v]).ids d2 := .step hr1 h1 (by rw [row_lids]; simp)
 have o1 := a3.own d1 hr1 _ _ h1
 have o2 := a3.own d2 hr2 _ _ h2
 have hmap0 : ∀ (vs : List (List Value)) (spare : List Value), vs.flatten.map AV.val ++ spare.map AV.val = (vs.flatten ++ spare).map AV.val := fun vs spare => by rw [List.map_append]
 have hapart : β d1 ≠ β d2 := fun he => hne (a3.apart d1 d2 hr1 hr2 (by rw [h1]; simp) (by rw [h2]; simp) he)
 have hL0 : LedR kk w1 (β d1) (β d2) n c vs spare l := ⟨hn, hapart, o1.cls, by have := o2.cls; rw [hmap0, leaf_vals] at this; exact this, hrow.kp (exp_ok kk) (hU w1 a1), hsp, hnc, hcm, hfl⟩
 refine ⟨hf, (Calls.mono (show Calls C.P 36 #[.pointer (some ⟨β d1, 0, none⟩), .int .i64 y, .int .i64 z, v] w1 _ from hP ▸ tPut_row (β d1) (β d2) n c vs spare l v y z s xs t ys kk w1 hL0 (hv w1 a1 a2) hy hz hx1 hx2 hk hn64) ?_)⟩
 rintro e w2 ⟨rfl, hb, hleft, r', n', c', vs', spare', hB, hL⟩
 let β' : Nat → Nat := fun i => if i = d2 then r' else β i
 have hb2 : β' d2 = r' := if_pos rfl
 have hb1 : β' d1 = β d1 := if_neg hne
 have hmap := hmap0 vs' spare'
 have hok : (vs'.flatten.map AV.val ++ spare'.map AV.val).all okLeaf = true := by rw [hmap]; exact vals_ok (by rw [List.all_append, (hL.el.ok (exp_ok kk)).1, hL.ok]; rfl)
 refine ⟨β', .val _, some d2, [(d1, (122, [.row d2 0 n' c'])), (d2, (36, vs'.flatten.map AV.val ++ spare'.map AV.val))], rfl, fun i hi => (by cases hi), .inl (by omega), .inl hl, ?_, fun a _ b ρ hρ => k2 w2 n' c' vs' spare' ρ a b hρ hL.len hL.el hL.ok hL.le hL.cm hL.fl⟩
 refine ⟨hb.os, hb.tape, hb.output, hb.size, fun k hk hx hx2 _ => hb.blk k hk ?_, fun i hi => if_neg ?_, fun i hi => ?_, fun i hi => ?_, fun x hx => ?_, fun x hx => ?_, by simpa using hne, fun x hx y hy he => ?_, fun x hx j hj => ?_⟩
 ·have e1 := hx (d1, (122, [.row d2 0 n' c'])) (by simp)
  have e2 := hx2 d2 rfl
  rw [hb1] at e1
  simp [e1, e2]
 ·intro h; exact hi (by simp [h])
 ·cases hi; exact ⟨hr2, by rw [h2]; simp⟩
 ·cases hi
  obtain ⟨t, cs, q1, q2, q3⟩ := hleft
  exact .inl (.inr ⟨t, cs, q1, hT t q2, q3⟩)
 ·rcases List.mem_cons.1 hx with rfl | hx
  ·refine ⟨?_, o1.ty, ?_, rfl⟩
   ·show C.New d1 (β' d1); rw [hb1]; exact o1.new
   ·show Cls w2 (β' d1) _ (#[.slice (some ⟨β' d2, 0, none⟩) n' c'])
    rw [hb1, hb2]; exact hL.led
  ·cases List.mem_singleton.1 hx
   refine ⟨?_, o2.ty, ?_, hok⟩
   ·rw [hb2]
    rcases hB with hB | hB
    ·exact C.newOf _ _ hd2 (by have := C.oldSize _ a2; omega)
    ·rw [hB]; exact o2.new
   ·rw [hb2, hmap, leaf_vals]; exact hL.row
 ·rcases List.mem_cons.1 hx with rfl | hx
  ·exact .inl ⟨by rw [h1]; simp, by simp [hne.symm], hr1, hb1⟩
  ·cases List.mem_singleton.1 hx
   refine .inr ⟨.inr rfl, hd2, ?_⟩
   rcases hB with hB | hB
   ·exact .inl (by rw [hb2]; exact hB)
   ·exact .inr ⟨d2, rfl, by rw [hb2]; exact hB⟩
 ·have hne' := hL.ne
  rcases List.mem_cons.1 hx with rfl | hx <;> rcases List.mem_cons.1 hy with rfl | hy
  ·rfl
  ·cases List.mem_singleton.1 hy
   exact absurd (hb1.symm.trans (he.trans hb2)) hne'
  ·cases List.mem_singleton.1 hx
   exact absurd (hb1.symm.trans (he.symm.trans hb2)) hne'
  ·cases List.mem_singleton.1 hx; cases List.mem_singleton.1 hy; rfl
 ·rcases List.mem_cons.1 hx with rfl | hx
  ·rw [row_lids] at hj
   cases List.mem_singleton.1 hj
   exact .inl (by simp)
  ·cases List.mem_singleton.1 hx
   rw [hmap, lidsOf_vals] at hj; cases hj
theorem own_led {β : Nat → Nat} {d1 d2 n c : Nat} {vs : List (List Value)} {spare : List Value} {l : List RExp} {kk : Nat} (o1 : OwnV C β w d1 122 [.row d2 0 n c]) (o2 : OwnV C β w d2 36 (vs.flatten.map .val ++ spare.map .val)) (hne : β d1 ≠ β d2)
  (hn : n = l.length) (hrow : RowE (ExpE kk) w l vs) (hsp : spare.all okCell = true) (hnc : n ≤ c) (hcm : c ≤ 9223372036854775807) (hfl : (vs.flatten ++ spare).length = c * 6) : LedR kk w (β d1) (β d2) n c vs spare l :=
 ⟨hn, hne, o1.cls, by have := o2.cls; rw [← List.map_append, leaf_vals] at this; exact this, hrow, hsp, hnc, hcm, hfl⟩
end
end Go.Proofs.YtohlmpibnnkanaaGreat
/- A ledger of expenses: Of. -/
namespace Go.Proofs.YtohlmpibnnkanaaGreat
open Go.RowKit
attribute [local irreducible] vcOps VS

theorem kp_fz {t : TypeId} (h : KP.fz t = false) : (KU UU).fz t = false := by
 have h' : (Nat.beq t UU || _) = false := h
 rw [Bool.or_eq_false_iff] at h'
 show (Nat.beq t UU || false) = false
 rw [h'.1]; rfl
theorem eput1_taken {l : List RExp} {z : Nat} {e : RExp} (he : l[z]? = some e) (hw : ewrong e.exp = false) : eput1 (etaken (l.take z)) e = etaken (l.take (z + 1)) := by
 unfold eput1
 rw [hw, if_neg (by simp)]
 by_cases h : e.exp.2.2.2 = 0
 ·rw [if_pos h, etaken_skip he h]
 ·rw [if_neg h, etaken_snoc he h]
theorem eput1_wrong {l : List RExp} {e : RExp} (hw : ewrong e.exp = true) : eput1 l e = l := if_pos hw
set_option maxRecDepth 4000 in
set_option maxHeartbeats 4000000 in
theorem tOf_any (v : Value) (l : List RExp) (kk : Nat) (w : World) (hv : SlIn (ExpE kk) 6 w v l) (hk : kk ≤ 1024) (hn : l.length ≤ 64) :
  Calls Tryz.prog 16 #[v] w fun o w' => ∃ x, o = .returned (.tuple #[x, .int .i64 (if ewell l = true then 0 else 2)]) ∧ (ewell l = true → ∃ g, x = .pointer (some ⟨g, 0, none⟩) ∧ w.heap.size ≤ g ∧ LedAt kk w' w.heap.size g (etaken l)) ∧ (ewell l = false → x = .pointer none) ∧ Beh w w' := by
 obtain ⟨p, c, rfl, hnc, hcm⟩ := hv.form
 obtain ⟨N, hN⟩ : ∃ N, N = l.length := ⟨_, rfl⟩
 rw [← hN] at hv hnc hn
 have htl : ∀ z, (etaken (l.take z)).length ≤ N := fun z => by rw [hN]; exact etaken_len l z
 rw [← hN]
 refine calm_enter (C := cxOf Tryz.prog w _) (args := [_]) Tryz.func16 rfl Tryz.ntmps16 (Nat.le_of_ble_eq_true rfl) ?_
 (repeat first|refine wN ?_|refine wP rfl ?_|refine cx_r rfl ?_|refine cx_d rfl ?_|refine wO rfl rfl ?_)
 refine VO.callB (t := 122) (cs := [.slice none 0 0]) rfl rfl rfl (Nat.le_of_ble_eq_true rfl) (Nat.le_of_ble_eq_true rfl) rfl rfl (fun wa1 β ka1 ba1 ho => ⟨fk Tryz.func35, (tNew_any wa1).mono ?_⟩)
 rintro o w1 ⟨g1, rfl, hg1, hc1, hb1⟩
 refine ⟨g1, rfl, hb1, hg1, hc1, fun kb1 _ bb1 => wV rfl ?_⟩
 (repeat first|refine wN ?_|refine wP rfl ?_|refine cx_r rfl ?_|refine cx_d rfl ?_|refine wO rfl rfl ?_)
 refine VS.loop (J := fun m L M w' => ∃ z : Nat, z ≤ N ∧ m = N - z ∧ (∀ x ∈ l.take z, ewrong x.exp = false) ∧ L = [(4, .box 8 0), (9, .val (.slice p N c)), (10, .val (.int .i64 (N : Int))), (11, .val (.int .i64 (z : Int)))] ∧
   ((etaken (l.take z) = [] ∧ M = [(8, (122, [.val (.slice none 0 0)]))]) ∨
    (∃ k vs spare cap, k = (etaken (l.take z)).length ∧ M = [(8, (122, [.row 22 0 k cap])), (22, (36, vs.flatten.map .val ++ spare.map .val))] ∧
     RowE (ExpE kk) w' (etaken (l.take z)) vs ∧ spare.all okCell = true ∧ k ≤ cap ∧ cap ≤ 9223372036854775807 ∧ (vs.flatten ++ spare).length = cap * 6))) N ⟨_, _, ?_, ?_, ?_, ?_, ⟨0, by omega, rfl, fun x hx => (by simp at hx), rfl, .inl ⟨rfl, rfl⟩⟩⟩ ?_
 ·(repeat first|exact trivial|refine ⟨rfl, ?_⟩)
 ·(repeat first|exact trivial|refine ⟨rfl, ?_⟩)
 ·rfl
 ·(repeat first|exact trivial|refine ⟨ClosedC.lit rfl, ?_⟩|refine ⟨ClosedC.vals _, ?_⟩)
 rintro m L M wJ ⟨z, hz, rfl, hwz, rfl, ⟨hnil, rfl⟩ | ⟨k, vs, spare, cap, hkd, rfl, hrow, hsp, hkc, hcc, hfl⟩⟩
 ·(repeat first|refine wN ?_|refine wP rfl ?_|refine cx_r rfl ?_|refine cx_d rfl ?_|refine wO rfl rfl ?_)
  by_cases hlt : z < N
  ·obtain ⟨e, he⟩ : ∃ e, l[z]? = some e := ⟨_, List.getElem?_eq_getElem (by omega)⟩
   obtain ⟨b, off, cs', rfl, hc, hE⟩ := hv.at he
   have hE0 := hE
   obtain ⟨ep, ec, er, ed, rfl, hi1, hi2, hraw, hx1, hx2⟩ := hE
   refine VS.condY rfl (decide_eq_true (Int.ofNat_lt.2 hlt)) ?_
   (repeat first|refine wN ?_|refine wP rfl ?_|refine cx_r rfl ?_|refine cx_d rfl ?_|refine wO rfl rfl ?_)
   refine VO.cond rfl ⟨by omega, by omega⟩ ?_
   refine wV rfl ?_
   (repeat first|refine wN ?_|refine wP rfl ?_|refine cx_r rfl ?_|refine cx_d rfl ?_|refine wO rfl rfl ?_)
   refine VO.read rfl [.int .i64 e.1, .int .i64 e.2.1, .bool e.2.2.1, .slice ep e.2.2.2.1.length ec, .bool e.2.2.2.2.1, .slice er e.2.2.2.2.2.length ed] rfl (cells_at hc 0 _ ⟨[], rfl⟩) (wV rfl ?_)
   (repeat first|refine wN ?_|refine wP rfl ?_|refine cx_r rfl ?_|refine cx_d rfl ?_|refine wO rfl rfl ?_)
   cases hwe : ewrong e.exp with
   | true =>
    refine VO.callPut0 (d1 := 8) (d2 := 22) (y := e.1) (z := e.2.1) (s := e.2.2.1) (xs := e.2.2.2.1) (t := e.2.2.2.2.1) (ys := e.2.2.2.2.2) kk (code := 2) (l' := []) (show (if ewrong e.exp = true then (2 : Int) else 0) = 2 by rw [hwe]; rfl) (show eput1 [] e = [] from eput1_wrong hwe) rfl rfl (fk Tryz.func36) rfl rfl (by decide) (Nat.le_of_ble_eq_true rfl) (Nat.le_of_ble_eq_true rfl) rfl (fun w1 k1 b1 => hraw.kp (Kp.of (U := UU) b1)) hi1 hi2 hx1 hx2 hk (fun w2 k2 b2 hnil2 => wV rfl ?_) (fun w2 n2 c2 vs2 sp2 k2 b2 h0 h1 h2 h3 h4 h5 h6 => absurd rfl h0)
    ·(repeat first|refine wN ?_|refine wP rfl ?_|refine cx_r rfl ?_|refine cx_d rfl ?_|refine wO rfl rfl ?_)
     refine VS.ret (cx_ok _ _) rfl rfl (fun wz kz bz => ?_)
     have hwf := well_not he hwe
     exact ⟨_, by rw [hwf]; rfl, fun h => (by rw [hwf] at h; cases h), fun _ => rfl, bz⟩
   | false =>
    have hwz' := well_snoc he hwz hwe
    have hp1 := eput1_taken he hwe
    rw [hnil] at hp1
    refine VO.callPut0 (d1 := 8) (d2 := 22) (y := e.1) (z := e.2.1) (s := e.2.2.1) (xs := e.2.2.2.1) (t := e.2.2.2.2.1) (ys := e.2.2.2.2.2) kk (code := 0) (l' := (etaken (l.take (z + 1)))) (show (if ewrong e.exp = true then (2 : Int) else 0) = 0 by rw [hwe]; rfl) (show eput1 [] e = (etaken (l.take (z + 1))) from hp1) rfl rfl (fk Tryz.func36) rfl rfl (by decide) (Nat.le_of_ble_eq_true rfl) (Nat.le_of_ble_eq_true rfl) rfl (fun w1 k1 b1 => hraw.kp (Kp.of (U := UU) b1)) hi1 hi2 hx1 hx2 hk (fun w2 k2 b2 hnil2 => wV rfl ?_) (fun w2 n2 c2 vs2 sp2 k2 b2 h0 h1 h2 h3 h4 h5 h6 => wV rfl ?_)
    ·(repeat first|refine wN ?_|refine wP rfl ?_|refine cx_r rfl ?_|refine cx_d rfl ?_|refine wO rfl rfl ?_)
     refine VS.back (N - (z + 1)) (by omega) ⟨_, _, ?_, ?_, ?_, ?_, ⟨z + 1, by omega, rfl, hwz', rfl, .inl ⟨hnil2, rfl⟩⟩⟩
     ·refine ⟨rfl, rfl, rfl, ?_, trivial⟩
      rw [← nat_step (i := z) (by omega)]; rfl
     ·(repeat first|exact trivial|refine ⟨rfl, ?_⟩)
     ·rfl
     ·(repeat first|exact trivial|refine ⟨ClosedC.lit rfl, ?_⟩|refine ⟨ClosedC.vals _, ?_⟩)
    ·(repeat first|refine wN ?_|refine wP rfl ?_|refine cx_r rfl ?_|refine cx_d rfl ?_|refine wO rfl rfl ?_)
     refine VS.back (N - (z + 1)) (by omega) ⟨_, _, ?_, ?_, ?_, ?_, ⟨z + 1, by omega, rfl, hwz', rfl, .inr ⟨n2, vs2, sp2, c2, h1, rfl, h2, h3, h4, h5, h6⟩⟩⟩
     ·refine ⟨rfl, rfl, rfl, ?_, trivial⟩
      rw [← nat_step (i := z) (by omega)]; rfl
     ·(repeat first|exact trivial|refine ⟨rfl, ?_⟩)
     ·rfl
     ·exact ⟨.lit rfl, .append (.vals _) (.vals _), trivial⟩
  ·refine VS.condN rfl (decide_eq_false (fun e => hlt (Int.ofNat_lt.1 e))) ?_
   obtain rfl : z = N := by omega
   (repeat first|refine wN ?_|refine wP rfl ?_|refine cx_r rfl ?_|refine cx_d rfl ?_|refine wO rfl rfl ?_)
   refine VS.retA (cx_ok _ _) rfl (fun wz β kz bz en => ?_)
   rw [List.take_of_length_le (by omega)] at hwz hnil
   have hwt := ewell_iff.2 hwz
   exact ⟨_, by rw [hwt]; rfl, fun _ => ⟨_, rfl, (en.own 8 _ _ rfl).new, .inl ⟨hnil, (en.own 8 _ _ rfl).cls⟩⟩, fun h => absurd (hwt.symm.trans h) (by decide), bz⟩
 ·(repeat first|refine wN ?_|refine wP rfl ?_|refine cx_r rfl ?_|refine cx_d rfl ?_|refine wO rfl rfl ?_)
  by_cases hlt : z < N
  ·obtain ⟨e, he⟩ : ∃ e, l[z]? = some e := ⟨_, List.getElem?_eq_getElem (by omega)⟩
   obtain ⟨b, off, cs', rfl, hc, hE⟩ := hv.at he
   have hE0 := hE
   obtain ⟨ep, ec, er, ed, rfl, hi1, hi2, hraw, hx1, hx2⟩ := hE
   refine VS.condY rfl (decide_eq_true (Int.ofNat_lt.2 hlt)) ?_
   (repeat first|refine wN ?_|refine wP rfl ?_|refine cx_r rfl ?_|refine cx_d rfl ?_|refine wO rfl rfl ?_)
   refine VO.cond rfl ⟨by omega, by omega⟩ ?_
   refine wV rfl ?_
   (repeat first|refine wN ?_|refine wP rfl ?_|refine cx_r rfl ?_|refine cx_d rfl ?_|refine wO rfl rfl ?_)
   refine VO.read rfl [.int .i64 e.1, .int .i64 e.2.1, .bool e.2.2.1, .slice ep e.2.2.2.1.length ec, .bool e.2.2.2.2.1, .slice er e.2.2.2.2.2.length ed] rfl (cells_at hc 0 _ ⟨[], rfl⟩) (wV rfl ?_)
   (repeat first|refine wN ?_|refine wP rfl ?_|refine cx_r rfl ?_|refine cx_d rfl ?_|refine wO rfl rfl ?_)
   cases hwe : ewrong e.exp with
   | true =>
    refine VO.callPut1 (d1 := 8) (d2 := 22) (n := k) (c := cap) (vs := vs) (spare := spare) (l := etaken (l.take z)) (y := e.1) (z := e.2.1) (s := e.2.2.1) (xs := e.2.2.2.1) (t := e.2.2.2.2.1) (ys := e.2.2.2.2.2) kk (code := 2) (l' := (etaken (l.take z))) (show (if ewrong e.exp = true then (2 : Int) else 0) = 2 by rw [hwe]; rfl) (show eput1 (etaken (l.take z)) e = (etaken (l.take z)) from eput1_wrong hwe) rfl rfl (fk Tryz.func36) rfl rfl (by decide) (Nat.le_of_ble_eq_true rfl) (Nat.le_of_ble_eq_true rfl) hkd hrow hsp hkc hcc hfl (fun w1 k1 => k1.weak) (fun t ht => ?_) (fun w1 k1 b1 => hraw.kp (Kp.of (U := UU) b1)) hi1 hi2 hx1 hx2 hk (by have := htl z; omega) (fun w2 n2 c2 vs2 sp2 ρ k2 b2 hρ h1 h2 h3 h4 h5 h6 => wV rfl ?_)
    ·exact kp_fz ht
    ·(repeat first|refine wN ?_|refine wP rfl ?_|refine cx_r rfl ?_|refine cx_d rfl ?_|refine wO rfl rfl ?_)
     refine VS.ret (cx_ok _ _) rfl rfl (fun wz kz bz => ?_)
     have hwf := well_not he hwe
     exact ⟨_, by rw [hwf]; rfl, fun h => (by rw [hwf] at h; cases h), fun _ => rfl, bz⟩
   | false =>
    have hwz' := well_snoc he hwz hwe
    refine VO.callPut1 (d1 := 8) (d2 := 22) (n := k) (c := cap) (vs := vs) (spare := spare) (l := etaken (l.take z)) (y := e.1) (z := e.2.1) (s := e.2.2.1) (xs := e.2.2.2.1) (t := e.2.2.2.2.1) (ys := e.2.2.2.2.2) kk (code := 0) (l' := (etaken (l.take (z + 1)))) (show (if ewrong e.exp = true then (2 : Int) else 0) = 0 by rw [hwe]; rfl) (show eput1 (etaken (l.take z)) e = (etaken (l.take (z + 1))) from eput1_taken he hwe) rfl rfl (fk Tryz.func36) rfl rfl (by decide) (Nat.le_of_ble_eq_true rfl) (Nat.le_of_ble_eq_true rfl) hkd hrow hsp hkc hcc hfl (fun w1 k1 => k1.weak) (fun t ht => ?_) (fun w1 k1 b1 => hraw.kp (Kp.of (U := UU) b1)) hi1 hi2 hx1 hx2 hk (by have := htl z; omega) (fun w2 n2 c2 vs2 sp2 ρ k2 b2 hρ h1 h2 h3 h4 h5 h6 => wV rfl ?_)
    ·exact kp_fz ht
    ·(repeat first|refine wN ?_|refine wP rfl ?_|refine cx_r rfl ?_|refine cx_d rfl ?_|refine wO rfl rfl ?_)
     refine VS.back (N - (z + 1)) (by omega) ⟨_, _, ?_, ?_, ?_, ?_, ⟨z + 1, by omega, rfl, hwz', rfl, .inr ⟨n2, vs2, sp2, c2, h1, rfl, h2, h3, h4, h5, h6⟩⟩⟩
     ·refine ⟨rfl, rfl, rfl, ?_, trivial⟩
      rw [← nat_step (i := z) (by omega)]; rfl
     ·(repeat first|exact trivial|refine ⟨rfl, ?_⟩)
     ·rfl
     ·exact ⟨.lit rfl, .append (.vals _) (.vals _), trivial⟩
  ·refine VS.condN rfl (decide_eq_false (fun e => hlt (Int.ofNat_lt.1 e))) ?_
   obtain rfl : z = N := by omega
   (repeat first|refine wN ?_|refine wP rfl ?_|refine cx_r rfl ?_|refine cx_d rfl ?_|refine wO rfl rfl ?_)
   refine VS.retA (cx_ok _ _) rfl (fun wz β kz bz en => ?_)
   rw [List.take_of_length_le (by omega)] at hwz hkd hrow
   have hwt := ewell_iff.2 hwz
   have o1 := en.own 8 _ _ rfl
   have o2 := en.own 22 _ _ rfl
   have hne : β 8 ≠ β 22 := fun e => absurd (en.apart 8 22 (by intro h; cases h) (by intro h; cases h) e) (by decide)
   exact ⟨_, by rw [hwt]; rfl, fun _ => ⟨_, rfl, o1.new, .inr ⟨β 22, k, cap, vs, spare, o2.new, own_led o1 o2 hne hkd (hrow.kp (exp_ok kk) kz.weak) hsp hkc hcc hfl⟩⟩, fun h => absurd (hwt.symm.trans h) (by decide), bz⟩
end Go.Proofs.YtohlmpibnnkanaaGreat
