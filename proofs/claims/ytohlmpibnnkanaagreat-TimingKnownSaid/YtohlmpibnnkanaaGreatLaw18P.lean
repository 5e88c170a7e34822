/- TimingPuts: what this statement's function answers. (Printed by gen18p.py.) -/
import Derived.Test.YtohlmpibnnkanaaGreatLaw18B
set_option linter.all false
set_option maxRecDepth 4000
namespace Go.Proofs.YtohlmpibnnkanaaGreat
open Go.RowKit
attribute [local irreducible] vcOps VS

def eok (e : RExp) : Bool := !ewrong e.exp
theorem tk_snoc {l : List RExp} {i : Nat} {e : RExp} (he : l[i]? = some e) (h : ewrong e.exp = false) : (l.take (i + 1)).filter eok = (l.take i).filter eok ++ [e] := by
 rw [take_snoc_at he, List.filter_append]
 unfold eok
 simp [h]
theorem tk_skip {l : List RExp} {i : Nat} {e : RExp} (he : l[i]? = some e) (h : ewrong e.exp = true) : (l.take (i + 1)).filter eok = (l.take i).filter eok := by
 rw [take_snoc_at he, List.filter_append]
 unfold eok
 simp [h]
theorem tk_ok {l : List RExp} {x : RExp} (h : x ∈ l.filter eok) : ewrong x.exp = false := by
 have := (List.mem_filter.1 h).2
 unfold eok at this
 simpa using this
theorem eput1_snoc {ts : List RExp} {e : RExp} (h : ewrong e.exp = false) : eput1 (etaken ts) e = etaken (ts ++ [e]) := by
 unfold eput1 etaken enz
 rw [h, if_neg (by simp), List.filter_append]
 by_cases h0 : e.exp.2.2.2 = 0
 ·simp [h0]
 ·simp [h0]
theorem kpE_fz {t : TypeId} (h : KP.fz t = false) : KC.fz ⟨UU, fun _ => True, fun t => Nat.beq t 55⟩ t = false := by
 have h' : (Nat.beq t UU || !(Nat.beq t 122 || (Nat.beq t 36 || Nat.beq t 33))) = false := h
 rw [Bool.or_eq_false_iff] at h'
 show (Nat.beq t UU || Nat.beq t 55) = false
 rw [h'.1, Bool.false_or]
 have h2 := h'.2
 simp only [Bool.not_eq_false', Bool.or_eq_true, Nat.beq_eq] at h2
 rcases h2 with rfl | rfl | rfl <;> rfl
theorem cls_cells {w : World} {b : Nat} {t : TypeId} {cs rest : List Value} (h : Cls w b t (([cs] : List (List Value)).flatten ++ rest).toArray) : ∀ j u, cs[j]? = some u → w.cell? ((⟨b, 0, none⟩ : Addr).add j) = some u := by
 intro j u hj
 rw [Addr.add_mid, Nat.zero_add]
 refine h.cell ?_
 have hlt := (List.getElem?_eq_some_iff.1 hj).1
 simp only [List.flatten_cons, List.flatten_nil, List.append_nil]
 rw [List.getElem?_toArray, List.getElem?_append_left hlt]
 exact hj
def TRow (w : World) (ts : List RExp) (n c : Nat) (vs : List (List Value)) (spare : List AV) : Prop :=
 n = ts.length ∧ RowE (ExpE 3) w ts vs ∧ (vs.flatten.map AV.val ++ spare).length = c * 6 ∧ n ≤ c ∧ c ≤ 9223372036854775807 ∧ spare.all okLeaf = true ∧ lidsOf spare = []
def LRow (w : World) (es : List RExp) (k cap : Nat) (us : List (List Value)) (su : List Value) : Prop :=
 k = es.length ∧ RowE (ExpE 3) w es us ∧ su.all okCell = true ∧ k ≤ cap ∧ cap ≤ 9223372036854775807 ∧ (us.flatten ++ su).length = cap * 6
def PSt (m0 : Nat × (TypeId × List AV)) (w : World) (ts : List RExp) (tv : AV) (M : List (Nat × (TypeId × List AV))) : Prop :=
 (ts = [] ∧ tv = .val (.slice none 0 0) ∧ M = [m0, (23, (122, [.val (.slice none 0 0)]))]) ∨
 (etaken ts = [] ∧ ∃ n c vs spare, tv = .row 61 0 n c ∧ M = [m0, (23, (122, [.val (.slice none 0 0)])), (61, (36, vs.flatten.map .val ++ spare))] ∧ TRow w ts n c vs spare) ∨
 (∃ n c vs spare k cap us su, tv = .row 61 0 n c ∧ M = [m0, (23, (122, [.row 46 0 k cap])), (46, (36, us.flatten.map .val ++ su.map .val)), (61, (36, vs.flatten.map .val ++ spare))] ∧ TRow w ts n c vs spare ∧ LRow w (etaken ts) k cap us su)
theorem PSt.end' {C : Cx} {β : Nat → Nat} {m0 : Nat × (TypeId × List AV)} {w w' : World} {ts : List RExp} {tv : AV} {M : List (Nat × (TypeId × List AV))} (h : PSt m0 w ts tv M) (hm : m0.1 = 3) (k : Kp UU w w') (en : Ends C β (Hp.of M) w') (hn : ∀ i g, C.New i g → C.w0.heap.size ≤ g) :
  SlIn (ExpE 3) 6 w' (tv.conc β) ts ∧ LedAt 3 w' C.w0.heap.size (β 23) (etaken ts) := by
 obtain ⟨m1, m2⟩ := m0
 cases hm
 rcases h with ⟨rfl, rfl, rfl⟩ | ⟨het, n, c, vs, spare, rfl, rfl, h1, h2, h3, h4, h5, h6, h7⟩ | ⟨n, c, vs, spare, k', cap, us, su, rfl, rfl, ⟨h1, h2, h3, h4, h5, h6, h7⟩, ⟨g1, g2, g3, g4, g5, g6⟩⟩
 ·exact ⟨SlIn.nil _ _ _, .inl ⟨rfl, (en.own 23 _ _ rfl).cls⟩⟩
 ·exact ⟨ownV_sl (exp_ok 3) (en.own 61 _ _ rfl) spare rfl (h2.kp (exp_ok 3) k) h1 h4 h5, .inl ⟨het, (en.own 23 _ _ rfl).cls⟩⟩
 ·have o1 := en.own 23 _ _ rfl
  have o2 := en.own 46 _ _ rfl
  have hne : β 23 ≠ β 46 := fun e => absurd (en.apart 23 46 (by intro h; cases h) (by intro h; cases h) e) (by decide)
  exact ⟨ownV_sl (exp_ok 3) (en.own 61 _ _ rfl) spare rfl (h2.kp (exp_ok 3) k) h1 h4 h5, .inr ⟨β 46, k', cap, us, su, hn _ _ o2.new, own_led o1 o2 hne g1 (g2.kp (exp_ok 3) k) g3 g4 g5 g6⟩⟩
set_option maxRecDepth 4000 in
set_option maxHeartbeats 16000000 in
theorem puts18_any (v u : Value) (l : List RExp) (x : RExp) (kk : Nat) (w : World) (hv : SlIn (ExpE kk) 6 w v l) (hu : ExpV kk w u x) :
  Calls Tryz.prog 6 #[v, u] w fun o w' => o = .returned (.bool true) ∧ Beh w w' := by
 obtain ⟨p, c, rfl, hnc, hcm⟩ := hv.form
 obtain ⟨N, hN⟩ : ∃ N, N = l.length := ⟨_, rfl⟩
 rw [← hN] at hv hnc
 rw [← hN]
 obtain ⟨cs, rfl, xp, xc, xr, xd, rfl, hxx⟩ := hu
 have hxE0 : ExpE kk w [.int .i64 x.1, .int .i64 x.2.1, .bool x.2.2.1, .slice xp x.2.2.2.1.length xc, .bool x.2.2.2.2.1, .slice xr x.2.2.2.2.2.length xd] x := ⟨_, _, _, _, rfl, hxx⟩
 refine calm_enter (C := cxE Tryz.prog w _) (args := [_, _]) Tryz.func6 rfl Tryz.ntmps6 (Nat.le_of_ble_eq_true rfl) ?_
 (repeat first|refine wN ?_|refine wP rfl ?_|refine cxE_r rfl ?_|refine cxE_d rfl ?_|refine wO rfl rfl ?_)
 cases hf : fewE l with
 | false =>
  refine VO.call rfl rfl (fk Tryz.func14) (fun wa1 ka1 ba1 => (few18_ok _ l kk wa1 (hv.beh (exp_ok kk) ba1) false hf).mono ?_)
  rintro e w1 ⟨rfl, hb1⟩
  skip
  refine ⟨_, rfl, hb1, fun kb1 _ bb1 => wV rfl ?_⟩
  (repeat first|refine wN ?_|refine wP rfl ?_|refine cxE_r rfl ?_|refine cxE_d rfl ?_|refine wO rfl rfl ?_)
  refine VO.call rfl rfl (fk Tryz.func15) (fun wa2 ka2 ba2 => (works18_any wa2).mono ?_)
  rintro e w2 ⟨rfl, hb2⟩
  skip
  refine ⟨_, rfl, hb2, fun kb2 _ bb2 => wV rfl ?_⟩
  (repeat first|refine wN ?_|refine wP rfl ?_|refine cxE_r rfl ?_|refine cxE_d rfl ?_|refine wO rfl rfl ?_)
  refine VS.ret (cxE_ok _ _) rfl rfl (fun wz kz bz => ?_)
  exact ⟨rfl, bz⟩
 | true =>
 refine VO.call rfl rfl (fk Tryz.func14) (fun wa1 ka1 ba1 => (few18_ok _ l kk wa1 (hv.beh (exp_ok kk) ba1) true hf).mono ?_)
 rintro e w1 ⟨rfl, hb1⟩
 skip
 refine ⟨_, rfl, hb1, fun kb1 _ bb1 => wV rfl ?_⟩
 (repeat first|refine wN ?_|refine wP rfl ?_|refine cxE_r rfl ?_|refine cxE_d rfl ?_|refine wO rfl rfl ?_)
 have hl3 := fewE_sl hf hv
 have h10 : N ≤ 10 := by rw [hN]; exact fewE_len hf
 obtain ⟨bx, hbx⟩ : ∃ b, fewE [x] = b := ⟨_, rfl⟩
 refine VO.callF rfl (fk Tryz.func14) (fun wa2 β2 ka2 ba2 ho2 => (few18_ok _ [x] kk wa2 (ownV_sl (exp_ok kk) (ho2.own 18 (.base (List.mem_singleton.2 rfl)) _ _ rfl) [] (vs := [[.int .i64 x.1, .int .i64 x.2.1, .bool x.2.2.1, .slice xp x.2.2.2.1.length xc, .bool x.2.2.2.2.1, .slice xr x.2.2.2.2.2.length xd]]) (by rfl) (RowE.cons (hxE0.kp (Kp.of (U := UU) ba2)) RowE.nil) rfl (Nat.le_refl _) (by simp)) bx hbx).mono ?_)
 rintro o2 w2 ⟨rfl, hb2⟩
 refine ⟨_, rfl, hb2, fun kb2 _ bb2 => ?_⟩
 cases bx with
 | false =>
  refine wV rfl ?_
  (repeat first|refine wN ?_|refine wP rfl ?_|refine cxE_r rfl ?_|refine cxE_d rfl ?_|refine wO rfl rfl ?_)
  refine VO.call rfl rfl (fk Tryz.func15) (fun wa3 ka3 ba3 => (works18_any wa3).mono ?_)
  rintro e w3 ⟨rfl, hb3⟩
  skip
  refine ⟨_, rfl, hb3, fun kb3 _ bb3 => wV rfl ?_⟩
  (repeat first|refine wN ?_|refine wP rfl ?_|refine cxE_r rfl ?_|refine cxE_d rfl ?_|refine wO rfl rfl ?_)
  refine VS.ret (cxE_ok _ _) rfl rfl (fun wz kz bz => ?_)
  exact ⟨rfl, bz⟩
 | true =>
 refine wV rfl ?_
 (repeat first|refine wN ?_|refine wP rfl ?_|refine cxE_r rfl ?_|refine cxE_d rfl ?_|refine wO rfl rfl ?_)
 have hx3 : x.2.2.2.1.length ≤ 3 ∧ x.2.2.2.2.2.length ≤ 3 := by
  unfold fewE esmall at hbx
  simpa using hbx
 have hx5 : i64b x.1 ∧ i64b x.2.1 ∧ RatRaw w (.agg #[.bool x.2.2.1, .slice xp x.2.2.2.1.length xc, .bool x.2.2.2.2.1, .slice xr x.2.2.2.2.2.length xd]) x.2.2.1 x.2.2.2.1 x.2.2.2.2.1 x.2.2.2.2.2 ∧ x.2.2.2.1.length ≤ 3 ∧ x.2.2.2.2.2.length ≤ 3 := ⟨hxx.1, hxx.2.1, hxx.2.2.1, hx3.1, hx3.2⟩
 have hxE : ExpE 3 w [.int .i64 x.1, .int .i64 x.2.1, .bool x.2.2.1, .slice xp x.2.2.2.1.length xc, .bool x.2.2.2.2.1, .slice xr x.2.2.2.2.2.length xd] x := ⟨_, _, _, _, rfl, hx5⟩
 refine VO.callB (t := 122) (cs := [.slice none 0 0]) rfl rfl rfl (Nat.le_of_ble_eq_true rfl) (Nat.le_of_ble_eq_true rfl) rfl rfl (fun wa3 β3 ka3 ba3 ho3 => ⟨fk Tryz.func35, (tNew_any wa3).mono ?_⟩)
 rintro o3 w3 ⟨g3, rfl, hg3, hc3, hb3⟩
 refine ⟨g3, rfl, hb3, hg3, hc3, fun kb3 _ bb3 => wV rfl ?_⟩
 (repeat first|refine wN ?_|refine wP rfl ?_|refine cxE_r rfl ?_|refine cxE_d rfl ?_|refine wO rfl rfl ?_)
 obtain ⟨lsx, hlsx⟩ : ∃ ls, ls = l ++ [x] := ⟨_, rfl⟩
 refine VS.loop (J := fun m L M w' => ∃ (i : Nat) (tv : AV) (ts : List RExp), i ≤ N + 1 ∧ m = N + 1 - i ∧ ts = (lsx.take i).filter eok ∧ L = [(0, .val (.slice p N c)), (3, .box 3 0), (5, .box 23 0), (6, tv), (7, .val (.int .i64 (i : Int)))] ∧ PSt (3, (36, ([.int .i64 x.1, .int .i64 x.2.1, .bool x.2.2.1, .slice xp x.2.2.2.1.length xc, .bool x.2.2.2.2.1, .slice xr x.2.2.2.2.2.length xd] : List Value).map .val)) w' ts tv M) (N + 1)
  ⟨_, _, ?_, ?_, ?_, ?_, ⟨0, _, [], by omega, rfl, rfl, rfl, .inl ⟨rfl, rfl, rfl⟩⟩⟩ ?_
 ·(repeat first|exact trivial|refine ⟨rfl, ?_⟩)
 ·(repeat first|exact trivial|refine ⟨rfl, ?_⟩)
 ·rfl
 ·(repeat first|exact trivial|refine ⟨ClosedC.lit rfl, ?_⟩|refine ⟨ClosedC.vals _, ?_⟩)
 rintro m L M w4 ⟨i, tv, ts, hi, rfl, htk, rfl, hst⟩
 have htlen : ts.length ≤ 11 := by
  rw [htk]
  refine Nat.le_trans (List.length_filter_le _ _) ?_
  rw [List.length_take]
  omega
 have hetl : (etaken ts).length ≤ 11 := Nat.le_trans (List.length_filter_le _ _) htlen
 by_cases hend : i = N + 1
 ·subst hend
  (repeat first|refine wN ?_|refine wP rfl ?_|refine cxE_r rfl ?_|refine cxE_d rfl ?_|refine wO rfl rfl ?_)
  refine VS.condN rfl (decide_eq_false (by omega)) ?_
  refine VS.rebase (fun w => cxT Tryz.prog w 79) (fun _ => rfl) (fun _ => rfl) (fun _ => Beh.refl _) (fun w' β k' o' en => ?_)
  obtain ⟨hsl, hled⟩ := hst.end' rfl k'.weak en (fun _ _ h => h)
  refine ⟨[(5, .val (.pointer (some ⟨β 23, 0, none⟩))), (6, .val (tv.conc β))], ⟨⟨_, _, rfl, rfl, rfl⟩, ⟨_, _, rfl, rfl, rfl⟩, trivial⟩, ?_⟩
  have hwts : ∀ x ∈ ts, ewrong x.exp = false := fun x hx => tk_ok (htk ▸ hx)
  have hwte : ∀ x ∈ etaken ts, ewrong x.exp = false := fun x hx => hwts x (List.mem_filter.1 hx).1
  have hewl := ewell_iff.2 hwts
  obtain ⟨tw, htw⟩ : ∃ a, a = tv.conc β := ⟨_, rfl⟩
  obtain ⟨g, hg⟩ : ∃ a, a = β 23 := ⟨_, rfl⟩
  rw [← htw] at hsl ⊢
  rw [← hg] at hled ⊢
  (repeat first|refine wN ?_|refine wP rfl ?_|refine cxT_r rfl ?_|refine cxT_d rfl ?_|refine wO rfl rfl ?_)
  refine VO.call rfl rfl (fk Tryz.func27) (fun wa7 ka7 ba7 => (ref18_any _ ts 3 wa7 (hsl.beh (exp_ok 3) ba7) (by decide) (by omega)).mono ?_)
  rintro e w7 ⟨r7, rfl, q7, hb7⟩
  obtain ⟨p7, c7, rfl⟩ := q7.form
  refine ⟨_, rfl, hb7, fun kb7 _ bb7 => wV rfl ?_⟩
  (repeat first|refine wN ?_|refine wP rfl ?_|refine cxT_r rfl ?_|refine cxT_d rfl ?_|refine wO rfl rfl ?_)
  refine VO.call rfl rfl (fk Tryz.func28) (fun wa8 ka8 ba8 => (q18Of_ok _ ts 3 wa8 ((q7.kp (exp_ok 3) (by (with_reducible (repeat (first | assumption | exact kU _ | exact kR _ | exact Kp.of (U := UU) (by assumption) | exact KpS.of (by assumption) | refine kT ?_ (by assumption))))) rfl).sl (exp_ok 3)) (by decide) (by omega) hewl).mono ?_)
  rintro e w8 ⟨r8, rfl, q8, hb8⟩
  obtain ⟨p8, c8, rfl⟩ := q8.form
  refine ⟨_, rfl, hb8, fun kb8 _ bb8 => wV rfl ?_⟩
  (repeat first|refine wN ?_|refine wP rfl ?_|refine cxT_r rfl ?_|refine cxT_d rfl ?_|refine wO rfl rfl ?_)
  refine VO.call rfl rfl (fk Tryz.func31) (fun wa9 ka9 ba9 => (tRows_any g (etaken ts) 3 wa9 (hled.beh ba9).in hwte (by decide) (by omega)).mono ?_)
  rintro e w9 ⟨r9, rfl, q9, hb9⟩
  obtain ⟨p9, c9, rfl⟩ := q9.form
  refine ⟨_, rfl, hb9, fun kb9 _ bb9 => wV rfl ?_⟩
  (repeat first|refine wN ?_|refine wP rfl ?_|refine cxT_r rfl ?_|refine cxT_d rfl ?_|refine wO rfl rfl ?_)
  refine VO.call rfl rfl (fk Tryz.func32) (fun wa10 ka10 ba10 => (same18_any _ _ (etaken ts) 3 3 wa10 (((q9.kp (expO_ok _ 3) (by (with_reducible (repeat (first | assumption | exact kU _ | exact kR _ | exact Kp.of (U := UU) (by assumption) | exact KpS.of (by assumption) | refine kT ?_ (by assumption))))) rfl).sl (expO_ok _ 3)).mono (fun i a cs ha he => he.1)) ((q8.kp (exp_ok 3) (by (with_reducible (repeat (first | assumption | exact kU _ | exact kR _ | exact Kp.of (U := UU) (by assumption) | exact KpS.of (by assumption) | refine kT ?_ (by assumption))))) rfl).sl (exp_ok 3))).mono ?_)
  rintro e w10 ⟨rfl, hb10⟩
  skip
  refine ⟨_, rfl, hb10, fun kb10 _ bb10 => wV rfl ?_⟩
  (repeat first|refine wN ?_|refine wP rfl ?_|refine cxT_r rfl ?_|refine cxT_d rfl ?_|refine wO rfl rfl ?_)
  refine VO.call rfl rfl (fk Tryz.func15) (fun wa11 ka11 ba11 => (works18_any wa11).mono ?_)
  rintro e w11 ⟨rfl, hb11⟩
  skip
  refine ⟨_, rfl, hb11, fun kb11 _ bb11 => wV rfl ?_⟩
  (repeat first|refine wN ?_|refine wP rfl ?_|refine cxT_r rfl ?_|refine cxT_d rfl ?_|refine wO rfl rfl ?_)
  refine VS.ret (cxT_ok _ _) rfl rfl (fun wz kz bz => ?_)
  exact ⟨rfl, o'.thn bz⟩
 rcases hst with ⟨hts, rfl, rfl⟩ | ⟨het, n, c', vs, spare, rfl, rfl, htn, htr, htl, htc, htm, hto, hti⟩ | ⟨n, c', vs, spare, k, cap, us, su, rfl, rfl, ⟨htn, htr, htl, htc, htm, hto, hti⟩, ⟨hkn, hkr, hks, hkc, hkm, hkl⟩⟩
 ·(repeat first|refine wN ?_|refine wP rfl ?_|refine cxE_r rfl ?_|refine cxE_d rfl ?_|refine wO rfl rfl ?_)
  refine (Nat.lt_or_ge i N).elim (fun hlt => ?cA1) (fun hge => ?cA2)
  case' cA1 =>
   obtain ⟨e, hel0⟩ : ∃ e, l[i]? = some e := ⟨_, List.getElem?_eq_getElem (by omega)⟩
   have he : lsx[i]? = some e := by rw [hlsx, List.getElem?_append_left (by omega)]; exact hel0
   obtain ⟨b, off, cs', hpp, hc, hE⟩ := hl3.at hel0
   have hE0 := hE
   obtain ⟨ep, ec, er, ed, rfl, hi1, hi2, hraw, hx1, hx2⟩ := hE
   refine VS.condY rfl (decide_eq_true (by omega)) ?_
   (repeat first|refine wN ?_|refine wP rfl ?_|refine cxE_r rfl ?_|refine cxE_d rfl ?_|refine wO rfl rfl ?_)
   refine VS.condY rfl (decide_eq_true (by omega)) ?_
   simp only [hpp]
   (repeat first|refine wN ?_|refine wP rfl ?_|refine cxE_r rfl ?_|refine cxE_d rfl ?_|refine wO rfl rfl ?_)
   refine VO.cond rfl ⟨by omega, by omega⟩ ?_
   refine wV rfl ?_
   (repeat first|refine wN ?_|refine wP rfl ?_|refine cxE_r rfl ?_|refine cxE_d rfl ?_|refine wO rfl rfl ?_)
   refine VO.read rfl [.int .i64 e.1, .int .i64 e.2.1, .bool e.2.2.1, .slice ep e.2.2.2.1.length ec, .bool e.2.2.2.2.1, .slice er e.2.2.2.2.2.length ed] rfl (cells_at hc 0 _ ⟨[], rfl⟩) (wV rfl ?_)
   (repeat first|refine wN ?_|refine wP rfl ?_|refine cxE_r rfl ?_|refine cxE_d rfl ?_|refine wO rfl rfl ?_)
  case' cA2 =>
   have hiN : i = N := by omega
   obtain ⟨e, he0⟩ : ∃ e, e = x := ⟨_, rfl⟩
   have he : lsx[i]? = some e := by rw [hlsx, List.getElem?_append_right (by omega), show i - l.length = 0 by omega, he0]; rfl
   obtain ⟨ep, hep⟩ : ∃ a, a = xp := ⟨_, rfl⟩
   obtain ⟨ec, hec⟩ : ∃ a, a = xc := ⟨_, rfl⟩
   obtain ⟨er, her⟩ : ∃ a, a = xr := ⟨_, rfl⟩
   obtain ⟨ed, hed⟩ : ∃ a, a = xd := ⟨_, rfl⟩
   subst he0 hep hec her hed
   have hE0 := hxE
   obtain ⟨hi1, hi2, hraw, hx1, hx2⟩ := hx5
   refine VS.condY rfl (decide_eq_true (by omega)) ?_
   (repeat first|refine wN ?_|refine wP rfl ?_|refine cxE_r rfl ?_|refine cxE_d rfl ?_|refine wO rfl rfl ?_)
   refine VS.condN rfl (decide_eq_false (by omega)) ?_
   (repeat first|refine wN ?_|refine wP rfl ?_|refine cxE_r rfl ?_|refine cxE_d rfl ?_|refine wO rfl rfl ?_)
  all_goals
   cases hwe : ewrong e.exp with
   | true =>
    refine VO.callPut0 (d1 := 23) (d2 := 46) (y := e.1) (z := e.2.1) (s := e.2.2.1) (xs := e.2.2.2.1) (t := e.2.2.2.2.1) (ys := e.2.2.2.2.2) 3 (code := 2) (l' := []) (show (if ewrong e.exp = true then (2 : Int) else 0) = 2 by rw [hwe]; rfl) (show eput1 [] e = [] from eput1_wrong hwe) rfl rfl (fk Tryz.func36) rfl rfl (by decide) (Nat.le_of_ble_eq_true rfl) (Nat.le_of_ble_eq_true rfl) rfl (fun w1 k1 b1 => hraw.kp (Kp.of (U := UU) b1)) hi1 hi2 hx1 hx2 (by decide) (fun w2 k2 b2 hnil2 => wV rfl ?_) (fun w2 n2 c2 vs2 sp2 k2 b2 h0 h1 h2 h3 h4 h5 h6 => absurd rfl h0)
    (repeat first|refine wN ?_|refine wP rfl ?_|refine cxE_r rfl ?_|refine cxE_d rfl ?_|refine wO rfl rfl ?_)
    refine VO.callF rfl (fk Tryz.func27) (fun wa5 β5 ka5 ba5 ho5 => (ref18_any _ [e] 3 wa5 (ownV_sl (exp_ok 3) (ho5.own 48 (.base (List.mem_singleton.2 rfl)) _ _ rfl) [] (vs := [[.int .i64 e.1, .int .i64 e.2.1, .bool e.2.2.1, .slice ep e.2.2.2.1.length ec, .bool e.2.2.2.2.1, .slice er e.2.2.2.2.2.length ed]]) (by rfl) (RowE.cons (hE0.kp (Kp.of (U := UU) ba5)) RowE.nil) rfl (Nat.le_refl _) (by simp)) (by decide) (by simp)).mono ?_)
    rintro o5 w5 ⟨r5, rfl, q5, hb5⟩
    obtain ⟨b5, cc5, vs5, sp5, rfl, hB5, hcls5, hrow5, -, -, -, -⟩ := q5.resolve_left (fun h => by cases h.2)
    obtain ⟨cs5, rfl, hE5⟩ : ∃ cs5, vs5 = [cs5] ∧ ExpE 3 w5 cs5 e := by
     cases hrow5 with
     | cons h1 h2 => cases h2; exact ⟨_, rfl, h1⟩
    obtain ⟨p5, c5, r5, d5, rfl, -⟩ := id hE5
    rw [show [e].length = 1 from rfl]
    refine ⟨_, rfl, hb5, fun kb5 _ bb5 => wV rfl ?_⟩
    (repeat first|refine wN ?_|refine wP rfl ?_|refine cxE_r rfl ?_|refine cxE_d rfl ?_|refine wO rfl rfl ?_)
    refine VO.cond rfl ⟨by omega, by omega⟩ ?_
    refine wV rfl ?_
    (repeat first|refine wN ?_|refine wP rfl ?_|refine cxE_r rfl ?_|refine cxE_d rfl ?_|refine wO rfl rfl ?_)
    refine VO.readNow rfl [.int .i64 e.1, .int .i64 e.2.1, .bool e.2.2.1, .slice p5 e.2.2.2.1.length c5, .bool e.2.2.2.2.1, .slice r5 e.2.2.2.2.2.length d5] rfl (fun w1 k1 b1 => cls_cells (k1.block _ b5 _ rfl trivial hcls5)) (wV rfl ?_)
    (repeat first|refine wN ?_|refine wP rfl ?_|refine cxE_r rfl ?_|refine cxE_d rfl ?_|refine wO rfl rfl ?_)
    refine VO.call rfl rfl (fk Tryz.func37) (fun wa6 ka6 ba6 => (q18Error_any _ e 3 wa6 ⟨_, rfl, hE5.kp (by (with_reducible (repeat (first | assumption | exact kU _ | exact kR _ | exact Kp.of (U := UU) (by assumption) | exact KpS.of (by assumption) | refine kT ?_ (by assumption)))))⟩ (by omega) 2 (by rw [hwe]; rfl)).mono ?_)
    rintro e w6 ⟨rfl, hb6⟩
    skip
    refine ⟨_, rfl, hb6, fun kb6 _ bb6 => wV rfl ?_⟩
    (repeat first|refine wN ?_|refine wP rfl ?_|refine cxE_r rfl ?_|refine cxE_d rfl ?_|refine wO rfl rfl ?_)
    refine VS.back (N + 1 - (i + 1)) (by omega) ⟨_, _, ?_, ?_, ?_, ?_, ⟨i + 1, _, ts, by omega, rfl, (by rw [tk_skip he hwe]; exact htk), rfl, .inl ⟨hts, rfl, rfl⟩⟩⟩
    ·refine ⟨rfl, rfl, rfl, rfl, ?_, trivial⟩
     rw [← nat_step (i := i) (by omega)]; rfl
    ·(repeat first|exact trivial|refine ⟨rfl, ?_⟩)
    ·rfl
    ·(repeat first|exact trivial|refine ⟨ClosedC.lit rfl, ?_⟩|refine ⟨ClosedC.vals _, ?_⟩)
   | false =>
    have htk' : ts ++ [e] = (lsx.take (i + 1)).filter eok := by rw [tk_snoc he hwe, htk]
    have hew' : ∀ x ∈ ts ++ [e], ewrong x.exp = false := fun x hx => tk_ok (htk' ▸ hx)
    have hel : eput1 [] e = etaken (ts ++ [e]) := by rw [← eput1_snoc hwe, show etaken ts = [] by rw [hts]; rfl]
    refine VO.callPut0 (d1 := 23) (d2 := 46) (y := e.1) (z := e.2.1) (s := e.2.2.1) (xs := e.2.2.2.1) (t := e.2.2.2.2.1) (ys := e.2.2.2.2.2) 3 (code := 0) (l' := (etaken (ts ++ [e]))) (show (if ewrong e.exp = true then (2 : Int) else 0) = 0 by rw [hwe]; rfl) (show eput1 [] e = (etaken (ts ++ [e])) from hel) rfl rfl (fk Tryz.func36) rfl rfl (by decide) (Nat.le_of_ble_eq_true rfl) (Nat.le_of_ble_eq_true rfl) rfl (fun w1 k1 b1 => hraw.kp (Kp.of (U := UU) b1)) hi1 hi2 hx1 hx2 (by decide) (fun w2 k2 b2 hnil2 => wV rfl ?_) (fun w2 n2 c2 vs2 sp2 k2 b2 h0 h1 h2 h3 h4 h5 h6 => wV rfl ?_)
    ·(repeat first|refine wN ?_|refine wP rfl ?_|refine cxE_r rfl ?_|refine cxE_d rfl ?_|refine wO rfl rfl ?_)
     refine VO.callF rfl (fk Tryz.func27) (fun wa5 β5 ka5 ba5 ho5 => (ref18_any _ [e] 3 wa5 (ownV_sl (exp_ok 3) (ho5.own 48 (.base (List.mem_singleton.2 rfl)) _ _ rfl) [] (vs := [[.int .i64 e.1, .int .i64 e.2.1, .bool e.2.2.1, .slice ep e.2.2.2.1.length ec, .bool e.2.2.2.2.1, .slice er e.2.2.2.2.2.length ed]]) (by rfl) (RowE.cons (hE0.kp (Kp.of (U := UU) ba5)) RowE.nil) rfl (Nat.le_refl _) (by simp)) (by decide) (by simp)).mono ?_)
     rintro o5 w5 ⟨r5, rfl, q5, hb5⟩
     obtain ⟨b5, cc5, vs5, sp5, rfl, hB5, hcls5, hrow5, -, -, -, -⟩ := q5.resolve_left (fun h => by cases h.2)
     obtain ⟨cs5, rfl, hE5⟩ : ∃ cs5, vs5 = [cs5] ∧ ExpE 3 w5 cs5 e := by
      cases hrow5 with
      | cons h1 h2 => cases h2; exact ⟨_, rfl, h1⟩
     obtain ⟨p5, c5, r5, d5, rfl, -⟩ := id hE5
     rw [show [e].length = 1 from rfl]
     refine ⟨_, rfl, hb5, fun kb5 _ bb5 => wV rfl ?_⟩
     (repeat first|refine wN ?_|refine wP rfl ?_|refine cxE_r rfl ?_|refine cxE_d rfl ?_|refine wO rfl rfl ?_)
     refine VO.cond rfl ⟨by omega, by omega⟩ ?_
     refine wV rfl ?_
     (repeat first|refine wN ?_|refine wP rfl ?_|refine cxE_r rfl ?_|refine cxE_d rfl ?_|refine wO rfl rfl ?_)
     refine VO.readNow rfl [.int .i64 e.1, .int .i64 e.2.1, .bool e.2.2.1, .slice p5 e.2.2.2.1.length c5, .bool e.2.2.2.2.1, .slice r5 e.2.2.2.2.2.length d5] rfl (fun w1 k1 b1 => cls_cells (k1.block _ b5 _ rfl trivial hcls5)) (wV rfl ?_)
     (repeat first|refine wN ?_|refine wP rfl ?_|refine cxE_r rfl ?_|refine cxE_d rfl ?_|refine wO rfl rfl ?_)
     refine VO.call rfl rfl (fk Tryz.func37) (fun wa6 ka6 ba6 => (q18Error_any _ e 3 wa6 ⟨_, rfl, hE5.kp (by (with_reducible (repeat (first | assumption | exact kU _ | exact kR _ | exact Kp.of (U := UU) (by assumption) | exact KpS.of (by assumption) | refine kT ?_ (by assumption)))))⟩ (by omega) 0 (by rw [hwe]; rfl)).mono ?_)
     rintro e w6 ⟨rfl, hb6⟩
     skip
     refine ⟨_, rfl, hb6, fun kb6 _ bb6 => wV rfl ?_⟩
     (repeat first|refine wN ?_|refine wP rfl ?_|refine cxE_r rfl ?_|refine cxE_d rfl ?_|refine wO rfl rfl ?_)
     refine VO.app (cxE_ok _ _) (t := 22) (e := 36) (sz := 6) (n := 0) (c := 0) (mm := 1) (known := []) (spare := []) (del := none) (news := ([.int .i64 e.1, .int .i64 e.2.1, .bool e.2.2.1, .slice ep e.2.2.2.1.length ec, .bool e.2.2.2.2.1, .slice er e.2.2.2.2.2.length ed] : List Value).map .val) (dst := 61) rfl rfl rfl rfl rfl rfl rfl rfl (Nat.le_of_ble_eq_true rfl) rfl (.inl ⟨rfl, rfl, rfl, rfl, rfl, rfl, by omega⟩) (.inl rfl) rfl rfl (by omega) (by omega) ⟨rfl, rfl, rfl⟩ ⟨rfl, rfl, rfl⟩ rfl (by omega)
      (fun w1 β k1 b1 ho => ⟨_, _, rfl, .inr ⟨β 60, 0, rfl, own_src (rest := []) (ho.own 60 (.base (List.mem_append_right _ (List.mem_singleton.2 rfl))) _ _ rfl) rfl⟩⟩)
      (fun w13 cap' spare' ρ' k13 b13 hρ' hc1 hc2 hlen2 hok' hlid' => wV rfl ?_)
     (repeat first|refine wN ?_|refine wP rfl ?_|refine cxE_r rfl ?_|refine cxE_d rfl ?_|refine wO rfl rfl ?_)
     have hE13 : ExpE 3 w13 [.int .i64 e.1, .int .i64 e.2.1, .bool e.2.2.1, .slice ep e.2.2.2.1.length ec, .bool e.2.2.2.2.1, .slice er e.2.2.2.2.2.length ed] e := hE0.kp (Kp.of (U := UU) b13)
     refine VS.back (N + 1 - (i + 1)) (by omega) ⟨_, _, ?_, ?_, ?_, ?_, ⟨i + 1, _, (ts ++ [e]), by omega, rfl, htk', rfl, .inr (.inl ⟨hnil2, (0 + 1), cap', [[.int .i64 e.1, .int .i64 e.2.1, .bool e.2.2.1, .slice ep e.2.2.2.1.length ec, .bool e.2.2.2.2.1, .slice er e.2.2.2.2.2.length ed]], spare', rfl, rfl, (by rw [hts]; exact ⟨rfl, .cons hE13 .nil, by simpa using hlen2, by omega, hc2, hok', hlid'⟩)⟩)⟩⟩
     ·refine ⟨rfl, rfl, rfl, rfl, ?_, trivial⟩
      rw [← nat_step (i := i) (by omega)]; rfl
     ·(repeat first|exact trivial|refine ⟨rfl, ?_⟩)
     ·rfl
     ·exact ⟨.lit rfl, .lit rfl, .append (.vals _) (.none hlid'), trivial⟩
    ·(repeat first|refine wN ?_|refine wP rfl ?_|refine cxE_r rfl ?_|refine cxE_d rfl ?_|refine wO rfl rfl ?_)
     refine VO.callF rfl (fk Tryz.func27) (fun wa5 β5 ka5 ba5 ho5 => (ref18_any _ [e] 3 wa5 (ownV_sl (exp_ok 3) (ho5.own 48 (.base (List.mem_singleton.2 rfl)) _ _ rfl) [] (vs := [[.int .i64 e.1, .int .i64 e.2.1, .bool e.2.2.1, .slice ep e.2.2.2.1.length ec, .bool e.2.2.2.2.1, .slice er e.2.2.2.2.2.length ed]]) (by rfl) (RowE.cons (hE0.kp (Kp.of (U := UU) ba5)) RowE.nil) rfl (Nat.le_refl _) (by simp)) (by decide) (by simp)).mono ?_)
     rintro o5 w5 ⟨r5, rfl, q5, hb5⟩
     obtain ⟨b5, cc5, vs5, sp5, rfl, hB5, hcls5, hrow5, -, -, -, -⟩ := q5.resolve_left (fun h => by cases h.2)
     obtain ⟨cs5, rfl, hE5⟩ : ∃ cs5, vs5 = [cs5] ∧ ExpE 3 w5 cs5 e := by
      cases hrow5 with
      | cons h1 h2 => cases h2; exact ⟨_, rfl, h1⟩
     obtain ⟨p5, c5, r5, d5, rfl, -⟩ := id hE5
     rw [show [e].length = 1 from rfl]
     refine ⟨_, rfl, hb5, fun kb5 _ bb5 => wV rfl ?_⟩
     (repeat first|refine wN ?_|refine wP rfl ?_|refine cxE_r rfl ?_|refine cxE_d rfl ?_|refine wO rfl rfl ?_)
     refine VO.cond rfl ⟨by omega, by omega⟩ ?_
     refine wV rfl ?_
     (repeat first|refine wN ?_|refine wP rfl ?_|refine cxE_r rfl ?_|refine cxE_d rfl ?_|refine wO rfl rfl ?_)
     refine VO.readNow rfl [.int .i64 e.1, .int .i64 e.2.1, .bool e.2.2.1, .slice p5 e.2.2.2.1.length c5, .bool e.2.2.2.2.1, .slice r5 e.2.2.2.2.2.length d5] rfl (fun w1 k1 b1 => cls_cells (k1.block _ b5 _ rfl trivial hcls5)) (wV rfl ?_)
     (repeat first|refine wN ?_|refine wP rfl ?_|refine cxE_r rfl ?_|refine cxE_d rfl ?_|refine wO rfl rfl ?_)
     refine VO.call rfl rfl (fk Tryz.func37) (fun wa6 ka6 ba6 => (q18Error_any _ e 3 wa6 ⟨_, rfl, hE5.kp (by (with_reducible (repeat (first | assumption | exact kU _ | exact kR _ | exact Kp.of (U := UU) (by assumption) | exact KpS.of (by assumption) | refine kT ?_ (by assumption)))))⟩ (by omega) 0 (by rw [hwe]; rfl)).mono ?_)
     rintro e w6 ⟨rfl, hb6⟩
     skip
     refine ⟨_, rfl, hb6, fun kb6 _ bb6 => wV rfl ?_⟩
     (repeat first|refine wN ?_|refine wP rfl ?_|refine cxE_r rfl ?_|refine cxE_d rfl ?_|refine wO rfl rfl ?_)
     refine VO.app (cxE_ok _ _) (t := 22) (e := 36) (sz := 6) (n := 0) (c := 0) (mm := 1) (known := []) (spare := []) (del := none) (news := ([.int .i64 e.1, .int .i64 e.2.1, .bool e.2.2.1, .slice ep e.2.2.2.1.length ec, .bool e.2.2.2.2.1, .slice er e.2.2.2.2.2.length ed] : List Value).map .val) (dst := 61) rfl rfl rfl rfl rfl rfl rfl rfl (Nat.le_of_ble_eq_true rfl) rfl (.inl ⟨rfl, rfl, rfl, rfl, rfl, rfl, by omega⟩) (.inl rfl) rfl rfl (by omega) (by omega) ⟨rfl, rfl, rfl⟩ ⟨rfl, rfl, rfl⟩ rfl (by omega)
      (fun w1 β k1 b1 ho => ⟨_, _, rfl, .inr ⟨β 60, 0, rfl, own_src (rest := []) (ho.own 60 (.base (List.mem_append_right _ (List.mem_singleton.2 rfl))) _ _ rfl) rfl⟩⟩)
      (fun w13 cap' spare' ρ' k13 b13 hρ' hc1 hc2 hlen2 hok' hlid' => wV rfl ?_)
     (repeat first|refine wN ?_|refine wP rfl ?_|refine cxE_r rfl ?_|refine cxE_d rfl ?_|refine wO rfl rfl ?_)
     have hE13 : ExpE 3 w13 [.int .i64 e.1, .int .i64 e.2.1, .bool e.2.2.1, .slice ep e.2.2.2.1.length ec, .bool e.2.2.2.2.1, .slice er e.2.2.2.2.2.length ed] e := hE0.kp (Kp.of (U := UU) b13)
     refine VS.back (N + 1 - (i + 1)) (by omega) ⟨_, _, ?_, ?_, ?_, ?_, ⟨i + 1, _, (ts ++ [e]), by omega, rfl, htk', rfl, .inr (.inr ⟨(0 + 1), cap', [[.int .i64 e.1, .int .i64 e.2.1, .bool e.2.2.1, .slice ep e.2.2.2.1.length ec, .bool e.2.2.2.2.1, .slice er e.2.2.2.2.2.length ed]], spare', n2, c2, vs2, sp2, rfl, rfl, (by rw [hts]; exact ⟨rfl, .cons hE13 .nil, by simpa using hlen2, by omega, hc2, hok', hlid'⟩), ⟨h1, h2.kp (exp_ok 3) kE, h3, h4, h5, h6⟩⟩)⟩⟩
     ·refine ⟨rfl, rfl, rfl, rfl, ?_, trivial⟩
      rw [← nat_step (i := i) (by omega)]; rfl
     ·(repeat first|exact trivial|refine ⟨rfl, ?_⟩)
     ·rfl
     ·exact ⟨.lit rfl, .lit rfl, .append (.vals _) (.vals _), .append (.vals _) (.none hlid'), trivial⟩
 ·(repeat first|refine wN ?_|refine wP rfl ?_|refine cxE_r rfl ?_|refine cxE_d rfl ?_|refine wO rfl rfl ?_)
  refine (Nat.lt_or_ge i N).elim (fun hlt => ?cB1) (fun hge => ?cB2)
  case' cB1 =>
   obtain ⟨e, hel0⟩ : ∃ e, l[i]? = some e := ⟨_, List.getElem?_eq_getElem (by omega)⟩
   have he : lsx[i]? = some e := by rw [hlsx, List.getElem?_append_left (by omega)]; exact hel0
   obtain ⟨b, off, cs', hpp, hc, hE⟩ := hl3.at hel0
   have hE0 := hE
   obtain ⟨ep, ec, er, ed, rfl, hi1, hi2, hraw, hx1, hx2⟩ := hE
   refine VS.condY rfl (decide_eq_true (by omega)) ?_
   (repeat first|refine wN ?_|refine wP rfl ?_|refine cxE_r rfl ?_|refine cxE_d rfl ?_|refine wO rfl rfl ?_)
   refine VS.condY rfl (decide_eq_true (by omega)) ?_
   simp only [hpp]
   (repeat first|refine wN ?_|refine wP rfl ?_|refine cxE_r rfl ?_|refine cxE_d rfl ?_|refine wO rfl rfl ?_)
   refine VO.cond rfl ⟨by omega, by omega⟩ ?_
   refine wV rfl ?_
   (repeat first|refine wN ?_|refine wP rfl ?_|refine cxE_r rfl ?_|refine cxE_d rfl ?_|refine wO rfl rfl ?_)
   refine VO.read rfl [.int .i64 e.1, .int .i64 e.2.1, .bool e.2.2.1, .slice ep e.2.2.2.1.length ec, .bool e.2.2.2.2.1, .slice er e.2.2.2.2.2.length ed] rfl (cells_at hc 0 _ ⟨[], rfl⟩) (wV rfl ?_)
   (repeat first|refine wN ?_|refine wP rfl ?_|refine cxE_r rfl ?_|refine cxE_d rfl ?_|refine wO rfl rfl ?_)
  case' cB2 =>
   have hiN : i = N := by omega
   obtain ⟨e, he0⟩ : ∃ e, e = x := ⟨_, rfl⟩
   have he : lsx[i]? = some e := by rw [hlsx, List.getElem?_append_right (by omega), show i - l.length = 0 by omega, he0]; rfl
   obtain ⟨ep, hep⟩ : ∃ a, a = xp := ⟨_, rfl⟩
   obtain ⟨ec, hec⟩ : ∃ a, a = xc := ⟨_, rfl⟩
   obtain ⟨er, her⟩ : ∃ a, a = xr := ⟨_, rfl⟩
   obtain ⟨ed, hed⟩ : ∃ a, a = xd := ⟨_, rfl⟩
   subst he0 hep hec her hed
   have hE0 := hxE
   obtain ⟨hi1, hi2, hraw, hx1, hx2⟩ := hx5
   refine VS.condY rfl (decide_eq_true (by omega)) ?_
   (repeat first|refine wN ?_|refine wP rfl ?_|refine cxE_r rfl ?_|refine cxE_d rfl ?_|refine wO rfl rfl ?_)
   refine VS.condN rfl (decide_eq_false (by omega)) ?_
   (repeat first|refine wN ?_|refine wP rfl ?_|refine cxE_r rfl ?_|refine cxE_d rfl ?_|refine wO rfl rfl ?_)
  all_goals
   cases hwe : ewrong e.exp with
   | true =>
    refine VO.callPut0 (d1 := 23) (d2 := 46) (y := e.1) (z := e.2.1) (s := e.2.2.1) (xs := e.2.2.2.1) (t := e.2.2.2.2.1) (ys := e.2.2.2.2.2) 3 (code := 2) (l' := []) (show (if ewrong e.exp = true then (2 : Int) else 0) = 2 by rw [hwe]; rfl) (show eput1 [] e = [] from eput1_wrong hwe) rfl rfl (fk Tryz.func36) rfl rfl (by decide) (Nat.le_of_ble_eq_true rfl) (Nat.le_of_ble_eq_true rfl) rfl (fun w1 k1 b1 => hraw.kp (Kp.of (U := UU) b1)) hi1 hi2 hx1 hx2 (by decide) (fun w2 k2 b2 hnil2 => wV rfl ?_) (fun w2 n2 c2 vs2 sp2 k2 b2 h0 h1 h2 h3 h4 h5 h6 => absurd rfl h0)
    (repeat first|refine wN ?_|refine wP rfl ?_|refine cxE_r rfl ?_|refine cxE_d rfl ?_|refine wO rfl rfl ?_)
    refine VO.callF rfl (fk Tryz.func27) (fun wa5 β5 ka5 ba5 ho5 => (ref18_any _ [e] 3 wa5 (ownV_sl (exp_ok 3) (ho5.own 48 (.base (List.mem_singleton.2 rfl)) _ _ rfl) [] (vs := [[.int .i64 e.1, .int .i64 e.2.1, .bool e.2.2.1, .slice ep e.2.2.2.1.length ec, .bool e.2.2.2.2.1, .slice er e.2.2.2.2.2.length ed]]) (by rfl) (RowE.cons (hE0.kp (Kp.of (U := UU) ba5)) RowE.nil) rfl (Nat.le_refl _) (by simp)) (by decide) (by simp)).mono ?_)
    rintro o5 w5 ⟨r5, rfl, q5, hb5⟩
    obtain ⟨b5, cc5, vs5, sp5, rfl, hB5, hcls5, hrow5, -, -, -, -⟩ := q5.resolve_left (fun h => by cases h.2)
    obtain ⟨cs5, rfl, hE5⟩ : ∃ cs5, vs5 = [cs5] ∧ ExpE 3 w5 cs5 e := by
     cases hrow5 with
     | cons h1 h2 => cases h2; exact ⟨_, rfl, h1⟩
    obtain ⟨p5, c5, r5, d5, rfl, -⟩ := id hE5
    rw [show [e].length = 1 from rfl]
    refine ⟨_, rfl, hb5, fun kb5 _ bb5 => wV rfl ?_⟩
    (repeat first|refine wN ?_|refine wP rfl ?_|refine cxE_r rfl ?_|refine cxE_d rfl ?_|refine wO rfl rfl ?_)
    refine VO.cond rfl ⟨by omega, by omega⟩ ?_
    refine wV rfl ?_
    (repeat first|refine wN ?_|refine wP rfl ?_|refine cxE_r rfl ?_|refine cxE_d rfl ?_|refine wO rfl rfl ?_)
    refine VO.readNow rfl [.int .i64 e.1, .int .i64 e.2.1, .bool e.2.2.1, .slice p5 e.2.2.2.1.length c5, .bool e.2.2.2.2.1, .slice r5 e.2.2.2.2.2.length d5] rfl (fun w1 k1 b1 => cls_cells (k1.block _ b5 _ rfl trivial hcls5)) (wV rfl ?_)
    (repeat first|refine wN ?_|refine wP rfl ?_|refine cxE_r rfl ?_|refine cxE_d rfl ?_|refine wO rfl rfl ?_)
    refine VO.call rfl rfl (fk Tryz.func37) (fun wa6 ka6 ba6 => (q18Error_any _ e 3 wa6 ⟨_, rfl, hE5.kp (by (with_reducible (repeat (first | assumption | exact kU _ | exact kR _ | exact Kp.of (U := UU) (by assumption) | exact KpS.of (by assumption) | refine kT ?_ (by assumption)))))⟩ (by omega) 2 (by rw [hwe]; rfl)).mono ?_)
    rintro e w6 ⟨rfl, hb6⟩
    skip
    refine ⟨_, rfl, hb6, fun kb6 _ bb6 => wV rfl ?_⟩
    (repeat first|refine wN ?_|refine wP rfl ?_|refine cxE_r rfl ?_|refine cxE_d rfl ?_|refine wO rfl rfl ?_)
    refine VS.back (N + 1 - (i + 1)) (by omega) ⟨_, _, ?_, ?_, ?_, ?_, ⟨i + 1, _, ts, by omega, rfl, (by rw [tk_skip he hwe]; exact htk), rfl, .inr (.inl ⟨het, n, c', vs, spare, rfl, rfl, ⟨htn, htr.kp (exp_ok 3) kE, htl, htc, htm, hto, hti⟩⟩)⟩⟩
    ·refine ⟨rfl, rfl, rfl, rfl, ?_, trivial⟩
     rw [← nat_step (i := i) (by omega)]; rfl
    ·(repeat first|exact trivial|refine ⟨rfl, ?_⟩)
    ·rfl
    ·exact ⟨.lit rfl, .lit rfl, .append (.vals _) (.none hti), trivial⟩
   | false =>
    have htk' : ts ++ [e] = (lsx.take (i + 1)).filter eok := by rw [tk_snoc he hwe, htk]
    have hew' : ∀ x ∈ ts ++ [e], ewrong x.exp = false := fun x hx => tk_ok (htk' ▸ hx)
    have hel : eput1 [] e = etaken (ts ++ [e]) := by rw [← eput1_snoc hwe, het]
    refine VO.callPut0 (d1 := 23) (d2 := 46) (y := e.1) (z := e.2.1) (s := e.2.2.1) (xs := e.2.2.2.1) (t := e.2.2.2.2.1) (ys := e.2.2.2.2.2) 3 (code := 0) (l' := (etaken (ts ++ [e]))) (show (if ewrong e.exp = true then (2 : Int) else 0) = 0 by rw [hwe]; rfl) (show eput1 [] e = (etaken (ts ++ [e])) from hel) rfl rfl (fk Tryz.func36) rfl rfl (by decide) (Nat.le_of_ble_eq_true rfl) (Nat.le_of_ble_eq_true rfl) rfl (fun w1 k1 b1 => hraw.kp (Kp.of (U := UU) b1)) hi1 hi2 hx1 hx2 (by decide) (fun w2 k2 b2 hnil2 => wV rfl ?_) (fun w2 n2 c2 vs2 sp2 k2 b2 h0 h1 h2 h3 h4 h5 h6 => wV rfl ?_)
    ·(repeat first|refine wN ?_|refine wP rfl ?_|refine cxE_r rfl ?_|refine cxE_d rfl ?_|refine wO rfl rfl ?_)
     refine VO.callF rfl (fk Tryz.func27) (fun wa5 β5 ka5 ba5 ho5 => (ref18_any _ [e] 3 wa5 (ownV_sl (exp_ok 3) (ho5.own 48 (.base (List.mem_singleton.2 rfl)) _ _ rfl) [] (vs := [[.int .i64 e.1, .int .i64 e.2.1, .bool e.2.2.1, .slice ep e.2.2.2.1.length ec, .bool e.2.2.2.2.1, .slice er e.2.2.2.2.2.length ed]]) (by rfl) (RowE.cons (hE0.kp (Kp.of (U := UU) ba5)) RowE.nil) rfl (Nat.le_refl _) (by simp)) (by decide) (by simp)).mono ?_)
     rintro o5 w5 ⟨r5, rfl, q5, hb5⟩
     obtain ⟨b5, cc5, vs5, sp5, rfl, hB5, hcls5, hrow5, -, -, -, -⟩ := q5.resolve_left (fun h => by cases h.2)
     obtain ⟨cs5, rfl, hE5⟩ : ∃ cs5, vs5 = [cs5] ∧ ExpE 3 w5 cs5 e := by
      cases hrow5 with
      | cons h1 h2 => cases h2; exact ⟨_, rfl, h1⟩
     obtain ⟨p5, c5, r5, d5, rfl, -⟩ := id hE5
     rw [show [e].length = 1 from rfl]
     refine ⟨_, rfl, hb5, fun kb5 _ bb5 => wV rfl ?_⟩
     (repeat first|refine wN ?_|refine wP rfl ?_|refine cxE_r rfl ?_|refine cxE_d rfl ?_|refine wO rfl rfl ?_)
     refine VO.cond rfl ⟨by omega, by omega⟩ ?_
     refine wV rfl ?_
     (repeat first|refine wN ?_|refine wP rfl ?_|refine cxE_r rfl ?_|refine cxE_d rfl ?_|refine wO rfl rfl ?_)
     refine VO.readNow rfl [.int .i64 e.1, .int .i64 e.2.1, .bool e.2.2.1, .slice p5 e.2.2.2.1.length c5, .bool e.2.2.2.2.1, .slice r5 e.2.2.2.2.2.length d5] rfl (fun w1 k1 b1 => cls_cells (k1.block _ b5 _ rfl trivial hcls5)) (wV rfl ?_)
     (repeat first|refine wN ?_|refine wP rfl ?_|refine cxE_r rfl ?_|refine cxE_d rfl ?_|refine wO rfl rfl ?_)
     refine VO.call rfl rfl (fk Tryz.func37) (fun wa6 ka6 ba6 => (q18Error_any _ e 3 wa6 ⟨_, rfl, hE5.kp (by (with_reducible (repeat (first | assumption | exact kU _ | exact kR _ | exact Kp.of (U := UU) (by assumption) | exact KpS.of (by assumption) | refine kT ?_ (by assumption)))))⟩ (by omega) 0 (by rw [hwe]; rfl)).mono ?_)
     rintro e w6 ⟨rfl, hb6⟩
     skip
     refine ⟨_, rfl, hb6, fun kb6 _ bb6 => wV rfl ?_⟩
     (repeat first|refine wN ?_|refine wP rfl ?_|refine cxE_r rfl ?_|refine cxE_d rfl ?_|refine wO rfl rfl ?_)
     refine VO.app (cxE_ok _ _) (t := 22) (e := 36) (sz := 6) (n := n) (c := c') (mm := 1) (known := vs.flatten.map .val) (spare := spare) (del := some 61) (news := ([.int .i64 e.1, .int .i64 e.2.1, .bool e.2.2.1, .slice ep e.2.2.2.1.length ec, .bool e.2.2.2.2.1, .slice er e.2.2.2.2.2.length ed] : List Value).map .val) (dst := 61) rfl rfl rfl rfl rfl rfl rfl rfl (Nat.le_of_ble_eq_true rfl) rfl (.inr ⟨61, rfl, rfl, rfl⟩) (.inr rfl) (by rw [List.length_map, (htr.ok (exp_ok 3)).2, htn]) htl htc htm ⟨lidsOf_vals _, hti, rfl⟩ ⟨vals_ok (htr.ok (exp_ok 3)).1, hto, rfl⟩ rfl (by omega)
      (fun w1 β k1 b1 ho => ⟨_, _, rfl, .inr ⟨β 60, 0, rfl, own_src (rest := []) (ho.own 60 (.base (List.mem_append_right _ (List.mem_singleton.2 rfl))) _ _ rfl) rfl⟩⟩)
      (fun w13 cap' spare' ρ' k13 b13 hρ' hc1 hc2 hlen2 hok' hlid' => wV rfl ?_)
     (repeat first|refine wN ?_|refine wP rfl ?_|refine cxE_r rfl ?_|refine cxE_d rfl ?_|refine wO rfl rfl ?_)
     have hE13 : ExpE 3 w13 [.int .i64 e.1, .int .i64 e.2.1, .bool e.2.2.1, .slice ep e.2.2.2.1.length ec, .bool e.2.2.2.2.1, .slice er e.2.2.2.2.2.length ed] e := hE0.kp (Kp.of (U := UU) b13)
     refine VS.back (N + 1 - (i + 1)) (by omega) ⟨_, _, ?_, ?_, ?_, ?_, ⟨i + 1, _, (ts ++ [e]), by omega, rfl, htk', rfl, .inr (.inl ⟨hnil2, (n + 1), cap', (vs ++ [[.int .i64 e.1, .int .i64 e.2.1, .bool e.2.2.1, .slice ep e.2.2.2.1.length ec, .bool e.2.2.2.2.1, .slice er e.2.2.2.2.2.length ed]]), spare', rfl, rfl, ⟨by rw [htn]; simp, (htr.kp (exp_ok 3) kE).snoc hE13, by simpa [List.flatten_append] using hlen2, hc1, hc2, hok', hlid'⟩⟩)⟩⟩
     ·refine ⟨rfl, rfl, rfl, rfl, ?_, trivial⟩
      rw [← nat_step (i := i) (by omega)]; rfl
     ·exact ⟨rfl, rfl, congrArg (fun l => some (_, l ++ spare')) (by simp), trivial⟩
     ·rfl
     ·exact ⟨.lit rfl, .lit rfl, .append (.vals _) (.none hlid'), trivial⟩
    ·(repeat first|refine wN ?_|refine wP rfl ?_|refine cxE_r rfl ?_|refine cxE_d rfl ?_|refine wO rfl rfl ?_)
     refine VO.callF rfl (fk Tryz.func27) (fun wa5 β5 ka5 ba5 ho5 => (ref18_any _ [e] 3 wa5 (ownV_sl (exp_ok 3) (ho5.own 48 (.base (List.mem_singleton.2 rfl)) _ _ rfl) [] (vs := [[.int .i64 e.1, .int .i64 e.2.1, .bool e.2.2.1, .slice ep e.2.2.2.1.length ec, .bool e.2.2.2.2.1, .slice er e.2.2.2.2.2.length ed]]) (by rfl) (RowE.cons (hE0.kp (Kp.of (U := UU) ba5)) RowE.nil) rfl (Nat.le_refl _) (by simp)) (by decide) (by simp)).mono ?_)
     rintro o5 w5 ⟨r5, rfl, q5, hb5⟩
     obtain ⟨b5, cc5, vs5, sp5, rfl, hB5, hcls5, hrow5, -, -, -, -⟩ := q5.resolve_left (fun h => by cases h.2)
     obtain ⟨cs5, rfl, hE5⟩ : ∃ cs5, vs5 = [cs5] ∧ ExpE 3 w5 cs5 e := by
      cases hrow5 with
      | cons h1 h2 => cases h2; exact ⟨_, rfl, h1⟩
     obtain ⟨p5, c5, r5, d5, rfl, -⟩ := id hE5
     rw [show [e].length = 1 from rfl]
     refine ⟨_, rfl, hb5, fun kb5 _ bb5 => wV rfl ?_⟩
     (repeat first|refine wN ?_|refine wP rfl ?_|refine cxE_r rfl ?_|refine cxE_d rfl ?_|refine wO rfl rfl ?_)
     refine VO.cond rfl ⟨by omega, by omega⟩ ?_
     refine wV rfl ?_
     (repeat first|refine wN ?_|refine wP rfl ?_|refine cxE_r rfl ?_|refine cxE_d rfl ?_|refine wO rfl rfl ?_)
     refine VO.readNow rfl [.int .i64 e.1, .int .i64 e.2.1, .bool e.2.2.1, .slice p5 e.2.2.2.1.length c5, .bool e.2.2.2.2.1, .slice r5 e.2.2.2.2.2.length d5] rfl (fun w1 k1 b1 => cls_cells (k1.block _ b5 _ rfl trivial hcls5)) (wV rfl ?_)
     (repeat first|refine wN ?_|refine wP rfl ?_|refine cxE_r rfl ?_|refine cxE_d rfl ?_|refine wO rfl rfl ?_)
     refine VO.call rfl rfl (fk Tryz.func37) (fun wa6 ka6 ba6 => (q18Error_any _ e 3 wa6 ⟨_, rfl, hE5.kp (by (with_reducible (repeat (first | assumption | exact kU _ | exact kR _ | exact Kp.of (U := UU) (by assumption) | exact KpS.of (by assumption) | refine kT ?_ (by assumption)))))⟩ (by omega) 0 (by rw [hwe]; rfl)).mono ?_)
     rintro e w6 ⟨rfl, hb6⟩
     skip
     refine ⟨_, rfl, hb6, fun kb6 _ bb6 => wV rfl ?_⟩
     (repeat first|refine wN ?_|refine wP rfl ?_|refine cxE_r rfl ?_|refine cxE_d rfl ?_|refine wO rfl rfl ?_)
     refine VO.app (cxE_ok _ _) (t := 22) (e := 36) (sz := 6) (n := n) (c := c') (mm := 1) (known := vs.flatten.map .val) (spare := spare) (del := some 61) (news := ([.int .i64 e.1, .int .i64 e.2.1, .bool e.2.2.1, .slice ep e.2.2.2.1.length ec, .bool e.2.2.2.2.1, .slice er e.2.2.2.2.2.length ed] : List Value).map .val) (dst := 61) rfl rfl rfl rfl rfl rfl rfl rfl (Nat.le_of_ble_eq_true rfl) rfl (.inr ⟨61, rfl, rfl, rfl⟩) (.inr rfl) (by rw [List.length_map, (htr.ok (exp_ok 3)).2, htn]) htl htc htm ⟨lidsOf_vals _, hti, rfl⟩ ⟨vals_ok (htr.ok (exp_ok 3)).1, hto, rfl⟩ rfl (by omega)
      (fun w1 β k1 b1 ho => ⟨_, _, rfl, .inr ⟨β 60, 0, rfl, own_src (rest := []) (ho.own 60 (.base (List.mem_append_right _ (List.mem_singleton.2 rfl))) _ _ rfl) rfl⟩⟩)
      (fun w13 cap' spare' ρ' k13 b13 hρ' hc1 hc2 hlen2 hok' hlid' => wV rfl ?_)
     (repeat first|refine wN ?_|refine wP rfl ?_|refine cxE_r rfl ?_|refine cxE_d rfl ?_|refine wO rfl rfl ?_)
     have hE13 : ExpE 3 w13 [.int .i64 e.1, .int .i64 e.2.1, .bool e.2.2.1, .slice ep e.2.2.2.1.length ec, .bool e.2.2.2.2.1, .slice er e.2.2.2.2.2.length ed] e := hE0.kp (Kp.of (U := UU) b13)
     refine VS.back (N + 1 - (i + 1)) (by omega) ⟨_, _, ?_, ?_, ?_, ?_, ⟨i + 1, _, (ts ++ [e]), by omega, rfl, htk', rfl, .inr (.inr ⟨(n + 1), cap', (vs ++ [[.int .i64 e.1, .int .i64 e.2.1, .bool e.2.2.1, .slice ep e.2.2.2.1.length ec, .bool e.2.2.2.2.1, .slice er e.2.2.2.2.2.length ed]]), spare', n2, c2, vs2, sp2, rfl, rfl, ⟨by rw [htn]; simp, (htr.kp (exp_ok 3) kE).snoc hE13, by simpa [List.flatten_append] using hlen2, hc1, hc2, hok', hlid'⟩, ⟨h1, h2.kp (exp_ok 3) kE, h3, h4, h5, h6⟩⟩)⟩⟩
     ·refine ⟨rfl, rfl, rfl, rfl, ?_, trivial⟩
      rw [← nat_step (i := i) (by omega)]; rfl
     ·exact ⟨rfl, rfl, congrArg (fun l => some (_, l)) (fgl_none (by rw [← List.map_append, lidsOf_vals]) _ _), congrArg (fun l => some (_, l ++ spare')) (by simp), trivial⟩
     ·rfl
     ·exact ⟨.lit rfl, .lit rfl, .append (.vals _) (.vals _), .append (.vals _) (.none hlid'), trivial⟩
 ·(repeat first|refine wN ?_|refine wP rfl ?_|refine cxE_r rfl ?_|refine cxE_d rfl ?_|refine wO rfl rfl ?_)
  refine (Nat.lt_or_ge i N).elim (fun hlt => ?cC1) (fun hge => ?cC2)
  case' cC1 =>
   obtain ⟨e, hel0⟩ : ∃ e, l[i]? = some e := ⟨_, List.getElem?_eq_getElem (by omega)⟩
   have he : lsx[i]? = some e := by rw [hlsx, List.getElem?_append_left (by omega)]; exact hel0
   obtain ⟨b, off, cs', hpp, hc, hE⟩ := hl3.at hel0
   have hE0 := hE
   obtain ⟨ep, ec, er, ed, rfl, hi1, hi2, hraw, hx1, hx2⟩ := hE
   refine VS.condY rfl (decide_eq_true (by omega)) ?_
   (repeat first|refine wN ?_|refine wP rfl ?_|refine cxE_r rfl ?_|refine cxE_d rfl ?_|refine wO rfl rfl ?_)
   refine VS.condY rfl (decide_eq_true (by omega)) ?_
   simp only [hpp]
   (repeat first|refine wN ?_|refine wP rfl ?_|refine cxE_r rfl ?_|refine cxE_d rfl ?_|refine wO rfl rfl ?_)
   refine VO.cond rfl ⟨by omega, by omega⟩ ?_
   refine wV rfl ?_
   (repeat first|refine wN ?_|refine wP rfl ?_|refine cxE_r rfl ?_|refine cxE_d rfl ?_|refine wO rfl rfl ?_)
   refine VO.read rfl [.int .i64 e.1, .int .i64 e.2.1, .bool e.2.2.1, .slice ep e.2.2.2.1.length ec, .bool e.2.2.2.2.1, .slice er e.2.2.2.2.2.length ed] rfl (cells_at hc 0 _ ⟨[], rfl⟩) (wV rfl ?_)
   (repeat first|refine wN ?_|refine wP rfl ?_|refine cxE_r rfl ?_|refine cxE_d rfl ?_|refine wO rfl rfl ?_)
  case' cC2 =>
   have hiN : i = N := by omega
   obtain ⟨e, he0⟩ : ∃ e, e = x := ⟨_, rfl⟩
   have he : lsx[i]? = some e := by rw [hlsx, List.getElem?_append_right (by omega), show i - l.length = 0 by omega, he0]; rfl
   obtain ⟨ep, hep⟩ : ∃ a, a = xp := ⟨_, rfl⟩
   obtain ⟨ec, hec⟩ : ∃ a, a = xc := ⟨_, rfl⟩
   obtain ⟨er, her⟩ : ∃ a, a = xr := ⟨_, rfl⟩
   obtain ⟨ed, hed⟩ : ∃ a, a = xd := ⟨_, rfl⟩
   subst he0 hep hec her hed
   have hE0 := hxE
   obtain ⟨hi1, hi2, hraw, hx1, hx2⟩ := hx5
   refine VS.condY rfl (decide_eq_true (by omega)) ?_
   (repeat first|refine wN ?_|refine wP rfl ?_|refine cxE_r rfl ?_|refine cxE_d rfl ?_|refine wO rfl rfl ?_)
   refine VS.condN rfl (decide_eq_false (by omega)) ?_
   (repeat first|refine wN ?_|refine wP rfl ?_|refine cxE_r rfl ?_|refine cxE_d rfl ?_|refine wO rfl rfl ?_)
  all_goals
   cases hwe : ewrong e.exp with
   | true =>
    refine VO.callPut1 (d1 := 23) (d2 := 46) (n := k) (c := cap) (vs := us) (spare := su) (l := etaken ts) (y := e.1) (z := e.2.1) (s := e.2.2.1) (xs := e.2.2.2.1) (t := e.2.2.2.2.1) (ys := e.2.2.2.2.2) 3 (code := 2) (l' := (etaken ts)) (show (if ewrong e.exp = true then (2 : Int) else 0) = 2 by rw [hwe]; rfl) (show eput1 (etaken ts) e = (etaken ts) from eput1_wrong hwe) rfl rfl (fk Tryz.func36) rfl rfl (by decide) (Nat.le_of_ble_eq_true rfl) (Nat.le_of_ble_eq_true rfl) hkn hkr hks hkc hkm hkl (fun w1 k1 => k1.weak) (fun t ht => kpE_fz ht) (fun w1 k1 b1 => hraw.kp (Kp.of (U := UU) b1)) hi1 hi2 hx1 hx2 (by decide) (by omega) (fun w2 n2 c2 vs2 sp2 ρ k2 b2 hρ h1 h2 h3 h4 h5 h6 => VO.fixH 61 rfl (fgl_none (by rw [lidsOf_append, lidsOf_vals, hti]; rfl) _ _) (wV rfl ?_))
    (repeat first|refine wN ?_|refine wP rfl ?_|refine cxE_r rfl ?_|refine cxE_d rfl ?_|refine wO rfl rfl ?_)
    refine VO.callF rfl (fk Tryz.func27) (fun wa5 β5 ka5 ba5 ho5 => (ref18_any _ [e] 3 wa5 (ownV_sl (exp_ok 3) (ho5.own 48 (.base (List.mem_singleton.2 rfl)) _ _ rfl) [] (vs := [[.int .i64 e.1, .int .i64 e.2.1, .bool e.2.2.1, .slice ep e.2.2.2.1.length ec, .bool e.2.2.2.2.1, .slice er e.2.2.2.2.2.length ed]]) (by rfl) (RowE.cons (hE0.kp (Kp.of (U := UU) ba5)) RowE.nil) rfl (Nat.le_refl _) (by simp)) (by decide) (by simp)).mono ?_)
    rintro o5 w5 ⟨r5, rfl, q5, hb5⟩
    obtain ⟨b5, cc5, vs5, sp5, rfl, hB5, hcls5, hrow5, -, -, -, -⟩ := q5.resolve_left (fun h => by cases h.2)
    obtain ⟨cs5, rfl, hE5⟩ : ∃ cs5, vs5 = [cs5] ∧ ExpE 3 w5 cs5 e := by
     cases hrow5 with
     | cons h1 h2 => cases h2; exact ⟨_, rfl, h1⟩
    obtain ⟨p5, c5, r5, d5, rfl, -⟩ := id hE5
    rw [show [e].length = 1 from rfl]
    refine ⟨_, rfl, hb5, fun kb5 _ bb5 => wV rfl ?_⟩
    (repeat first|refine wN ?_|refine wP rfl ?_|refine cxE_r rfl ?_|refine cxE_d rfl ?_|refine wO rfl rfl ?_)
    refine VO.cond rfl ⟨by omega, by omega⟩ ?_
    refine wV rfl ?_
    (repeat first|refine wN ?_|refine wP rfl ?_|refine cxE_r rfl ?_|refine cxE_d rfl ?_|refine wO rfl rfl ?_)
    refine VO.readNow rfl [.int .i64 e.1, .int .i64 e.2.1, .bool e.2.2.1, .slice p5 e.2.2.2.1.length c5, .bool e.2.2.2.2.1, .slice r5 e.2.2.2.2.2.length d5] rfl (fun w1 k1 b1 => cls_cells (k1.block _ b5 _ rfl trivial hcls5)) (wV rfl ?_)
    (repeat first|refine wN ?_|refine wP rfl ?_|refine cxE_r rfl ?_|refine cxE_d rfl ?_|refine wO rfl rfl ?_)
    refine VO.call rfl rfl (fk Tryz.func37) (fun wa6 ka6 ba6 => (q18Error_any _ e 3 wa6 ⟨_, rfl, hE5.kp (by (with_reducible (repeat (first | assumption | exact kU _ | exact kR _ | exact Kp.of (U := UU) (by assumption) | exact KpS.of (by assumption) | refine kT ?_ (by assumption)))))⟩ (by omega) 2 (by rw [hwe]; rfl)).mono ?_)
    rintro e w6 ⟨rfl, hb6⟩
    skip
    refine ⟨_, rfl, hb6, fun kb6 _ bb6 => wV rfl ?_⟩
    (repeat first|refine wN ?_|refine wP rfl ?_|refine cxE_r rfl ?_|refine cxE_d rfl ?_|refine wO rfl rfl ?_)
    refine VS.back (N + 1 - (i + 1)) (by omega) ⟨_, _, ?_, ?_, ?_, ?_, ⟨i + 1, _, ts, by omega, rfl, (by rw [tk_skip he hwe]; exact htk), rfl, .inr (.inr ⟨n, c', vs, spare, n2, c2, vs2, sp2, rfl, rfl, ⟨htn, htr.kp (exp_ok 3) kE, htl, htc, htm, hto, hti⟩, ⟨h1, h2.kp (exp_ok 3) kE, h3, h4, h5, h6⟩⟩)⟩⟩
    ·refine ⟨rfl, rfl, rfl, rfl, ?_, trivial⟩
     rw [← nat_step (i := i) (by omega)]; rfl
    ·(repeat first|exact trivial|refine ⟨rfl, ?_⟩)
    ·rfl
    ·exact ⟨.lit rfl, .lit rfl, .append (.vals _) (.vals _), .append (.vals _) (.none hti), trivial⟩
   | false =>
    have htk' : ts ++ [e] = (lsx.take (i + 1)).filter eok := by rw [tk_snoc he hwe, htk]
    have hew' : ∀ x ∈ ts ++ [e], ewrong x.exp = false := fun x hx => tk_ok (htk' ▸ hx)
    refine VO.callPut1 (d1 := 23) (d2 := 46) (n := k) (c := cap) (vs := us) (spare := su) (l := etaken ts) (y := e.1) (z := e.2.1) (s := e.2.2.1) (xs := e.2.2.2.1) (t := e.2.2.2.2.1) (ys := e.2.2.2.2.2) 3 (code := 0) (l' := (etaken (ts ++ [e]))) (show (if ewrong e.exp = true then (2 : Int) else 0) = 0 by rw [hwe]; rfl) (show eput1 (etaken ts) e = (etaken (ts ++ [e])) from (eput1_snoc hwe)) rfl rfl (fk Tryz.func36) rfl rfl (by decide) (Nat.le_of_ble_eq_true rfl) (Nat.le_of_ble_eq_true rfl) hkn hkr hks hkc hkm hkl (fun w1 k1 => k1.weak) (fun t ht => kpE_fz ht) (fun w1 k1 b1 => hraw.kp (Kp.of (U := UU) b1)) hi1 hi2 hx1 hx2 (by decide) (by omega) (fun w2 n2 c2 vs2 sp2 ρ k2 b2 hρ h1 h2 h3 h4 h5 h6 => VO.fixH 61 rfl (fgl_none (by rw [lidsOf_append, lidsOf_vals, hti]; rfl) _ _) (wV rfl ?_))
    (repeat first|refine wN ?_|refine wP rfl ?_|refine cxE_r rfl ?_|refine cxE_d rfl ?_|refine wO rfl rfl ?_)
    refine VO.callF rfl (fk Tryz.func27) (fun wa5 β5 ka5 ba5 ho5 => (ref18_any _ [e] 3 wa5 (ownV_sl (exp_ok 3) (ho5.own 48 (.base (List.mem_singleton.2 rfl)) _ _ rfl) [] (vs := [[.int .i64 e.1, .int .i64 e.2.1, .bool e.2.2.1, .slice ep e.2.2.2.1.length ec, .bool e.2.2.2.2.1, .slice er e.2.2.2.2.2.length ed]]) (by rfl) (RowE.cons (hE0.kp (Kp.of (U := UU) ba5)) RowE.nil) rfl (Nat.le_refl _) (by simp)) (by decide) (by simp)).mono ?_)
    rintro o5 w5 ⟨r5, rfl, q5, hb5⟩
    obtain ⟨b5, cc5, vs5, sp5, rfl, hB5, hcls5, hrow5, -, -, -, -⟩ := q5.resolve_left (fun h => by cases h.2)
    obtain ⟨cs5, rfl, hE5⟩ : ∃ cs5, vs5 = [cs5] ∧ ExpE 3 w5 cs5 e := by
     cases hrow5 with
     | cons h1 h2 => cases h2; exact ⟨_, rfl, h1⟩
    obtain ⟨p5, c5, r5, d5, rfl, -⟩ := id hE5
    rw [show [e].length = 1 from rfl]
    refine ⟨_, rfl, hb5, fun kb5 _ bb5 => wV rfl ?_⟩
    (repeat first|refine wN ?_|refine wP rfl ?_|refine cxE_r rfl ?_|refine cxE_d rfl ?_|refine wO rfl rfl ?_)
    refine VO.cond rfl ⟨by omega, by omega⟩ ?_
    refine wV rfl ?_
    (repeat first|refine wN ?_|refine wP rfl ?_|refine cxE_r rfl ?_|refine cxE_d rfl ?_|refine wO rfl rfl ?_)
    refine VO.readNow rfl [.int .i64 e.1, .int .i64 e.2.1, .bool e.2.2.1, .slice p5 e.2.2.2.1.length c5, .bool e.2.2.2.2.1, .slice r5 e.2.2.2.2.2.length d5] rfl (fun w1 k1 b1 => cls_cells (k1.block _ b5 _ rfl trivial hcls5)) (wV rfl ?_)
    (repeat first|refine wN ?_|refine wP rfl ?_|refine cxE_r rfl ?_|refine cxE_d rfl ?_|refine wO rfl rfl ?_)
    refine VO.call rfl rfl (fk Tryz.func37) (fun wa6 ka6 ba6 => (q18Error_any _ e 3 wa6 ⟨_, rfl, hE5.kp (by (with_reducible (repeat (first | assumption | exact kU _ | exact kR _ | exact Kp.of (U := UU) (by assumption) | exact KpS.of (by assumption) | refine kT ?_ (by assumption)))))⟩ (by omega) 0 (by rw [hwe]; rfl)).mono ?_)
    rintro e w6 ⟨rfl, hb6⟩
    skip
    refine ⟨_, rfl, hb6, fun kb6 _ bb6 => wV rfl ?_⟩
    (repeat first|refine wN ?_|refine wP rfl ?_|refine cxE_r rfl ?_|refine cxE_d rfl ?_|refine wO rfl rfl ?_)
    refine VO.app (cxE_ok _ _) (t := 22) (e := 36) (sz := 6) (n := n) (c := c') (mm := 1) (known := vs.flatten.map .val) (spare := spare) (del := some 61) (news := ([.int .i64 e.1, .int .i64 e.2.1, .bool e.2.2.1, .slice ep e.2.2.2.1.length ec, .bool e.2.2.2.2.1, .slice er e.2.2.2.2.2.length ed] : List Value).map .val) (dst := 61) rfl rfl rfl rfl rfl rfl rfl rfl (Nat.le_of_ble_eq_true rfl) rfl (.inr ⟨61, rfl, rfl, rfl⟩) (.inr rfl) (by rw [List.length_map, (htr.ok (exp_ok 3)).2, htn]) htl htc htm ⟨lidsOf_vals _, hti, rfl⟩ ⟨vals_ok (htr.ok (exp_ok 3)).1, hto, rfl⟩ rfl (by omega)
     (fun w1 β k1 b1 ho => ⟨_, _, rfl, .inr ⟨β 60, 0, rfl, own_src (rest := []) (ho.own 60 (.base (List.mem_append_right _ (List.mem_singleton.2 rfl))) _ _ rfl) rfl⟩⟩)
     (fun w13 cap' spare' ρ' k13 b13 hρ' hc1 hc2 hlen2 hok' hlid' => wV rfl ?_)
    (repeat first|refine wN ?_|refine wP rfl ?_|refine cxE_r rfl ?_|refine cxE_d rfl ?_|refine wO rfl rfl ?_)
    have hE13 : ExpE 3 w13 [.int .i64 e.1, .int .i64 e.2.1, .bool e.2.2.1, .slice ep e.2.2.2.1.length ec, .bool e.2.2.2.2.1, .slice er e.2.2.2.2.2.length ed] e := hE0.kp (Kp.of (U := UU) b13)
    refine VS.back (N + 1 - (i + 1)) (by omega) ⟨_, _, ?_, ?_, ?_, ?_, ⟨i + 1, _, (ts ++ [e]), by omega, rfl, htk', rfl, .inr (.inr ⟨(n + 1), cap', (vs ++ [[.int .i64 e.1, .int .i64 e.2.1, .bool e.2.2.1, .slice ep e.2.2.2.1.length ec, .bool e.2.2.2.2.1, .slice er e.2.2.2.2.2.length ed]]), spare', n2, c2, vs2, sp2, rfl, rfl, ⟨by rw [htn]; simp, (htr.kp (exp_ok 3) kE).snoc hE13, by simpa [List.flatten_append] using hlen2, hc1, hc2, hok', hlid'⟩, ⟨h1, h2.kp (exp_ok 3) kE, h3, h4, h5, h6⟩⟩)⟩⟩
    ·refine ⟨rfl, rfl, rfl, rfl, ?_, trivial⟩
     rw [← nat_step (i := i) (by omega)]; rfl
    ·exact ⟨rfl, rfl, congrArg (fun l => some (_, l)) (fgl_none (by rw [← List.map_append, lidsOf_vals]) _ _), congrArg (fun l => some (_, l ++ spare')) (by simp), trivial⟩
    ·rfl
    ·exact ⟨.lit rfl, .lit rfl, .append (.vals _) (.vals _), .append (.vals _) (.none hlid'), trivial⟩
end Go.Proofs.YtohlmpibnnkanaaGreat
