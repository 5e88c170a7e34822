/- The statements of layer 18: circumstances; the chapter's examples. -/
import Derived.Test.YtohlmpibnnkanaaGreatTimPut
import Derived.Test.YtohlmpibnnkanaaGreatTimRef
import Derived.Test.YtohlmpibnnkanaaGreatReb
set_option linter.all false
namespace Go.Proofs.YtohlmpibnnkanaaGreat
open Go.RowKit
attribute [local irreducible] vcOps VS

abbrev cxT (P : Program) (w : World) (N : Nat) : Cx := { P := P, w0 := w, N := N, K := ⟨UU, fun _ => True, fun t => (Nat.beq t 122 || (Nat.beq t 36 || Nat.beq t 55))⟩, SU := fun t => (Nat.beq t 29 || Nat.beq t 22), ti := table, keep := fun _ _ => trivial }
theorem cxT_ok (w : World) (N : Nat) : (cxT Tryz.prog w N).Ok := table_ok
theorem cxT_mixed (w : World) (N : Nat) : (cxT Tryz.prog w N).P.follows .mixedOrders = true := by show Tryz.prog.follows .mixedOrders = true; kernel_rfl
abbrev cxE (P : Program) (w : World) (N : Nat) : Cx := { P := P, w0 := w, N := N, K := ⟨UU, fun _ => True, fun t => Nat.beq t 55⟩, SU := fun t => Nat.beq t 29, ti := table, keep := fun _ _ => trivial }
theorem cxE_ok (w : World) (N : Nat) : (cxE Tryz.prog w N).Ok := table_ok
theorem cxE_mixed (w : World) (N : Nat) : (cxE Tryz.prog w N).P.follows .mixedOrders = true := by show Tryz.prog.follows .mixedOrders = true; kernel_rfl
section
variable {F F' : Fr} {H H' : Hp} {w w1 : World} {N : Nat} {l' : List Oper} {Q : Exit → Act → World → Prop} {k : List It} {id : Nat} {ops : Array Oper}
theorem cxT_r (e : runD (cxT Tryz.prog w1 N) ops 80 ops.toList F H = (l', F', H')) (h : vcOps (cxT Tryz.prog w1 N) none ops l' (VS (cxT Tryz.prog w1 N) Q k) F' H' w) : VS (cxT Tryz.prog w1 N) Q (.code (.region id ops false) :: k) F H w := VS.region (cxT_ok _ _) (VO.run 80 e h)
theorem cxT_d (e : runD (cxT Tryz.prog w1 N) ops 80 ops.toList F H = (l', F', H')) (h : vcOps (cxT Tryz.prog w1 N) (some []) ops l' (VS (cxT Tryz.prog w1 N) Q k) F' H' w) (hchk : drawOk (cxT Tryz.prog w1 N).SU [] ops = true := by kernel_rfl) : VS (cxT Tryz.prog w1 N) Q (.code (.region id ops true) :: k) F H w := VS.draw (cxT_ok _ _) (cxT_mixed _ _) [] hchk (VO.run 80 e h)
theorem cxE_r (e : runD (cxE Tryz.prog w1 N) ops 80 ops.toList F H = (l', F', H')) (h : vcOps (cxE Tryz.prog w1 N) none ops l' (VS (cxE Tryz.prog w1 N) Q k) F' H' w) : VS (cxE Tryz.prog w1 N) Q (.code (.region id ops false) :: k) F H w := VS.region (cxE_ok _ _) (VO.run 80 e h)
theorem cxE_d (e : runD (cxE Tryz.prog w1 N) ops 80 ops.toList F H = (l', F', H')) (h : vcOps (cxE Tryz.prog w1 N) (some []) ops l' (VS (cxE Tryz.prog w1 N) Q k) F' H' w) (hchk : drawOk (cxE Tryz.prog w1 N).SU [] ops = true := by kernel_rfl) : VS (cxE Tryz.prog w1 N) Q (.code (.region id ops true) :: k) F H w := VS.draw (cxE_ok _ _) (cxE_mixed _ _) [] hchk (VO.run 80 e h)
end
theorem LedAt.kp {T : TypeId → Bool} {kk B g : Nat} {w w' : World} {l : List RExp} (h : LedAt kk w B g l) (k : KpS ⟨UU, fun _ => True, T⟩ w w') (h1 : T 122 = true) (h2 : T 36 = true) : LedAt kk w' B g l := by
 have f : ∀ t, T t = true → (KC.fz ⟨UU, fun _ => True, T⟩ t) = true := fun t ht => by show (Nat.beq t UU || T t) = true; rw [ht]; simp
 rcases h with ⟨rfl, hc⟩ | ⟨r, n, c, vs, spare, hB, h⟩
 ·exact .inl ⟨rfl, k.block _ g _ (f _ h1) trivial hc⟩
 ·exact .inr ⟨r, n, c, vs, spare, hB, h.len, h.ne, k.block _ g _ (f _ h1) trivial h.led, k.block _ r _ (f _ h2) trivial h.row, h.el.kp (exp_ok kk) k.weak, h.ok, h.le, h.cm, h.fl⟩
theorem LedAt.beh {kk B g : Nat} {w w' : World} {l : List RExp} (h : LedAt kk w B g l) (hb : Beh w w') : LedAt kk w' B g l := h.kp (T := fun _ => true) (KpS.of hb) rfl rfl
theorem LedAt.in {kk B g : Nat} {w : World} {l : List RExp} (h : LedAt kk w B g l) : LedIn kk w g l := by
 rcases h with ⟨rfl, hc⟩ | ⟨r, n, c, vs, spare, hB, h⟩
 ·exact ⟨_, cls_cell hc, SlIn.nil _ _ _⟩
 ·exact ⟨_, cls_cell h.led, sl_of_cls (exp_ok kk) h.row h.el h.len h.le h.cm⟩
def cexp (y n : Int) (q : Rat) : RExp := (y, n, decide (q.num < 0), limbs q.num.natAbs, decide ((q.den : Int) < 0), limbs (q.den : Int).natAbs)
theorem canon_rt (q : Rat) : rtB (decide (q.num < 0)) (limbs q.num.natAbs) (decide ((q.den : Int) < 0)) (limbs (q.den : Int).natAbs) = true := by
 unfold rtB
 rw [nright_canon q.num, nright_canon (q.den : Int), numOf_canon, numOf_canon]
 have h3 : (0 : Int) < q.den := by have := q.den_nz; omega
 have h4 : Int.gcd q.num q.den = 1 := by have := q.reduced; simpa [Int.gcd, Nat.Coprime] using this
 rw [decide_eq_true h3, decide_eq_true h4]; rfl
theorem canon_rq (q : Rat) : rq (decide (q.num < 0)) (limbs q.num.natAbs) (decide ((q.den : Int) < 0)) (limbs (q.den : Int).natAbs) = q := by
 unfold rq; rw [numOf_canon, numOf_canon, ratv_self]
theorem cexp_exp (y n : Int) (q : Rat) : (cexp y n q).exp = (y, n, true, q) := by
 show (y, n, rtB (decide (q.num < 0)) (limbs q.num.natAbs) (decide ((q.den : Int) < 0)) (limbs (q.den : Int).natAbs), rq (decide (q.num < 0)) (limbs q.num.natAbs) (decide ((q.den : Int) < 0)) (limbs (q.den : Int).natAbs)) = _
 rw [canon_rt, canon_rq]
theorem cexp_E {kk : Nat} {w : World} {y m : Int} {q : Rat} {s t : Bool} {p r : Option Addr} {a c b d : Nat} (h : RatRd w (.agg #[.bool s, .slice p a c, .bool t, .slice r b d]) q) (hs : RSz q kk) (hy : i64b y) (hm : i64b m) :
  ExpE kk w [.int .i64 y, .int .i64 m, .bool s, .slice p a c, .bool t, .slice r b d] (cexp y m q) := by
 have hr := h.raw
 obtain ⟨p', c', r', d', hv, h1, h2⟩ := hr
 simp only [Value.agg.injEq, Array.mk.injEq, List.cons.injEq, Value.bool.injEq, Value.slice.injEq, and_true] at hv
 obtain ⟨rfl, ⟨rfl, rfl, rfl⟩, rfl, rfl, rfl, rfl⟩ := hv
 exact ⟨_, _, _, _, rfl, hy, hm, ⟨_, _, _, _, rfl, h1, h2⟩, hs.1, hs.2⟩
def work18 : List RExp := [cexp 0 3 (Rat.divInt 9 1), cexp 1 1 (Rat.divInt 5 1)]
theorem work18_well : ewell work18 = true := by
 refine ewell_iff.2 fun e he => ?_
 simp only [work18, List.mem_cons, List.not_mem_nil, or_false] at he
 rcases he with rfl | rfl <;> rw [cexp_exp] <;> rfl
theorem work18_taken : etaken work18 = work18 := by
 unfold etaken
 refine List.filter_eq_self.2 fun e he => ?_
 simp only [work18, List.mem_cons, List.not_mem_nil, or_false] at he
 unfold enz
 rcases he with rfl | rfl <;> rw [cexp_exp] <;> decide +kernel
theorem work18_num (z : Nat) (hz : z < 5) : ∃ d b : Int, ([0, 3, 8, 3, 0] : List Int)[z]? = some d ∧ ([9, 11, 3, 0, 0] : List Int)[z]? = some b ∧ edueR work18 z = Rat.divInt d 1 ∧ ebalR work18 z = Rat.divInt b 1 ∧ 0 ≤ d ∧ d ≤ 100 ∧ 0 ≤ b ∧ b ≤ 100 := by
 have h1 : ∀ z : Int, edueR work18 z = rsum [epart (0, 3, true, Rat.divInt 9 1) z, epart (1, 1, true, Rat.divInt 5 1) z] := fun z => by
  show rsum [epart (cexp 0 3 (Rat.divInt 9 1)).exp z, epart (cexp 1 1 (Rat.divInt 5 1)).exp z] = _
  rw [cexp_exp, cexp_exp]
 have h2 : ∀ z : Int, ebalR work18 z = rsum [ebal (0, 3, true, Rat.divInt 9 1) z, ebal (1, 1, true, Rat.divInt 5 1) z] := fun z => by
  show rsum [ebal (cexp 0 3 (Rat.divInt 9 1)).exp z, ebal (cexp 1 1 (Rat.divInt 5 1)).exp z] = _
  rw [cexp_exp, cexp_exp]
 rw [h1, h2]
 obtain rfl | rfl | rfl | rfl | rfl : z = 0 ∨ z = 1 ∨ z = 2 ∨ z = 3 ∨ z = 4 := by omega
 ·exact ⟨0, 9, rfl, rfl, by decide +kernel, by decide +kernel, by omega, by omega, by omega, by omega⟩
 ·exact ⟨3, 11, rfl, rfl, by decide +kernel, by decide +kernel, by omega, by omega, by omega, by omega⟩
 ·exact ⟨8, 3, rfl, rfl, by decide +kernel, by decide +kernel, by omega, by omega, by omega, by omega⟩
 ·exact ⟨3, 0, rfl, rfl, by decide +kernel, by decide +kernel, by omega, by omega, by omega, by omega⟩
 ·exact ⟨0, 0, rfl, rfl, by decide +kernel, by decide +kernel, by omega, by omega, by omega, by omega⟩
end Go.Proofs.YtohlmpibnnkanaaGreat
