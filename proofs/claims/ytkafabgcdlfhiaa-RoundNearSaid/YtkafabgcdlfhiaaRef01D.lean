/- What the reference of the limb layer computes, part D: quotient with a limb, difference, sums of rows. -/
import Derived.Test.YtkafabgcdlfhiaaRef01C
import Derived.Test.YtkafabgcdlfhiaaLimbD
set_option linter.all false
namespace Go.Proofs.Ytkafabgcdlfhiaa
open Go.RowKit

def DivInv01 (w : World) (B g M d : Nat) (us : List Nat) (iv rv : Value) (wr : World) : Prop :=
  ∃ (k r : Nat) (qs : List Nat), k ≤ M ∧ qs.length = M - k ∧ iv = .int .i64 ((k : Int) - 1) ∧ rv = .int .i64 (r : Int) ∧ r < d ∧ Half qs ∧
    hval qs * d + r = hval (us.drop k) ∧ wr.ownsRow B 3 1 (.slice (some ⟨g, 0, none⟩) M M) M (ints .i64 (List.replicate k 0 ++ qs)) ∧ Below B w wr

theorem set_rep_mid {qs : List Nat} {k x : Nat} : (List.replicate (k + 1) 0 ++ qs).set k x = List.replicate k 0 ++ x :: qs := by
  rw [List.replicate_succ', List.append_assoc, List.set_append_right _ _ (by simp)]
  simp

theorem DivInv01.step {w wr : World} {B g M d j r x : Nat} {us qs : List Nat} {q s : Int} (hj : j + 1 ≤ M) (hqs : qs.length = M - (j + 1)) (hr : r < d) (hl : Half qs)
    (hv : hval qs * d + r = hval (us.drop (j + 1))) (hown : wr.ownsRow B 3 1 (.slice (some ⟨g, 0, none⟩) M M) M (ints .i64 (List.replicate (j + 1) 0 ++ qs))) (hb : Below B w wr)
    (hx : us[j]? = some x) (hx4 : x < 65536) (he : q = (((r * 65536 + x) / d : Nat) : Int)) (hs : s = (((r * 65536 + x) % d : Nat) : Int)) :
    DivInv01 w B g M d us (.int .i64 ((j : Int) - 1)) (.int .i64 s) (wr.setCell ⟨g, j, none⟩ (.int .i64 q)) := by
  subst he
  subst hs
  refine ⟨j, (r * 65536 + x) % d, (r * 65536 + x) / d :: qs, by omega, by simp; omega, rfl, rfl, Nat.mod_lt _ (by omega), Dig.cons (div_ltB 65536 d r x hr hx4) hl, ?_, ?_, ?_⟩
  · show val 65536 _ * d + _ = val 65536 _
    rw [val_cons, val_drop_cons hx]
    have : val 65536 (us.drop (j + 1)) = hval qs * d + r := hv.symm
    rw [this]
    exact div_stepB 65536 d r x _ _ rfl
  · have h1 := Own.elemStore (j := j) (x := (r * 65536 + x) / d) hown
    rwa [set_rep_mid] at h1
  · exact hb.setCell (Own.lt hown).1 _


def SubInv01 (w : World) (B M : Nat) (us ts : List Nat) (ov bv iv : Value) (wr : World) : Prop :=
  ∃ (k r : Nat) (ds : List Nat), k ≤ M ∧ ds.length = k ∧ iv = .int .i64 (k : Int) ∧ bv = .int .i64 (r : Int) ∧ r ≤ 1 ∧ Half ds ∧
    hval ds + hval (ts.take k) = hval (us.take k) + 65536 ^ k * r ∧ wr.ownsRow B 3 1 ov k (ints .i64 ds) ∧ Below B w wr

theorem sub01_step {k r x y d r' : Nat} {us ts ds : List Nat} (hl : ds.length = k) (hh : Half ds) (hv : hval ds + hval (ts.take k) = hval (us.take k) + 65536 ^ k * r) (hx : us.getD k 0 = x) (hy : ts.getD k 0 = y)
    (hd : d < 65536) (he : x + 65536 * r' = d + y + r) :
    Half (ds ++ [d]) ∧ hval (ds ++ [d]) + hval (ts.take (k + 1)) = hval (us.take (k + 1)) + 65536 ^ (k + 1) * r' := by
  refine ⟨Dig.append hh (Dig.cons hd (Dig.nil _)), ?_⟩
  have h1 : hval (ts.take (k + 1)) = hval (ts.take k) + 65536 ^ k * y := by rw [← hy]; exact val_take_getD 65536 ts k
  have h2 : hval (us.take (k + 1)) = hval (us.take k) + 65536 ^ k * x := by rw [← hx]; exact val_take_getD 65536 us k
  rw [hval_snoc, hl, h1, h2, Nat.pow_succ]
  exact sub_stepB 65536 _ x y r d r' _ _ _ hv he

def SumInv01 (w : World) (B : Nat) (rows : List (List Nat)) (ov iv : Value) (wr : World) : Prop :=
  ∃ k, k ≤ rows.length ∧ iv = .int .i64 (k : Int) ∧ wr.ownsRow B 39 1 ov (limbs (nsum (rows.take k))).length (ints .u32 (limbs (nsum (rows.take k)))) ∧ Below B w wr


end Go.Proofs.Ytkafabgcdlfhiaa
