/- What is known of fractions and numbers, carried on to a later world: what is kept is found among what is known. No function of the program in sight. -/
import Derived.Test.YtofdiijioejljaaGreatRatMore
set_option linter.all false
namespace Go.Proofs.YtofdiijioejljaaGreat
open Go.RowKit

section
variable {T : TypeId → Bool} {w w' : World} {v : Value} {q : Rat} {X : Int} {B n : Nat}
theorem RatIn.k (h : RatIn w v q n) (k : KpS ⟨UU, fun _ => True, T⟩ w w' := by (with_reducible (repeat (first | assumption | exact kU _ | exact kR _ | exact Kp.of (U := UU) (by assumption) | exact KpS.of (by assumption) | refine kT ?_ (by assumption))))) : RatIn w' v q n := h.kp k
theorem RatRd.k (h : RatRd w v q) (k : KpS ⟨UU, fun _ => True, T⟩ w w' := by (with_reducible (repeat (first | assumption | exact kU _ | exact kR _ | exact Kp.of (U := UU) (by assumption) | exact KpS.of (by assumption) | refine kT ?_ (by assumption))))) : RatRd w' v q := h.kp k
theorem RatOwn.k (h : RatOwn w B v q) (k : KpS ⟨UU, fun _ => True, T⟩ w w' := by (with_reducible (repeat (first | assumption | exact kU _ | exact kR _ | exact Kp.of (U := UU) (by assumption) | exact KpS.of (by assumption) | refine kT ?_ (by assumption))))) : RatOwn w' B v q := h.kp k
theorem RatOwn.kr (h : RatOwn w B v q) (k : KpS ⟨UU, fun _ => True, T⟩ w w' := by (with_reducible (repeat (first | assumption | exact kU _ | exact kR _ | exact Kp.of (U := UU) (by assumption) | exact KpS.of (by assumption) | refine kT ?_ (by assumption))))) : RatRd w' v q := (h.kp k).rd
theorem RatOwn.ki (h : RatOwn w B v q) (hs : RSz q n) (k : KpS ⟨UU, fun _ => True, T⟩ w w' := by (with_reducible (repeat (first | assumption | exact kU _ | exact kR _ | exact Kp.of (U := UU) (by assumption) | exact KpS.of (by assumption) | refine kT ?_ (by assumption))))) : RatIn w' v q n := (h.kp k).in hs
theorem RatRd.ki (h : RatRd w v q) (hs : RSz q n) (k : KpS ⟨UU, fun _ => True, T⟩ w w' := by (with_reducible (repeat (first | assumption | exact kU _ | exact kR _ | exact Kp.of (U := UU) (by assumption) | exact KpS.of (by assumption) | refine kT ?_ (by assumption))))) : RatIn w' v q n := (h.kp k).to hs
theorem IntIn.k (h : IntIn w v X n) (k : KpS ⟨UU, fun _ => True, T⟩ w w' := by (with_reducible (repeat (first | assumption | exact kU _ | exact kR _ | exact Kp.of (U := UU) (by assumption) | exact KpS.of (by assumption) | refine kT ?_ (by assumption))))) : IntIn w' v X n := h.kp k
theorem IntRd.k (h : IntRd w v X) (k : KpS ⟨UU, fun _ => True, T⟩ w w' := by (with_reducible (repeat (first | assumption | exact kU _ | exact kR _ | exact Kp.of (U := UU) (by assumption) | exact KpS.of (by assumption) | refine kT ?_ (by assumption))))) : IntRd w' v X := h.kp k
theorem IntOwn.k (h : IntOwn w B v X) (k : KpS ⟨UU, fun _ => True, T⟩ w w' := by (with_reducible (repeat (first | assumption | exact kU _ | exact kR _ | exact Kp.of (U := UU) (by assumption) | exact KpS.of (by assumption) | refine kT ?_ (by assumption))))) : IntOwn w' B v X := h.kp k
theorem IntOwn.kr (h : IntOwn w B v X) (k : KpS ⟨UU, fun _ => True, T⟩ w w' := by (with_reducible (repeat (first | assumption | exact kU _ | exact kR _ | exact Kp.of (U := UU) (by assumption) | exact KpS.of (by assumption) | refine kT ?_ (by assumption))))) : IntRd w' v X := (h.kp k).rd
theorem IntOwn.ki (h : IntOwn w B v X) (hs : Sz X n) (k : KpS ⟨UU, fun _ => True, T⟩ w w' := by (with_reducible (repeat (first | assumption | exact kU _ | exact kR _ | exact Kp.of (U := UU) (by assumption) | exact KpS.of (by assumption) | refine kT ?_ (by assumption))))) : IntIn w' v X n := (h.kp k).in hs
theorem IntRd.ki (h : IntRd w v X) (hs : Sz X n) (k : KpS ⟨UU, fun _ => True, T⟩ w w' := by (with_reducible (repeat (first | assumption | exact kU _ | exact kR _ | exact Kp.of (U := UU) (by assumption) | exact KpS.of (by assumption) | refine kT ?_ (by assumption))))) : IntIn w' v X n := (h.kp k).to hs
end
theorem Sz.floor {q : Rat} {k : Nat} (h : RSz q k) : Sz q.floor k := by
 refine Sz.le h.1 ?_
 rw [Rat.floor_def]
 exact Int.natAbs_ediv_le_natAbs _ _
end Go.Proofs.YtofdiijioejljaaGreat
