/- Fractions brought to whole numbers: floor, ceiling, toward 0, half-even, and what lies above the floor. No function of the program in sight. -/
import Derived.Test.YtofdiijioejljaaGreatRowW
set_option linter.all false
namespace Go.Proofs.YtofdiijioejljaaGreat
open Go.RowKit

def lf (q : Rat) : Int := q.num.fmod q.den
def frac (q : Rat) : Rat := q - (q.floor : Rat)
theorem den_pos (q : Rat) : (0 : Int) < q.den := by have := q.den_nz; omega
theorem den_posR (q : Rat) : (0 : Rat) < ((q.den : Int) : Rat) := by
 have := den_pos q
 exact Rat.intCast_lt_intCast.2 this
theorem fl_eq (q : Rat) : q.num.fdiv q.den = q.floor := by
 rw [Rat.floor_def, Int.fdiv_eq_ediv_of_nonneg _ (Int.le_of_lt (den_pos q))]
theorem lf_eq (q : Rat) : lf q = q.num - q.den * q.floor := by
 unfold lf
 rw [Int.fmod_eq_emod_of_nonneg _ (Int.le_of_lt (den_pos q)), Int.emod_def, Rat.floor_def]
theorem lf_nonneg (q : Rat) : 0 ≤ lf q := by
 unfold lf
 rw [Int.fmod_eq_emod_of_nonneg _ (Int.le_of_lt (den_pos q))]
 exact Int.emod_nonneg _ (by have := den_pos q; omega)
theorem lf_lt (q : Rat) : lf q < q.den := by
 unfold lf
 rw [Int.fmod_eq_emod_of_nonneg _ (Int.le_of_lt (den_pos q))]
 exact Int.emod_lt_of_pos _ (den_pos q)
theorem num_eq (q : Rat) : (q.num : Rat) = q * ((q.den : Int) : Rat) := by
 have h : q = (q.num : Rat) / ((q.den : Int) : Rat) := by rw [← Rat.divInt_eq_div]; exact (Rat.num_divInt_den q).symm
 have hd := den_posR q
 rw [Rat.div_def] at h
 have h2 : q * ((q.den : Int) : Rat) = (q.num : Rat) * (((q.den : Int) : Rat)⁻¹ * ((q.den : Int) : Rat)) := by rw [← Rat.mul_assoc, ← h]
 rw [h2, Rat.inv_mul_cancel _ (by grind), Rat.mul_one]
theorem lf_frac (q : Rat) : (lf q : Rat) = frac q * ((q.den : Int) : Rat) := by
 have h := lf_eq q
 have h2 : (lf q : Rat) = (q.num : Rat) - ((q.den : Int) : Rat) * (q.floor : Rat) := by rw [h, Rat.intCast_sub, Rat.intCast_mul]
 rw [h2, num_eq]
 unfold frac
 grind
theorem frac_nonneg (q : Rat) : 0 ≤ frac q := by
 have := Rat.floor_le q
 unfold frac; grind
theorem frac_lt (q : Rat) : frac q < 1 := by
 have := Rat.lt_floor_add_one q
 rw [Rat.intCast_add] at this
 unfold frac
 have e : ((1 : Int) : Rat) = 1 := rfl
 grind
theorem frac_div (q : Rat) : Rat.divInt (lf q) q.den = frac q := by
 rw [Rat.divInt_eq_div, lf_frac, Rat.div_def, Rat.mul_assoc, Rat.mul_inv_cancel _ (by have := den_posR q; grind), Rat.mul_one]
theorem lf_zero {q : Rat} : lf q = 0 ↔ frac q = 0 := by
 constructor
 ·intro h; rw [← frac_div, h, Rat.zero_divInt]
 ·intro h
  have := lf_frac q
  rw [h, Rat.zero_mul] at this
  exact Rat.intCast_inj.1 this
theorem half_lt (q : Rat) : lf q + lf q - (q.den : Int) > 0 ↔ 1 < 2 * frac q := by
 have h := lf_frac q
 have hd := den_posR q
 have e : ((lf q + lf q : Int) : Rat) = 2 * frac q * ((q.den : Int) : Rat) := by rw [Rat.intCast_add, h]; grind
 constructor
 ·intro hh
  have h1 : ((q.den : Int) : Rat) < ((lf q + lf q : Int) : Rat) := Rat.intCast_lt_intCast.2 (by omega)
  rw [e] at h1
  refine Rat.not_le.1 fun h2 => ?_
  have h3 := Rat.mul_le_mul_of_nonneg_right h2 (Rat.le_of_lt hd)
  grind
 ·intro hh
  have h3 := Rat.mul_lt_mul_of_pos_right hh hd
  have h1 : ((q.den : Int) : Rat) < ((lf q + lf q : Int) : Rat) := by rw [e]; grind
  have := Rat.intCast_lt_intCast.1 h1
  omega
theorem half_eq (q : Rat) : lf q + lf q - (q.den : Int) = 0 ↔ 2 * frac q = 1 := by
 have h := lf_frac q
 have hd := den_posR q
 have e : ((lf q + lf q : Int) : Rat) = 2 * frac q * ((q.den : Int) : Rat) := by rw [Rat.intCast_add, h]; grind
 constructor
 ·intro hh
  have h1 : ((lf q + lf q : Int) : Rat) = ((q.den : Int) : Rat) := by congr 1; omega
  rw [e] at h1
  have h2 : 2 * frac q * (((q.den : Int) : Rat) * ((q.den : Int) : Rat)⁻¹) = ((q.den : Int) : Rat) * ((q.den : Int) : Rat)⁻¹ := by rw [← Rat.mul_assoc, h1]
  rw [Rat.mul_inv_cancel _ (by grind), Rat.mul_one] at h2
  exact h2
 ·intro hh
  rw [hh, Rat.one_mul] at e
  have := Rat.intCast_inj.1 e
  omega
def hf (q : Rat) : Int := if 2 * frac q < 1 then q.floor else if 1 < 2 * frac q then q.floor + 1 else if q.floor % 2 = 0 then q.floor else q.floor + 1
def cl (q : Rat) : Int := -((-q).floor)
theorem floor_uniq {q : Rat} {n : Int} (h1 : (n : Rat) ≤ q) (h2 : q < (n : Rat) + 1) : q.floor = n := by
 have a := Rat.le_floor_iff.2 h1
 have b : q.floor < n + 1 := Rat.floor_lt_iff.2 (by rw [Rat.intCast_add]; exact h2)
 omega
theorem cl_eq (q : Rat) : cl q = if frac q = 0 then q.floor else q.floor + 1 := by
 unfold cl
 have h0 := frac_nonneg q
 have h1 := frac_lt q
 have e1 : ((1 : Int) : Rat) = 1 := rfl
 split
 ·rename_i h
  have : (-q).floor = -q.floor := floor_uniq (by rw [Rat.intCast_neg]; unfold frac at h; grind) (by rw [Rat.intCast_neg]; unfold frac at h; grind)
  omega
 ·rename_i h
  have : (-q).floor = -(q.floor + 1) := floor_uniq (by rw [Rat.intCast_neg, Rat.intCast_add]; unfold frac at h1; grind) (by rw [Rat.intCast_neg, Rat.intCast_add]; unfold frac at h h0; grind)
  omega
theorem hf_eq (q : Rat) : hf q = if lf q ≠ 0 ∧ (lf q + lf q - (q.den : Int) > 0 ∨ lf q + lf q - (q.den : Int) = 0 ∧ ¬ q.floor % 2 = 0) then q.floor + 1 else q.floor := by
 unfold hf
 have h1 := half_lt q
 have h2 := half_eq q
 by_cases a : 2 * frac q < 1
 ·have b : ¬ 1 < 2 * frac q := by grind
  have c : ¬ 2 * frac q = 1 := by grind
  rw [if_pos a, if_neg]
  rintro ⟨_, e | ⟨e, _⟩⟩
  ·exact b (h1.1 e)
  ·exact c (h2.1 e)
 ·have z : lf q ≠ 0 := fun e => a (by rw [lf_zero.1 e]; decide +kernel)
  rw [if_neg a]
  by_cases b : 1 < 2 * frac q
  ·rw [if_pos b, if_pos ⟨z, .inl (h1.2 b)⟩]
  ·have c : 2 * frac q = 1 := by grind
   rw [if_neg b]
   by_cases d : q.floor % 2 = 0
   ·rw [if_pos d, if_neg]
    rintro ⟨_, e | ⟨_, e⟩⟩
    ·exact b (h1.1 e)
    ·exact e d
   ·rw [if_neg d, if_pos ⟨z, .inr ⟨h2.2 c, d⟩⟩]
theorem hf_ref (q : Rat) : hf q = if rcmp (q - (q.floor : Rat)) ((cl q : Rat) - q) < 0 then q.floor else if rcmp (q - (q.floor : Rat)) ((cl q : Rat) - q) > 0 then cl q else if q.floor % 2 = 0 then q.floor else cl q := by
 have e1 : ((1 : Int) : Rat) = 1 := rfl
 have hlt : ∀ a b : Rat, rcmp a b < 0 ↔ a < b := fun a b => ⟨fun h => Rat.not_le.1 fun h2 => by have := rcmp_ge.2 h2; omega, fun h => by unfold rcmp; rw [if_pos h]; omega⟩
 have hgt : ∀ a b : Rat, rcmp a b > 0 ↔ b < a := fun a b => ⟨fun h => Rat.not_le.1 fun h2 => by have := rcmp_le.2 h2; omega, fun h => by
  have h2 : ¬ a < b := fun h3 => by grind
  have h3 : ¬ a = b := fun h3 => by grind
  unfold rcmp; rw [if_neg h2, if_neg h3]; omega⟩
 unfold hf
 rw [cl_eq]
 by_cases z : frac q = 0
 ·rw [if_pos z, if_pos (show 2 * frac q < 1 by rw [z]; decide +kernel)]
  split
  ·rfl
  ·split
   ·rfl
   ·split <;> rfl
 ·rw [if_neg z, Rat.intCast_add]
  have ef : q - (q.floor : Rat) = frac q := rfl
  have eg : (q.floor : Rat) + ((1 : Int) : Rat) - q = 1 - frac q := by unfold frac; grind
  rw [ef, eg]
  by_cases a : 2 * frac q < 1
  ·rw [if_pos a, if_pos ((hlt _ _).2 (by grind))]
  ·have n1 : ¬ rcmp (frac q) (1 - frac q) < 0 := fun e => a (by have := (hlt _ _).1 e; grind)
   rw [if_neg a, if_neg n1]
   by_cases b : 1 < 2 * frac q
   ·have n2 : rcmp (frac q) (1 - frac q) > 0 := (hgt _ _).2 (by grind)
    rw [if_pos b, if_pos n2]
   ·have n2 : ¬ rcmp (frac q) (1 - frac q) > 0 := fun e => b (by have := (hgt _ _).1 e; grind)
    rw [if_neg b, if_neg n2]
theorem whole_frac (q : Rat) : (q.floor : Rat) + frac q = q := by unfold frac; grind
theorem hf_near (q : Rat) : (hf q : Rat) - q ≤ 1 / 2 ∧ -((hf q : Rat) - q) ≤ 1 / 2 := by
 have h0 := frac_nonneg q
 have h1 := frac_lt q
 have e1 : ((1 : Int) : Rat) = 1 := rfl
 have ef : q = (q.floor : Rat) + frac q := (whole_frac q).symm
 unfold hf
 split
 ·constructor <;> grind
 ·split
  ·rw [Rat.intCast_add]; constructor <;> grind
  ·split
   ·constructor <;> grind
   ·rw [Rat.intCast_add]; constructor <;> grind
theorem hf_uniq {q : Rat} {n : Int} (h : (2 * (q - (n : Rat)) < 1 ∧ -1 < 2 * (q - (n : Rat))) ∨ ((2 * (q - (n : Rat)) = 1 ∨ 2 * (q - (n : Rat)) = -1) ∧ n % 2 = 0)) : hf q = n := by
 have h0 := frac_nonneg q
 have h1 := frac_lt q
 have e1 : ((1 : Int) : Rat) = 1 := rfl
 have ef : q = (q.floor : Rat) + frac q := (whole_frac q).symm
 have hle : (n : Rat) ≤ q ∨ q < (n : Rat) := by rcases Rat.le_total (a := (n : Rat)) (b := q) with a | a; exact .inl a; by_cases b : (n : Rat) ≤ q; exact .inl b; exact .inr (Rat.not_le.1 b)
 rcases hle with a | a
 ·have hf1 : q.floor = n := floor_uniq a (by grind)
  unfold hf
  rw [hf1] at ef ⊢
  rcases h with ⟨b, _⟩ | ⟨b | b, c⟩
  ·rw [if_pos (by grind)]
  ·rw [if_neg (by grind), if_neg (by grind), if_pos c]
  ·exfalso; grind
 ·have hf1 : q.floor = n - 1 := floor_uniq (by rw [Rat.intCast_sub]; grind) (by rw [Rat.intCast_sub]; grind)
  have ef2 : q = (n : Rat) - 1 + frac q := by rw [hf1, Rat.intCast_sub] at ef; exact ef
  unfold hf
  rw [hf1]
  rcases h with ⟨_, b⟩ | ⟨b | b, c⟩
  ·rw [if_neg (by grind), if_pos (by grind)]; omega
  ·exfalso; grind
  ·rw [if_neg (by grind), if_neg (by grind), if_neg (by omega)]; omega
theorem hf_int (n : Int) : hf (n : Rat) = n := hf_uniq (.inl (by constructor <;> grind))
theorem whole_div (n : Int) : Rat.divInt n 1 = (n : Rat) := by rw [Rat.divInt_eq_div]; show (n : Rat) / 1 = _; rw [Rat.div_def]; grind
end Go.Proofs.YtofdiijioejljaaGreat
