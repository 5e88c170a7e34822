/- What the functions of the limb layer compute, part F: how many binary digits. -/
import Derived.Test.YtfffohhcabcefaaLimbE
namespace Go.Proofs.Ytfffohhcabcefaa
open Go.RowKit

def nbits (t : Nat) : Nat := [0, 1, 2, 2, 3, 3, 3, 3, 4, 4, 4, 4, 4, 4, 4, 4].getD t 0
theorem nbits_blen {t : Nat} (h : t ≤ 15) : nbits t = blen t := by
  have : t = 0 ∨ t = 1 ∨ t = 2 ∨ t = 3 ∨ t = 4 ∨ t = 5 ∨ t = 6 ∨ t = 7 ∨ t = 8 ∨ t = 9 ∨ t = 10 ∨ t = 11 ∨ t = 12 ∨ t = 13 ∨ t = 14 ∨ t = 15 := by omega
  rcases this with rfl | rfl | rfl | rfl | rfl | rfl | rfl | rfl | rfl | rfl | rfl | rfl | rfl | rfl | rfl | rfl <;> decide

def lenAgg : Value := .agg #[.int .i64 0, .int .i64 1, .int .i64 2, .int .i64 2, .int .i64 3, .int .i64 3, .int .i64 3, .int .i64 3, .int .i64 4, .int .i64 4, .int .i64 4, .int .i64 4, .int .i64 4, .int .i64 4, .int .i64 4, .int .i64 4]
set_option maxHeartbeats 1000000 in
theorem lengths_any (w : World) :
    Calls Try.prog 43 #[] w fun e w' => e = .returned lenAgg ∧ Below w.heap.size w w' := by
  refine walk_q fun R' hR' => ?_
  go_enter Try.func43, Try.ntmps43
  go_wp2
  exact bodyPost_ret (v := lenAgg) (by simp [results, Try.results43, go_sem, lenAgg]) rfl (hR'.out _ _ ⟨rfl, (Below.refl _ _).alloc (Nat.le_refl _) _⟩)

theorem index_lengths (t : Nat) (h : t ≤ 15) (W : World) : (Instr.index 57 lenAgg (.int .u32 (t : Int))).run Try.prog W = .ok (.int .i64 (nbits t : Int)) W := by
  have : t = 0 ∨ t = 1 ∨ t = 2 ∨ t = 3 ∨ t = 4 ∨ t = 5 ∨ t = 6 ∨ t = 7 ∨ t = 8 ∨ t = 9 ∨ t = 10 ∨ t = 11 ∨ t = 12 ∨ t = 13 ∨ t = 14 ∨ t = 15 := by omega
  rcases this with rfl | rfl | rfl | rfl | rfl | rfl | rfl | rfl | rfl | rfl | rfl | rfl | rfl | rfl | rfl | rfl <;> rfl

set_option maxHeartbeats 1000000 in
theorem bits_any (va : Value) (m : Nat) (xs : List Nat) (w : World) (hr : Rd w 1 va m (ints .u32 xs)) (hx : Lim xs) (hm : m ≤ 1073741824) :
    Calls Try.prog 20 #[va] w fun e w' => e = .returned (.int .i64 (blen (nval xs) : Int)) ∧ Below w.heap.size w w' := by
  obtain ⟨p, c, rfl, hnc, hcm, hxl⟩ := hr.u32
  obtain ⟨x, hx'⟩ : ∃ x, x = nval xs := ⟨_, rfl⟩
  rw [← hx']
  have Hr := Lib.hid hr
  have HX := Lib.hid hxl
  have HL := Lib.hid hx
  have HV := Lib.hid hx'.symm
  clear hxl hr hx hx'
  refine walk_q fun R' hR' => ?_
  go_enter Try.func20, Try.ntmps20
  go_wp2_with fail
  refine (trimmed_any p m c xs _ Hr.out HL.out).mono ?_
  rintro e w1 ⟨⟨r, hrm, rfl, hlr⟩, rfl⟩
  have hml : (limbs x).length = r := by
    rw [← HV.out, hlr, List.length_take, HX.out]; omega
  have hrd := Hr.out.limbs hrm hlr
  rw [HV.out] at hrd
  have HRD := Lib.hid hrd
  have HML := Lib.hid hml
  clear hlr hrd
  by_cases hx0 : x = 0
  · have hr0 : r = 0 := by rw [← hml, hx0, limbs_zero]; rfl
    have HX0 := Lib.hid hx0
    have hrb : ((r : Int) == 0) = true := by rw [beq_iff_eq]; omega
    clear hx0 hr0 hml
    go_wp2_with fail
    exact hR'.out _ _ ⟨ret1 (by rw [HX0.out]; rfl), Below.refl _ _⟩
  · have hr0 : 0 < r := by rw [← hml]; exact limbs_len_pos hx0
    have hrb : ((r : Int) == 0) = false := by rw [beq_eq_false_iff_ne]; omega
    clear hml
    obtain ⟨b, off, t, rfl, _, ht, hcell⟩ := HRD.out.cellAt (k := r - 1) (by omega)
    have htop := blen_top (n := x) (t := t) (by rw [HML.out]; exact ht)
    rw [HML.out] at htop
    have HT := Lib.hid htop.1
    have ht32 := (limbs_lim x).at ht
    have hw1 : IntKind.i64.wrap ((r : Int) - 1) = (r : Int) - 1 := IntWalk.i64_in _ (by omega)
    have hw2 : IntKind.i64.wrap (32 * ((r : Int) - 1)) = 32 * ((r : Int) - 1) := IntWalk.i64_in _ (by omega)
    have hi1 : 0 ≤ (r : Int) - 1 := by omega
    have hi2 : (r : Int) - 1 < (r : Int) := by omega
    have hi3 : ((r : Int) - 1).toNat = r - 1 := by omega
    clear ht htop
    go_wp2_with fail
    go_quiet (fail)
    clear hw1 hw2 hi1 hi2 hi3 hcell
    have htb : blen t ≤ 32 := blen_le_of_lt ht32
    go_wp2_with fail
    go_loop [3, 4] (fun nv tv => ∃ cnt t' : Nat, nv = .int .i64 (cnt : Int) ∧ tv = .int .u32 (t' : Int) ∧ cnt + blen t' = 32 * (r - 1) + blen t ∧ t' < 4294967296) (fun _ tv => (intOf tv).toNat)
    case atStart => exact ⟨32 * (r - 1), t, congrArg (Value.int .i64) (by omega), rfl, rfl, ht32⟩
    case round =>
      obtain ⟨cnt, t', rfl, rfl, hcnt, ht'⟩ := hrel
      by_cases h15 : 15 < t'
      · have hb16 := blen_16 h15
        go_wp2_with fail
        go_round
        case rel => exact ⟨cnt + 4, t' / 16, by go_num, by go_num, by omega, by omega⟩
        case measure => simp [intOf]; omega
      · have hle : t' ≤ 15 := by omega
        have hidx := index_lengths t' hle
        have hnb := nbits_blen hle
        have hcb : cnt + nbits t' = 32 * (r - 1) + blen t := by omega
        have HCB := Lib.hid hcb
        have hcn : cnt ≤ 34359738400 := by omega
        have hnn : nbits t' ≤ 34359738400 := by omega
        clear hnb hcb hcnt htb
        go_wp2_with fail
        refine (lengths_any _).mono ?_
        rintro e w2 ⟨rfl, hb2⟩
        go_wp2_with fail
        refine hR'.out _ _ ⟨ret1 ?_, (Below.drewN (Below.refl _ _) nq).trans hb2⟩
        rw [HT.out, ← HCB.out]; simp

end Go.Proofs.Ytfffohhcabcefaa
