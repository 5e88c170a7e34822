/- What the reference of the limb layer computes, part A: half limbs. -/
import Derived.Test.YtkafabgcdlfhiaaLimbB
import Derived.Deep.RegionHeld3
set_option linter.all false
namespace Go.Proofs.Ytkafabgcdlfhiaa
open Go.RowKit

theorem infoInt : (Try.prog.info? 3).map (fun i => (i.zero, i.size, i.bytes)) = some (some (.int .i64 0), 1, 8) := by kernel_rfl

/-- half limbs -/
def hval (xs : List Nat) : Nat := val 65536 xs
def halves (n : Nat) : List Nat := digs 65536 n
def Half (xs : List Nat) : Prop := Dig 65536 xs
theorem halves_half (n : Nat) : Half (halves n) := digs_dig (by omega) n
theorem hval_halves (n : Nat) : hval (halves n) = n := val_digs (by omega) n
theorem Half.at {xs : List Nat} (h : Half xs) {k x : Nat} (hk : xs[k]? = some x) : x < 65536 := Dig.at h hk
theorem halves_len_le {xs : List Nat} (h : Half xs) : (halves (hval xs)).length ≤ xs.length := digs_len_val (by omega) h
theorem halves_zero : halves 0 = [] := digs_zero _
theorem halves_inj {m n : Nat} (h : halves m = halves n) : m = n := digs_inj (by omega) h
theorem halves_nil_iff {n : Nat} : halves n = [] ↔ n = 0 := digs_nil_iff (by omega)
theorem hval_snoc (xs : List Nat) (x : Nat) : hval (xs ++ [x]) = hval xs + 65536 ^ xs.length * x := val_snoc _ xs x
theorem hval_lt {xs : List Nat} (h : Half xs) : hval xs < 65536 ^ xs.length := val_lt h
theorem halves_len_nval {xs : List Nat} (h : Lim xs) : (halves (nval xs)).length ≤ 2 * xs.length := by
  apply digs_length_le (by omega)
  have := nval_lt h
  rwa [Nat.pow_mul]

theorem Rd.i64 {w : World} {v : Value} {n : Nat} {xs : List Nat} (h : Rd w 1 v n (ints .i64 xs)) : ∃ p c, v = .slice p n c ∧ n ≤ c ∧ c ≤ 9223372036854775807 ∧ xs.length = n := by
  obtain ⟨p, c, hv, h1, h2, h3⟩ := h.form
  unfold maxLen at h2
  exact ⟨p, c, hv, h1, by omega, by simpa using h3⟩
theorem Rd.takeI {w : World} {n c m : Nat} {p : Option Addr} {xs : List Nat} {k : IntKind} (h : Rd w 1 (.slice p n c) n (ints k xs)) (hm : m ≤ n) : Rd w 1 (.slice p m c) m (ints k (xs.take m)) := by
  have := h.take hm
  rwa [Nat.mul_one, ints_take] at this
theorem Own.takeI {w : World} {B e n c m : Nat} {p : Option Addr} {xs : List Nat} {k : IntKind} (h : w.ownsRow B e 1 (.slice p n c) n (ints k xs)) (hm : m ≤ n) : w.ownsRow B e 1 (.slice p m c) m (ints k (xs.take m)) := by
  have := Own.take h hm
  rwa [Nat.mul_one, ints_take] at this

/-- cutting an owned row -/
theorem Own.cut {w : World} {B e n c m : Nat} {p : Option Addr} {xs : List Nat} (h : w.ownsRow B e 1 (.slice p n c) n (ints .i64 xs)) (hm : m ≤ n) (hl : halves (hval xs) = xs.take m) :
    w.ownsRow B e 1 (.slice p m c) (halves (hval xs)).length (ints .i64 (halves (hval xs))) ∧ m = (halves (hval xs)).length := by
  have hx : xs.length = n := by have := h.1; simpa using this
  have e2 : (halves (hval xs)).length = m := by rw [hl, List.length_take]; omega
  have := Own.takeI h hm
  rw [← hl] at this
  rw [e2]
  exact ⟨this, rfl⟩

def HalfInv (w : World) (B : Nat) (xs : List Nat) (ov iv : Value) (wr : World) : Prop :=
  ∃ (k : Nat) (hs : List Nat), k ≤ xs.length ∧ iv = .int .i64 (k : Int) ∧ hs.length = 2 * k ∧ Half hs ∧ hval hs = nval (xs.take k) ∧
    wr.ownsRow B 3 1 ov (2 * k) (ints .i64 hs) ∧ Below B w wr

theorem half_lo {x : Nat} (h : x < 4294967296) : IntKind.i64.wrap ((x : Int).tmod 65536) = ((x % 65536 : Nat) : Int) := by
  rw [Int.tmod_eq_emod_of_nonneg (by omega), IntWalk.i64_in _ (by omega)]; simp
theorem half_hi {x : Nat} (h : x < 4294967296) : IntKind.i64.wrap (IntKind.u32.wrap ((x : Int) / 65536)) = ((x / 65536 : Nat) : Int) := by
  rw [IntKind.wrap_u32', Int.emod_eq_of_lt (by omega) (by omega), IntWalk.i64_in _ (by omega)]; simp
theorem half_step {k x : Nat} {xs hs : List Nat} (hx : xs[k]? = some x) (hx4 : x < 4294967296) (hl : hs.length = 2 * k) (hh : Half hs) (hv : hval hs = nval (xs.take k)) :
    Half (hs ++ [x % 65536, x / 65536]) ∧ hval (hs ++ [x % 65536, x / 65536]) = nval (xs.take (k + 1)) := by
  have hk : k < xs.length := (List.getElem?_eq_some_iff.1 hx).1
  refine ⟨Dig.append hh (Dig.cons (Nat.mod_lt _ (by omega)) (Dig.cons (by omega) (Dig.nil _))), ?_⟩
  rw [take_succ_snoc hx, nval_snoc, ← hv, List.length_take, Nat.min_eq_left (by omega)]
  show val 65536 _ = _
  rw [val_append, hl]
  show hval hs + _ = _
  congr 1
  rw [Nat.pow_mul]
  show (4294967296 : Nat) ^ k * (x % 65536 + 65536 * (x / 65536 + 65536 * 0)) = _
  congr 1
  omega

end Go.Proofs.Ytkafabgcdlfhiaa
