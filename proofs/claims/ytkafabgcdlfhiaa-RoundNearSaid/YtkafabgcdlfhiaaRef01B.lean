/- What the reference of the limb layer computes, part B: limbs of half limbs, trimmed rows, sums. -/
import Derived.Test.YtkafabgcdlfhiaaRef01A
set_option linter.all false
namespace Go.Proofs.Ytkafabgcdlfhiaa
open Go.RowKit

def LimbInv (w : World) (B m : Nat) (hs : List Nat) (ov iv : Value) (wr : World) : Prop :=
  ∃ (k : Nat) (ds : List Nat), 2 * k ≤ m + 1 ∧ iv = .int .i64 ((2 * k : Nat) : Int) ∧ ds.length = k ∧ Lim ds ∧ nval ds = hval (hs.take (2 * k)) ∧
    wr.ownsRow B 39 1 ov k (ints .u32 ds) ∧ Below B w wr

theorem limb_step {k lo hi : Nat} {ds hs : List Nat} (hl : ds.length = k) (hd : Lim ds) (hv : nval ds = hval (hs.take (2 * k))) (hlo : hs.getD (2 * k) 0 = lo) (hhi : hs.getD (2 * k + 1) 0 = hi)
    (h1 : lo < 65536) (h2 : hi < 65536) : Lim (ds ++ [lo + 65536 * hi]) ∧ nval (ds ++ [lo + 65536 * hi]) = hval (hs.take (2 * (k + 1))) := by
  refine ⟨hd.append (Lim.cons (by omega) Lim.nil), ?_⟩
  rw [nval_snoc, hl, hv]
  show _ = val 65536 (hs.take (2 * k + 1 + 1))
  rw [val_take_getD, val_take_getD, hlo, hhi, Nat.pow_succ, Nat.add_assoc]
  show hval _ + _ = hval _ + _
  congr 1
  rw [show (4294967296 : Nat) = 65536 ^ 2 by rfl, ← Nat.pow_mul, Nat.mul_add, Nat.mul_assoc]

theorem limbs_canon {k m h : Nat} {ds : List Nat} (hl : ds.length = k) (hd : Lim ds) (hv : nval ds = h) (hm : (halves h).length = m) (hk : 2 * k ≤ m + 1) : limbs h = ds := by
  subst hv
  apply digs_of_len (by omega) hd
  show ds.length ≤ (limbs (nval ds)).length
  rcases Nat.eq_zero_or_pos k with h0 | h0
  · omega
  · have hne : nval ds ≠ 0 := fun h => by rw [h, halves_zero] at hm; simp at hm; omega
    have h1 : 65536 ^ ((halves (nval ds)).length - 1) ≤ nval ds := pow_digs_le (by omega) hne
    have h2 : 4294967296 ^ (k - 1) ≤ nval ds := by
      rw [show (4294967296 : Nat) = 65536 ^ 2 by rfl, ← Nat.pow_mul]
      exact Nat.le_trans (Nat.pow_le_pow_right (by omega) (by omega)) h1
    have := limbs_length_lt h2
    omega

def AddInv01 (w : World) (B M : Nat) (us ts : List Nat) (ov cv iv : Value) (wr : World) : Prop :=
  ∃ (k carry : Nat) (os : List Nat), k ≤ M + 1 ∧ (k = M + 1 → carry = 0) ∧ iv = .int .i64 (k : Int) ∧ cv = .int .i64 (carry : Int) ∧ carry ≤ 1 ∧ os.length = k ∧ Half os ∧
    hval os + 65536 ^ k * carry = hval (us.take k) + hval (ts.take k) ∧ wr.ownsRow B 3 1 ov k (ints .i64 os) ∧ Below B w wr

theorem add01_step {k carry x y : Nat} {us ts os : List Nat} (hl : os.length = k) (hh : Half os) (hv : hval os + 65536 ^ k * carry = hval (us.take k) + hval (ts.take k)) (hx : us.getD k 0 = x) (hy : ts.getD k 0 = y) :
    Half (os ++ [(x + y + carry) % 65536]) ∧ hval (os ++ [(x + y + carry) % 65536]) + 65536 ^ (k + 1) * ((x + y + carry) / 65536) = hval (us.take (k + 1)) + hval (ts.take (k + 1)) := by
  refine ⟨Dig.append hh (Dig.cons (Nat.mod_lt _ (by omega)) (Dig.nil _)), ?_⟩
  rw [hval_snoc, hl, Nat.pow_succ]
  show _ = val 65536 _ + val 65536 _
  rw [val_take_getD, val_take_getD, hx, hy]
  exact add_stepB 65536 _ _ x y carry _ _ _ hv rfl

theorem getD_beyond {us : List Nat} {k : Nat} (h : us.length ≤ k) : us.getD k 0 = 0 := by rw [List.getD, List.getElem?_eq_none h]; rfl
theorem getD_half {us : List Nat} (h : Half us) (k : Nat) : us.getD k 0 < 65536 := by
  rw [List.getD]
  cases hk : us[k]? with
  | none => simp
  | some x => exact h.at hk

end Go.Proofs.Ytkafabgcdlfhiaa
