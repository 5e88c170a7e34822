/- What the small functions of the statements of layer 1 compute: rows that are the same, rows written over, the chapter's examples. -/
import Derived.Test.YtfffohhcabcefaaLimbF
import Derived.Test.YtfffohhcabcefaaRef01F
namespace Go.Proofs.Ytfffohhcabcefaa
open Go.RowKit

set_option maxHeartbeats 400000 in
theorem same_any (va vb : Value) (n : Nat) (xs : List Nat) (w : World) (hr : Rd w 1 va n (ints .u32 xs)) (hs : Rd w 1 vb n (ints .u32 xs)) :
    Calls Try.prog 12 #[va, vb] w fun e w' => e = .returned (.bool true) ∧ Below w.heap.size w w' := by
  obtain ⟨p, c, rfl, hnc, hcm, hxl⟩ := hr.u32
  obtain ⟨q, d, rfl, hmd, hdm, _⟩ := hs.u32
  have Hr := Lib.hid hr
  have Hs := Lib.hid hs
  clear hr hs hxl
  refine walk_q fun R' hR' => ?_
  go_enter Try.func12, Try.ntmps12
  go_wp2_with fail
  go_loopw [5] (fun iv wr => ∃ k dn : Nat, k ≤ n ∧ iv = .int .i64 (k : Int) ∧ wr = w.drewN dn) (fun iv _ => n - (intOf iv).toNat)
  case atStart => exact ⟨0, 0, Nat.zero_le _, rfl, rfl⟩
  case round =>
    obtain ⟨k, dn, hk, rfl, rfl⟩ := hrel
    by_cases hkn : k < n
    · obtain ⟨b1, o1, x, rfl, _, hx, hcx⟩ := Hr.out.cellAt hkn
      obtain ⟨b2, o2, y, rfl, _, hy, hcy⟩ := Hs.out.cellAt hkn
      obtain rfl : x = y := by rw [hx] at hy; exact Option.some.inj hy
      have hb0 : ((x : Int) != (x : Int)) = false := by simp
      have hk0 : (0 : Int) ≤ (k : Int) := by omega
      have hk1 : (k : Int) < (n : Int) := by omega
      clear hx hy
      go_wp2_with fail
      go_quiet (fail)
      go_wp2_with fail
      go_roundw
      case rel => exact ⟨k + 1, _, by omega, by go_num, rfl⟩
      case measure => simp [intOf]; omega
    · obtain rfl : k = n := by omega
      go_wp2_with fail
      exact hR'.out _ _ ⟨rfl, Below.drewN (Below.refl _ _) _⟩

def SpoilInv (w : World) (B n : Nat) (v : Value) (iv : Value) (wr : World) : Prop :=
  ∃ (k : Nat) (xs : List Nat), k ≤ n ∧ iv = .int .i64 (k : Int) ∧ wr.ownsRow B 23 1 v n (ints .u32 xs) ∧ w.grownBy wr v.ownBlock

theorem grownBy_refl (w : World) (row : Option Nat) : w.grownBy w row := ⟨rfl, rfl, rfl, Nat.le_refl _, fun _ _ _ => rfl⟩
theorem grownBy_set {w wr : World} {g j : Nat} {u : Value} (h : w.grownBy wr (some g)) : w.grownBy (wr.setCell ⟨g, j, none⟩ u) (some g) :=
  ⟨h.os, h.tape, h.output, by simpa [World.setCell] using h.size, fun k hk hne => (Below.heap_setCell wr ⟨g, j, none⟩ u k (fun e => hne (by rw [e]))).trans (h.block k hk hne)⟩

set_option maxHeartbeats 400000 in
theorem spoil_any (v : Value) (n B : Nat) (xs : List Nat) (w : World) (ho : w.ownsRow B 23 1 v n (ints .u32 xs)) :
    Calls Try.prog 14 #[v] w fun e w' => e = .returned (.tuple #[]) ∧ w.grownBy w' v.ownBlock := by
  obtain ⟨p, c, rfl, hnc, hcm, hxl⟩ := (Rd.own ho).u32
  have HO := Lib.hid ho
  clear ho hxl
  refine walk_q fun R' hR' => ?_
  go_enter Try.func14, Try.ntmps14
  go_wp2_with fail
  go_loopw [2] (fun iv wr => SpoilInv w B n (.slice p n c) iv wr) (fun iv _ => n - (intOf iv).toNat)
  case atStart => exact ⟨0, xs, Nat.zero_le _, rfl, HO.out, grownBy_refl _ _⟩
  case round =>
    obtain ⟨k, zs, hk, rfl, hown, hg⟩ := hrel
    have HO2 := Lib.hid hown
    have HG := Lib.hid hg
    clear hown hg
    by_cases hkn : k < n
    · obtain ⟨g, qc, hv, hbg, hgl⟩ := Own.formPos HO2.out (by omega)
      simp only [Value.slice.injEq, true_and] at hv
      obtain ⟨rfl, rfl⟩ := hv
      obtain ⟨x, hx, hcell, hfro⟩ := Own.elemCell HO2.out (j := k) hkn
      clear hx
      go_wp2_with fail
      go_roundw
      case rel => exact ⟨k + 1, zs.set k 77, by omega, by go_num, Own.elemStore (x := 77) HO2.out, grownBy_set HG.out⟩
      case measure => simp [intOf]; omega
    · obtain rfl : k = n := by omega
      go_wp2_with fail
      go_end0
      exact hR'.out _ _ ⟨rfl, HG.out⟩

/-- what the row's frame tells of a slice of uint32 that came in -/
theorem rd_of_row {w : World} {a : Option Addr} {len cap : Nat} {zs : List Int}
    (h : (a = none ∧ len = 0 ∧ cap = 0 ∧ zs = []) ∨ ∃ x, a = some x ∧ len ≤ cap ∧ cap ≤ maxLen ∧ zs.length = cap ∧ (∀ i, i < zs.length → w.cell? (x.add i) = some (.int .u32 (zs.getD i 0))) ∧ ∀ n ∈ zs, (Lit.int .u32 n).wf = true) :
    ∃ xs : List Nat, Lim xs ∧ Rd w 1 (.slice a len cap) len (ints .u32 xs) := by
  rcases h with ⟨rfl, rfl, rfl, rfl⟩ | ⟨x, rfl, h1, h2, h3, h4, h5⟩
  · exact ⟨[], Lim.nil, Rd.nil w 1⟩
  · have hb : ∀ n ∈ zs, 0 ≤ n ∧ n < 4294967296 := fun n hn => by
      have := h5 n hn
      simp [Lit.wf, IntKind.min, IntKind.max, IntKind.signed, IntKind.bits] at this
      omega
    refine ⟨(zs.take len).map Int.toNat, ?_, ?_⟩
    · intro y hy
      obtain ⟨z, hz, rfl⟩ := List.mem_map.1 hy
      have := hb z (List.mem_of_mem_take hz)
      omega
    · refine ⟨_, cap, rfl, h1, h2, by simp; omega, fun hn => ?_⟩
      have hz0 : 0 < zs.length := by omega
      have h0 := h4 0 hz0
      have hsp : x.spot = none := by
        have : x.add 0 = x := by simp [Addr.add]
        rw [this] at h0
        unfold World.cell? at h0
        split at h0
        · split at h0
          · cases h0
          · rename_i hs; simpa using hs
        · cases h0
      obtain ⟨b, off, sp⟩ := x
      simp only at hsp
      subst hsp
      refine ⟨b, off, rfl, fun j u hj => ?_⟩
      simp only [ints, List.map_map, List.getElem?_map, List.getElem?_take] at hj
      split at hj
      · rename_i hjl
        have hjz : j < zs.length := by omega
        rw [List.getElem?_eq_getElem hjz] at hj
        simp at hj
        subst hj
        have h6 := h4 j hjz
        have h7 := hb _ (List.getElem_mem hjz)
        rw [show (⟨b, off, none⟩ : Addr).add j = ⟨b, off + j, none⟩ by unfold Addr.add; split <;> simp_all] at h6
        rw [h6]
        simp [List.getD, hjz]
        omega
      · cases hj

theorem limbs_lit {X : Nat} (xs : List Nat) (h : nval xs = X) (hl : Lim xs) (hz : xs.getLast? ≠ some 0) : limbs X = xs := by
  subst h
  exact limbs_nval hl fun x hx h0 => hz (by rw [hx, h0])
theorem Lim.one {a : Nat} (h : a < 4294967296) : Lim [a] := Lim.cons h Lim.nil
theorem Lim.two {a b : Nat} (h : a < 4294967296) (h' : b < 4294967296) : Lim [a, b] := Lim.cons h (Lim.cons h' Lim.nil)

end Go.Proofs.Ytfffohhcabcefaa
