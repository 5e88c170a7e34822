/- Long division and products of rows of limbs, on paper: no function of the program in sight. -/
import Derived.Test.YtofdiijioejljaaGreatLimbMath
import Derived.Lib.BitFns
import Derived.Test.YtofdiijioejljaaGreatLimbE
import Derived.WalkMore
set_option linter.all false
namespace Go.Proofs.YtofdiijioejljaaGreat

theorem nval_set {xs : List Nat} {j o v : Nat} (h : xs[j]? = some o) : nval (xs.set j v) + 4294967296 ^ j * o = nval xs + 4294967296 ^ j * v := by
 obtain ⟨hl, he⟩ := List.getElem?_eq_some_iff.1 h
 have h1 : xs = xs.take j ++ o :: xs.drop (j + 1) := by rw [← he, ← List.drop_eq_getElem_cons hl, List.take_append_drop]
 have h2 : xs.set j v = xs.take j ++ v :: xs.drop (j + 1) := by
  conv => lhs; rw [h1]
  rw [List.set_append_right _ _ (by rw [List.length_take]; omega)]
  rw [List.length_take, Nat.min_eq_left (by omega), Nat.sub_self]; rfl
 have e1 : nval xs = nval (xs.take j) + 4294967296 ^ j * (o + 4294967296 * nval (xs.drop (j + 1))) := by
  conv => lhs; rw [h1]
  rw [nval_append, List.length_take, Nat.min_eq_left (by omega), nval_cons]
 have e2 : nval (xs.set j v) = nval (xs.take j) + 4294967296 ^ j * (v + 4294967296 * nval (xs.drop (j + 1))) := by
  rw [h2, nval_append, List.length_take, Nat.min_eq_left (by omega), nval_cons]
 rw [e1, e2, Nat.mul_add, Nat.mul_add]
 omega
theorem Lim.set {xs : List Nat} (h : Lim xs) {v : Nat} (hv : v < 4294967296) (j : Nat) : Lim (xs.set j v) := fun y hy => by
 rcases List.mem_or_eq_of_mem_set hy with h1 | h1
 ·exact h y h1
 ·rw [h1]; exact hv
theorem nval_replicate (k : Nat) : nval (List.replicate k 0) = 0 := val_replicate_zero _ k
theorem nval_split {xs : List Nat} (k : Nat) (hk : k ≤ xs.length) : nval xs = nval (xs.take k) + 4294967296 ^ k * nval (xs.drop k) := val_take_drop _ xs k hk
theorem nval_drop_one {xs : List Nat} {k x : Nat} (h : xs[k]? = some x) : nval (xs.drop k) = x + 4294967296 * nval (xs.drop (k + 1)) := val_drop_cons h

theorem mulrow_step {os : List Nat} {i k x y o c s S Y : Nat} (ho : os[i + k]? = some o) (hs : s = x * y + o + c) (h : nval os + 4294967296 ^ (i + k) * c = S + 4294967296 ^ i * (x * Y)) :
  nval (os.set (i + k) (s % 4294967296)) + 4294967296 ^ (i + (k + 1)) * (s / 4294967296) = S + 4294967296 ^ i * (x * (Y + 4294967296 ^ k * y)) := by
 have h1 := nval_set (v := s % 4294967296) ho
 have h2 : 4294967296 ^ (i + (k + 1)) = 4294967296 ^ (i + k) * 4294967296 := by rw [← Nat.add_assoc, Nat.pow_succ]
 have h3 : 4294967296 ^ (i + k) * s = 4294967296 ^ (i + k) * (s % 4294967296) + 4294967296 ^ (i + k) * 4294967296 * (s / 4294967296) := by
  rw [Nat.mul_assoc, ← Nat.mul_add, Nat.mod_add_div]
 have h4 : 4294967296 ^ (i + k) * s = 4294967296 ^ (i + k) * (x * y) + 4294967296 ^ (i + k) * o + 4294967296 ^ (i + k) * c := by rw [hs, Nat.mul_add, Nat.mul_add]
 have h5 : 4294967296 ^ i * (x * (Y + 4294967296 ^ k * y)) = 4294967296 ^ i * (x * Y) + 4294967296 ^ (i + k) * (x * y) := by
  rw [Nat.mul_add, Nat.mul_add, Nat.pow_add]
  congr 1
  rw [Nat.mul_left_comm x, Nat.mul_assoc]
 rw [h2, h5]
 omega
theorem mulrow_bound {x y o c : Nat} (hx : x < 4294967296) (hy : y < 4294967296) (ho : o < 4294967296) (hc : c < 4294967296) : x * y + o + c < 18446744073709551616 := by
 have h1 : x * y ≤ 4294967295 * 4294967295 := Nat.mul_le_mul (by omega) (by omega)
 omega

def guessN (U V : Nat) : Nat := min 4294967295 (U / V)
theorem guess_le {U V : Nat} : guessN U V * V ≤ U := Nat.le_trans (Nat.mul_le_mul_right _ (Nat.min_le_right _ _)) (Nat.div_mul_le_self U V)
theorem guess_max {U V t : Nat} (hV : 0 < V) (ht : t ≤ 4294967295) (h : t * V ≤ U) : t ≤ guessN U V := by
 unfold guessN
 rw [Nat.le_min]
 exact ⟨ht, (Nat.le_div_iff_mul_le hV).2 h⟩
theorem guess_near {p U V u b lu lb : Nat} (hp : 0 < p) (hu : u = U * p + lu) (hlu : lu < p) (hb : b = V * p + lb) (hlb : lb < p) (hV : 4294967296 ≤ V) (hub : u < 4294967296 * b) :
  u / b ≤ guessN U V ∧ guessN U V ≤ u / b + 1 := by
 have hV0 : 0 < V := by omega
 have hb0 : 0 < b := by have : 0 < V * p := Nat.mul_pos hV0 hp; omega
 constructor
 ·refine guess_max hV0 ?_ ?_
  ·have : u / b < 4294967296 := by rw [Nat.div_lt_iff_lt_mul hb0]; exact hub
   omega
  ·have h1 : u / b * b ≤ u := Nat.div_mul_le_self u b
   have h2 : u / b * V * p ≤ U * p + lu := by
    rw [hb] at h1
    rw [hu, Nat.mul_add, ← Nat.mul_assoc] at h1
    rw [← hb, ← hu] at h1
    have : u / b * V * p ≤ u := by omega
    omega
   rcases Nat.lt_or_ge U (u / b * V) with h | h
   ·have h3 : (U + 1) * p ≤ u / b * V * p := Nat.mul_le_mul_right _ h
    rw [Nat.add_mul] at h3
    omega
   ·exact h
 ·have hg := @guess_le U V
  have hgB : guessN U V ≤ 4294967295 := Nat.min_le_left _ _
  generalize guessN U V = q at hg hgB
  -- q * b < u + b
  have h1 : q * V * p ≤ U * p := Nat.mul_le_mul_right _ hg
  have h2 : q * lb ≤ 4294967295 * lb := Nat.mul_le_mul_right _ hgB
  have h3 : q * b = q * V * p + q * lb := by rw [hb, Nat.mul_add, ← Nat.mul_assoc]
  have h4 : 4294967296 * p ≤ V * p := Nat.mul_le_mul_right _ hV
  have h5 : q * b < u + b := by omega
  have h6 : q < u / b + 2 := by
   have h7 : u < (u / b + 1) * b := by rw [Nat.add_mul]; have e1 := Nat.div_add_mod u b; have e2 := Nat.mod_lt u hb0; rw [Nat.mul_comm] at e1; omega
   have h8 : q * b < (u / b + 2) * b := by rw [Nat.add_mul]; rw [Nat.add_mul] at h7; omega
   exact Nat.lt_of_mul_lt_mul_right h8
  omega

theorem taken_step {B p a y q c r x br' X Y D : Nat} (h : D + q * Y = X + p * (c + r)) (hx : a + B * br' = x + (q * y + c) % B + r) :
  (D + p * x) + q * (Y + p * y) = (X + p * a) + p * B * ((q * y + c) / B + br') := by
 have h1 := Nat.mod_add_div (q * y + c) B
 have h2 : p * (a + B * br') = p * x + p * ((q * y + c) % B) + p * r := by rw [hx, Nat.mul_add, Nat.mul_add]
 have h3 : p * ((q * y + c) % B) + p * (B * ((q * y + c) / B)) = p * (q * y) + p * c := by rw [← Nat.mul_add, h1, Nat.mul_add]
 have h4 : q * (Y + p * y) = q * Y + p * (q * y) := by rw [Nat.mul_add, Nat.mul_left_comm]
 have h5 : p * B * ((q * y + c) / B + br') = p * (B * ((q * y + c) / B)) + p * (B * br') := by rw [Nat.mul_assoc, Nat.mul_add, Nat.mul_add]
 rw [Nat.mul_add] at h2 h
 rw [h4, h5]
 omega

end Go.Proofs.YtofdiijioejljaaGreat
/- What the natural layer's product computes, and how many noughts lead a limb. -/
namespace Go.Proofs.YtofdiijioejljaaGreat
open Go.RowKit

theorem tab_fin : ∀ i : Fin 256, (Lib.len8tab[i.val]'(by have := i.2; have : Lib.len8tab.size = 256 := by decide +kernel
                                                         omega)).toNat = blen i.val := by decide +kernel
theorem tab_size : Lib.len8tab.size = 256 := by decide +kernel
theorem tab_at (i : Nat) (h : i < Lib.len8tab.size) : (Lib.len8tab[i]'h).toNat = blen i := tab_fin ⟨i, by rw [tab_size] at h; exact h⟩
theorem blen_div {t k : Nat} (h : 2 ^ k ≤ t) : blen t = k + blen (t / 2 ^ k) := by
 have hp : 0 < 2 ^ k := Nat.pow_pos (by omega)
 have hq : t / 2 ^ k ≠ 0 := by
  have := (Nat.le_div_iff_mul_le hp).2 (show 1 * 2 ^ k ≤ t by omega)
  omega
 have h1 := lt_blen (t / 2 ^ k)
 have h2 := blen_le hq
 have h0 := blen_pos hq
 refine blen_eq ?_ (.inr ?_)
 ·rw [Nat.pow_add, Nat.mul_comm]
  exact (Nat.div_lt_iff_lt_mul hp).1 h1
 ·rw [show k + blen (t / 2 ^ k) - 1 = (blen (t / 2 ^ k) - 1) + k by omega, Nat.pow_add]
  exact (Nat.le_div_iff_mul_le hp).1 h2
theorem blen_small {i : Nat} (h : i < 256) : blen i ≤ 8 := blen_le_of_lt (k := 8) h

set_option maxRecDepth 100000 in
set_option maxHeartbeats 4000000 in
theorem len32_int (x : Int) (w : World) (h0 : 0 ≤ x) (h1 : x ≤ 4294967295) :
  Calls Tryz.prog 144 #[.int .u32 x] w fun e w' => e = .returned (.int .i64 (blen x.toNat : Int)) ∧ w = w' := by
 have hsz : (Lib.len8tab.size : Int) = 256 := by rw [tab_size]; rfl
 refine walk_q fun R' hR' => ?_
 go_enter Tryz.func144, Tryz.ntmps144
 go_wp2
 all_goals
  refine hR'.out _ _ ⟨ret1 ?_, rfl⟩
  simp only [tab_at, wrap64]
 all_goals first
  | (have e := blen_div (t := x.toNat) (k := 24) (by omega)
     have b := blen_small (i := x.toNat / 2 ^ 24) (by omega)
     rw [show (x / 65536 / 256).toNat = x.toNat / 2 ^ 24 by omega]
     omega)
  | (have e := blen_div (t := x.toNat) (k := 16) (by omega)
     have b := blen_small (i := x.toNat / 2 ^ 16) (by omega)
     rw [show (x / 65536).toNat = x.toNat / 2 ^ 16 by omega]
     omega)
  | (have e := blen_div (t := x.toNat) (k := 8) (by omega)
     have b := blen_small (i := x.toNat / 2 ^ 8) (by omega)
     rw [show (x / 256).toNat = x.toNat / 2 ^ 8 by omega]
     omega)
  | (have b := blen_small (i := x.toNat) (by omega)
     omega)

theorem len32_any (t : Nat) (w : World) (h1 : t < 4294967296) :
  Calls Tryz.prog 144 #[.int .u32 (t : Int)] w fun e w' => e = .returned (.int .i64 (blen t : Int)) ∧ w = w' := by
 have h := len32_int (t : Int) w (by omega) (by omega)
 rwa [Int.toNat_natCast] at h

theorem zeros32_any (t : Nat) (w : World) (ht : t < 4294967296) (h0 : t ≠ 0) :
  Calls Tryz.prog 135 #[.int .u32 (t : Int)] w fun e w' => (∃ u : Nat, e = .returned (.int .i64 (u : Int)) ∧ u < 32 ∧ t * 2 ^ u < 4294967296) ∧ w = w' := by
 have hs := lt_blen t
 have hb : blen t ≤ 32 := blen_le_of_lt (k := 32) ht
 have hb0 := blen_pos h0
 refine walk_q fun R' hR' => ?_
 go_enter Tryz.func135, Tryz.ntmps135
 go_wp2_with fail
 refine (len32_any t _ ht).mono ?_
 rintro e w1 ⟨rfl, rfl⟩
 generalize blen t = L at *
 go_wp2_with fail
 refine hR'.out _ _ ⟨⟨32 - L, ret1 (by omega), by omega, ?_⟩, rfl⟩
 have h1 : t * 2 ^ (32 - L) < 2 ^ L * 2 ^ (32 - L) := Nat.mul_lt_mul_of_pos_right hs (Nat.pow_pos (by omega))
 rw [← Nat.pow_add, show L + (32 - L) = 32 by omega] at h1
 exact h1

def MulOut (w : World) (B n m : Nat) (xs ys : List Nat) (v iv : Value) (wr : World) : Prop :=
 ∃ (i : Nat) (os : List Nat), i ≤ n ∧ iv = .int .i64 (i : Int) ∧ os.length = n + m ∧ Lim os ∧ (∀ j, i + m ≤ j → ∀ x, os[j]? = some x → x = 0) ∧ nval os = nval (xs.take i) * nval ys ∧
  wr.ownsRow B 107 1 v (n + m) (ints .u32 os) ∧ Below B w wr
def MulIn (w : World) (B n m i S x : Nat) (ys : List Nat) (v cv kv : Value) (wr : World) : Prop :=
 ∃ (k c : Nat) (os : List Nat), k ≤ m ∧ kv = .int .i64 (k : Int) ∧ cv = .int .u64 (c : Int) ∧ c < 4294967296 ∧ os.length = n + m ∧ Lim os ∧ (∀ j, i + m ≤ j → ∀ x, os[j]? = some x → x = 0) ∧
  nval os + 4294967296 ^ (i + k) * c = S + 4294967296 ^ i * (x * nval (ys.take k)) ∧ wr.ownsRow B 107 1 v (n + m) (ints .u32 os) ∧ Below B w wr
theorem set_high {os : List Nat} {i m j v : Nat} (h : ∀ j, i + m ≤ j → ∀ x, os[j]? = some x → x = 0) (hj : j < i + m) : ∀ l, i + m ≤ l → ∀ x, (os.set j v)[l]? = some x → x = 0 := fun l hl x hx => by
 rw [List.getElem?_set_ne (by omega)] at hx
 exact h l hl x hx
theorem MulIn.step {w wr : World} {B n m i S x y o k c g cap : Nat} {ys os : List Nat} {q r : Int} (hk : k < m) (_ : i < n) (hl : os.length = n + m) (hlim : Lim os) (hz : ∀ j, i + m ≤ j → ∀ x, os[j]? = some x → x = 0)
  (hv : nval os + 4294967296 ^ (i + k) * c = S + 4294967296 ^ i * (x * nval (ys.take k))) (hown : wr.ownsRow B 107 1 (.slice (some ⟨g, 0, none⟩) (n + m) cap) (n + m) (ints .u32 os)) (hb : Below B w wr)
  (hy : ys[k]? = some y) (ho : os[i + k]? = some o) (hx4 : x < 4294967296) (hy4 : y < 4294967296) (hc4 : c < 4294967296) (hq : q = (((x * y + o + c) % 4294967296 : Nat) : Int)) (hr : r = (((x * y + o + c) / 4294967296 : Nat) : Int)) :
  MulIn w B n m i S x ys (.slice (some ⟨g, 0, none⟩) (n + m) cap) (.int .u64 r) (.int .i64 ((k : Int) + 1)) (wr.setCell ⟨g, i + k, none⟩ (.int .u32 q)) := by
 subst hq; subst hr
 have ho4 := hlim.at ho
 have hs := mulrow_bound hx4 hy4 ho4 hc4
 refine ⟨k + 1, (x * y + o + c) / 4294967296, os.set (i + k) ((x * y + o + c) % 4294967296), by omega, rfl, rfl, by omega, by simp [hl], hlim.set (Nat.mod_lt _ (by omega)) _, set_high hz (by omega), ?_, Own.elemStore hown, hb.setCell (Own.lt hown).1 _⟩
 have h1 : nval (ys.take (k + 1)) = nval (ys.take k) + 4294967296 ^ k * y := by rw [nval_take_getD, List.getD, hy]; rfl
 rw [h1]
 exact mulrow_step ho rfl hv
theorem MulOut.step {w wr : World} {B n m i x c g cap : Nat} {xs ys os : List Nat} {q : Int} (hi : i < n) (hl : os.length = n + m) (hlim : Lim os) (hz : ∀ j, i + m ≤ j → ∀ x, os[j]? = some x → x = 0) (hm : ys.length = m)
  (hv : nval os + 4294967296 ^ (i + m) * c = nval (xs.take i) * nval ys + 4294967296 ^ i * (x * nval (ys.take m))) (hown : wr.ownsRow B 107 1 (.slice (some ⟨g, 0, none⟩) (n + m) cap) (n + m) (ints .u32 os)) (hb : Below B w wr)
  (hx : xs[i]? = some x) (hc4 : c < 4294967296) (hq : q = (c : Int)) :
  MulOut w B n m xs ys (.slice (some ⟨g, 0, none⟩) (n + m) cap) (.int .i64 ((i : Int) + 1)) (wr.setCell ⟨g, i + m, none⟩ (.int .u32 q)) := by
 subst hq
 obtain ⟨o, ho⟩ : ∃ o, os[i + m]? = some o := ⟨_, List.getElem?_eq_getElem (by omega)⟩
 obtain rfl := hz (i + m) (Nat.le_refl _) o ho
 refine ⟨i + 1, os.set (i + m) c, by omega, rfl, by simp [hl], hlim.set hc4 _, fun j hj y hy => ?_, ?_, Own.elemStore hown, hb.setCell (Own.lt hown).1 _⟩
 ·rw [List.getElem?_set_ne (by omega)] at hy
  exact hz j (by omega) y hy
 ·have h1 := nval_set (v := c) ho
  have h2 : nval (xs.take (i + 1)) = nval (xs.take i) + 4294967296 ^ i * x := by rw [nval_take_getD, List.getD, hx]; rfl
  rw [nval_take_all (Nat.le_of_eq hm)] at hv
  rw [h2, Nat.add_mul, Nat.mul_assoc]
  omega

set_option maxRecDepth 100000 in
set_option maxHeartbeats 4000000 in
theorem nmul_any (va vb : Value) (n m : Nat) (xs ys : List Nat) (w : World) (hr : Rd w 1 va n (ints .u32 xs)) (hs : Rd w 1 vb m (ints .u32 ys)) (hx : Lim xs) (hy : Lim ys) (hn : n ≤ 536870912) (hm : m ≤ 536870912) :
  Calls Tryz.prog 95 #[va, vb] w fun e w' => ∃ v', e = .returned v' ∧ w'.ownsRow w.heap.size 107 1 v' (limbs (nval xs * nval ys)).length (ints .u32 (limbs (nval xs * nval ys))) ∧ Below w.heap.size w w' := by
 obtain ⟨p, c, rfl, hnc, hcm, hxl⟩ := hr.u32
 obtain ⟨q, d, rfl, hmd, hdm, hyl⟩ := hs.u32
 obtain ⟨i0, hi, hz0, hz1, hz2⟩ := info_parts infoU32
 have Hr := Lib.hid hr
 have Hs := Lib.hid hs
 have HLX := Lib.hid hx
 have HLY := Lib.hid hy
 have HX := Lib.hid hxl
 have HY := Lib.hid hyl
 obtain ⟨B, hB⟩ : ∃ B, B = w.heap.size := ⟨_, rfl⟩
 have HB := Lib.hid hB
 rw [← hB]
 clear hr hs hx hy hxl hyl hB
 refine walk_q fun R' hR' => ?_
 go_enter Tryz.func95, Tryz.ntmps95
 go_wp2_with (at_make; refine wpList_make_full _ rfl _ _ 23 rfl B 107 i0 (.int .u32 0) 1 Tryz.underlying23 hi hz0 hz1 .i64 .i64 _ _ (n + m) rfl rfl (by omega) (by omega) (by rw [hz2]; omega) (by unfold maxLen; omega) (Nat.le_of_eq HB.out) ?_; intro w1 hown hgr)
 have Hown := Lib.hid (Own.made hown)
 have Hb1 : Hid (Below B w w1) := (Below.refl _ _).grown hgr (Nat.le_of_eq HB.out) (fun k hk => by cases hk)
 clear hown hgr hi hz0 hz1 hz2
 go_wp2_with fail
 go_loopw [20] (fun iv wr => MulOut w B n m xs ys (.slice (some ⟨w.heap.size, 0, none⟩) (n + m) (n + m)) iv wr) (fun iv _ => n - (intOf iv).toNat)
 case atStart => exact ⟨0, List.replicate (n + m) 0, Nat.zero_le _, rfl, by simp, Dig.replicate (by omega) _, fun j _ x hx => by rw [List.getElem?_replicate] at hx; split at hx <;> simp_all, by rw [nval_replicate]; simp [nval_nil], by simpa using Hown.out, Hb1.out⟩
 case round =>
  obtain ⟨i, os, hin, rfl, hl, hlim, hz, hv, hown, hb⟩ := hrel
  have HLO := Lib.hid hl
  have HLIM := Lib.hid hlim
  have HZ := Lib.hid hz
  have HV := Lib.hid hv
  have HO := Lib.hid hown
  have HBW := Lib.hid hb
  have hsz := hb.size
  clear hl hlim hz hv hown hb
  by_cases hilt : i < n
  ·obtain ⟨b1, o1, x, rfl, hb1, hxk, hcx⟩ := (Hr.out.belowB HB.out HBW.out).cellAt hilt
   have HXK := Lib.hid hxk
   have hx4 := HLX.out.at hxk
   clear hxk
   go_wp2_with fail
   obtain ⟨wo, rfl⟩ : ∃ wo : World, wo = wr := ⟨_, rfl⟩
   go_loopw [8, 27] (fun cv kv wr' => MulIn w B n m i (nval (xs.take i) * nval ys) x ys (.slice (some ⟨w.heap.size, 0, none⟩) (n + m) (n + m)) cv kv wr') (fun _ kv _ => m - (intOf kv).toNat)
   case atStart => exact ⟨0, 0, os, Nat.zero_le _, rfl, rfl, by omega, HLO.out, HLIM.out, HZ.out, by rw [HV.out]; simp [nval_nil], HO.out, HBW.out⟩
   case round =>
    obtain ⟨k, c', os', hkm, rfl, rfl, hc4, hl', hlim', hz', hv', hown', hb'⟩ := hrel
    have HLO' := Lib.hid hl'
    have HLIM' := Lib.hid hlim'
    have HZ' := Lib.hid hz'
    have HV' := Lib.hid hv'
    have HO' := Lib.hid hown'
    have HBW' := Lib.hid hb'
    clear hl' hlim' hz' hv' hown' hb'
    obtain ⟨o, ho, hco, hfo⟩ := Own.elemCell HO'.out (j := i + k) (by omega)
    have HOK := Lib.hid ho
    have ho4 := HLIM'.out.at ho
    clear ho
    by_cases hklt : k < m
    ·obtain ⟨b2, o2, y, rfl, hb2, hyk, hcy⟩ := (Hs.out.belowB HB.out HBW'.out).cellAt hklt
     have HYK := Lib.hid hyk
     have hy4 := HLY.out.at hyk
     clear hyk
     have hsm := mulrow_bound hx4 hy4 ho4 hc4
     have m0 : 0 ≤ (x : Int) * (y : Int) := by rw [← Int.natCast_mul]; omega
     have m1 : (x : Int) * (y : Int) + (o : Int) + (c' : Int) < 18446744073709551616 := by rw [← Int.natCast_mul]; omega
     have hwik : IntKind.i64.wrap ((i : Int) + (k : Int)) = ((i + k : Nat) : Int) := by rw [IntWalk.i64_in _ (by omega)]; simp
     clear hsm
     go_wp2_with fail
     go_roundw
     case rel =>
      first
      | exact MulIn.step hklt hilt HLO'.out HLIM'.out HZ'.out HV'.out HO'.out HBW'.out HYK.out HOK.out hx4 hy4 hc4 (by simp) (by simp)
      | ((repeat apply Exists.intro); exact ⟨MulIn.step hklt hilt HLO'.out HLIM'.out HZ'.out HV'.out HO'.out HBW'.out HYK.out HOK.out hx4 hy4 hc4 (by simp) (by simp), rfl⟩)
     case measure => simp [intOf]; omega
    ·obtain rfl : k = m := by omega
     have hwik : IntKind.i64.wrap ((i : Int) + (k : Int)) = ((i + k : Nat) : Int) := by rw [IntWalk.i64_in _ (by omega)]; simp
     go_wp2_with fail
     go_roundw
     case rel =>
      first
      | exact MulOut.step hilt HLO'.out HLIM'.out HZ'.out HY.out HV'.out HO'.out HBW'.out HXK.out hc4 rfl
      | ((repeat apply Exists.intro); exact ⟨MulOut.step hilt HLO'.out HLIM'.out HZ'.out HY.out HV'.out HO'.out HBW'.out HXK.out hc4 rfl, rfl⟩)
     case measure => simp [intOf]; omega
  ·obtain rfl : i = n := by omega
   go_wp2_with fail
   refine (trim_any _ (i + m) os _ (Rd.own HO.out) HLIM.out (by omega)).mono ?_
   rintro e w2 ⟨v', rfl, hown2, hb2⟩
   go_wp2_with fail
   have h := HV.out
   rw [nval_take_all (Nat.le_of_eq HX.out)] at h
   rw [h] at hown2
   exact hR'.out _ _ ⟨v', rfl, Own.mono hown2 (by have := HB.out; omega), HBW.out.trans (hb2.mono (by have := HB.out; omega))⟩

end Go.Proofs.YtofdiijioejljaaGreat
/- What the guess of a digit computes: the greatest limb that fits by the highest limbs. -/
namespace Go.Proofs.YtofdiijioejljaaGreat
open Go.RowKit

def GuessInv (w : World) (U2 v1 V U : Nat) (qv rv : Value) (wr : World) : Prop :=
 ∃ q r dn : Nat, qv = .int .u64 (q : Int) ∧ rv = .int .u64 (r : Int) ∧ q * v1 + r = U2 ∧ r < 4294967296 ∧ (∀ t : Nat, t ≤ 4294967295 → t * V ≤ U → t ≤ q) ∧ wr = w.drewN dn
theorem guess_startB {B U2 v1 v2 low : Nat} (hv1 : 0 < v1) (hl : low < B) (t : Nat) (h : t * (v1 * B + v2) ≤ U2 * B + low) : t ≤ U2 / v1 := by
 rw [Nat.le_div_iff_mul_le hv1]
 rw [Nat.mul_add, ← Nat.mul_assoc] at h
 have h1 : t * v1 * B < (U2 + 1) * B := by rw [Nat.add_mul]; omega
 have := Nat.lt_of_mul_lt_mul_right h1
 omega
theorem guess_start {U2 v1 v2 low : Nat} (hv1 : 0 < v1) (hl : low < 4294967296) : ∀ t : Nat, t ≤ 4294967295 → t * (v1 * 4294967296 + v2) ≤ U2 * 4294967296 + low → t ≤ U2 / v1 := fun t _ h => guess_startB hv1 hl t h
theorem guess_fits {B q v1 v2 r U2 low : Nat} (h : q * v1 + r = U2) (hf : q * v2 ≤ r * B + low) : q * (v1 * B + v2) ≤ U2 * B + low := by
 subst h
 rw [Nat.mul_add, ← Nat.mul_assoc, Nat.add_mul]
 omega
theorem guess_over {B q v1 v2 r U2 low : Nat} (h : q * v1 + r = U2) (hf : r * B + low < q * v2) : U2 * B + low < q * (v1 * B + v2) := by
 subst h
 rw [Nat.mul_add, ← Nat.mul_assoc, Nat.add_mul]
 omega
theorem guess_is {q V U : Nat} (hV : 0 < V) (hq : q ≤ 4294967295) (hf : q * V ≤ U) (hm : ∀ t : Nat, t ≤ 4294967295 → t * V ≤ U → t ≤ q) : q = guessN U V :=
 Nat.le_antisymm (guess_max hV hq hf) (hm _ (Nat.min_le_left _ _) guess_le)
theorem guess_broke {q v1 v2 r U2 low : Nat} (h : q * v1 + r = U2) (hr : 4294967296 ≤ r) (hU : U2 < v1 * 4294967296 + 4294967296) (hv2 : v2 < 4294967296) : q ≤ 4294967295 ∧ q * v2 ≤ r * 4294967296 + low := by
 have h1 : q * v1 < 4294967296 * v1 := by omega
 have h2 : q < 4294967296 := Nat.lt_of_mul_lt_mul_right h1
 have h3 : q * v2 ≤ 4294967295 * 4294967295 := Nat.mul_le_mul (by omega) (by omega)
 omega

set_option maxRecDepth 100000 in
set_option maxHeartbeats 4000000 in
theorem guess_any (hi mid low v1 v2 : Nat) (w : World) (hhi : hi ≤ v1) (hmid : mid < 4294967296) (hlow : low < 4294967296) (h1 : 0 < v1) (h14 : v1 < 4294967296) (h2 : v2 < 4294967296) :
  Calls Tryz.prog 137 #[.int .u32 (hi : Int), .int .u32 (mid : Int), .int .u32 (low : Int), .int .u32 (v1 : Int), .int .u32 (v2 : Int)] w fun e w' =>
   e = .returned (.int .u64 (guessN ((hi * 4294967296 + mid) * 4294967296 + low) (v1 * 4294967296 + v2) : Int)) ∧ ∃ k, w' = w.drewN k := by
 have hhi4 : hi < 4294967296 := by omega
 have hor : bits BinOp.or IntKind.u64 ((hi : Int) * 4294967296) (mid : Int) = ((hi * 4294967296 + mid : Nat) : Int) := by
  have e1 : ((hi : Int) * 4294967296) = ((hi * 4294967296 : Nat) : Int) := by simp
  rw [e1, u64_or_nat _ _ (by omega) (by omega), nat_join 32 _ _ (by omega) (by omega)]
 obtain ⟨U2, hU2⟩ : ∃ U2, U2 = hi * 4294967296 + mid := ⟨_, rfl⟩
 have hU : U2 < v1 * 4294967296 + 4294967296 := by omega
 rw [← hU2] at hor ⊢
 have hv0 : ((v1 : Int) != 0) = true := by rw [bne_iff_ne]; omega
 have hV : 0 < v1 * 4294967296 + v2 := by omega
 obtain ⟨V, hVe⟩ : ∃ V, V = v1 * 4294967296 + v2 := ⟨_, rfl⟩
 obtain ⟨U, hUe⟩ : ∃ U, U = U2 * 4294967296 + low := ⟨_, rfl⟩
 rw [← hVe, ← hUe]
 rw [← hVe] at hV
 have HV := Lib.hid hVe
 have HU := Lib.hid hUe
 have HST : Hid (∀ t : Nat, t ≤ 4294967295 → t * V ≤ U → t ≤ U2 / v1) := by rw [hVe, hUe]; exact guess_start h1 hlow
 have HUU := Lib.hid hU
 have hdm := Nat.div_add_mod U2 v1
 have hml := Nat.mod_lt U2 h1
 have hU64 : U2 < 18446744073709551616 := by omega
 have d1 : ((U2 / v1 : Nat) : Int) = (U2 : Int) / (v1 : Int) := by simp
 have d2 : ((U2 % v1 : Nat) : Int) = (U2 : Int) % (v1 : Int) := by simp
 have dl : (U2 : Int) / (v1 : Int) < 18446744073709551616 := by rw [← d1]; have := Nat.div_le_self U2 v1; omega
 have dl0 : 0 ≤ (U2 : Int) / (v1 : Int) := Int.ediv_nonneg (by omega) (by omega)
 have dm0 : 0 ≤ (U2 : Int) % (v1 : Int) := Int.emod_nonneg _ (by omega)
 have dm1 : (U2 : Int) % (v1 : Int) < 4294967296 := by rw [← d2]; omega
 have HDM := Lib.hid hdm
 have HML := Lib.hid hml
 have HD1 := Lib.hid d1
 have HD2 := Lib.hid d2
 clear hVe hUe hU hdm hml d1 d2 hU2
 refine walk_q fun R' hR' => ?_
 go_enter Tryz.func137, Tryz.ntmps137
 go_wp2_with fail
 go_step3
 go_wp2_with fail
 go_quiet (fail)
 go_wp2_with fail
 go_step3
 go_wp2_with fail
 go_loopw [12, 13] (fun qv rv wr => GuessInv w U2 v1 V U qv rv wr) (fun qv _ _ => (intOf qv).toNat)
 case atStart => exact ⟨U2 / v1, U2 % v1, _, by rw [HD1.out], by rw [HD2.out], by rw [Nat.mul_comm]; exact HDM.out, Nat.lt_trans HML.out h14, HST.out, rfl⟩
 case round =>
  obtain ⟨q, r, dn, rfl, rfl, hqr, hr, hmax, rfl⟩ := hrel
  have HQR := Lib.hid hqr
  have HMAX := Lib.hid hmax
  have hq64 : (q : Int) < 18446744073709551616 := by
   have h3 : q * 1 ≤ q * v1 := Nat.mul_le_mul_left _ h1
   omega
  have hr64 : (r : Int) + (v1 : Int) < 18446744073709551616 := by omega
  clear hqr hmax dl dl0 dm0 dm1 hor
  have next : (∀ t : Nat, t ≤ 4294967295 → t * V ≤ U → t ≤ q - 1) → 1 ≤ q → r + v1 < 4294967296 → GuessInv w U2 v1 V U (.int .u64 ((q : Int) - 1)) (.int .u64 ((r : Int) + (v1 : Int))) (w.drewN dn) := fun a b c =>
   ⟨q - 1, r + v1, dn, by rw [show ((q - 1 : Nat) : Int) = (q : Int) - 1 by omega], by simp, by
    have h3 := HQR.out
    obtain ⟨k, rfl⟩ : ∃ k, q = k + 1 := ⟨q - 1, by omega⟩
    rw [Nat.add_mul] at h3
    simp only [Nat.add_sub_cancel]
    omega, c, a, rfl⟩
  have stop : (∀ t : Nat, t ≤ 4294967295 → t * V ≤ U → t ≤ q - 1) → 1 ≤ q → 4294967296 ≤ r + v1 → (q : Int) - 1 = (guessN U V : Int) := fun a b c => by
   have h3 := HQR.out
   obtain ⟨k, rfl⟩ : ∃ k, q = k + 1 := ⟨q - 1, by omega⟩
   have h4 : k * v1 + (r + v1) = U2 := by rw [Nat.add_mul] at h3; omega
   obtain ⟨h5, h6⟩ := guess_broke (low := low) h4 c HUU.out h2
   have h7 : k = guessN U V := guess_is hV h5 (by rw [HV.out, HU.out]; exact guess_fits h4 h6) (by simpa using a)
   omega
  have HNEXT := Lib.hid next
  have HSTOP := Lib.hid stop
  clear next stop
  by_cases hqB : 4294967296 ≤ q
  ·have c1 : 4294967295 < (q : Int) := by omega
   have hA : Hid (∀ t : Nat, t ≤ 4294967295 → t * V ≤ U → t ≤ q - 1) := fun t ht _ => by omega
   have c2 : 0 ≤ (q : Int) - 1 := by omega
   by_cases hrb : r + v1 < 4294967296
   ·have c3 : decide (4294967295 < (r : Int) + (v1 : Int)) = false := decide_eq_false (by omega)
    go_wp2_with fail
    go_roundw
    case rel => exact HNEXT.out hA.out (by omega) hrb
    case measure => simp [intOf]; omega
   ·have c3 : 4294967295 < (r : Int) + (v1 : Int) := by omega
    go_wp2_with fail
    exact hR'.out _ _ ⟨ret1 (HSTOP.out hA.out (by omega) (by omega)), _, rfl⟩
  ·have c1 : (q : Int) ≤ 4294967295 := by omega
   have m2 : q * v2 ≤ 4294967295 * 4294967295 := Nat.mul_le_mul (by omega) (by omega)
   have m0 : 0 ≤ (q : Int) * (v2 : Int) := by rw [← Int.natCast_mul]; omega
   have m1 : (q : Int) * (v2 : Int) < 18446744073709551616 := by rw [← Int.natCast_mul]; omega
   have hor : bits BinOp.or IntKind.u64 ((r : Int) * 4294967296) (low : Int) = ((r * 4294967296 + low : Nat) : Int) := by
    have e1 : ((r : Int) * 4294967296) = ((r * 4294967296 : Nat) : Int) := by simp
    rw [e1, u64_or_nat _ _ (by omega) (by omega), nat_join 32 _ _ (by omega) (by omega)]
   obtain ⟨RL, hRL⟩ : ∃ RL, RL = r * 4294967296 + low := ⟨_, rfl⟩
   rw [← hRL] at hor
   have HRL := Lib.hid hRL
   by_cases hc : RL < q * v2
   ·have cc : (RL : Int) < (q : Int) * (v2 : Int) := by rw [← Int.natCast_mul]; omega
    have hq1 : 1 ≤ q := by
     rcases Nat.eq_zero_or_pos q with h | h
     ·subst h; rw [Nat.zero_mul] at hc; omega
     ·exact h
    have hA : Hid (∀ t : Nat, t ≤ 4294967295 → t * V ≤ U → t ≤ q - 1) := fun t ht hf => by
     have h3 := HMAX.out t ht hf
     have h4 := guess_over (B := 4294967296) (low := low) HQR.out (by rw [← hRL]; exact hc)
     rw [← HV.out, ← HU.out] at h4
     have h5 : t ≠ q := fun e => by subst e; omega
     omega
    have c2 : 0 ≤ (q : Int) - 1 := by omega
    clear m2 hc hRL
    by_cases hrb : r + v1 < 4294967296
    ·have c3 : decide (4294967295 < (r : Int) + (v1 : Int)) = false := decide_eq_false (by omega)
     go_wp2_with fail
     go_roundw
     case rel => exact HNEXT.out hA.out (by omega) hrb
     case measure => simp [intOf]; omega
    ·have c3 : 4294967295 < (r : Int) + (v1 : Int) := by omega
     go_wp2_with fail
     exact hR'.out _ _ ⟨ret1 (HSTOP.out hA.out (by omega) (by omega)), _, rfl⟩
   ·have cc : decide ((RL : Int) < (q : Int) * (v2 : Int)) = false := decide_eq_false (by rw [← Int.natCast_mul]; omega)
    have cx : decide (4294967295 < (q : Int)) = false := decide_eq_false (by omega)
    have he : q = guessN U V := guess_is hV (by omega) (by rw [HV.out, HU.out]; exact guess_fits HQR.out (by rw [← hRL]; omega)) HMAX.out
    have HE := Lib.hid he
    clear m2 hc hRL he c1
    go_wp2_with fail
    exact hR'.out _ _ ⟨by rw [← HE.out]; rfl, _, rfl⟩

end Go.Proofs.YtofdiijioejljaaGreat
/- What the taking of a multiple from a window of limbs computes. -/
namespace Go.Proofs.YtofdiijioejljaaGreat
open Go.RowKit

theorem Rd.keepRow {w w' : World} {g sz n : Nat} {v : Value} {cs : List Value} (h : Rd w sz v n cs) (hg : w.grownBy w' (some g)) (hne : ∀ p c a, v = .slice p n c → p = some a → a.block ≠ g) : Rd w' sz v n cs := by
 obtain ⟨p, c, rfl, h1, h2, h3, h4⟩ := h
 refine ⟨p, c, rfl, h1, h2, h3, fun hn => ?_⟩
 obtain ⟨b, off, hp, hc⟩ := h4 hn
 refine ⟨b, off, hp, fun j u hj => ?_⟩
 exact hg.cell (hc j u hj) (fun e => hne p c _ rfl hp (by simpa using e))
theorem grownBy_refl0 (w : World) (row : Option Nat) : w.grownBy w row := ⟨rfl, rfl, rfl, Nat.le_refl _, fun _ _ _ => rfl⟩
theorem grownBy_trans {a b c : World} {row : Option Nat} (h : a.grownBy b row) (k : b.grownBy c row) : a.grownBy c row :=
 ⟨k.os.trans h.os, k.tape.trans h.tape, k.output.trans h.output, Nat.le_trans h.size k.size, fun j hj hne => (k.block j (Nat.lt_of_lt_of_le hj h.size) hne).trans (h.block j hj hne)⟩
theorem grownBy_setC {w wr : World} {g j : Nat} {u : Value} (h : w.grownBy wr (some g)) : w.grownBy (wr.setCell ⟨g, j, none⟩ u) (some g) :=
 ⟨h.os, h.tape, h.output, by simpa [World.setCell] using h.size, fun k hk hne => (Below.heap_setCell wr ⟨g, j, none⟩ u k (fun e => hne (by rw [e]))).trans (h.block k hk hne)⟩
theorem win_get {pre D A post : List Nat} {i k a : Nat} (hp : pre.length = i) (hD : D.length = k) (ha : A[k]? = some a) : (pre ++ (D ++ (A.drop k ++ post)))[i + k]? = some a := by
 subst hp; subst hD
 obtain ⟨hl, he⟩ := List.getElem?_eq_some_iff.1 ha
 rw [List.getElem?_append_right (by omega), Nat.add_sub_cancel_left, List.getElem?_append_right (Nat.le_refl _), Nat.sub_self, List.drop_eq_getElem_cons hl, List.cons_append, List.getElem?_cons_zero, he]
theorem win_set {pre D A post : List Nat} {i k x : Nat} (hp : pre.length = i) (hD : D.length = k) (hl : k < A.length) : (pre ++ (D ++ (A.drop k ++ post))).set (i + k) x = pre ++ ((D ++ [x]) ++ (A.drop (k + 1) ++ post)) := by
 subst hp; subst hD
 rw [List.set_append_right _ _ (by omega), Nat.add_sub_cancel_left, List.set_append_right _ _ (Nat.le_refl _), Nat.sub_self, List.drop_eq_getElem_cons hl, List.cons_append, List.set_cons_zero, List.append_assoc]; rfl

theorem wrapU64 (n : Int) : IntKind.u64.wrap n = n % 18446744073709551616 := by simp [IntKind.wrap, IntKind.bits, IntKind.signed]
theorem sub_wrap {a lo r : Nat} (ha : a < 4294967296) (hl : lo < 4294967296) (hr : r ≤ 1) : ∃ S1 S2 x r' : Nat, IntKind.u64.wrap ((a : Int) - (lo : Int)) = (S1 : Int) ∧ IntKind.u64.wrap ((S1 : Int) - (r : Int)) = (S2 : Int) ∧
  (S2 : Int) % 4294967296 = (x : Int) ∧ (S2 : Int) / 9223372036854775808 = (r' : Int) ∧ r' ≤ 1 ∧ x < 4294967296 ∧ a + 4294967296 * r' = x + lo + r ∧ S1 < 18446744073709551616 ∧ S2 < 18446744073709551616 := by
 refine ⟨(((a : Int) - lo) % 18446744073709551616).toNat, (((a : Int) - lo - r) % 18446744073709551616).toNat, (((a : Int) - lo - r) % 4294967296).toNat, (if lo + r ≤ a then 0 else 1), ?_, ?_, ?_, ?_, ?_, ?_, ?_, ?_, ?_⟩
 ·rw [wrapU64]; omega
 ·rw [wrapU64]; omega
 ·omega
 ·split <;> omega
 ·split <;> omega
 ·omega
 ·split <;> omega
 ·omega
 ·omega

def TakeInv (w : World) (B g N cap L q : Nat) (pre A post ys : List Nat) (cv bv kv : Value) (wr : World) : Prop :=
 ∃ (k c r : Nat) (D : List Nat), k ≤ L ∧ kv = .int .i64 (k : Int) ∧ cv = .int .u64 (c : Int) ∧ bv = .int .u64 (r : Int) ∧ c < 4294967296 ∧ r ≤ 1 ∧ D.length = k ∧ Lim D ∧
  nval D + q * nval (ys.take k) = nval (A.take k) + 4294967296 ^ k * (c + r) ∧ 4294967296 ^ k * c ≤ q * nval (ys.take k) ∧
  wr.ownsRow B 107 1 (.slice (some ⟨g, 0, none⟩) N cap) N (ints .u32 (pre ++ (D ++ (A.drop k ++ post)))) ∧ w.grownBy wr (some g)
theorem TakeInv.step {w wr : World} {B g N cap i L q k c r y a x r' P : Nat} {pre A post ys D : List Nat} {xi ci ri : Int} (hk : k < L) (hA : A.length = L) (hpre : pre.length = i) (hD : D.length = k) (hlim : Lim D)
  (hv : nval D + q * nval (ys.take k) = nval (A.take k) + 4294967296 ^ k * (c + r)) (hc : 4294967296 ^ k * c ≤ q * nval (ys.take k))
  (hown : wr.ownsRow B 107 1 (.slice (some ⟨g, 0, none⟩) N cap) N (ints .u32 (pre ++ (D ++ (A.drop k ++ post))))) (hg : w.grownBy wr (some g))
  (hy : ys.getD k 0 = y) (ha : A[k]? = some a) (hP : P = q * y + c) (hP64 : P < 18446744073709551616) (hx4 : x < 4294967296) (hr' : r' ≤ 1) (he : a + 4294967296 * r' = x + P % 4294967296 + r)
  (hxi : xi = (x : Int)) (hci : ci = ((P / 4294967296 : Nat) : Int)) (hri : ri = (r' : Int)) :
  TakeInv w B g N cap L q pre A post ys (.int .u64 ci) (.int .u64 ri) (.int .i64 ((k : Int) + 1)) (wr.setCell ⟨g, i + k, none⟩ (.int .u32 xi)) := by
 subst hxi; subst hci; subst hri; subst hP
 have h1 := Own.elemStore (j := i + k) (x := x) hown
 rw [win_set hpre hD (by omega)] at h1
 have e1 : nval (ys.take (k + 1)) = nval (ys.take k) + 4294967296 ^ k * y := by rw [nval_take_getD, hy]
 have e2 : nval (A.take (k + 1)) = nval (A.take k) + 4294967296 ^ k * a := by rw [nval_take_getD, List.getD, ha]; rfl
 refine ⟨k + 1, (q * y + c) / 4294967296, r', D ++ [x], by omega, rfl, rfl, rfl, by omega, hr', by simp [hD], hlim.append (Lim.cons hx4 Lim.nil), ?_, ?_, h1, grownBy_setC hg⟩
 ·rw [nval_snoc, hD, e1, e2, Nat.pow_succ]
  exact taken_step hv he
 ·rw [e1, Nat.pow_succ, Nat.mul_add]
  have h3 : 4294967296 ^ k * 4294967296 * ((q * y + c) / 4294967296) ≤ 4294967296 ^ k * (q * y + c) := by
   rw [Nat.mul_assoc]; exact Nat.mul_le_mul_left _ (Nat.mul_div_le _ _)
  rw [Nat.mul_add, Nat.mul_left_comm] at h3
  omega

def BackInv (w : World) (B g N cap L : Nat) (pre A post ys : List Nat) (cv kv : Value) (wr : World) : Prop :=
 ∃ (k c : Nat) (D : List Nat), k ≤ L ∧ kv = .int .i64 (k : Int) ∧ cv = .int .u32 (c : Int) ∧ c ≤ 1 ∧ D.length = k ∧ Lim D ∧
  nval D + 4294967296 ^ k * c = nval (A.take k) + nval (ys.take k) ∧
  wr.ownsRow B 107 1 (.slice (some ⟨g, 0, none⟩) N cap) N (ints .u32 (pre ++ (D ++ (A.drop k ++ post)))) ∧ w.grownBy wr (some g)
theorem BackInv.step {w wr : World} {B g N cap i L k c y a : Nat} {pre A post ys D : List Nat} (hk : k < L) (hA : A.length = L) (hpre : pre.length = i) (hD : D.length = k) (hlim : Lim D) (hc : c ≤ 1)
  (hv : nval D + 4294967296 ^ k * c = nval (A.take k) + nval (ys.take k))
  (hown : wr.ownsRow B 107 1 (.slice (some ⟨g, 0, none⟩) N cap) N (ints .u32 (pre ++ (D ++ (A.drop k ++ post))))) (hg : w.grownBy wr (some g))
  (hy : ys.getD k 0 = y) (ha : A[k]? = some a) (ha4 : a < 4294967296) (hy4 : y < 4294967296) :
  BackInv w B g N cap L pre A post ys (.int .u32 (((a + y + c) / 4294967296 : Nat) : Int)) (.int .i64 ((k : Int) + 1)) (wr.setCell ⟨g, i + k, none⟩ (.int .u32 (((a + y + c) % 4294967296 : Nat) : Int))) := by
 have h1 := Own.elemStore (j := i + k) (x := (a + y + c) % 4294967296) hown
 rw [win_set hpre hD (by omega)] at h1
 have e1 : nval (ys.take (k + 1)) = nval (ys.take k) + 4294967296 ^ k * y := by rw [nval_take_getD, hy]
 have e2 : nval (A.take (k + 1)) = nval (A.take k) + 4294967296 ^ k * a := by rw [nval_take_getD, List.getD, ha]; rfl
 refine ⟨k + 1, (a + y + c) / 4294967296, D ++ [(a + y + c) % 4294967296], by omega, rfl, rfl, by omega, by simp [hD], hlim.append (Lim.cons (Nat.mod_lt _ (by omega)) Lim.nil), ?_, h1, grownBy_setC hg⟩
 rw [nval_snoc, hD, e1, e2, Nat.pow_succ]
 exact add_step _ _ a y c _ _ _ hv rfl

def TookAt (w w' : World) (B g N cap : Nat) (pre A post ys : List Nat) (q q' : Nat) : Prop :=
 ∃ A' : List Nat, A'.length = A.length ∧ Lim A' ∧ nval A' + q' * nval ys = nval A ∧ (q * nval ys ≤ nval A ∧ q' = q ∨ nval A < q * nval ys ∧ q' + 1 = q) ∧
  w'.ownsRow B 107 1 (.slice (some ⟨g, 0, none⟩) N cap) N (ints .u32 (pre ++ (A' ++ post))) ∧ w.grownBy w' (some g)

set_option maxRecDepth 100000 in
set_option maxHeartbeats 4000000 in
theorem take_any (g N cap i L capw n q B : Nat) (pre A post ys : List Nat) (vb : Value) (w : World) (hown : w.ownsRow B 107 1 (.slice (some ⟨g, 0, none⟩) N cap) N (ints .u32 (pre ++ (A ++ post))))
  (hpre : pre.length = i) (hA : A.length = L) (hlA : Lim A) (hs : Rd w 1 vb n (ints .u32 ys)) (hly : Lim ys) (hne : ∀ p c a, vb = .slice p n c → p = some a → a.block ≠ g) (hL : L = n + 1) (hLc : L ≤ capw) (hcw : capw ≤ 9223372036854775807)
  (hq : q < 4294967296) (hqb : q * nval ys ≤ nval A + nval ys) :
  Calls Tryz.prog 138 #[.slice (some ⟨g, i, none⟩) L capw, vb, .int .u64 (q : Int)] w fun e w' => ∃ q' : Nat, e = .returned (.int .u32 (q' : Int)) ∧ TookAt w w' B g N cap pre A post ys q q' := by
 obtain ⟨p, c, rfl, hnc, hcm, hyl⟩ := hs.u32
 have Hs := Lib.hid hs
 have HLA := Lib.hid hlA
 have HLY := Lib.hid hly
 have HNE := Lib.hid hne
 have HO := Lib.hid hown
 have HA := Lib.hid hA
 have HP := Lib.hid hpre
 have HY := Lib.hid hyl
 have HQB := Lib.hid hqb
 have HLL := Lib.hid hL
 clear hs hlA hly hne hown hA hpre hyl hqb hL
 refine walk_q fun R' hR' => ?_
 go_enter Tryz.func138, Tryz.ntmps138
 go_wp2_with fail
 go_loopw [7, 8, 18] (fun cv bv kv wr => TakeInv w B g N cap L q pre A post ys cv bv kv wr) (fun _ _ kv _ => L - (intOf kv).toNat)
 case atStart => exact ⟨0, 0, 0, [], Nat.zero_le _, rfl, rfl, rfl, by omega, by omega, rfl, Lim.nil, by simp [nval_nil], by simp, by simpa using HO.out, grownBy_refl0 _ _⟩
 case round =>
  obtain ⟨k, c, r, D, hkL, rfl, rfl, rfl, hc4, hr1, hD, hlD, hv, hcc, hown, hg⟩ := hrel
  have HD := Lib.hid hD
  have HLD := Lib.hid hlD
  have HV := Lib.hid hv
  have HCC := Lib.hid hcc
  have HOW := Lib.hid hown
  have HG := Lib.hid hg
  clear hD hlD hv hcc hown hg
  by_cases hkl : k < L
  ·obtain ⟨a, ha⟩ : ∃ a, A[k]? = some a := ⟨_, List.getElem?_eq_getElem (by rw [HA.out]; exact hkl)⟩
   have ha4 := HLA.out.at ha
   have HAK := Lib.hid ha
   have hlt : i + k < N := by
    have h1 := HOW.out.1
    have h2 := (List.getElem?_eq_some_iff.1 (win_get (post := post) HP.out HD.out ha)).1
    simp at h1 h2
    omega
   obtain ⟨a', ha', hca, hfa⟩ := Own.elemCell HOW.out (j := i + k) hlt
   rw [win_get HP.out HD.out ha] at ha'
   obtain rfl := Option.some.inj ha'
   have hgl := cell_lt hca
   simp only at hgl
   clear ha ha'
   by_cases hkn : k < n
   ·obtain ⟨b2, o2, y, rfl, hb2, hyk, hcy⟩ := (Hs.out.keepRow HG.out HNE.out).cellAt hkn
    have HYK : Hid (ys.getD k 0 = y) := by show _ = _; rw [List.getD, hyk]; rfl
    have hy4 := HLY.out.at hyk
    clear hyk
    have m3 : q * y ≤ 4294967295 * 4294967295 := Nat.mul_le_mul (by omega) (by omega)
    have m0 : 0 ≤ (q : Int) * (y : Int) := by rw [← Int.natCast_mul]; omega
    have m1 : (q : Int) * (y : Int) < 18446744073709551616 := by rw [← Int.natCast_mul]; omega
    obtain ⟨P, hP⟩ : ∃ P, P = q * y + c := ⟨_, rfl⟩
    have hP64 : P < 18446744073709551616 := by omega
    have hPi : (q : Int) * (y : Int) + (c : Int) = (P : Int) := by rw [hP]; simp
    obtain ⟨lo, hlo⟩ : ∃ lo, lo = P % 4294967296 := ⟨_, rfl⟩
    have hlo4 : lo < 4294967296 := by omega
    have hloi : (P : Int) % 4294967296 = (lo : Int) := by omega
    obtain ⟨S1, S2, x, r', f1, f2, f3, f4, f5, f6, f7, f8, f9⟩ := sub_wrap ha4 hlo4 hr1
    have HF7 := Lib.hid f7
    have HPE := Lib.hid hP
    have HLO := Lib.hid hlo
    clear m3 hP hlo f7
    go_wp2_with fail
    go_roundw
    case rel => exact TakeInv.step hkl HA.out HP.out HD.out HLD.out HV.out HCC.out HOW.out HG.out HYK.out HAK.out HPE.out hP64 f6 f5 (by rw [← HLO.out]; exact HF7.out) rfl (by simp) rfl
    case measure => simp [intOf]; omega
   ·have HYK : Hid (ys.getD k 0 = 0) := by show _ = _; rw [List.getD, List.getElem?_eq_none (by rw [HY.out]; omega)]; rfl
    obtain ⟨S1, S2, x, r', f1, f2, f3, f4, f5, f6, f7, f8, f9⟩ := sub_wrap ha4 hc4 hr1
    have HF7 := Lib.hid f7
    clear f7
    go_wp2_with fail
    go_roundw
    case rel => exact TakeInv.step hkl HA.out HP.out HD.out HLD.out HV.out HCC.out HOW.out HG.out HYK.out HAK.out (P := c) (by simp) (by omega) f6 f5 (by rw [Nat.mod_eq_of_lt hc4]; exact HF7.out) rfl (by first | rfl | (simp; omega) | omega) rfl
    case measure => simp [intOf]; omega
  ·obtain rfl : k = L := by omega
   have hpow : q * nval ys < 4294967296 ^ k := by
    have h1 := nval_lt HLY.out
    rw [HY.out] at h1
    have h2 : q * nval ys ≤ 4294967295 * nval ys := Nat.mul_le_mul_right _ (by omega)
    have h3 : 4294967296 ^ k = 4294967296 ^ n * 4294967296 := by rw [HLL.out, Nat.pow_succ]
    omega
   have hyt : nval (ys.take k) = nval ys := nval_take_all (by rw [HY.out, HLL.out]; omega)
   have hat : nval (A.take k) = nval A := nval_take_all (by rw [HA.out]; omega)
   have hv := HV.out
   have hcc := HCC.out
   rw [hyt] at hv hcc
   rw [hat] at hv
   have hDl := nval_lt HLD.out
   rw [HD.out] at hDl
   obtain rfl : c = 0 := by
    rcases Nat.eq_zero_or_pos c with h | h
    ·exact h
    ·have : 4294967296 ^ k * 1 ≤ 4294967296 ^ k * c := Nat.mul_le_mul_left _ h
     omega
   rw [Nat.zero_add] at hv
   have HV2 := Lib.hid hv
   have HPW := Lib.hid hpow
   have HDL := Lib.hid hDl
   have hOW := HOW.out
   rw [List.drop_of_length_le (by rw [HA.out]; omega), List.nil_append] at hOW
   have HOW2 := Lib.hid hOW
   clear hv hcc hpow hyt hat hDl hOW HOW HCC HV
   rcases (show r = 0 ∨ r = 1 by omega) with rfl | rfl
   ·go_wp2_with fail
    refine hR'.out _ _ ⟨q, ?_, D, by rw [HD.out, HA.out], HLD.out, by have := HV2.out; omega, .inl ⟨by have := HV2.out; omega, rfl⟩, HOW2.out, HG.out⟩
    first | rfl | exact ret1 (by omega)
   ·have hq1 : 1 ≤ q := by
     rcases Nat.eq_zero_or_pos q with h | h
     ·have h1 := HV2.out; have h2 := HDL.out; rw [h, Nat.zero_mul] at h1; omega
     ·exact h
    go_wp2_with fail
    rw [show ((0 : Nat) : Int) = 0 from rfl, show ((1 : Nat) : Int) = 1 from rfl]
    obtain ⟨wo, rfl⟩ : ∃ wo : World, wo = wr := ⟨_, rfl⟩
    go_loopw [13, 62] (fun cv kv wr' => BackInv wo B g N cap k pre D post ys cv kv wr') (fun _ kv _ => k - (intOf kv).toNat)
    case atStart => exact ⟨0, 0, [], Nat.zero_le _, rfl, rfl, by omega, rfl, Lim.nil, by simp [nval_nil], by simpa using HOW2.out, grownBy_refl0 _ _⟩
    case round =>
     obtain ⟨l, c, E, hlk, rfl, rfl, hc1, hE, hlE, hvE, hown, hg⟩ := hrel
     have HE := Lib.hid hE
     have HLE := Lib.hid hlE
     have HVE := Lib.hid hvE
     have HOW := Lib.hid hown
     have HG2 := Lib.hid hg
     clear hE hlE hvE hown hg
     by_cases hlt : l < k
     ·obtain ⟨a, ha⟩ : ∃ a, D[l]? = some a := ⟨_, List.getElem?_eq_getElem (by rw [HD.out]; exact hlt)⟩
      have ha4 := HLD.out.at ha
      have HAK := Lib.hid ha
      have hlN : i + l < N := by
       have h1 := HOW.out.1
       have h2 := (List.getElem?_eq_some_iff.1 (win_get (post := post) HP.out HE.out ha)).1
       simp at h1 h2
       omega
      obtain ⟨a', ha', hca, hfa⟩ := Own.elemCell HOW.out (j := i + l) hlN
      rw [win_get HP.out HE.out ha] at ha'
      obtain rfl := Option.some.inj ha'
      have hgl := cell_lt hca
      simp only at hgl
      clear ha ha'
      by_cases hln : l < n
      ·obtain ⟨b2, o2, y, rfl, hb2, hyk, hcy⟩ := ((Hs.out.keepRow HG.out HNE.out).keepRow HG2.out HNE.out).cellAt hln
       have HYK : Hid (ys.getD l 0 = y) := by show _ = _; rw [List.getD, hyk]; rfl
       have hy4 := HLY.out.at hyk
       clear hyk
       go_wp2_with fail
       refine (add32_any a y c _ ha4 hy4 (by omega)).mono ?_
       rintro e w2 ⟨rfl, rfl⟩
       go_wp2_with fail
       go_roundw
       case rel => exact BackInv.step hlt HD.out HP.out HE.out HLE.out hc1 HVE.out HOW.out HG2.out HYK.out HAK.out ha4 hy4
       case measure => simp [intOf]; omega
      ·have HYK : Hid (ys.getD l 0 = 0) := by show _ = _; rw [List.getD, List.getElem?_eq_none (by rw [HY.out]; omega)]; rfl
       go_wp2_with fail
       refine (add32_any a 0 c _ ha4 (by omega) (by omega)).mono ?_
       rintro e w2 ⟨rfl, rfl⟩
       go_wp2_with fail
       go_roundw
       case rel => exact BackInv.step hlt HD.out HP.out HE.out HLE.out hc1 HVE.out HOW.out HG2.out HYK.out HAK.out ha4 (by omega)
       case measure => simp [intOf]; omega
     ·obtain rfl : l = k := by omega
      have hve := HVE.out
      rw [nval_take_all (by rw [HD.out]; omega), nval_take_all (by rw [HY.out, HLL.out]; omega)] at hve
      have hEl := nval_lt HLE.out
      rw [HE.out] at hEl
      have hOW := HOW.out
      rw [List.drop_of_length_le (by rw [HD.out]; omega), List.nil_append] at hOW
      have hv2 := HV2.out
      have hqb := HQB.out
      obtain ⟨m, rfl⟩ : ∃ m, q = m + 1 := ⟨q - 1, by omega⟩
      rw [Nat.add_mul, Nat.one_mul] at hv2 hqb
      have hfin : nval E + m * nval ys = nval A := by
       rcases (show c = 0 ∨ c = 1 by omega) with rfl | rfl
       ·omega
       ·omega
      have hlt2 : nval A < (m + 1) * nval ys := by
       rw [Nat.add_mul, Nat.one_mul]
       have := HDL.out
       omega
      have HFIN := Lib.hid hfin
      have HLT2 := Lib.hid hlt2
      have HOW3 := Lib.hid hOW
      clear hve hEl hOW hv2 hqb hfin hlt2
      have hm : ((m + 1 : Nat) : Int) - 1 = (m : Int) := by omega
      go_wp2_with fail
      refine hR'.out _ _ ⟨m, ?_, E, by rw [HE.out, HA.out], HLE.out, HFIN.out, .inr ⟨HLT2.out, rfl⟩, HOW3.out, grownBy_trans HG.out HG2.out⟩
      first | rfl | exact ret1 (by omega)

end Go.Proofs.YtofdiijioejljaaGreat
/- One step of long division on rows of limbs, and its start and end. No function of the program in sight. -/
namespace Go.Proofs.YtofdiijioejljaaGreat

theorem getD_some {xs : List Nat} {k x : Nat} (h : xs[k]? = some x) : xs.getD k 0 = x := by rw [List.getD, h]; rfl
theorem top_three {A : List Nat} {m a0 a1 a2 : Nat} (hl : A.length = m + 3) (h0 : A[m]? = some a0) (h1 : A[m + 1]? = some a1) (h2 : A[m + 2]? = some a2) :
  nval A = ((a2 * 4294967296 + a1) * 4294967296 + a0) * 4294967296 ^ m + nval (A.take m) := by
 have e0 := nval_take_getD A m
 have e1 := nval_take_getD A (m + 1)
 have e2 := nval_take_getD A (m + 2)
 rw [getD_some h0] at e0
 rw [getD_some h1, e0, Nat.pow_succ] at e1
 rw [getD_some h2, e1, Nat.pow_succ, Nat.pow_succ, nval_take_all (by omega)] at e2
 rw [e2]
 generalize 4294967296 ^ m = p
 rw [Nat.add_mul, Nat.add_mul, Nat.add_mul]
 rw [show a2 * 4294967296 * 4294967296 * p = p * 4294967296 * 4294967296 * a2 by ac_rfl]
 rw [show a1 * 4294967296 * p = p * 4294967296 * a1 by rw [Nat.mul_comm p, Nat.mul_comm _ a1, Nat.mul_assoc]]
 rw [Nat.mul_comm a0 p]
 omega
theorem top_two {Y : List Nat} {m v1 v2 : Nat} (hl : Y.length = m + 2) (h2 : Y[m]? = some v2) (h1 : Y[m + 1]? = some v1) : nval Y = (v1 * 4294967296 + v2) * 4294967296 ^ m + nval (Y.take m) := by
 have e0 := nval_take_getD Y m
 have e1 := nval_take_getD Y (m + 1)
 rw [getD_some h2] at e0
 rw [getD_some h1, e0, Nat.pow_succ, nval_take_all (by omega)] at e1
 rw [e1]
 generalize 4294967296 ^ m = p
 rw [Nat.add_mul]
 rw [show v1 * 4294967296 * p = p * 4294967296 * v1 by rw [Nat.mul_comm p, Nat.mul_comm _ v1, Nat.mul_assoc]]
 rw [Nat.mul_comm v2 p]
 omega
theorem lim_take_lt {xs : List Nat} (h : Lim xs) {m : Nat} (hm : m ≤ xs.length) : nval (xs.take m) < 4294967296 ^ m := by
 have := nval_lt (h.take m)
 rwa [List.length_take, Nat.min_eq_left hm] at this

structure Window (us ys : List Nat) (i m b hi mid low v1 v2 : Nat) (A post : List Nat) : Prop where
 split : us = us.take i ++ (A ++ post)
 pre : (us.take i).length = i
 len : A.length = m + 3
 lim : Lim A
 zero : nval post = 0
 lt : nval A < 4294967296 * b
 hi_le : hi ≤ v1
 near : nval A / b ≤ guessN ((hi * 4294967296 + mid) * 4294967296 + low) (v1 * 4294967296 + v2) ∧ guessN ((hi * 4294967296 + mid) * 4294967296 + low) (v1 * 4294967296 + v2) ≤ nval A / b + 1
theorem window_at {us ys : List Nat} {i m b hi mid low v1 v2 N : Nat} (hN : us.length = N) (hlt : i + (m + 2) < N) (hu : Lim us) (hy : Lim ys) (hyl : ys.length = m + 2) (hb : nval ys = b) (hd : nval (us.drop (i + 1)) < b)
  (h1 : us[i + (m + 2)]? = some hi) (h2 : us[i + (m + 1)]? = some mid) (h3 : us[i + m]? = some low) (h4 : ys[m + 1]? = some v1) (h5 : ys[m]? = some v2) (hv1 : 0 < v1) :
  Window us ys i m b hi mid low v1 v2 ((us.drop i).take (m + 3)) (us.drop (i + (m + 3))) := by
 have hA : ((us.drop i).take (m + 3)).length = m + 3 := by rw [List.length_take, List.length_drop]; omega
 have hlA : Lim ((us.drop i).take (m + 3)) := (hu.drop i).take _
 have hsp : us.drop i = (us.drop i).take (m + 3) ++ us.drop (i + (m + 3)) := by
  rw [← List.drop_drop]; exact (List.take_append_drop _ _).symm
 have g0 : ((us.drop i).take (m + 3))[m]? = some low := by rw [List.getElem?_take, if_pos (by omega), List.getElem?_drop]; exact h3
 have g1 : ((us.drop i).take (m + 3))[m + 1]? = some mid := by rw [List.getElem?_take, if_pos (by omega), List.getElem?_drop]; exact h2
 have g2 : ((us.drop i).take (m + 3))[m + 2]? = some hi := by rw [List.getElem?_take, if_pos (by omega), List.getElem?_drop]; exact h1
 have hyp : b < 4294967296 ^ (m + 2) := by rw [← hb, ← hyl]; exact nval_lt hy
 -- what stands above the window is nought
 have hz : nval (us.drop (i + (m + 3))) = 0 := by
  have e := nval_split (xs := us.drop (i + 1)) (m + 2) (by rw [List.length_drop]; omega)
  rw [List.drop_drop, show i + 1 + (m + 2) = i + (m + 3) by omega] at e
  rcases Nat.eq_zero_or_pos (nval (us.drop (i + (m + 3)))) with h | h
  ·exact h
  ·have : 4294967296 ^ (m + 2) * 1 ≤ 4294967296 ^ (m + 2) * nval (us.drop (i + (m + 3))) := Nat.mul_le_mul_left _ h
   omega
 have hAv : nval (us.drop i) = nval ((us.drop i).take (m + 3)) := by
  conv => lhs; rw [hsp]
  rw [nval_append, hz, Nat.mul_zero, Nat.add_zero]
 obtain ⟨u0, hu0⟩ : ∃ u0, us[i]? = some u0 := ⟨_, List.getElem?_eq_getElem (by omega)⟩
 have hu04 := hu.at hu0
 have hAlt : nval ((us.drop i).take (m + 3)) < 4294967296 * b := by
  rw [← hAv, nval_drop_one hu0]
  omega
 have eA := top_three hA g0 g1 g2
 have eY := top_two hyl h5 h4
 rw [hb] at eY
 have lA := lim_take_lt hlA (m := m) (by omega)
 have lY := lim_take_lt hy (m := m) (by omega)
 have hp : 0 < 4294967296 ^ m := Nat.pow_pos (by omega)
 refine ⟨?_, by rw [List.length_take]; omega, hA, hlA, hz, hAlt, ?_, guess_near hp eA lA eY lY (by omega) hAlt⟩
 ·rw [← hsp]; exact (List.take_append_drop _ _).symm
 ·-- hi ≤ v1
  rcases Nat.lt_or_ge v1 hi with h | h
  ·have k1 : nval (us.drop (i + 1)) = nval ((us.drop (i + 1)).take (m + 1)) + 4294967296 ^ (m + 1) * nval ((us.drop (i + 1)).drop (m + 1)) := nval_split _ (by rw [List.length_drop]; omega)
   rw [List.drop_drop, show i + 1 + (m + 1) = i + (m + 2) by omega, nval_drop_one h1] at k1
   have hv2 := hy.at h5
   have k2 : 4294967296 ^ (m + 1) * hi ≤ nval (us.drop (i + 1)) := by
    rw [k1, Nat.mul_add]; omega
   have k3 : b < 4294967296 ^ (m + 1) * (v1 + 1) := by
    rw [eY, Nat.pow_succ]
    have k4 : (v1 * 4294967296 + v2 + 1) * 4294967296 ^ m ≤ ((v1 + 1) * 4294967296) * 4294967296 ^ m := Nat.mul_le_mul_right _ (by omega)
    rw [show 4294967296 ^ m * 4294967296 * (v1 + 1) = ((v1 + 1) * 4294967296) * 4294967296 ^ m by rw [Nat.mul_comm, Nat.mul_comm (4294967296 ^ m), Nat.mul_assoc]]
    rw [Nat.add_mul, Nat.one_mul] at k4
    omega
   have k5 : 4294967296 ^ (m + 1) * (v1 + 1) ≤ 4294967296 ^ (m + 1) * hi := Nat.mul_le_mul_left _ h
   omega
  ·exact h
theorem took_digit {u b q q' r : Nat} (hb : 0 < b) (h1 : u / b ≤ q) (h2 : q ≤ u / b + 1) (hv : r + q' * b = u) (h : q * b ≤ u ∧ q' = q ∨ u < q * b ∧ q' + 1 = q) : q' = u / b ∧ r < b := by
 have hq : q' = u / b := by
  rcases h with ⟨h3, rfl⟩ | ⟨h3, h4⟩
  ·have := (Nat.le_div_iff_mul_le hb).2 h3; omega
  ·have : ¬ q ≤ u / b := fun hc => by have := (Nat.le_div_iff_mul_le hb).1 hc; omega
   omega
 refine ⟨hq, ?_⟩
 have e := Nat.div_add_mod u b
 have m := Nat.mod_lt u hb
 rw [Nat.mul_comm, ← hq] at e
 omega
theorem guess_bound {u b q : Nat} (h : q ≤ u / b + 1) : q * b ≤ u + b := by
 have h1 : q * b ≤ (u / b + 1) * b := Nat.mul_le_mul_right _ h
 have h2 := Nat.div_mul_le_self u b
 rw [Nat.add_mul, Nat.one_mul] at h1
 omega
theorem after_step {us pre A A' post qs : List Nat} {i b q' a : Nat} (hsp : us = pre ++ (A ++ post)) (hpre : pre.length = i) (hz : nval post = 0) (hv : nval A' + q' * b = nval A) (hlt : nval A' < b)
  (ha : nval us + 4294967296 ^ (i + 1) * (b * nval qs) = a) :
  nval ((pre ++ (A' ++ post)).drop i) < b ∧ nval (pre ++ (A' ++ post)) + 4294967296 ^ i * (b * nval (q' :: qs)) = a := by
 subst hsp
 constructor
 ·rw [List.drop_append_of_le_length (by omega), List.drop_of_length_le (by omega), List.nil_append, nval_append, hz, Nat.mul_zero, Nat.add_zero]; exact hlt
 ·rw [nval_append, nval_append, hz, Nat.mul_zero, Nat.add_zero] at ha
  rw [nval_append, nval_append, hz, Nat.mul_zero, Nat.add_zero, nval_cons, ← ha, ← hv, hpre, Nat.mul_add b, Nat.mul_add, Nat.mul_add, Nat.pow_succ]
  rw [Nat.mul_comm q' b, show 4294967296 ^ i * (b * (4294967296 * nval qs)) = 4294967296 ^ i * 4294967296 * (b * nval qs) by rw [Nat.mul_assoc, Nat.mul_left_comm b]]
  omega
theorem set_rep_mid2 {qs : List Nat} {k x : Nat} : (List.replicate (k + 1) 0 ++ qs).set k x = List.replicate k 0 ++ x :: qs := by
 rw [List.replicate_succ', List.append_assoc, List.set_append_right _ _ (by simp), List.length_replicate, Nat.sub_self]; rfl

theorem shifted_len {b t u : Nat} (hb : b ≠ 0) (ht : (limbs b)[(limbs b).length - 1]? = some t) (hu : u < 32) (htu : t * 2 ^ u < 4294967296) : (limbs (b * 2 ^ u)).length = (limbs b).length := by
 have hn := limbs_len_pos hb
 have hp : 0 < 2 ^ u := Nat.pow_pos (by omega)
 refine Nat.le_antisymm (limbs_length_le _ _ ?_) (limbs_len_mono (Nat.le_mul_of_pos_right _ hp))
 obtain ⟨n, hl⟩ : ∃ n, (limbs b).length = n + 1 := ⟨(limbs b).length - 1, by omega⟩
 rw [hl] at ht ⊢
 simp only [Nat.add_sub_cancel] at ht
 have e := nval_take_getD (limbs b) n
 rw [getD_some ht, nval_take_all (by omega), nval_limbs] at e
 have l := lim_take_lt (limbs_lim b) (m := n) (by omega)
 -- b < (t + 1) * B^n
 have h1 : b < 4294967296 ^ n * (t + 1) := by rw [Nat.mul_add]; omega
 have h2 : (t + 1) * 2 ^ u ≤ 4294967296 := by
  have h3 : 4294967296 = 2 ^ u * 2 ^ (32 - u) := by rw [← Nat.pow_add, show u + (32 - u) = 32 by omega]
  rw [h3, Nat.mul_comm t] at htu
  have h4 := Nat.lt_of_mul_lt_mul_left htu
  rw [Nat.mul_comm]
  calc 2 ^ u * (t + 1) ≤ 2 ^ u * 2 ^ (32 - u) := Nat.mul_le_mul_left _ h4
   _ = 4294967296 := h3.symm
 have h5 : b * 2 ^ u < 4294967296 ^ n * (t + 1) * 2 ^ u := Nat.mul_lt_mul_of_pos_right h1 hp
 have h6 : 4294967296 ^ n * (t + 1) * 2 ^ u ≤ 4294967296 ^ n * 4294967296 := by rw [Nat.mul_assoc]; exact Nat.mul_le_mul_left _ h2
 rw [Nat.pow_succ]
 omega
theorem div_shift {a b u : Nat} : (a * 2 ^ u) / (b * 2 ^ u) = a / b := Nat.mul_div_mul_right a b (Nat.pow_pos (by omega))
theorem mod_shift {a b u : Nat} : (a * 2 ^ u) % (b * 2 ^ u) = (a % b) * 2 ^ u := Nat.mul_mod_mul_right (2 ^ u) a b

end Go.Proofs.YtofdiijioejljaaGreat
/- What the natural layer's division computes. -/
namespace Go.Proofs.YtofdiijioejljaaGreat
open Go.RowKit

def Divided (w w' : World) (a b : Nat) (e : Ending) : Prop :=
 (b = 0 ∧ e = .returned (.tuple #[.slice none 0 0, .slice none 0 0, .int .i64 20])) ∨
 (b ≠ 0 ∧ ∃ vq vr, e = .returned (.tuple #[vq, vr, .int .i64 0]) ∧ w'.ownsRow w.heap.size 107 1 vq (limbs (a / b)).length (ints .u32 (limbs (a / b))) ∧ w'.ownsRow w.heap.size 107 1 vr (limbs (a % b)).length (ints .u32 (limbs (a % b))))

def DivRel (w : World) (B N cap n m b a ga : Nat) (vy vq : Value) (iv : Value) (wr : World) : Prop :=
 ∃ (k : Nat) (us qs : List Nat), k ≤ m ∧ iv = .int .i64 ((k : Int) - 1) ∧ us.length = N ∧ Lim us ∧ nval (us.drop k) < b ∧ qs.length = m - k ∧ Lim qs ∧ nval us + 4294967296 ^ k * (b * nval qs) = a ∧
  wr.ownsRow B 107 1 (.slice (some ⟨ga, 0, none⟩) N cap) N (ints .u32 us) ∧ wr.ownsRow B 107 1 vq m (ints .u32 (List.replicate k 0 ++ qs)) ∧ Rd wr 1 vy n (ints .u32 (limbs b)) ∧ Below B w wr
theorem grown_setD {w : World} {g j : Nat} {u : Value} : w.grownBy (w.setCell ⟨g, j, none⟩ u) (some g) := grownBy_setC (grownBy_refl0 _ _)
theorem quiet_draw {P : Program} {f : FuncId} {args : Array Value} {W w : World} {v : Value} (h : Calls P f args W fun e w' => e = .returned v ∧ ∃ k, w' = W.drewN k) (hW : ∃ n, W = w.drewN n) :
  Calls P f args W fun e w'' => e = .returned v ∧ ∃ m, w'' = w.drewN m :=
 h.mono fun _ _ ⟨he, k, hk⟩ => ⟨he, by obtain ⟨n, hn⟩ := hW; exact ⟨n + k, by rw [hk, hn, World.drewN_drewN]⟩⟩
theorem below_none {w w' : World} (h : w.grownBy w' none) : Below w.heap.size w w' := ⟨h.os, h.tape, h.output, h.size, fun k hk => h.block k hk (by simp)⟩
theorem div_start {a b N mq lb : Nat} (hN : N = (limbs a).length + 1) (hm : N = mq + lb) (hlb : (limbs b).length = lb) (hb : b ≠ 0) : nval ((limbs a ++ [0]).drop mq) < b ∧ nval (limbs a ++ [0]) = a := by
 have hp := limbs_len_pos hb
 refine ⟨?_, by rw [nval_snoc, Nat.mul_zero, nval_limbs]; rfl⟩
 rw [List.drop_append_of_le_length (by omega), nval_snoc, Nat.mul_zero, Nat.add_zero]
 have h1 := nval_lt ((limbs_lim a).drop mq)
 rw [List.length_drop, show (limbs a).length - mq = (limbs b).length - 1 by omega] at h1
 exact Nat.lt_of_lt_of_le h1 (pow_limbs_le hb)

set_option maxRecDepth 100000 in
set_option maxHeartbeats 4000000 in
theorem ndivmod_any (va vb : Value) (n m : Nat) (xs ys : List Nat) (w : World) (hr : Rd w 1 va n (ints .u32 xs)) (hs : Rd w 1 vb m (ints .u32 ys)) (hx : Lim xs) (hy : Lim ys) (hn : n ≤ 536870912) (hm : m ≤ 536870912) :
  Calls Tryz.prog 120 #[va, vb] w fun e w' => Divided w w' (nval xs) (nval ys) e ∧ Below w.heap.size w w' := by
 obtain ⟨p, c, rfl, hnc, hcm, hxl⟩ := hr.u32
 obtain ⟨q, d, rfl, hmd, hdm, hyl⟩ := hs.u32
 have Hs := Lib.hid hs
 obtain ⟨B, hB⟩ : ∃ B, B = w.heap.size := ⟨_, rfl⟩
 have HB := Lib.hid hB
 obtain ⟨a, ha⟩ : ∃ a, a = nval xs := ⟨_, rfl⟩
 obtain ⟨b, hb⟩ : ∃ b, b = nval ys := ⟨_, rfl⟩
 have hal : (limbs a).length ≤ n := by rw [ha, ← hxl]; exact limbs_len_le hx
 have hbl : (limbs b).length ≤ m := by rw [hb, ← hyl]; exact limbs_len_le hy
 refine walk_q fun R' hR' => ?_
 go_enter Tryz.func120, Tryz.ntmps120
 go_wp2_with fail
 refine (trim_any _ n xs _ hr hx (by omega)).mono ?_
 rintro e w1 ⟨v1, rfl, hown1, hb1⟩
 rw [← ha] at hown1
 go_wp2_with fail
 refine (trim_any _ m ys _ (hs.below hb1) hy (by omega)).mono ?_
 rintro e w2 ⟨v2, rfl, hown2, hb2⟩
 rw [← hb] at hown2
 rw [← ha, ← hb, ← hB] at hR'
 have HO1 : Hid (w2.ownsRow B 107 1 v1 (limbs a).length (ints .u32 (limbs a))) := by show World.ownsRow ..; rw [hB]; exact Own.below hown1 hb2
 have HO2 : Hid (w2.ownsRow B 107 1 v2 (limbs b).length (ints .u32 (limbs b))) := Own.mono hown2 (by rw [hB]; exact hb1.size)
 have HB2 : Hid (Below B w w2) := by show Below ..; rw [hB]; exact Below.thn hb1 hb2
 have hBs : B ≤ w2.heap.size := by rw [hB]; exact HB2.out.size
 obtain ⟨p1, c1, rfl, _, hc1m, _⟩ := Own.form HO1.out
 obtain ⟨p2, c2, rfl, _, hc2m, _⟩ := Own.form HO2.out
 clear hr hs hx hy hown1 hown2 hb1 hb2 hxl hyl ha hb hB Hs
 unfold maxLen at hc1m hc2m
 generalize hla : (limbs a).length = la at *
 generalize hlb : (limbs b).length = lb at *
 have HLA := Lib.hid hla
 have HLB := Lib.hid hlb
 by_cases hb0 : b = 0
 ·obtain rfl : lb = 0 := by rw [hb0, limbs_zero] at hlb; exact hlb.symm
  clear hla hlb
  go_wp2_with fail
  go_ret3
  exact hR'.out _ _ ⟨.inl ⟨hb0, rfl⟩, HB2.out⟩
 ·have hlb0 : lb ≠ 0 := fun h => hb0 (limbs_len_zero (by rw [HLB.out]; exact h))
  have hz : ((lb : Int) == 0) = false := by rw [beq_eq_false_iff_ne]; omega
  have HNZ := Lib.hid hb0
  clear hb0 hla hlb
  go_wp2_with fail
  refine (cmp_any _ _ la lb (limbs a) (limbs b) _ (Rd.own HO1.out) (Rd.own HO2.out) (limbs_lim a) (limbs_lim b)).mono ?_
  rintro e w3 ⟨rfl, k3, rfl⟩
  rw [nval_limbs, nval_limbs]
  by_cases hab : a < b
  ·have hc : ncmp a b < 0 := ncmp_neg.2 hab
   generalize ncmp a b = cv at hc ⊢
   go_wp2_with fail
   go_ret3
   refine hR'.out _ _ ⟨.inr ⟨HNZ.out, _, _, rfl, ?_, ?_⟩, Below.drewN HB2.out _⟩
   ·rw [Nat.div_eq_of_lt hab, limbs_zero]; exact World.ownsRow_nil _ _ _ _
   ·rw [Nat.mod_eq_of_lt hab, HLA.out]; exact Own.mono (Own.drewN HO1.out _) (by have := HB.out; omega)
  ·have hc : 0 ≤ ncmp a b := by have := mt (@ncmp_neg a b).1 hab; omega
   generalize ncmp a b = cv at hc ⊢
   have HAB := Lib.hid hab
   have HO3 := Lib.hid (Own.drewN HO1.out k3)
   have HO4 := Lib.hid (Own.drewN HO2.out k3)
   have HB3 := Lib.hid (Below.drewN HB2.out k3)
   have hBs3 : B ≤ (w2.drewN k3).heap.size := hBs
   clear HO1 HO2 HB2 hBs hab
   generalize w2.drewN k3 = w3 at *
   by_cases hlb1 : lb = 1
   ·have HL1 := Lib.hid hlb1
    subst hlb1
    obtain ⟨gb, ob, t, rfl, _, htk, hct⟩ := (Rd.own HO4.out).cellAt (k := 0) (by omega)
    have ht4 := (limbs_lim b).at htk
    have htb : t = b := by
     have h1 := nval_take_getD (limbs b) 0
     rw [getD_some htk, nval_take_all (by rw [HLB.out]; omega), nval_limbs] at h1
     simp [nval_nil] at h1
     omega
    have HTB := Lib.hid htb
    rw [Nat.add_zero] at hct
    have hgl := cell_lt hct
    simp only at hgl
    clear htk htb hz hlb0
    go_wp2_with fail
    refine (divSmall_any _ la t (limbs a) _ (Rd.own HO3.out) (limbs_lim a) (by omega) ht4).mono ?_
    rintro e w4 ⟨⟨h, rfl⟩ | ⟨h, v4, rfl, hown4⟩, hb4⟩
    ·exact absurd (by rw [← HTB.out]; exact h) HNZ.out
    rw [nval_limbs] at hown4 ⊢
    have HO5 := Lib.hid (Own.mono hown4 hBs3)
    have HB4 := Lib.hid (HB3.out.trans (hb4.mono hBs3))
    have hBs4 : B ≤ w4.heap.size := Nat.le_trans hBs3 hb4.size
    have hrt : a % t < 4294967296 := Nat.lt_trans (Nat.mod_lt _ (by omega)) ht4
    obtain ⟨r, hr⟩ : ∃ r, r = a % t := ⟨_, rfl⟩
    rw [← hr] at hrt ⊢
    have HR := Lib.hid hr
    clear hown4 hb4 hct hgl h hr
    go_wp2_with fail
    refine (trim_any _ 1 [r] _ (Rd.lit1 rfl) (Lim.cons hrt Lim.nil) (by omega)).mono ?_
    rintro e w5 ⟨v5, rfl, hown5, hbx⟩
    have hb5 : Below w4.heap.size w4 w5 := ((Below.refl w4.heap.size w4).alloc (Nat.le_refl _) (.cells #[.int .u32 (r : Int)] 107)).trans (hbx.mono (by simp))
    rw [show nval [r] = r by simp [nval_cons, nval_nil]] at hown5
    go_wp2_with fail
    go_ret3
    refine hR'.out _ _ ⟨.inr ⟨HNZ.out, _, _, rfl, ?_, ?_⟩, HB4.out.trans (hb5.mono hBs4)⟩
    ·rw [← HTB.out]; exact Own.mono (Own.below HO5.out hb5) (by have := HB.out; omega)
    ·rw [← HTB.out, ← HR.out]; exact Own.mono hown5 (by have := HB.out; simp; omega)
   ·obtain ⟨mm, hmm⟩ : ∃ mm, lb = mm + 2 := ⟨lb - 2, by omega⟩
    have HMM := Lib.hid hmm
    have hz1 : ((lb : Int) == 1) = false := by rw [beq_eq_false_iff_ne]; omega
    obtain ⟨l1, hl1⟩ : ∃ l1, lb = l1 + 1 := ⟨lb - 1, by omega⟩
    have HL1 := Lib.hid hl1
    have hwl1 : IntKind.i64.wrap ((lb : Int) - 1) = (l1 : Int) := by rw [IntWalk.i64_in _ (by omega)]; omega
    obtain ⟨gb, ob, t, rfl, _, htk, hct⟩ := (Rd.own HO4.out).cellAt (k := l1) (by omega)
    have ht4 := (limbs_lim b).at htk
    have hgl := cell_lt hct
    simp only at hgl
    have htk2 : (limbs b)[(limbs b).length - 1]? = some t := by rw [HLB.out, HL1.out]; exact htk
    have ht0 := (blen_top htk2).2
    have HTK := Lib.hid htk2
    have hl1lt : (l1 : Int) < (lb : Int) := by omega
    clear htk htk2 hlb1 hmm hl1
    go_wp2_with fail
    refine (zeros32_any t _ ht4 ht0).mono ?_
    rintro e w4 ⟨⟨u, rfl, hu32, htu⟩, rfl⟩
    go_wp2_with fail
    refine (shift_any _ lb b (u : Int) (limbs b) _ (Rd.own HO4.out) (limbs_lim b) (nval_limbs b) (by omega) (by omega) (by omega)).mono ?_
    rintro e w4 ⟨⟨_, h, _⟩ | ⟨_, v4, rfl, hown4⟩, hb4⟩
    ·omega
    have es : shiftN b (u : Int) = b * 2 ^ u := by unfold shiftN; rw [if_pos (by omega), Int.toNat_natCast]
    rw [es] at hown4
    have hlen4 : (limbs (b * 2 ^ u)).length = lb := by rw [shifted_len HNZ.out HTK.out hu32 htu]; exact HLB.out
    have hnz : b * 2 ^ u ≠ 0 := Nat.mul_ne_zero HNZ.out (Nat.pos_iff_ne_zero.1 (Nat.pow_pos (by omega)))
    have hle4 : b * 2 ^ u ≤ a * 2 ^ u := Nat.mul_le_mul_right _ (by have := HAB.out; omega)
    have HDV := Lib.hid (div_shift (a := a) (b := b) (u := u))
    have HMD := Lib.hid (mod_shift (a := a) (b := b) (u := u))
    have hla5 := len_mul_pow a u hu32
    rw [HLA.out] at hla5
    have HES : Hid (shiftN ((a % b) * 2 ^ u) (-(u : Int)) = a % b) := by
     show _ = _
     unfold shiftN
     by_cases h0 : u = 0
     ·subst h0; simp
     ·rw [if_neg (by omega), Int.neg_neg, Int.toNat_natCast, Nat.mul_div_cancel _ (Nat.pow_pos (by omega))]
    have HES2 : Hid (shiftN a (u : Int) = a * 2 ^ u) := by show _ = _; unfold shiftN; rw [if_pos (by omega), Int.toNat_natCast]
    generalize hb' : b * 2 ^ u = b' at *
    generalize ha' : a * 2 ^ u = a' at *
    rw [hlen4] at hown4
    have hlb5 : lb ≤ (limbs a').length := by rw [← hlen4]; exact limbs_len_mono hle4
    obtain ⟨gy, cy, rfl, hgy3, hgy4⟩ := Own.formPos hown4 (by omega)
    have HY4 := Lib.hid hown4
    have HB4 := Lib.hid (HB3.out.trans (hb4.mono hBs3))
    have hBs4 : B ≤ w4.heap.size := Nat.le_trans hBs3 hb4.size
    have HA4 := Lib.hid (Own.below HO3.out hb4)
    have HLEN4 := Lib.hid hlen4
    clear hown4 hb4 htu ht0 ht4 hct hgl hlen4 hle4 es HTK HO3 HO4
    go_wp2_with fail
    refine (shift_any _ la a (u : Int) (limbs a) _ (Rd.own HA4.out) (limbs_lim a) (nval_limbs a) (by omega) (by omega) (by omega)).mono ?_
    rintro e w5 ⟨⟨_, h, _⟩ | ⟨_, v5, rfl, hown5⟩, hb5⟩
    ·omega
    rw [HES2.out] at hown5
    generalize hl5 : (limbs a').length = la' at *
    have HL5 := Lib.hid hl5
    have HA5 := Lib.hid hown5
    have HY5 := Lib.hid (Own.below HY4.out hb5)
    have HB5 := Lib.hid (HB4.out.trans (hb5.mono hBs4))
    have hs5 := hb5.size
    have HB5to := Lib.hid hb5
    obtain ⟨p5, c5, rfl, _, _, _⟩ := Own.form hown5
    obtain ⟨N, hN⟩ : ∃ N, N = la' + 1 := ⟨_, rfl⟩
    have HNN := Lib.hid hN
    obtain ⟨mq, hmq⟩ : ∃ mq, N = mq + lb := ⟨N - lb, by omega⟩
    have HMQ := Lib.hid hmq
    have hmq0 : 0 < mq := by omega
    have hwm : IntKind.i64.wrap ((N : Int) - (lb : Int)) = (mq : Int) := by rw [IntWalk.i64_in _ (by omega)]; omega
    obtain ⟨i0, hi, hz0, hz1, hz2⟩ := info_parts infoU32
    have hN30 : N ≤ 1073741824 := by omega
    have hla30 : la' ≤ 1073741824 := by omega
    have hmq30 : mq ≤ 1073741824 := by omega
    clear hown5 hb5 hl5 hmq HA4 hN
    go_wp2_with (first
     | (at_builtin; refine wpList_append_one rfl _ _ 23 rfl w4.heap.size 107 i0 (.int .u32 0) 4 Tryz.underlying23 hi hz0 hz1 hz2 rfl HA5.out rfl rfl (d := 0) rfl (by omega) (by omega) hs5 ?_; intro v6 w6 hown6 hkeep6; rw [← HNN.out] at hown6; obtain ⟨ga, ca, rfl, hga5, hga6⟩ := Own.formPos hown6 (by have := HNN.out; omega))
     | (at_make; refine wpList_make_full _ rfl _ _ 23 rfl B 107 i0 (.int .u32 0) 1 Tryz.underlying23 hi hz0 hz1 .i64 .i64 _ _ mq rfl rfl (by have := HMQ.out; omega) (by have := HMQ.out; omega) (by rw [hz2]; have := HMQ.out; omega) (by unfold maxLen; have := HMQ.out; omega) (by have := (hkeep6 w4 HB5to.out).size; omega) ?_; intro w7 hown7 hgr7))
    obtain ⟨gq, hgq⟩ : ∃ gq, gq = w6.heap.size := ⟨_, rfl⟩
    have hk46 := hkeep6 w4 HB5to.out
    have hb67 := below_none hgr7
    have hmade := Own.made hown7
    rw [List.nil_append] at hmade
    rw [← hgq] at hmade ⊢
    have hne1 : ga ≠ gq := by omega
    have hne2 : gy ≠ ga := by omega
    have hne3 : gy ≠ gq := by have := hk46.size; omega
    have HA7 : Hid (w7.ownsRow B 107 1 (.slice (some ⟨ga, 0, none⟩) N ca) N (ints .u32 (limbs a' ++ [0]))) := Own.mono (Own.below hown6 hb67) hBs4
    have HQ7 := Lib.hid hmade
    have HY7 : Hid (Rd w7 1 (.slice (some ⟨gy, 0, none⟩) lb cy) lb (ints .u32 (limbs b'))) := (Rd.own (Own.below HY4.out hk46)).below hb67
    have HB7 : Hid (Below B w w7) := (HB4.out.trans (hk46.mono hBs4)).trans (hb67.mono (Nat.le_trans hBs4 hk46.size))
    have HST := Lib.hid (div_start (N := N) (mq := mq) (lb := lb) (a := a') (b := b') (by rw [HL5.out]; exact HNN.out) HMQ.out HLEN4.out hnz)
    clear hown6 hown7 hgr7 hkeep6 hk46 hb67 hmade hgq HA5 HY5 HY4 HB5 HB4 HB5to hi hz0 hz1 hz2
    go_loopw [12] (fun iv wr => DivRel w B N ca lb mq b' a' ga (.slice (some ⟨gy, 0, none⟩) lb cy) (.slice (some ⟨gq, 0, none⟩) mq mq) iv wr) (fun iv _ => (intOf iv + 1).toNat)
    case atStart => exact ⟨mq, _, [], Nat.le_refl _, rfl, by rw [List.length_append, HL5.out, HNN.out]; rfl, (limbs_lim a').append (Lim.cons (by omega) Lim.nil), HST.out.1, by simp, Lim.nil, by rw [HST.out.2]; simp [nval_nil], HA7.out, by simpa using HQ7.out, HY7.out, HB7.out⟩
    case round =>
     obtain ⟨k, us, qs, hkm, rfl, hul, hulim, hdrop, hql, hqlim, hval, hoa, hoq, hry, hbw⟩ := hrel
     have HUL := Lib.hid hul
     have HULIM := Lib.hid hulim
     have HDROP := Lib.hid hdrop
     have HQL := Lib.hid hql
     have HQLIM := Lib.hid hqlim
     have HVAL := Lib.hid hval
     have HOA := Lib.hid hoa
     have HOQ := Lib.hid hoq
     have HRY := Lib.hid hry
     have HBW := Lib.hid hbw
     clear hul hulim hdrop hql hqlim hval hoa hoq hry hbw
     by_cases hk0 : k = 0
     ·subst hk0
      have hv := HVAL.out
      have hd := HDROP.out
      rw [List.drop_zero] at hd
      rw [Nat.pow_zero, Nat.one_mul] at hv
      have hq1 : nval qs = a / b := by
       rw [← HDV.out, ← hv, Nat.add_mul_div_left _ _ (by omega), Nat.div_eq_of_lt hd, Nat.zero_add]
      have hr1 : nval us = (a % b) * 2 ^ u := by
       rw [← HMD.out, ← hv, Nat.add_mul_mod_self_left, Nat.mod_eq_of_lt hd]
      have HQ1 := Lib.hid hq1
      have HR1 := Lib.hid hr1
      have hBr : B ≤ w.heap.size := by have := HB.out; omega
      have hBw := HBW.out.size
      clear hv hd hq1 hr1
      go_wp2_with fail
      refine (shift_any _ N ((a % b) * 2 ^ u) (-(u : Int)) us _ (Rd.own HOA.out) HULIM.out HR1.out (by omega) (by omega) (by omega)).mono ?_
      rintro e w8 ⟨⟨_, h, _⟩ | ⟨_, v8, rfl, hown8⟩, hb8⟩
      ·omega
      rw [HES.out] at hown8
      have HO8 := Lib.hid (Own.mono hown8 (Nat.le_trans hBr hBw))
      have HB8 := Lib.hid (HBW.out.trans (hb8.mono (Nat.le_trans hBr hBw)))
      have hq8 := Own.below HOQ.out hb8
      rw [List.replicate_zero, List.nil_append] at hq8
      have HQ8 := Lib.hid hq8
      have hs8 := hb8.size
      clear hown8 hb8 hq8
      go_wp2_with fail
      refine (trim_any _ mq qs _ (Rd.own HQ8.out) HQLIM.out (by omega)).mono ?_
      rintro e w9 ⟨v9, rfl, hown9, hb9⟩
      rw [HQ1.out] at hown9
      go_wp2_with fail
      go_ret3
      refine hR'.out _ _ ⟨.inr ⟨HNZ.out, _, _, rfl, ?_, ?_⟩, HB8.out.trans (hb9.mono (by omega))⟩
      ·exact Own.mono hown9 (by omega)
      ·exact Own.mono (Own.below HO8.out hb9) (by have := HB.out; omega)
     ·obtain ⟨i, hi⟩ : ∃ i, k = i + 1 := ⟨k - 1, by omega⟩
      subst hi
      have hjj : ((i + 1 : Nat) : Int) - 1 = (i : Int) := by omega
      rw [hjj]
      have hmq := HMQ.out
      have hmm := HMM.out
      have hl1 := HL1.out
      obtain ⟨hi, h1⟩ : ∃ hi, us[i + (mm + 2)]? = some hi := ⟨_, List.getElem?_eq_getElem (by rw [HUL.out]; omega)⟩
      obtain ⟨mid, h2⟩ : ∃ mid, us[i + (mm + 1)]? = some mid := ⟨_, List.getElem?_eq_getElem (by rw [HUL.out]; omega)⟩
      obtain ⟨low, h3⟩ : ∃ low, us[i + mm]? = some low := ⟨_, List.getElem?_eq_getElem (by rw [HUL.out]; omega)⟩
      obtain ⟨v1, h4⟩ : ∃ v1, (limbs b')[mm + 1]? = some v1 := ⟨_, List.getElem?_eq_getElem (by rw [HLEN4.out]; omega)⟩
      obtain ⟨v2, h5⟩ : ∃ v2, (limbs b')[mm]? = some v2 := ⟨_, List.getElem?_eq_getElem (by rw [HLEN4.out]; omega)⟩
      have hv1 : 0 < v1 := Nat.pos_iff_ne_zero.2 (blen_top (n := b') (t := v1) (by rw [HLEN4.out, show lb - 1 = mm + 1 by omega]; exact h4)).2
      have hwin := window_at (m := mm) HUL.out (by omega) HULIM.out (limbs_lim b') (by rw [HLEN4.out]; exact hmm) (nval_limbs b') HDROP.out h1 h2 h3 h4 h5 hv1
      have HWIN := Lib.hid hwin
      have hhi := hwin.hi_le
      have z1 := HULIM.out.at h1
      have z2 := HULIM.out.at h2
      have z3 := HULIM.out.at h3
      have z4 := (limbs_lim b').at h4
      have z5 := (limbs_lim b').at h5
      obtain ⟨x1, e1, c1', f1⟩ := Own.elemCell HOA.out (j := i + (mm + 2)) (by omega)
      obtain ⟨x2, e2, c2', f2⟩ := Own.elemCell HOA.out (j := i + (mm + 1)) (by omega)
      obtain ⟨x3, e3, c3', f3⟩ := Own.elemCell HOA.out (j := i + mm) (by omega)
      rw [h1] at e1; rw [h2] at e2; rw [h3] at e3
      obtain rfl := Option.some.inj e1
      obtain rfl := Option.some.inj e2
      obtain rfl := Option.some.inj e3
      obtain ⟨g4, o4, x4, hp4, hg4, e4, c4'⟩ := HRY.out.cellAt (k := mm + 1) (by omega)
      obtain ⟨g5, o5, x5, hp5, hg5, e5, c5'⟩ := HRY.out.cellAt (k := mm) (by omega)
      simp only [Option.some.injEq, Addr.mk.injEq, and_true] at hp4 hp5
      obtain ⟨rfl, rfl⟩ := hp4
      obtain ⟨rfl, hz5⟩ := hp5
      subst hz5
      rw [h4] at e4; rw [h5] at e5
      obtain rfl := Option.some.inj e4
      obtain rfl := Option.some.inj e5
      rw [Nat.zero_add] at c4' c5'
      obtain ⟨J0, hJ0⟩ : ∃ J0, J0 = i + (mm + 2) := ⟨_, rfl⟩
      obtain ⟨J1, hJ1⟩ : ∃ J1, J1 = i + (mm + 1) := ⟨_, rfl⟩
      obtain ⟨J2, hJ2⟩ : ∃ J2, J2 = i + mm := ⟨_, rfl⟩
      rw [← hJ0] at c1' f1; rw [← hJ1] at c2' f2; rw [← hJ2] at c3' f3
      rw [show mm + 1 = l1 by omega] at c4'
      obtain ⟨J3, hJ3⟩ : ∃ J3, J3 = J0 + 1 := ⟨_, rfl⟩
      have hw0 : IntKind.i64.wrap ((i : Int) + (lb : Int)) = (J0 : Int) := by rw [IntWalk.i64_in _ (by omega)]; omega
      have hw1 : IntKind.i64.wrap ((J0 : Int) - 1) = (J1 : Int) := by rw [IntWalk.i64_in _ (by omega)]; omega
      have hw2 : IntKind.i64.wrap ((J0 : Int) - 2) = (J2 : Int) := by rw [IntWalk.i64_in _ (by omega)]; omega
      have hw4 : IntKind.i64.wrap ((lb : Int) - 2) = (mm : Int) := by rw [IntWalk.i64_in _ (by omega)]; omega
      have hw5 : IntKind.i64.wrap ((J0 : Int) + 1) = (J3 : Int) := by rw [IntWalk.i64_in _ (by omega)]; omega
      have b0 : (J0 : Int) < (N : Int) := by omega
      have b1 : (J1 : Int) < (N : Int) := by omega
      have b2 : (J2 : Int) < (N : Int) := by omega
      have b3 : (l1 : Int) < (lb : Int) := by omega
      have b4 : (mm : Int) < (lb : Int) := by omega
      have t1 := cell_lt c1'
      have t4 := cell_lt c4'
      simp only at t1 t4
      have HJ0 := Lib.hid hJ0
      have HJ3 := Lib.hid hJ3
      have hilt : i < mq := by omega
      have HCAP : Hid (N ≤ ca ∧ ca ≤ 9223372036854775807) := by
       obtain ⟨_, _, hv, hcap, hcapm, _⟩ := Own.form HOA.out
       simp only [Value.slice.injEq, true_and] at hv
       obtain ⟨_, rfl⟩ := hv
       unfold maxLen at hcapm
       exact ⟨hcap, by omega⟩
      clear e1 e2 e3 e4 e5 h1 h2 h3 h4 h5 hwin hJ0 hJ1 hJ2 hJ3 hmq hmm hl1 hg4 hg5
      go_wp2_with fail
      go_quiet ((go_at_call 137; exact quiet_draw (guess_any hi mid low v1 v2 _ hhi z2 z3 hv1 z4 z5) ⟨_, rfl⟩))
      have hcap := HCAP.out
      have b5 : (J3 : Int) ≤ (ca : Int) := by have := HJ3.out; omega
      have b6 : (i : Int) ≤ (J3 : Int) := by have := HJ3.out; have := HJ0.out; omega
      have b7 : (i : Int) < (ca : Int) := by have := HJ3.out; have := HJ0.out; omega
      have b8 : ¬ ca - i = 0 := by omega
      have b9 : ca ≠ i := by omega
      clear c1' c2' c3' c4' c5' f1 f2 f3 hw1 hw2 hw4 b1 b2 b3 b4
      go_wp2_with fail
      obtain ⟨G, hG⟩ : ∃ G, G = guessN ((hi * 4294967296 + mid) * 4294967296 + low) (v1 * 4294967296 + v2) := ⟨_, rfl⟩
      have hnear := HWIN.out.near
      rw [← hG] at hnear ⊢
      have hG4 : G ≤ 4294967295 := by rw [hG]; exact Nat.min_le_left _ _
      have hoa := Own.drewN HOA.out nq
      rw [HWIN.out.split] at hoa
      have hJ : J3 - i = mm + 3 := by have := HJ3.out; have := HJ0.out; omega
      refine (take_any ga N ca i (J3 - i) (ca - i) lb G B (us.take i) _ _ (limbs b') _ _ hoa HWIN.out.pre (by rw [HWIN.out.len, hJ]) HWIN.out.lim (Rd.drewN HRY.out nq) (limbs_lim b') (fun p c a h1 h2 => by cases h1; cases h2; exact hne2) (by rw [hJ, HMM.out]) (by have := HJ3.out; omega) (by omega) (by omega) (by rw [nval_limbs]; exact guess_bound hnear.2)).mono ?_
      rintro e w8 ⟨q', rfl, A', hA'l, hA'lim, hA'v, hq', hown8, hg8⟩
      rw [nval_limbs] at hA'v hq'
      have hpos : 0 < b' := by omega
      obtain ⟨hqd, hAlt⟩ := took_digit hpos hnear.1 hnear.2 hA'v hq'
      have hq4 : q' < 4294967296 := by rcases hq' with ⟨_, h⟩ | ⟨_, h⟩ <;> omega
      have hst := after_step HWIN.out.split HWIN.out.pre HWIN.out.zero hA'v hAlt HVAL.out
      have hq8 := (Own.drewN HOQ.out nq).kept hg8 (.inr (by simp [Value.ownBlock]; omega))
      have hry8 := (Rd.drewN HRY.out nq).keepRow hg8 (fun p c a h1 h2 => by cases h1; cases h2; exact hne2)
      have hbw8 : Below B w w8 := (Below.drewN HBW.out nq).grown hg8 (Nat.le_trans (by have := HB.out; omega) HBW.out.size) (fun k hk => by cases hk; exact (Own.lt HOA.out).1)
      obtain ⟨x8, hx8, hc8, hf8⟩ := Own.elemCell hq8 (j := i) hilt
      have hl8 := cell_lt hc8
      simp only at hl8
      have hus' : (us.take i ++ (A' ++ us.drop (i + (mm + 3)))).length = N := by
       have h1 := congrArg List.length HWIN.out.split
       rw [HUL.out] at h1
       simp only [List.length_append] at h1 ⊢
       omega
      have hlim' : Lim (us.take i ++ (A' ++ us.drop (i + (mm + 3)))) := (HULIM.out.take _).append (hA'lim.append (HULIM.out.drop _))
      have hq9 := Own.elemStore (j := i) (x := q') hq8
      rw [set_rep_mid2] at hq9
      have HREL : Hid (DivRel w B N ca lb mq b' a' ga (.slice (some ⟨gy, 0, none⟩) lb cy) (.slice (some ⟨gq, 0, none⟩) mq mq) (.int .i64 ((i : Int) - 1)) (w8.setCell ⟨gq, i, none⟩ (.int .u32 (q' : Int)))) :=
       ⟨i, _, q' :: qs, by omega, rfl, hus', hlim', hst.1, by rw [List.length_cons, HQL.out]; omega, Lim.cons hq4 HQLIM.out, hst.2, hown8.kept grown_setD (.inr (by simp [Value.ownBlock]; omega)), hq9, hry8.keepRow grown_setD (fun p c a h1 h2 => by cases h1; cases h2; exact hne3), hbw8.setCell (p := ⟨gq, i, none⟩) (Own.lt hq8).1 _⟩
      clear hA'l hA'lim hA'v hq' hown8 hg8 hqd hAlt hst hq8 hry8 hbw8 hx8 hus' hlim' hq9 hoa hnear hG hJ
      go_wp2_with fail
      go_roundw
      case rel => exact HREL.out
      case measure => simp [intOf]

end Go.Proofs.YtofdiijioejljaaGreat
