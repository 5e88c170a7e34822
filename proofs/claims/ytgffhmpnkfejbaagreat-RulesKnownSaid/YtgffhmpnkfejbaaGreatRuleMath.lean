/- What rules count: the plain table, and sums of its rows. No function of the program in sight. -/
import Derived.Test.YtgffhmpnkfejbaaGreatRowW
set_option linter.all false
namespace Go.Proofs.YtgffhmpnkfejbaaGreat
open Go.RowKit

structure Pt where
  b : Rat
  s : Rat
  d : Rat
  i : Rat
theorem Pt.ext' {x y : Pt} (h1 : x.b = y.b) (h2 : x.s = y.s) (h3 : x.d = y.d) (h4 : x.i = y.i) : x = y := by
  cases x; cases y; simp_all
def Pt.zero : Pt := ⟨0, 0, 0, 0⟩
def Pt.add (x y : Pt) : Pt := ⟨x.b + y.b, x.s + y.s, x.d + y.d, x.i + y.i⟩
def bookP (k : Nat) (t : Rat) : Rat := if k = 1 ∨ k = 3 ∨ k = 8 ∨ k = 10 then t else if k = 2 ∨ k = 4 ∨ k = 5 ∨ k = 6 ∨ k = 7 ∨ k = 9 ∨ k = 11 then -t else 0
def baseP (k : Nat) (t a : Rat) : Rat := if k = 1 then t else if k = 10 then t else if k = 2 then -t else if k = 7 then -t else if k = 4 then t * a - t else if k = 5 then (if rcmp t a > 0 then -a else -t) else 0
def depP (k : Nat) (t : Rat) : Rat := if k = 7 then t else 0
def intP (k : Nat) (t : Rat) : Rat := if k = 8 then -t else if k = 9 then t else 0
def ruleP (k : Nat) (t a : Rat) : Pt := ⟨bookP k t, baseP k t a, depP k t, intP k t⟩
/-- an item: kind, argument, total -/
abbrev Itm := Nat × Rat × Rat
def itmP (x : Itm) : Pt := ruleP x.1 x.2.2 x.2.1
def psum (l : List Pt) : Pt := l.foldl Pt.add Pt.zero
def rulesOf (l : List Itm) : Pt := psum (l.map itmP)
theorem psum_snoc (l : List Pt) (x : Pt) : psum (l ++ [x]) = (psum l).add x := by unfold psum; rw [List.foldl_append]; rfl
theorem psum_take {l : List Pt} {i : Nat} {x : Pt} (h : l[i]? = some x) : psum (l.take (i + 1)) = (psum (l.take i)).add x := by rw [take_snoc_at h, psum_snoc]
theorem rulesOf_take {l : List Itm} {i : Nat} {x : Itm} (h : l[i]? = some x) : rulesOf (l.take (i + 1)) = (rulesOf (l.take i)).add (itmP x) := by
  unfold rulesOf; rw [take_snoc_at h, List.map_append]; exact psum_snoc _ _
theorem add_zero' (x : Pt) : x.add Pt.zero = x := Pt.ext' (Rat.add_zero _) (Rat.add_zero _) (Rat.add_zero _) (Rat.add_zero _)
theorem zero_add' (x : Pt) : Pt.zero.add x = x := Pt.ext' (Rat.zero_add _) (Rat.zero_add _) (Rat.zero_add _) (Rat.zero_add _)
theorem add_assoc' (x y z : Pt) : (x.add y).add z = x.add (y.add z) := Pt.ext' (Rat.add_assoc _ _ _) (Rat.add_assoc _ _ _) (Rat.add_assoc _ _ _) (Rat.add_assoc _ _ _)
theorem add_comm' (x y : Pt) : x.add y = y.add x := Pt.ext' (Rat.add_comm _ _) (Rat.add_comm _ _) (Rat.add_comm _ _) (Rat.add_comm _ _)
theorem psum_from (l : List Pt) : ∀ x, l.foldl Pt.add x = x.add (psum l) := by
  induction l with
  | nil => intro x; exact (add_zero' x).symm
  | cons y r ih =>
    intro x
    show r.foldl Pt.add (x.add y) = x.add (r.foldl Pt.add (Pt.zero.add y))
    rw [ih, ih (Pt.zero.add y), zero_add', add_assoc']
theorem psum_cons (x : Pt) (l : List Pt) : psum (x :: l) = x.add (psum l) := by
  show l.foldl Pt.add (Pt.zero.add x) = _
  rw [psum_from, zero_add']
theorem psum_append (l r : List Pt) : psum (l ++ r) = (psum l).add (psum r) := by
  unfold psum; rw [List.foldl_append, psum_from]; rfl
theorem psum_reverse (l : List Pt) : psum l.reverse = psum l := by
  induction l with
  | nil => rfl
  | cons x r ih => rw [List.reverse_cons, psum_snoc, ih, psum_cons, add_comm']
theorem rulesOf_append (l r : List Itm) : rulesOf (l ++ r) = (rulesOf l).add (rulesOf r) := by unfold rulesOf; rw [List.map_append, psum_append]
theorem rulesOf_reverse (l : List Itm) : rulesOf l.reverse = rulesOf l := by unfold rulesOf; rw [List.map_reverse, psum_reverse]
theorem rulesOf_two (x y : Pt) : psum [x, y] = x.add y := by show (Pt.zero.add x).add y = _; rw [zero_add']
/-- what the tax counts more than the book -/
def Pt.diff (x : Pt) : Rat := x.s - x.i - x.b
def Pt.ebitda (x : Pt) : Rat := x.s + x.d
theorem diff_add (x y : Pt) : (x.add y).diff = x.diff + y.diff := by unfold Pt.diff Pt.add; simp only; grind
theorem diff_ref (x : Pt) : x.s - (x.i + x.b) = x.diff := by unfold Pt.diff; grind
def plainK (k : Nat) : Bool := decide (k = 1 ∨ k = 2 ∨ k = 7 ∨ k = 10 ∨ k = 8 ∨ k = 9 ∨ k = 0 ∨ 11 < k)
theorem diff_plain {k : Nat} {t a : Rat} (h : plainK k = true) : (ruleP k t a).diff = 0 := by
  unfold plainK at h
  rw [decide_eq_true_iff] at h
  unfold Pt.diff ruleP bookP baseP intP
  simp only
  rcases h with rfl | rfl | rfl | rfl | rfl | rfl | rfl | h
  all_goals first | (simp; done) | (simp; grind)
theorem diff_all {l : List Itm} (h : l.all (fun x => plainK x.1) = true) : (rulesOf l).diff = 0 := by
  induction l with
  | nil => show Pt.zero.diff = 0; unfold Pt.diff Pt.zero; simp only; grind
  | cons x r ih =>
    rw [List.all_cons, Bool.and_eq_true] at h
    have e : rulesOf (x :: r) = (itmP x).add (rulesOf r) := psum_cons _ _
    rw [e, diff_add, ih h.2, show (itmP x).diff = 0 from diff_plain h.1]; grind
/-- sizes, in limbs -/
structure PSz (x : Pt) (k : Nat) : Prop where
  b : RSz x.b k
  s : RSz x.s k
  d : RSz x.d k
  i : RSz x.i k
theorem PSz.mono {x : Pt} {k l : Nat} (h : PSz x k) (hk : k ≤ l) : PSz x l := ⟨h.b.mono hk, h.s.mono hk, h.d.mono hk, h.i.mono hk⟩
theorem PSz.zero : PSz Pt.zero 1 := ⟨RSz.zero, RSz.zero, RSz.zero, RSz.zero⟩
theorem PSz.add {x y : Pt} {k l : Nat} (h : PSz x k) (h' : PSz y l) : PSz (x.add y) (k + l + 1) := ⟨h.b.add h'.b, h.s.add h'.s, h.d.add h'.d, h.i.add h'.i⟩
theorem rule_sz {k : Nat} {t a : Rat} {j : Nat} (ht : RSz t j) (ha : RSz a j) (hj : 1 ≤ j) : PSz (ruleP k t a) (3 * j + 1) := by
  have h0 : RSz 0 (3 * j + 1) := RSz.zero.mono (by omega)
  have h1 : RSz t (3 * j + 1) := ht.mono (by omega)
  have h2 : RSz (-t) (3 * j + 1) := h1.neg
  have h3 : RSz (-a) (3 * j + 1) := (ha.mono (by omega)).neg
  have h4 : RSz (t * a - t) (3 * j + 1) := ((ht.mul ha).sub ht).mono (by omega)
  refine ⟨?_, ?_, ?_, ?_⟩
  · show RSz (bookP k t) _; unfold bookP; split <;> first | assumption | (split <;> assumption)
  · show RSz (baseP k t a) _; unfold baseP; repeat' (split <;> first | assumption | skip)
  · show RSz (depP k t) _; unfold depP; split <;> assumption
  · show RSz (intP k t) _; unfold intP; split <;> first | assumption | (split <;> assumption)
def ruleSz (j n : Nat) : Nat := 1 + n * (3 * j + 2)
theorem ruleSz_succ (j n : Nat) : ruleSz j (n + 1) = ruleSz j n + (3 * j + 1) + 1 := by unfold ruleSz; rw [Nat.add_mul, Nat.one_mul]; omega
theorem ruleSz_le {j m n : Nat} (h : m ≤ n) : ruleSz j m ≤ ruleSz j n := by unfold ruleSz; have := Nat.mul_le_mul_right (3 * j + 2) h; omega
def sumSz (j n : Nat) : Nat := 1 + n * (j + 1)
theorem sumSz_succ (j n : Nat) : sumSz j (n + 1) = sumSz j n + j + 1 := by unfold sumSz; rw [Nat.add_mul, Nat.one_mul]; omega
theorem sumSz_le {j m n : Nat} (h : m ≤ n) : sumSz j m ≤ sumSz j n := by unfold sumSz; have := Nat.mul_le_mul_right (j + 1) h; omega
theorem rulesOf_sz {j : Nat} (hj : 1 ≤ j) : ∀ (l : List Itm), (∀ x ∈ l, RSz x.2.1 j ∧ RSz x.2.2 j) → PSz (rulesOf l) (ruleSz j l.length) := by
  intro l
  induction l with
  | nil => intro _; exact PSz.zero.mono (by simp [ruleSz])
  | cons x r ih =>
    intro h
    have e : rulesOf (x :: r) = (itmP x).add (rulesOf r) := psum_cons _ _
    rw [e, List.length_cons, ruleSz_succ]
    have h1 : PSz (itmP x) (3 * j + 1) := rule_sz (h x (by simp)).2 (h x (by simp)).1 hj
    exact (h1.add (ih fun y hy => h y (by simp [hy]))).mono (by omega)
theorem psum_sz {j : Nat} : ∀ (l : List Pt), (∀ x ∈ l, PSz x j) → PSz (psum l) (sumSz j l.length) := by
  intro l
  induction l with
  | nil => intro _; exact PSz.zero.mono (by simp [sumSz])
  | cons x r ih =>
    intro h
    rw [psum_cons, List.length_cons, sumSz_succ]
    exact ((h x (by simp)).add (ih fun y hy => h y (by simp [hy]))).mono (by omega)
def psame (x y : Pt) : Bool := decide (x.b = y.b) && (decide (x.s = y.s) && (decide (x.d = y.d) && decide (x.i = y.i)))
theorem psame_self (x : Pt) : psame x x = true := by simp [psame]
theorem psame_of {x y : Pt} (h : x = y) : psame x y = true := h ▸ psame_self x

/-! parts and items in memory -/
/-- sixteen cells read as parts in lowest terms -/
def PtRd (w : World) (v : Value) (P : Pt) : Prop := ∃ s1 p1 n1 c1 t1 y1 m1 d1 s2 p2 n2 c2 t2 y2 m2 d2 s3 p3 n3 c3 t3 y3 m3 d3 s4 p4 n4 c4 t4 y4 m4 d4,
  v = .agg #[.bool s1, .slice p1 n1 c1, .bool t1, .slice y1 m1 d1, .bool s2, .slice p2 n2 c2, .bool t2, .slice y2 m2 d2, .bool s3, .slice p3 n3 c3, .bool t3, .slice y3 m3 d3, .bool s4, .slice p4 n4 c4, .bool t4, .slice y4 m4 d4] ∧
  RatRd w (.agg #[.bool s1, .slice p1 n1 c1, .bool t1, .slice y1 m1 d1]) P.b ∧ RatRd w (.agg #[.bool s2, .slice p2 n2 c2, .bool t2, .slice y2 m2 d2]) P.s ∧ RatRd w (.agg #[.bool s3, .slice p3 n3 c3, .bool t3, .slice y3 m3 d3]) P.d ∧ RatRd w (.agg #[.bool s4, .slice p4 n4 c4, .bool t4, .slice y4 m4 d4]) P.i
/-- the same, of any fractions -/
def PtIn (w : World) (v : Value) (P : Pt) (k : Nat) : Prop := ∃ s1 p1 n1 c1 t1 y1 m1 d1 s2 p2 n2 c2 t2 y2 m2 d2 s3 p3 n3 c3 t3 y3 m3 d3 s4 p4 n4 c4 t4 y4 m4 d4,
  v = .agg #[.bool s1, .slice p1 n1 c1, .bool t1, .slice y1 m1 d1, .bool s2, .slice p2 n2 c2, .bool t2, .slice y2 m2 d2, .bool s3, .slice p3 n3 c3, .bool t3, .slice y3 m3 d3, .bool s4, .slice p4 n4 c4, .bool t4, .slice y4 m4 d4] ∧
  RatIn w (.agg #[.bool s1, .slice p1 n1 c1, .bool t1, .slice y1 m1 d1]) P.b k ∧ RatIn w (.agg #[.bool s2, .slice p2 n2 c2, .bool t2, .slice y2 m2 d2]) P.s k ∧ RatIn w (.agg #[.bool s3, .slice p3 n3 c3, .bool t3, .slice y3 m3 d3]) P.d k ∧ RatIn w (.agg #[.bool s4, .slice p4 n4 c4, .bool t4, .slice y4 m4 d4]) P.i k
theorem PtRd.kp {U : TypeId} {T : TypeId → Bool} {w w' : World} {v : Value} {P : Pt} (h : PtRd w v P) (k : KpS ⟨U, fun _ => True, T⟩ w w') : PtRd w' v P := by
  obtain ⟨s1, p1, n1, c1, t1, y1, m1, d1, s2, p2, n2, c2, t2, y2, m2, d2, s3, p3, n3, c3, t3, y3, m3, d3, s4, p4, n4, c4, t4, y4, m4, d4, hv, h1, h2, h3, h4⟩ := h
  exact ⟨_, _, _, _, _, _, _, _, _, _, _, _, _, _, _, _, _, _, _, _, _, _, _, _, _, _, _, _, _, _, _, _, hv, h1.kp k, h2.kp k, h3.kp k, h4.kp k⟩
theorem PtIn.kp {U : TypeId} {T : TypeId → Bool} {w w' : World} {v : Value} {P : Pt} {j : Nat} (h : PtIn w v P j) (k : KpS ⟨U, fun _ => True, T⟩ w w') : PtIn w' v P j := by
  obtain ⟨s1, p1, n1, c1, t1, y1, m1, d1, s2, p2, n2, c2, t2, y2, m2, d2, s3, p3, n3, c3, t3, y3, m3, d3, s4, p4, n4, c4, t4, y4, m4, d4, hv, h1, h2, h3, h4⟩ := h
  exact ⟨_, _, _, _, _, _, _, _, _, _, _, _, _, _, _, _, _, _, _, _, _, _, _, _, _, _, _, _, _, _, _, _, hv, h1.kp k, h2.kp k, h3.kp k, h4.kp k⟩
theorem PtRd.to {w : World} {v : Value} {P : Pt} {j : Nat} (h : PtRd w v P) (hs : PSz P j) : PtIn w v P j := by
  obtain ⟨s1, p1, n1, c1, t1, y1, m1, d1, s2, p2, n2, c2, t2, y2, m2, d2, s3, p3, n3, c3, t3, y3, m3, d3, s4, p4, n4, c4, t4, y4, m4, d4, hv, h1, h2, h3, h4⟩ := h
  exact ⟨_, _, _, _, _, _, _, _, _, _, _, _, _, _, _, _, _, _, _, _, _, _, _, _, _, _, _, _, _, _, _, _, hv, h1.to hs.b, h2.to hs.s, h3.to hs.d, h4.to hs.i⟩
theorem PtIn.sz {w : World} {v : Value} {P : Pt} {j : Nat} (h : PtIn w v P j) (hj : 1 ≤ j) : PSz P j := by
  obtain ⟨s1, p1, n1, c1, t1, y1, m1, d1, s2, p2, n2, c2, t2, y2, m2, d2, s3, p3, n3, c3, t3, y3, m3, d3, s4, p4, n4, c4, t4, y4, m4, d4, hv, h1, h2, h3, h4⟩ := h
  exact ⟨h1.sz hj, h2.sz hj, h3.sz hj, h4.sz hj⟩
theorem PtRd.cast {w : World} {v : Value} {P P' : Pt} (h : PtRd w v P) (e : P = P') : PtRd w v P' := e ▸ h
theorem PtRd.mk {w : World} {s1 t1 s2 t2 s3 t3 s4 t4 : Bool} {p1 y1 p2 y2 p3 y3 p4 y4 : Option Addr} {n1 c1 m1 d1 n2 c2 m2 d2 n3 c3 m3 d3 n4 c4 m4 d4 : Nat} {b s d i : Rat}
    (h1 : RatRd w (.agg #[.bool s1, .slice p1 n1 c1, .bool t1, .slice y1 m1 d1]) b) (h2 : RatRd w (.agg #[.bool s2, .slice p2 n2 c2, .bool t2, .slice y2 m2 d2]) s) (h3 : RatRd w (.agg #[.bool s3, .slice p3 n3 c3, .bool t3, .slice y3 m3 d3]) d) (h4 : RatRd w (.agg #[.bool s4, .slice p4 n4 c4, .bool t4, .slice y4 m4 d4]) i) :
    PtRd w (.agg #[.bool s1, .slice p1 n1 c1, .bool t1, .slice y1 m1 d1, .bool s2, .slice p2 n2 c2, .bool t2, .slice y2 m2 d2, .bool s3, .slice p3 n3 c3, .bool t3, .slice y3 m3 d3, .bool s4, .slice p4 n4 c4, .bool t4, .slice y4 m4 d4]) ⟨b, s, d, i⟩ :=
  ⟨_, _, _, _, _, _, _, _, _, _, _, _, _, _, _, _, _, _, _, _, _, _, _, _, _, _, _, _, _, _, _, _, rfl, h1, h2, h3, h4⟩
theorem PtIn.mk {w : World} {s1 t1 s2 t2 s3 t3 s4 t4 : Bool} {p1 y1 p2 y2 p3 y3 p4 y4 : Option Addr} {n1 c1 m1 d1 n2 c2 m2 d2 n3 c3 m3 d3 n4 c4 m4 d4 : Nat} {b s d i : Rat} {k : Nat}
    (h1 : RatIn w (.agg #[.bool s1, .slice p1 n1 c1, .bool t1, .slice y1 m1 d1]) b k) (h2 : RatIn w (.agg #[.bool s2, .slice p2 n2 c2, .bool t2, .slice y2 m2 d2]) s k) (h3 : RatIn w (.agg #[.bool s3, .slice p3 n3 c3, .bool t3, .slice y3 m3 d3]) d k) (h4 : RatIn w (.agg #[.bool s4, .slice p4 n4 c4, .bool t4, .slice y4 m4 d4]) i k) :
    PtIn w (.agg #[.bool s1, .slice p1 n1 c1, .bool t1, .slice y1 m1 d1, .bool s2, .slice p2 n2 c2, .bool t2, .slice y2 m2 d2, .bool s3, .slice p3 n3 c3, .bool t3, .slice y3 m3 d3, .bool s4, .slice p4 n4 c4, .bool t4, .slice y4 m4 d4]) ⟨b, s, d, i⟩ k :=
  ⟨_, _, _, _, _, _, _, _, _, _, _, _, _, _, _, _, _, _, _, _, _, _, _, _, _, _, _, _, _, _, _, _, rfl, h1, h2, h3, h4⟩
/-- an item's cells -/
def ItmE (kk : Nat) (w : World) (cs : List Value) (x : Itm) : Prop := ∃ s1 p1 n1 c1 t1 y1 m1 d1 s2 p2 n2 c2 t2 y2 m2 d2,
  cs = [.int .u8 (x.1 : Int), .bool s1, .slice p1 n1 c1, .bool t1, .slice y1 m1 d1, .bool s2, .slice p2 n2 c2, .bool t2, .slice y2 m2 d2] ∧ x.1 < 256 ∧
  RatIn w (.agg #[.bool s1, .slice p1 n1 c1, .bool t1, .slice y1 m1 d1]) x.2.1 kk ∧ RatIn w (.agg #[.bool s2, .slice p2 n2 c2, .bool t2, .slice y2 m2 d2]) x.2.2 kk
theorem itm_ok (kk : Nat) : ElOk (ItmE kk) 9 where
  kp := fun h k => by
    obtain ⟨s1, p1, n1, c1, t1, y1, m1, d1, s2, p2, n2, c2, t2, y2, m2, d2, hv, h0, h1, h2⟩ := h
    exact ⟨_, _, _, _, _, _, _, _, _, _, _, _, _, _, _, _, hv, h0, h1.kp k, h2.kp k⟩
  len := fun h => by
    obtain ⟨s1, p1, n1, c1, t1, y1, m1, d1, s2, p2, n2, c2, t2, y2, m2, d2, rfl, _⟩ := h
    rfl
  ok := fun h => by
    obtain ⟨s1, p1, n1, c1, t1, y1, m1, d1, s2, p2, n2, c2, t2, y2, m2, d2, rfl, _⟩ := h
    rfl
theorem ItmE.sz {kk : Nat} {w : World} {cs : List Value} {x : Itm} (h : ItmE kk w cs x) (hk : 1 ≤ kk) : RSz x.2.1 kk ∧ RSz x.2.2 kk := by
  obtain ⟨s1, p1, n1, c1, t1, y1, m1, d1, s2, p2, n2, c2, t2, y2, m2, d2, rfl, h0, h1, h2⟩ := h
  exact ⟨h1.sz hk, h2.sz hk⟩
def PtE (kk : Nat) (w : World) (cs : List Value) (x : Pt) : Prop := PtIn w (.agg cs.toArray) x kk
theorem pt_ok (kk : Nat) : ElOk (PtE kk) 16 where
  kp := fun h k => PtIn.kp h k
  len := fun {w cs a} h => by
    obtain ⟨s1, p1, n1, c1, t1, y1, m1, d1, s2, p2, n2, c2, t2, y2, m2, d2, s3, p3, n3, c3, t3, y3, m3, d3, s4, p4, n4, c4, t4, y4, m4, d4, hv, _⟩ := h
    injection hv with hv
    have := congrArg Array.size hv
    simpa using this
  ok := fun {w cs a} h => by
    obtain ⟨s1, p1, n1, c1, t1, y1, m1, d1, s2, p2, n2, c2, t2, y2, m2, d2, s3, p3, n3, c3, t3, y3, m3, d3, s4, p4, n4, c4, t4, y4, m4, d4, hv, _⟩ := h
    injection hv with hv
    have := congrArg Array.toList hv
    simp only [List.toList_toArray] at this
    rw [this]; rfl
theorem slin_sz {kk : Nat} {w : World} {v : Value} {l : List Itm} (h : SlIn (ItmE kk) 9 w v l) (hk : 1 ≤ kk) : ∀ x ∈ l, RSz x.2.1 kk ∧ RSz x.2.2 kk := fun x hx => by
  obtain ⟨i, hi⟩ := List.getElem?_of_mem hx
  obtain ⟨p, c, rfl, _⟩ := h.form
  obtain ⟨b, off, cs, _, _, he⟩ := h.at hi
  exact he.sz hk
theorem slpt_sz {kk : Nat} {w : World} {v : Value} {l : List Pt} (h : SlIn (PtE kk) 16 w v l) (hk : 1 ≤ kk) : ∀ x ∈ l, PSz x kk := fun x hx => by
  obtain ⟨i, hi⟩ := List.getElem?_of_mem hx
  obtain ⟨p, c, rfl, _⟩ := h.form
  obtain ⟨b, off, cs, _, _, he⟩ := h.at hi
  exact PtIn.sz he hk
end Go.Proofs.YtgffhmpnkfejbaaGreat
