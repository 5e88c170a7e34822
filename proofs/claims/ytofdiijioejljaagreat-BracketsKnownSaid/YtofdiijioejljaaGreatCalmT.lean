/- Calm walks over this program: what the types are. -/
import Derived.Test.YtofdiijioejljaaGreatCalmI
set_option linter.all false
namespace Go.Proofs.YtofdiijioejljaaGreat
open Go.RowKit

theorem bld_of {P : Program} {t : TypeId} {zero : Value} {places : Array (Nat × Nat)} {fs : Array Field} (hz : ∀ w, (zeroValue t).run P w = .ok zero w) (hu : P.underlying t = some (.struct fs))
  (hp : ∀ w, (fs.mapM (fun f => do pure (f.offset, ← sizeOf f.type)) : Sem (Array (Nat × Nat))).run P w = .ok places w) (ps : Array (Nat × Value)) (w : World) (cs : Array Value)
  (h : Instr.fill (places[·]?) zero.cells ps.toList = some cs) : (Instr.build t ps).run P w = .ok (.agg cs) w := by
 unfold Instr.build
 simp only [Sem.run_bind, hz, Result.andThen_ok, run_underlying hu, hp]
 rw [h]
 rfl
theorem fld_agg {P : Program} {t : TypeId} {k : Nat} {fs : Array Field} {f : Field} (o n : Nat) (hu : P.underlying t = some (.struct fs)) (hf : fs[k]? = some f) (ho : f.offset = o) (hb : ∀ w, (isAgg f.type).run P w = .ok true w) (hs : ∀ w, (sizeOf f.type).run P w = .ok n w)
  {cs : Array Value} {w : World} {v : Value} (h : some (Value.agg (cs.extract o (o + n))) = some v) : (Instr.field t (.agg cs) k).run P w = .ok v w := by
 cases h
 subst ho
 unfold Instr.field
 simp [run_underlying hu, hf, asAgg, part, hb, hs]
theorem fld_one {P : Program} {t : TypeId} {k : Nat} {fs : Array Field} {f : Field} (o : Nat) (hu : P.underlying t = some (.struct fs)) (hf : fs[k]? = some f) (ho : f.offset = o) (hb : ∀ w, (isAgg f.type).run P w = .ok false w)
  {cs : Array Value} {w : World} {v : Value} (h : cs[o]? = some v) : (Instr.field t (.agg cs) k).run P w = .ok v w := by
 subst ho
 unfold Instr.field
 simp [run_underlying hu, hf, asAgg, part, hb, h]
theorem places_none {α : Type} {l : List α} {k : Nat} {p : α} (h : l.toArray[k]? = some p) (hk : l.length ≤ k) : False := by
 rw [Array.getElem?_eq_none (by simpa using hk)] at h
 cases h

def ti0 : TI := { size := 1, agg := false, zero := .int .i64 0, places := #[], aggs := #[], bool := false, elem := none, kind := some .i64 }
theorem ok0 : TI.Ok Tryz.prog 2 ti0 where
 row := ⟨_, Tryz.underlying2, rfl⟩
 isBool := fun h => (by cases h)
 isSlice := fun e n h => (by cases h)
 isInt := fun k h => (by cases h; exact Tryz.underlying2)
 zsize := rfl
 izero := by kernel_rfl
 bytes := by kernel_rfl
 pos := Nat.le_of_ble_eq_true rfl
 lone := fun h => rfl
 size := by kernel_rfl
 zero := fun w => by kernel_rfl
 fldA := fun k p hp b o w => (places_none hp (by simp)).elim
 fld := fun k p hp cs w v hv => (places_none hp (by simp)).elim
 bld := fun h => (by cases h)
def ti1 : TI := { size := 1, agg := false, zero := .int .i64 0, places := #[], aggs := #[], bool := false, elem := none, kind := some .i64 }
theorem ok1 : TI.Ok Tryz.prog 3 ti1 where
 row := ⟨_, Tryz.underlying3, rfl⟩
 isBool := fun h => (by cases h)
 isSlice := fun e n h => (by cases h)
 isInt := fun k h => (by cases h; exact Tryz.underlying3)
 zsize := rfl
 izero := by kernel_rfl
 bytes := by kernel_rfl
 pos := Nat.le_of_ble_eq_true rfl
 lone := fun h => rfl
 size := by kernel_rfl
 zero := fun w => by kernel_rfl
 fldA := fun k p hp b o w => (places_none hp (by simp)).elim
 fld := fun k p hp cs w v hv => (places_none hp (by simp)).elim
 bld := fun h => (by cases h)
def ti2 : TI := { size := 1, agg := false, zero := .bool false, places := #[], aggs := #[], bool := true, elem := none, kind := none }
theorem ok2 : TI.Ok Tryz.prog 4 ti2 where
 row := ⟨_, Tryz.underlying4, rfl⟩
 isBool := fun h => Tryz.underlying4
 isSlice := fun e n h => (by cases h)
 isInt := fun k h => (by cases h)
 zsize := rfl
 izero := by kernel_rfl
 bytes := by kernel_rfl
 pos := Nat.le_of_ble_eq_true rfl
 lone := fun h => rfl
 size := by kernel_rfl
 zero := fun w => by kernel_rfl
 fldA := fun k p hp b o w => (places_none hp (by simp)).elim
 fld := fun k p hp cs w v hv => (places_none hp (by simp)).elim
 bld := fun h => (by cases h)
def ti3 : TI := { size := 1, agg := false, zero := .int .u8 0, places := #[], aggs := #[], bool := false, elem := none, kind := some .u8 }
theorem ok3 : TI.Ok Tryz.prog 5 ti3 where
 row := ⟨_, Tryz.underlying5, rfl⟩
 isBool := fun h => (by cases h)
 isSlice := fun e n h => (by cases h)
 isInt := fun k h => (by cases h; exact Tryz.underlying5)
 zsize := rfl
 izero := by kernel_rfl
 bytes := by kernel_rfl
 pos := Nat.le_of_ble_eq_true rfl
 lone := fun h => rfl
 size := by kernel_rfl
 zero := fun w => by kernel_rfl
 fldA := fun k p hp b o w => (places_none hp (by simp)).elim
 fld := fun k p hp cs w v hv => (places_none hp (by simp)).elim
 bld := fun h => (by cases h)
def ti4 : TI := { size := 1, agg := false, zero := .string ⟨#[]⟩, places := #[], aggs := #[], bool := false, elem := none, kind := none }
theorem ok4 : TI.Ok Tryz.prog 9 ti4 where
 row := ⟨_, Tryz.underlying9, rfl⟩
 isBool := fun h => (by cases h)
 isSlice := fun e n h => (by cases h)
 isInt := fun k h => (by cases h)
 zsize := rfl
 izero := by kernel_rfl
 bytes := by kernel_rfl
 pos := Nat.le_of_ble_eq_true rfl
 lone := fun h => rfl
 size := by kernel_rfl
 zero := fun w => by kernel_rfl
 fldA := fun k p hp b o w => (places_none hp (by simp)).elim
 fld := fun k p hp cs w v hv => (places_none hp (by simp)).elim
 bld := fun h => (by cases h)
def ti5 : TI := { size := 1, agg := false, zero := .int .u64 0, places := #[], aggs := #[], bool := false, elem := none, kind := some .u64 }
theorem ok5 : TI.Ok Tryz.prog 12 ti5 where
 row := ⟨_, Tryz.underlying12, rfl⟩
 isBool := fun h => (by cases h)
 isSlice := fun e n h => (by cases h)
 isInt := fun k h => (by cases h; exact Tryz.underlying12)
 zsize := rfl
 izero := by kernel_rfl
 bytes := by kernel_rfl
 pos := Nat.le_of_ble_eq_true rfl
 lone := fun h => rfl
 size := by kernel_rfl
 zero := fun w => by kernel_rfl
 fldA := fun k p hp b o w => (places_none hp (by simp)).elim
 fld := fun k p hp cs w v hv => (places_none hp (by simp)).elim
 bld := fun h => (by cases h)
def ti6 : TI := { size := 1, agg := false, zero := .slice none 0 0, places := #[], aggs := #[], bool := false, elem := some (59, 8), kind := none }
theorem sz6 (w : World) : (sizeOf 59).run Tryz.prog w = .ok 8 w := by kernel_rfl
theorem ok6 : TI.Ok Tryz.prog 22 ti6 where
 row := ⟨_, Tryz.underlying22, rfl⟩
 isBool := fun h => (by cases h)
 isSlice := fun e n h => (by cases h; exact ⟨Tryz.underlying22, sz6⟩)
 isInt := fun k h => (by cases h)
 zsize := rfl
 izero := by kernel_rfl
 bytes := by kernel_rfl
 pos := Nat.le_of_ble_eq_true rfl
 lone := fun h => rfl
 size := by kernel_rfl
 zero := fun w => by kernel_rfl
 fldA := fun k p hp b o w => (places_none hp (by simp)).elim
 fld := fun k p hp cs w v hv => (places_none hp (by simp)).elim
 bld := fun h => (by cases h)
def ti7 : TI := { size := 1, agg := false, zero := .slice none 0 0, places := #[], aggs := #[], bool := false, elem := some (107, 1), kind := none }
theorem sz7 (w : World) : (sizeOf 107).run Tryz.prog w = .ok 1 w := by kernel_rfl
theorem ok7 : TI.Ok Tryz.prog 23 ti7 where
 row := ⟨_, Tryz.underlying23, rfl⟩
 isBool := fun h => (by cases h)
 isSlice := fun e n h => (by cases h; exact ⟨Tryz.underlying23, sz7⟩)
 isInt := fun k h => (by cases h)
 zsize := rfl
 izero := by kernel_rfl
 bytes := by kernel_rfl
 pos := Nat.le_of_ble_eq_true rfl
 lone := fun h => rfl
 size := by kernel_rfl
 zero := fun w => by kernel_rfl
 fldA := fun k p hp b o w => (places_none hp (by simp)).elim
 fld := fun k p hp cs w v hv => (places_none hp (by simp)).elim
 bld := fun h => (by cases h)
def ti8 : TI := { size := 2, agg := true, zero := .agg #[.bool false, .slice none 0 0], places := #[(0, 1), (1, 1)], aggs := #[false, false], bool := false, elem := none, kind := none }
theorem ok8 : TI.Ok Tryz.prog 25 ti8 where
 row := ⟨_, Tryz.underlying25, rfl⟩
 isBool := fun h => (by cases h)
 isSlice := fun e n h => (by cases h)
 isInt := fun k h => (by cases h)
 zsize := rfl
 izero := by kernel_rfl
 bytes := by kernel_rfl
 pos := Nat.le_of_ble_eq_true rfl
 lone := fun h => (by cases h)
 size := by kernel_rfl
 zero := fun w => by kernel_rfl
 fldA := fun k p hp b o w => match k, hp with
  | 0, hp => by cases hp; kernel_rfl
  | 1, hp => by cases hp; kernel_rfl
  | n + 2, hp => (places_none hp (by simp)).elim
 fld := fun k p hp cs w v hv => match k, hp with
  | 0, hp => by cases hp; exact fld_one 0 Tryz.underlying25 rfl rfl (fun w => by kernel_rfl) hv
  | 1, hp => by cases hp; exact fld_one 1 Tryz.underlying25 rfl rfl (fun w => by kernel_rfl) hv
  | n + 2, hp => (places_none hp (by simp)).elim
 bld := fun _ => bld_of (fun w => by kernel_rfl) Tryz.underlying25 (fun w => by kernel_rfl)
def ti9 : TI := { size := 4, agg := true, zero := .agg #[.bool false, .slice none 0 0, .bool false, .slice none 0 0], places := #[(0, 2), (2, 2)], aggs := #[true, true], bool := false, elem := none, kind := none }
theorem ok9 : TI.Ok Tryz.prog 27 ti9 where
 row := ⟨_, Tryz.underlying27, rfl⟩
 isBool := fun h => (by cases h)
 isSlice := fun e n h => (by cases h)
 isInt := fun k h => (by cases h)
 zsize := rfl
 izero := by kernel_rfl
 bytes := by kernel_rfl
 pos := Nat.le_of_ble_eq_true rfl
 lone := fun h => (by cases h)
 size := by kernel_rfl
 zero := fun w => by kernel_rfl
 fldA := fun k p hp b o w => match k, hp with
  | 0, hp => by cases hp; kernel_rfl
  | 1, hp => by cases hp; kernel_rfl
  | n + 2, hp => (places_none hp (by simp)).elim
 fld := fun k p hp cs w v hv => match k, hp with
  | 0, hp => by cases hp; exact fld_agg 0 2 Tryz.underlying27 rfl rfl (fun w => by kernel_rfl) (fun w => by kernel_rfl) hv
  | 1, hp => by cases hp; exact fld_agg 2 2 Tryz.underlying27 rfl rfl (fun w => by kernel_rfl) (fun w => by kernel_rfl) hv
  | n + 2, hp => (places_none hp (by simp)).elim
 bld := fun _ => bld_of (fun w => by kernel_rfl) Tryz.underlying27 (fun w => by kernel_rfl)
def ti10 : TI := { size := 1, agg := false, zero := .slice none 0 0, places := #[], aggs := #[], bool := false, elem := some (27, 4), kind := none }
theorem sz10 (w : World) : (sizeOf 27).run Tryz.prog w = .ok 4 w := by kernel_rfl
theorem ok10 : TI.Ok Tryz.prog 29 ti10 where
 row := ⟨_, Tryz.underlying29, rfl⟩
 isBool := fun h => (by cases h)
 isSlice := fun e n h => (by cases h; exact ⟨Tryz.underlying29, sz10⟩)
 isInt := fun k h => (by cases h)
 zsize := rfl
 izero := by kernel_rfl
 bytes := by kernel_rfl
 pos := Nat.le_of_ble_eq_true rfl
 lone := fun h => rfl
 size := by kernel_rfl
 zero := fun w => by kernel_rfl
 fldA := fun k p hp b o w => (places_none hp (by simp)).elim
 fld := fun k p hp cs w v hv => (places_none hp (by simp)).elim
 bld := fun h => (by cases h)
def ti11 : TI := { size := 1, agg := false, zero := .slice none 0 0, places := #[], aggs := #[], bool := false, elem := some (73, 8), kind := none }
theorem sz11 (w : World) : (sizeOf 73).run Tryz.prog w = .ok 8 w := by kernel_rfl
theorem ok11 : TI.Ok Tryz.prog 31 ti11 where
 row := ⟨_, Tryz.underlying31, rfl⟩
 isBool := fun h => (by cases h)
 isSlice := fun e n h => (by cases h; exact ⟨Tryz.underlying31, sz11⟩)
 isInt := fun k h => (by cases h)
 zsize := rfl
 izero := by kernel_rfl
 bytes := by kernel_rfl
 pos := Nat.le_of_ble_eq_true rfl
 lone := fun h => rfl
 size := by kernel_rfl
 zero := fun w => by kernel_rfl
 fldA := fun k p hp b o w => (places_none hp (by simp)).elim
 fld := fun k p hp cs w v hv => (places_none hp (by simp)).elim
 bld := fun h => (by cases h)
def ti12 : TI := { size := 2, agg := true, zero := .agg #[.bool false, .slice none 0 0], places := #[(0, 1), (1, 1)], aggs := #[false, false], bool := false, elem := none, kind := none }
theorem ok12 : TI.Ok Tryz.prog 33 ti12 where
 row := ⟨_, Tryz.underlying33, rfl⟩
 isBool := fun h => (by cases h)
 isSlice := fun e n h => (by cases h)
 isInt := fun k h => (by cases h)
 zsize := rfl
 izero := by kernel_rfl
 bytes := by kernel_rfl
 pos := Nat.le_of_ble_eq_true rfl
 lone := fun h => (by cases h)
 size := by kernel_rfl
 zero := fun w => by kernel_rfl
 fldA := fun k p hp b o w => match k, hp with
  | 0, hp => by cases hp; kernel_rfl
  | 1, hp => by cases hp; kernel_rfl
  | n + 2, hp => (places_none hp (by simp)).elim
 fld := fun k p hp cs w v hv => match k, hp with
  | 0, hp => by cases hp; exact fld_one 0 Tryz.underlying33 rfl rfl (fun w => by kernel_rfl) hv
  | 1, hp => by cases hp; exact fld_one 1 Tryz.underlying33 rfl rfl (fun w => by kernel_rfl) hv
  | n + 2, hp => (places_none hp (by simp)).elim
 bld := fun _ => bld_of (fun w => by kernel_rfl) Tryz.underlying33 (fun w => by kernel_rfl)
def ti13 : TI := { size := 4, agg := true, zero := .agg #[.bool false, .slice none 0 0, .bool false, .slice none 0 0], places := #[(0, 2), (2, 2)], aggs := #[true, true], bool := false, elem := none, kind := none }
theorem ok13 : TI.Ok Tryz.prog 35 ti13 where
 row := ⟨_, Tryz.underlying35, rfl⟩
 isBool := fun h => (by cases h)
 isSlice := fun e n h => (by cases h)
 isInt := fun k h => (by cases h)
 zsize := rfl
 izero := by kernel_rfl
 bytes := by kernel_rfl
 pos := Nat.le_of_ble_eq_true rfl
 lone := fun h => (by cases h)
 size := by kernel_rfl
 zero := fun w => by kernel_rfl
 fldA := fun k p hp b o w => match k, hp with
  | 0, hp => by cases hp; kernel_rfl
  | 1, hp => by cases hp; kernel_rfl
  | n + 2, hp => (places_none hp (by simp)).elim
 fld := fun k p hp cs w v hv => match k, hp with
  | 0, hp => by cases hp; exact fld_agg 0 2 Tryz.underlying35 rfl rfl (fun w => by kernel_rfl) (fun w => by kernel_rfl) hv
  | 1, hp => by cases hp; exact fld_agg 2 2 Tryz.underlying35 rfl rfl (fun w => by kernel_rfl) (fun w => by kernel_rfl) hv
  | n + 2, hp => (places_none hp (by simp)).elim
 bld := fun _ => bld_of (fun w => by kernel_rfl) Tryz.underlying35 (fun w => by kernel_rfl)
def ti14 : TI := { size := 1, agg := false, zero := .int .i64 0, places := #[], aggs := #[], bool := false, elem := none, kind := some .i64 }
theorem ok14 : TI.Ok Tryz.prog 37 ti14 where
 row := ⟨_, Tryz.underlying37, rfl⟩
 isBool := fun h => (by cases h)
 isSlice := fun e n h => (by cases h)
 isInt := fun k h => (by cases h; exact Tryz.underlying37)
 zsize := rfl
 izero := by kernel_rfl
 bytes := by kernel_rfl
 pos := Nat.le_of_ble_eq_true rfl
 lone := fun h => rfl
 size := by kernel_rfl
 zero := fun w => by kernel_rfl
 fldA := fun k p hp b o w => (places_none hp (by simp)).elim
 fld := fun k p hp cs w v hv => (places_none hp (by simp)).elim
 bld := fun h => (by cases h)
def ti15 : TI := { size := 8, agg := true, zero := .agg #[.bool false, .slice none 0 0, .bool false, .slice none 0 0, .bool false, .slice none 0 0, .bool false, .slice none 0 0], places := #[(0, 4), (4, 4)], aggs := #[true, true], bool := false, elem := none, kind := none }
theorem ok15 : TI.Ok Tryz.prog 59 ti15 where
 row := ⟨_, Tryz.underlying59, rfl⟩
 isBool := fun h => (by cases h)
 isSlice := fun e n h => (by cases h)
 isInt := fun k h => (by cases h)
 zsize := rfl
 izero := by kernel_rfl
 bytes := by kernel_rfl
 pos := Nat.le_of_ble_eq_true rfl
 lone := fun h => (by cases h)
 size := by kernel_rfl
 zero := fun w => by kernel_rfl
 fldA := fun k p hp b o w => match k, hp with
  | 0, hp => by cases hp; kernel_rfl
  | 1, hp => by cases hp; kernel_rfl
  | n + 2, hp => (places_none hp (by simp)).elim
 fld := fun k p hp cs w v hv => match k, hp with
  | 0, hp => by cases hp; exact fld_agg 0 4 Tryz.underlying59 rfl rfl (fun w => by kernel_rfl) (fun w => by kernel_rfl) hv
  | 1, hp => by cases hp; exact fld_agg 4 4 Tryz.underlying59 rfl rfl (fun w => by kernel_rfl) (fun w => by kernel_rfl) hv
  | n + 2, hp => (places_none hp (by simp)).elim
 bld := fun _ => bld_of (fun w => by kernel_rfl) Tryz.underlying59 (fun w => by kernel_rfl)
def ti16 : TI := { size := 1, agg := false, zero := .slice none 0 0, places := #[], aggs := #[], bool := false, elem := some (22, 1), kind := none }
theorem sz16 (w : World) : (sizeOf 22).run Tryz.prog w = .ok 1 w := by kernel_rfl
theorem ok16 : TI.Ok Tryz.prog 70 ti16 where
 row := ⟨_, Tryz.underlying70, rfl⟩
 isBool := fun h => (by cases h)
 isSlice := fun e n h => (by cases h; exact ⟨Tryz.underlying70, sz16⟩)
 isInt := fun k h => (by cases h)
 zsize := rfl
 izero := by kernel_rfl
 bytes := by kernel_rfl
 pos := Nat.le_of_ble_eq_true rfl
 lone := fun h => rfl
 size := by kernel_rfl
 zero := fun w => by kernel_rfl
 fldA := fun k p hp b o w => (places_none hp (by simp)).elim
 fld := fun k p hp cs w v hv => (places_none hp (by simp)).elim
 bld := fun h => (by cases h)
def ti17 : TI := { size := 8, agg := true, zero := .agg #[.bool false, .slice none 0 0, .bool false, .slice none 0 0, .bool false, .slice none 0 0, .bool false, .slice none 0 0], places := #[(0, 4), (4, 4)], aggs := #[true, true], bool := false, elem := none, kind := none }
theorem ok17 : TI.Ok Tryz.prog 73 ti17 where
 row := ⟨_, Tryz.underlying73, rfl⟩
 isBool := fun h => (by cases h)
 isSlice := fun e n h => (by cases h)
 isInt := fun k h => (by cases h)
 zsize := rfl
 izero := by kernel_rfl
 bytes := by kernel_rfl
 pos := Nat.le_of_ble_eq_true rfl
 lone := fun h => (by cases h)
 size := by kernel_rfl
 zero := fun w => by kernel_rfl
 fldA := fun k p hp b o w => match k, hp with
  | 0, hp => by cases hp; kernel_rfl
  | 1, hp => by cases hp; kernel_rfl
  | n + 2, hp => (places_none hp (by simp)).elim
 fld := fun k p hp cs w v hv => match k, hp with
  | 0, hp => by cases hp; exact fld_agg 0 4 Tryz.underlying73 rfl rfl (fun w => by kernel_rfl) (fun w => by kernel_rfl) hv
  | 1, hp => by cases hp; exact fld_agg 4 4 Tryz.underlying73 rfl rfl (fun w => by kernel_rfl) (fun w => by kernel_rfl) hv
  | n + 2, hp => (places_none hp (by simp)).elim
 bld := fun _ => bld_of (fun w => by kernel_rfl) Tryz.underlying73 (fun w => by kernel_rfl)
def ti18 : TI := { size := 2, agg := true, zero := .agg #[.bool false, .slice none 0 0], places := #[(0, 2)], aggs := #[true], bool := false, elem := none, kind := none }
theorem ok18 : TI.Ok Tryz.prog 91 ti18 where
 row := ⟨_, Tryz.underlying91, rfl⟩
 isBool := fun h => (by cases h)
 isSlice := fun e n h => (by cases h)
 isInt := fun k h => (by cases h)
 zsize := rfl
 izero := by kernel_rfl
 bytes := by kernel_rfl
 pos := Nat.le_of_ble_eq_true rfl
 lone := fun h => (by cases h)
 size := by kernel_rfl
 zero := fun w => by kernel_rfl
 fldA := fun k p hp b o w => match k, hp with
  | 0, hp => by cases hp; kernel_rfl
  | n + 1, hp => (places_none hp (by simp)).elim
 fld := fun k p hp cs w v hv => match k, hp with
  | 0, hp => by cases hp; exact fld_agg 0 2 Tryz.underlying91 rfl rfl (fun w => by kernel_rfl) (fun w => by kernel_rfl) hv
  | n + 1, hp => (places_none hp (by simp)).elim
 bld := fun _ => bld_of (fun w => by kernel_rfl) Tryz.underlying91 (fun w => by kernel_rfl)
def ti19 : TI := { size := 4, agg := true, zero := .agg #[.bool false, .slice none 0 0, .bool false, .slice none 0 0], places := #[(0, 4)], aggs := #[true], bool := false, elem := none, kind := none }
theorem ok19 : TI.Ok Tryz.prog 98 ti19 where
 row := ⟨_, Tryz.underlying98, rfl⟩
 isBool := fun h => (by cases h)
 isSlice := fun e n h => (by cases h)
 isInt := fun k h => (by cases h)
 zsize := rfl
 izero := by kernel_rfl
 bytes := by kernel_rfl
 pos := Nat.le_of_ble_eq_true rfl
 lone := fun h => (by cases h)
 size := by kernel_rfl
 zero := fun w => by kernel_rfl
 fldA := fun k p hp b o w => match k, hp with
  | 0, hp => by cases hp; kernel_rfl
  | n + 1, hp => (places_none hp (by simp)).elim
 fld := fun k p hp cs w v hv => match k, hp with
  | 0, hp => by cases hp; exact fld_agg 0 4 Tryz.underlying98 rfl rfl (fun w => by kernel_rfl) (fun w => by kernel_rfl) hv
  | n + 1, hp => (places_none hp (by simp)).elim
 bld := fun _ => bld_of (fun w => by kernel_rfl) Tryz.underlying98 (fun w => by kernel_rfl)
def ti20 : TI := { size := 1, agg := false, zero := .int .u64 0, places := #[], aggs := #[], bool := false, elem := none, kind := some .u64 }
theorem ok20 : TI.Ok Tryz.prog 105 ti20 where
 row := ⟨_, Tryz.underlying105, rfl⟩
 isBool := fun h => (by cases h)
 isSlice := fun e n h => (by cases h)
 isInt := fun k h => (by cases h; exact Tryz.underlying105)
 zsize := rfl
 izero := by kernel_rfl
 bytes := by kernel_rfl
 pos := Nat.le_of_ble_eq_true rfl
 lone := fun h => rfl
 size := by kernel_rfl
 zero := fun w => by kernel_rfl
 fldA := fun k p hp b o w => (places_none hp (by simp)).elim
 fld := fun k p hp cs w v hv => (places_none hp (by simp)).elim
 bld := fun h => (by cases h)
def ti21 : TI := { size := 1, agg := false, zero := .int .u32 0, places := #[], aggs := #[], bool := false, elem := none, kind := some .u32 }
theorem ok21 : TI.Ok Tryz.prog 107 ti21 where
 row := ⟨_, Tryz.underlying107, rfl⟩
 isBool := fun h => (by cases h)
 isSlice := fun e n h => (by cases h)
 isInt := fun k h => (by cases h; exact Tryz.underlying107)
 zsize := rfl
 izero := by kernel_rfl
 bytes := by kernel_rfl
 pos := Nat.le_of_ble_eq_true rfl
 lone := fun h => rfl
 size := by kernel_rfl
 zero := fun w => by kernel_rfl
 fldA := fun k p hp b o w => (places_none hp (by simp)).elim
 fld := fun k p hp cs w v hv => (places_none hp (by simp)).elim
 bld := fun h => (by cases h)
def ti22 : TI := { size := 1, agg := false, zero := .int .u64 0, places := #[], aggs := #[], bool := false, elem := none, kind := some .u64 }
theorem ok22 : TI.Ok Tryz.prog 108 ti22 where
 row := ⟨_, Tryz.underlying108, rfl⟩
 isBool := fun h => (by cases h)
 isSlice := fun e n h => (by cases h)
 isInt := fun k h => (by cases h; exact Tryz.underlying108)
 zsize := rfl
 izero := by kernel_rfl
 bytes := by kernel_rfl
 pos := Nat.le_of_ble_eq_true rfl
 lone := fun h => rfl
 size := by kernel_rfl
 zero := fun w => by kernel_rfl
 fldA := fun k p hp b o w => (places_none hp (by simp)).elim
 fld := fun k p hp cs w v hv => (places_none hp (by simp)).elim
 bld := fun h => (by cases h)
def ti23 : TI := { size := 1, agg := false, zero := .slice none 0 0, places := #[], aggs := #[], bool := false, elem := some (35, 4), kind := none }
theorem sz23 (w : World) : (sizeOf 35).run Tryz.prog w = .ok 4 w := by kernel_rfl
theorem ok23 : TI.Ok Tryz.prog 115 ti23 where
 row := ⟨_, Tryz.underlying115, rfl⟩
 isBool := fun h => (by cases h)
 isSlice := fun e n h => (by cases h; exact ⟨Tryz.underlying115, sz23⟩)
 isInt := fun k h => (by cases h)
 zsize := rfl
 izero := by kernel_rfl
 bytes := by kernel_rfl
 pos := Nat.le_of_ble_eq_true rfl
 lone := fun h => rfl
 size := by kernel_rfl
 zero := fun w => by kernel_rfl
 fldA := fun k p hp b o w => (places_none hp (by simp)).elim
 fld := fun k p hp cs w v hv => (places_none hp (by simp)).elim
 bld := fun h => (by cases h)
def ti24 : TI := { size := 1, agg := false, zero := .slice none 0 0, places := #[], aggs := #[], bool := false, elem := some (3, 1), kind := none }
theorem sz24 (w : World) : (sizeOf 3).run Tryz.prog w = .ok 1 w := by kernel_rfl
theorem ok24 : TI.Ok Tryz.prog 135 ti24 where
 row := ⟨_, Tryz.underlying135, rfl⟩
 isBool := fun h => (by cases h)
 isSlice := fun e n h => (by cases h; exact ⟨Tryz.underlying135, sz24⟩)
 isInt := fun k h => (by cases h)
 zsize := rfl
 izero := by kernel_rfl
 bytes := by kernel_rfl
 pos := Nat.le_of_ble_eq_true rfl
 lone := fun h => rfl
 size := by kernel_rfl
 zero := fun w => by kernel_rfl
 fldA := fun k p hp b o w => (places_none hp (by simp)).elim
 fld := fun k p hp cs w v hv => (places_none hp (by simp)).elim
 bld := fun h => (by cases h)
def ti25 : TI := { size := 1, agg := false, zero := .slice none 0 0, places := #[], aggs := #[], bool := false, elem := some (23, 1), kind := none }
theorem sz25 (w : World) : (sizeOf 23).run Tryz.prog w = .ok 1 w := by kernel_rfl
theorem ok25 : TI.Ok Tryz.prog 141 ti25 where
 row := ⟨_, Tryz.underlying141, rfl⟩
 isBool := fun h => (by cases h)
 isSlice := fun e n h => (by cases h; exact ⟨Tryz.underlying141, sz25⟩)
 isInt := fun k h => (by cases h)
 zsize := rfl
 izero := by kernel_rfl
 bytes := by kernel_rfl
 pos := Nat.le_of_ble_eq_true rfl
 lone := fun h => rfl
 size := by kernel_rfl
 zero := fun w => by kernel_rfl
 fldA := fun k p hp b o w => (places_none hp (by simp)).elim
 fld := fun k p hp cs w v hv => (places_none hp (by simp)).elim
 bld := fun h => (by cases h)
def ti26 : TI := { size := 1, agg := false, zero := .pointer none, places := #[], aggs := #[], bool := false, elem := none, kind := none, ptr := true }
theorem ok26 : TI.Ok Tryz.prog 178 ti26 where
 row := ⟨_, Tryz.underlying178, rfl⟩
 isBool := fun h => (by cases h)
 isSlice := fun e n h => (by cases h)
 isInt := fun k h => (by cases h)
 isPtr := fun _ => by kernel_rfl
 zsize := rfl
 izero := by kernel_rfl
 bytes := by kernel_rfl
 pos := Nat.le_of_ble_eq_true rfl
 lone := fun h => rfl
 size := by kernel_rfl
 zero := fun w => by kernel_rfl
 fldA := fun k p hp b o w => (places_none hp (by simp)).elim
 fld := fun k p hp cs w v hv => (places_none hp (by simp)).elim
 bld := fun h => (by cases h)

def table (t : TypeId) : Option TI :=
 bif Nat.beq t 2 then some ti0 else
 bif Nat.beq t 3 then some ti1 else
 bif Nat.beq t 4 then some ti2 else
 bif Nat.beq t 5 then some ti3 else
 bif Nat.beq t 9 then some ti4 else
 bif Nat.beq t 12 then some ti5 else
 bif Nat.beq t 22 then some ti6 else
 bif Nat.beq t 23 then some ti7 else
 bif Nat.beq t 25 then some ti8 else
 bif Nat.beq t 27 then some ti9 else
 bif Nat.beq t 29 then some ti10 else
 bif Nat.beq t 31 then some ti11 else
 bif Nat.beq t 33 then some ti12 else
 bif Nat.beq t 35 then some ti13 else
 bif Nat.beq t 37 then some ti14 else
 bif Nat.beq t 59 then some ti15 else
 bif Nat.beq t 70 then some ti16 else
 bif Nat.beq t 73 then some ti17 else
 bif Nat.beq t 91 then some ti18 else
 bif Nat.beq t 98 then some ti19 else
 bif Nat.beq t 105 then some ti20 else
 bif Nat.beq t 107 then some ti21 else
 bif Nat.beq t 108 then some ti22 else
 bif Nat.beq t 115 then some ti23 else
 bif Nat.beq t 135 then some ti24 else
 bif Nat.beq t 141 then some ti25 else
 bif Nat.beq t 178 then some ti26 else none
theorem bif_some {α : Type} {b : Bool} {x y : Option α} {z : α} (h : (bif b then x else y) = some z) : (b = true ∧ x = some z) ∨ (b = false ∧ y = some z) := by
 cases b
 ·exact .inr ⟨rfl, h⟩
 ·exact .inl ⟨rfl, h⟩
theorem table_ok : ∀ t i, table t = some i → TI.Ok Tryz.prog t i := by
 intro t i h
 unfold table at h
 rcases bif_some h with ⟨e, h⟩ | ⟨_, h⟩
 ·cases h; rw [Nat.eq_of_beq_eq_true e]; exact ok0
 rcases bif_some h with ⟨e, h⟩ | ⟨_, h⟩
 ·cases h; rw [Nat.eq_of_beq_eq_true e]; exact ok1
 rcases bif_some h with ⟨e, h⟩ | ⟨_, h⟩
 ·cases h; rw [Nat.eq_of_beq_eq_true e]; exact ok2
 rcases bif_some h with ⟨e, h⟩ | ⟨_, h⟩
 ·cases h; rw [Nat.eq_of_beq_eq_true e]; exact ok3
 rcases bif_some h with ⟨e, h⟩ | ⟨_, h⟩
 ·cases h; rw [Nat.eq_of_beq_eq_true e]; exact ok4
 rcases bif_some h with ⟨e, h⟩ | ⟨_, h⟩
 ·cases h; rw [Nat.eq_of_beq_eq_true e]; exact ok5
 rcases bif_some h with ⟨e, h⟩ | ⟨_, h⟩
 ·cases h; rw [Nat.eq_of_beq_eq_true e]; exact ok6
 rcases bif_some h with ⟨e, h⟩ | ⟨_, h⟩
 ·cases h; rw [Nat.eq_of_beq_eq_true e]; exact ok7
 rcases bif_some h with ⟨e, h⟩ | ⟨_, h⟩
 ·cases h; rw [Nat.eq_of_beq_eq_true e]; exact ok8
 rcases bif_some h with ⟨e, h⟩ | ⟨_, h⟩
 ·cases h; rw [Nat.eq_of_beq_eq_true e]; exact ok9
 rcases bif_some h with ⟨e, h⟩ | ⟨_, h⟩
 ·cases h; rw [Nat.eq_of_beq_eq_true e]; exact ok10
 rcases bif_some h with ⟨e, h⟩ | ⟨_, h⟩
 ·cases h; rw [Nat.eq_of_beq_eq_true e]; exact ok11
 rcases bif_some h with ⟨e, h⟩ | ⟨_, h⟩
 ·cases h; rw [Nat.eq_of_beq_eq_true e]; exact ok12
 rcases bif_some h with ⟨e, h⟩ | ⟨_, h⟩
 ·cases h; rw [Nat.eq_of_beq_eq_true e]; exact ok13
 rcases bif_some h with ⟨e, h⟩ | ⟨_, h⟩
 ·cases h; rw [Nat.eq_of_beq_eq_true e]; exact ok14
 rcases bif_some h with ⟨e, h⟩ | ⟨_, h⟩
 ·cases h; rw [Nat.eq_of_beq_eq_true e]; exact ok15
 rcases bif_some h with ⟨e, h⟩ | ⟨_, h⟩
 ·cases h; rw [Nat.eq_of_beq_eq_true e]; exact ok16
 rcases bif_some h with ⟨e, h⟩ | ⟨_, h⟩
 ·cases h; rw [Nat.eq_of_beq_eq_true e]; exact ok17
 rcases bif_some h with ⟨e, h⟩ | ⟨_, h⟩
 ·cases h; rw [Nat.eq_of_beq_eq_true e]; exact ok18
 rcases bif_some h with ⟨e, h⟩ | ⟨_, h⟩
 ·cases h; rw [Nat.eq_of_beq_eq_true e]; exact ok19
 rcases bif_some h with ⟨e, h⟩ | ⟨_, h⟩
 ·cases h; rw [Nat.eq_of_beq_eq_true e]; exact ok20
 rcases bif_some h with ⟨e, h⟩ | ⟨_, h⟩
 ·cases h; rw [Nat.eq_of_beq_eq_true e]; exact ok21
 rcases bif_some h with ⟨e, h⟩ | ⟨_, h⟩
 ·cases h; rw [Nat.eq_of_beq_eq_true e]; exact ok22
 rcases bif_some h with ⟨e, h⟩ | ⟨_, h⟩
 ·cases h; rw [Nat.eq_of_beq_eq_true e]; exact ok23
 rcases bif_some h with ⟨e, h⟩ | ⟨_, h⟩
 ·cases h; rw [Nat.eq_of_beq_eq_true e]; exact ok24
 rcases bif_some h with ⟨e, h⟩ | ⟨_, h⟩
 ·cases h; rw [Nat.eq_of_beq_eq_true e]; exact ok25
 rcases bif_some h with ⟨e, h⟩ | ⟨_, h⟩
 ·cases h; rw [Nat.eq_of_beq_eq_true e]; exact ok26
 cases h

abbrev UU : TypeId := 107
abbrev cxOf (P : Program) (w : World) (N : Nat) : Cx := { P := P, w0 := w, N := N, K := KU UU, SU := fun t => Nat.beq t 23, ti := table, keep := fun _ _ => trivial }
abbrev KI : KC := ⟨UU, fun _ => True, fun t => Nat.beq t 3⟩
abbrev cxI (P : Program) (w : World) (N : Nat) : Cx := { P := P, w0 := w, N := N, K := KI, SU := fun t => Nat.beq t 23 || Nat.beq t 135, ti := table, keep := fun _ _ => trivial }
theorem cxI_ok (w : World) (N : Nat) : (cxI Tryz.prog w N).Ok := table_ok
theorem cxI_mixed (w : World) (N : Nat) : (cxI Tryz.prog w N).P.follows .mixedOrders = true := by show Tryz.prog.follows .mixedOrders = true; kernel_rfl
theorem cx_ok (w : World) (N : Nat) : (cxOf Tryz.prog w N).Ok := table_ok
theorem cx_mixed (w : World) (N : Nat) : (cxOf Tryz.prog w N).P.follows .mixedOrders = true := by show Tryz.prog.follows .mixedOrders = true; kernel_rfl

section
variable {C : Cx} {m : Option (List FuncId)} {full : Array Oper} {K : Fr → Hp → World → Prop} {F F' : Fr} {H H' : Hp} {w w1 : World} {N : Nat} {o : Oper} {r l l' : List Oper} {Q : Exit → Act → World → Prop} {k k' : List It} {v : AV} {u : Option (Nat × (TypeId × List AV))} {id : Nat} {ops : Array Oper}
theorem wN (h : K F H w) : vcOps C m full [] K F H w := VO.nil h
theorem wV (e : runD C full 80 l F H = (l', F', H')) (h : vcOps C m full l' K F' H' w) : vcOps C m full l K F H w := VO.run 80 e h
theorem wO (e : stepOf C full F H o = .det v u) (e' : runD C full 80 r (F.puto o.dst v) (H.upd u) = (l', F', H')) (h : vcOps C m full l' K F' H' w) : vcOps C m full (o :: r) K F H w := VO.op1 e (VO.run 80 e' h)
theorem cx_r (e : runD (cxOf Tryz.prog w1 N) ops 80 ops.toList F H = (l', F', H')) (h : vcOps (cxOf Tryz.prog w1 N) none ops l' (VS (cxOf Tryz.prog w1 N) Q k) F' H' w) : VS (cxOf Tryz.prog w1 N) Q (.code (.region id ops false) :: k) F H w := VS.region (cx_ok _ _) (VO.run 80 e h)
theorem cx_d (e : runD (cxOf Tryz.prog w1 N) ops 80 ops.toList F H = (l', F', H')) (h : vcOps (cxOf Tryz.prog w1 N) (some []) ops l' (VS (cxOf Tryz.prog w1 N) Q k) F' H' w) (hchk : drawOk (cxOf Tryz.prog w1 N).SU [] ops = true := by kernel_rfl) : VS (cxOf Tryz.prog w1 N) Q (.code (.region id ops true) :: k) F H w := VS.draw (cx_ok _ _) (cx_mixed _ _) [] hchk (VO.run 80 e h)
theorem cxI_r (e : runD (cxI Tryz.prog w1 N) ops 80 ops.toList F H = (l', F', H')) (h : vcOps (cxI Tryz.prog w1 N) none ops l' (VS (cxI Tryz.prog w1 N) Q k) F' H' w) : VS (cxI Tryz.prog w1 N) Q (.code (.region id ops false) :: k) F H w := VS.region (cxI_ok _ _) (VO.run 80 e h)
theorem cxI_d (e : runD (cxI Tryz.prog w1 N) ops 80 ops.toList F H = (l', F', H')) (h : vcOps (cxI Tryz.prog w1 N) (some []) ops l' (VS (cxI Tryz.prog w1 N) Q k) F' H' w) (hchk : drawOk (cxI Tryz.prog w1 N).SU [] ops = true := by kernel_rfl) : VS (cxI Tryz.prog w1 N) Q (.code (.region id ops true) :: k) F H w := VS.draw (cxI_ok _ _) (cxI_mixed _ _) [] hchk (VO.run 80 e h)
def peel (F : Fr) : List It → Option (List It)
 | .code (.seq x y) :: k => some (.code x :: .code y :: k)
 | .code (.block id c) :: k => some (.code c :: .blk id :: k)
 | .blk _ :: k => some k
 | .code .skip :: k => some k
 | .code (.exit id) :: k => pop id k
 | .code (.cond c x y) :: k => (match evv F c with
  | some (.bool true) => some (.code x :: k)
  | some (.bool false) => some (.code y :: k)
  | _ => none)
 | _ => none
theorem wP (e : peel F k = some k') (h : VS C Q k' F H w) : VS C Q k F H w := by
 unfold peel at e
 split at e
 ·cases e; exact VS.seq h
 ·cases e; exact VS.block h
 ·cases e; exact VS.blk h
 ·cases e; exact VS.skip h
 ·exact VS.exit e h
 ·split at e
  ·rename_i hc; cases e; exact VS.condT hc h
  ·rename_i hc; cases e; exact VS.condF hc h
  ·cases e
 ·cases e
theorem fk {P : Program} {g : FuncId} {fn : Func} (h : P.funcs[g]? = some fn) (h1 : (fn.name == "runtime.NumGoroutine") = false := by kernel_rfl) (h2 : fn.body.isNone = false := by kernel_rfl) : FnOk P g := ⟨fn, h, h1, h2⟩
theorem kU (w : World) : KpS (KU UU) w w := KpS.refl _ _
theorem kR {k : KC} (w : World) : KpS k w w := KpS.refl _ _
theorem kT {k : KC} {a b c : World} (h : KpS k a b) (h' : KpS k b c) : KpS k a c := h.thn h'
end
end Go.Proofs.YtofdiijioejljaaGreat
