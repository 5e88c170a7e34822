/- Calm walks over this program: what the types are. -/
import Derived.Test.YtohlmpibnnkanaaGreatCalmI
set_option linter.all false
namespace Go.Proofs.YtohlmpibnnkanaaGreat
open Go.RowKit

theorem bld_of {P : Program} {t : TypeId} {zero : Value} {places : Array (Nat × Nat)} {fs : Array Field} (hz : ∀ w, (zeroValue t).run P w = .ok zero w) (hu : P.underlying t = some (.struct fs))
  (hp : ∀ w, (fs.mapM (fun f => do pure (f.offset, ← sizeOf f.type)) : Sem (Array (Nat × Nat))).run P w = .ok places w) (ps : Array (Nat × Value)) (w : World) (cs : Array Value)
  (h : Instr.fill (places[·]?) zero.cells ps.toList = some cs) : (Instr.build t ps).run P w = .ok (.agg cs) w := by
 unfold Instr.build
 simp only [Sem.run_bind, hz, Result.andThen_ok, run_underlying hu, hp]
 rw [h]
 rfl
theorem fld_agg {P : Program} {t : TypeId} {k : Nat} {fs : Array Field} {f : Field} (o n : Nat) (hu : P.underlying t = some (.struct fs)) (hf : fs[k]? = some f) (ho : f.offset = o) (hb : ∀ w, (isAgg f.type).run P w = .ok true w) (hs : ∀ w, (sizeOf f.type).run P w = .ok n w)
  {cs : Array Value} {w : World} {v : Value} (h : some (Value.agg (cs.extract o (o + n))) = some v) : (Instr.field t (.agg cs) k).run P w = .ok v w := by
 cases h
 subst ho
 unfold Instr.field
 simp [run_underlying hu, hf, asAgg, part, hb, hs]
theorem fld_one {P : Program} {t : TypeId} {k : Nat} {fs : Array Field} {f : Field} (o : Nat) (hu : P.underlying t = some (.struct fs)) (hf : fs[k]? = some f) (ho : f.offset = o) (hb : ∀ w, (isAgg f.type).run P w = .ok false w)
  {cs : Array Value} {w : World} {v : Value} (h : cs[o]? = some v) : (Instr.field t (.agg cs) k).run P w = .ok v w := by
 subst ho
 unfold Instr.field
 simp [run_underlying hu, hf, asAgg, part, hb, h]
theorem places_none {α : Type} {l : List α} {k : Nat} {p : α} (h : l.toArray[k]? = some p) (hk : l.length ≤ k) : False := by
 rw [Array.getElem?_eq_none (by simpa using hk)] at h
 cases h

def ti0 : TI := { size := 1, agg := false, zero := .int .i64 0, places := #[], aggs := #[], bool := false, elem := none, kind := some .i64 }
theorem ok0 : TI.Ok Tryz.prog 2 ti0 where
 row := ⟨_, Tryz.underlying2, rfl⟩
 isBool := fun h => (by cases h)
 isSlice := fun e n h => (by cases h)
 isInt := fun k h => (by cases h; exact Tryz.underlying2)
 zsize := rfl
 izero := by kernel_rfl
 bytes := by kernel_rfl
 pos := Nat.le_of_ble_eq_true rfl
 lone := fun h => rfl
 size := by kernel_rfl
 zero := fun w => by kernel_rfl
 fldA := fun k p hp b o w => (places_none hp (by simp)).elim
 fld := fun k p hp cs w v hv => (places_none hp (by simp)).elim
 bld := fun h => (by cases h)
def ti1 : TI := { size := 1, agg := false, zero := .int .i64 0, places := #[], aggs := #[], bool := false, elem := none, kind := some .i64 }
theorem ok1 : TI.Ok Tryz.prog 3 ti1 where
 row := ⟨_, Tryz.underlying3, rfl⟩
 isBool := fun h => (by cases h)
 isSlice := fun e n h => (by cases h)
 isInt := fun k h => (by cases h; exact Tryz.underlying3)
 zsize := rfl
 izero := by kernel_rfl
 bytes := by kernel_rfl
 pos := Nat.le_of_ble_eq_true rfl
 lone := fun h => rfl
 size := by kernel_rfl
 zero := fun w => by kernel_rfl
 fldA := fun k p hp b o w => (places_none hp (by simp)).elim
 fld := fun k p hp cs w v hv => (places_none hp (by simp)).elim
 bld := fun h => (by cases h)
def ti2 : TI := { size := 1, agg := false, zero := .bool false, places := #[], aggs := #[], bool := true, elem := none, kind := none }
theorem ok2 : TI.Ok Tryz.prog 4 ti2 where
 row := ⟨_, Tryz.underlying4, rfl⟩
 isBool := fun h => Tryz.underlying4
 isSlice := fun e n h => (by cases h)
 isInt := fun k h => (by cases h)
 zsize := rfl
 izero := by kernel_rfl
 bytes := by kernel_rfl
 pos := Nat.le_of_ble_eq_true rfl
 lone := fun h => rfl
 size := by kernel_rfl
 zero := fun w => by kernel_rfl
 fldA := fun k p hp b o w => (places_none hp (by simp)).elim
 fld := fun k p hp cs w v hv => (places_none hp (by simp)).elim
 bld := fun h => (by cases h)
def ti3 : TI := { size := 1, agg := false, zero := .int .u8 0, places := #[], aggs := #[], bool := false, elem := none, kind := some .u8 }
theorem ok3 : TI.Ok Tryz.prog 5 ti3 where
 row := ⟨_, Tryz.underlying5, rfl⟩
 isBool := fun h => (by cases h)
 isSlice := fun e n h => (by cases h)
 isInt := fun k h => (by cases h; exact Tryz.underlying5)
 zsize := rfl
 izero := by kernel_rfl
 bytes := by kernel_rfl
 pos := Nat.le_of_ble_eq_true rfl
 lone := fun h => rfl
 size := by kernel_rfl
 zero := fun w => by kernel_rfl
 fldA := fun k p hp b o w => (places_none hp (by simp)).elim
 fld := fun k p hp cs w v hv => (places_none hp (by simp)).elim
 bld := fun h => (by cases h)
def ti4 : TI := { size := 1, agg := false, zero := .string ⟨#[]⟩, places := #[], aggs := #[], bool := false, elem := none, kind := none }
theorem ok4 : TI.Ok Tryz.prog 9 ti4 where
 row := ⟨_, Tryz.underlying9, rfl⟩
 isBool := fun h => (by cases h)
 isSlice := fun e n h => (by cases h)
 isInt := fun k h => (by cases h)
 zsize := rfl
 izero := by kernel_rfl
 bytes := by kernel_rfl
 pos := Nat.le_of_ble_eq_true rfl
 lone := fun h => rfl
 size := by kernel_rfl
 zero := fun w => by kernel_rfl
 fldA := fun k p hp b o w => (places_none hp (by simp)).elim
 fld := fun k p hp cs w v hv => (places_none hp (by simp)).elim
 bld := fun h => (by cases h)
def ti5 : TI := { size := 1, agg := false, zero := .int .u64 0, places := #[], aggs := #[], bool := false, elem := none, kind := some .u64 }
theorem ok5 : TI.Ok Tryz.prog 12 ti5 where
 row := ⟨_, Tryz.underlying12, rfl⟩
 isBool := fun h => (by cases h)
 isSlice := fun e n h => (by cases h)
 isInt := fun k h => (by cases h; exact Tryz.underlying12)
 zsize := rfl
 izero := by kernel_rfl
 bytes := by kernel_rfl
 pos := Nat.le_of_ble_eq_true rfl
 lone := fun h => rfl
 size := by kernel_rfl
 zero := fun w => by kernel_rfl
 fldA := fun k p hp b o w => (places_none hp (by simp)).elim
 fld := fun k p hp cs w v hv => (places_none hp (by simp)).elim
 bld := fun h => (by cases h)
def ti6 : TI := { size := 1, agg := false, zero := .slice none 0 0, places := #[], aggs := #[], bool := false, elem := some (36, 6), kind := none }
theorem sz6 (w : World) : (sizeOf 36).run Tryz.prog w = .ok 6 w := by kernel_rfl
theorem ok6 : TI.Ok Tryz.prog 22 ti6 where
 row := ⟨_, Tryz.underlying22, rfl⟩
 isBool := fun h => (by cases h)
 isSlice := fun e n h => (by cases h; exact ⟨Tryz.underlying22, sz6⟩)
 isInt := fun k h => (by cases h)
 zsize := rfl
 izero := by kernel_rfl
 bytes := by kernel_rfl
 pos := Nat.le_of_ble_eq_true rfl
 lone := fun h => rfl
 size := by kernel_rfl
 zero := fun w => by kernel_rfl
 fldA := fun k p hp b o w => (places_none hp (by simp)).elim
 fld := fun k p hp cs w v hv => (places_none hp (by simp)).elim
 bld := fun h => (by cases h)
def ti7 : TI := { size := 1, agg := false, zero := .pointer none, places := #[], aggs := #[], bool := false, elem := none, kind := none, ptr := true }
theorem ok7 : TI.Ok Tryz.prog 25 ti7 where
 row := ⟨_, Tryz.underlying25, rfl⟩
 isBool := fun h => (by cases h)
 isSlice := fun e n h => (by cases h)
 isInt := fun k h => (by cases h)
 isPtr := fun _ => by kernel_rfl
 zsize := rfl
 izero := by kernel_rfl
 bytes := by kernel_rfl
 pos := Nat.le_of_ble_eq_true rfl
 lone := fun h => rfl
 size := by kernel_rfl
 zero := fun w => by kernel_rfl
 fldA := fun k p hp b o w => (places_none hp (by simp)).elim
 fld := fun k p hp cs w v hv => (places_none hp (by simp)).elim
 bld := fun h => (by cases h)
def ti8 : TI := { size := 1, agg := false, zero := .int .i64 0, places := #[], aggs := #[], bool := false, elem := none, kind := some .i64 }
theorem ok8 : TI.Ok Tryz.prog 26 ti8 where
 row := ⟨_, Tryz.underlying26, rfl⟩
 isBool := fun h => (by cases h)
 isSlice := fun e n h => (by cases h)
 isInt := fun k h => (by cases h; exact Tryz.underlying26)
 zsize := rfl
 izero := by kernel_rfl
 bytes := by kernel_rfl
 pos := Nat.le_of_ble_eq_true rfl
 lone := fun h => rfl
 size := by kernel_rfl
 zero := fun w => by kernel_rfl
 fldA := fun k p hp b o w => (places_none hp (by simp)).elim
 fld := fun k p hp cs w v hv => (places_none hp (by simp)).elim
 bld := fun h => (by cases h)
def ti9 : TI := { size := 1, agg := false, zero := .slice none 0 0, places := #[], aggs := #[], bool := false, elem := some (59, 1), kind := none }
theorem sz9 (w : World) : (sizeOf 59).run Tryz.prog w = .ok 1 w := by kernel_rfl
theorem ok9 : TI.Ok Tryz.prog 29 ti9 where
 row := ⟨_, Tryz.underlying29, rfl⟩
 isBool := fun h => (by cases h)
 isSlice := fun e n h => (by cases h; exact ⟨Tryz.underlying29, sz9⟩)
 isInt := fun k h => (by cases h)
 zsize := rfl
 izero := by kernel_rfl
 bytes := by kernel_rfl
 pos := Nat.le_of_ble_eq_true rfl
 lone := fun h => rfl
 size := by kernel_rfl
 zero := fun w => by kernel_rfl
 fldA := fun k p hp b o w => (places_none hp (by simp)).elim
 fld := fun k p hp cs w v hv => (places_none hp (by simp)).elim
 bld := fun h => (by cases h)
def ti10 : TI := { size := 2, agg := true, zero := .agg #[.bool false, .slice none 0 0], places := #[(0, 1), (1, 1)], aggs := #[false, false], bool := false, elem := none, kind := none }
theorem ok10 : TI.Ok Tryz.prog 31 ti10 where
 row := ⟨_, Tryz.underlying31, rfl⟩
 isBool := fun h => (by cases h)
 isSlice := fun e n h => (by cases h)
 isInt := fun k h => (by cases h)
 zsize := rfl
 izero := by kernel_rfl
 bytes := by kernel_rfl
 pos := Nat.le_of_ble_eq_true rfl
 lone := fun h => (by cases h)
 size := by kernel_rfl
 zero := fun w => by kernel_rfl
 fldA := fun k p hp b o w => match k, hp with
  | 0, hp => by cases hp; kernel_rfl
  | 1, hp => by cases hp; kernel_rfl
  | n + 2, hp => (places_none hp (by simp)).elim
 fld := fun k p hp cs w v hv => match k, hp with
  | 0, hp => by cases hp; exact fld_one 0 Tryz.underlying31 rfl rfl (fun w => by kernel_rfl) hv
  | 1, hp => by cases hp; exact fld_one 1 Tryz.underlying31 rfl rfl (fun w => by kernel_rfl) hv
  | n + 2, hp => (places_none hp (by simp)).elim
 bld := fun _ => bld_of (fun w => by kernel_rfl) Tryz.underlying31 (fun w => by kernel_rfl)
def ti11 : TI := { size := 4, agg := true, zero := .agg #[.bool false, .slice none 0 0, .bool false, .slice none 0 0], places := #[(0, 2), (2, 2)], aggs := #[true, true], bool := false, elem := none, kind := none }
theorem ok11 : TI.Ok Tryz.prog 33 ti11 where
 row := ⟨_, Tryz.underlying33, rfl⟩
 isBool := fun h => (by cases h)
 isSlice := fun e n h => (by cases h)
 isInt := fun k h => (by cases h)
 zsize := rfl
 izero := by kernel_rfl
 bytes := by kernel_rfl
 pos := Nat.le_of_ble_eq_true rfl
 lone := fun h => (by cases h)
 size := by kernel_rfl
 zero := fun w => by kernel_rfl
 fldA := fun k p hp b o w => match k, hp with
  | 0, hp => by cases hp; kernel_rfl
  | 1, hp => by cases hp; kernel_rfl
  | n + 2, hp => (places_none hp (by simp)).elim
 fld := fun k p hp cs w v hv => match k, hp with
  | 0, hp => by cases hp; exact fld_agg 0 2 Tryz.underlying33 rfl rfl (fun w => by kernel_rfl) (fun w => by kernel_rfl) hv
  | 1, hp => by cases hp; exact fld_agg 2 2 Tryz.underlying33 rfl rfl (fun w => by kernel_rfl) (fun w => by kernel_rfl) hv
  | n + 2, hp => (places_none hp (by simp)).elim
 bld := fun _ => bld_of (fun w => by kernel_rfl) Tryz.underlying33 (fun w => by kernel_rfl)
def ti12 : TI := { size := 6, agg := true, zero := .agg #[.int .i64 0, .int .i64 0, .bool false, .slice none 0 0, .bool false, .slice none 0 0], places := #[(0, 1), (1, 1), (2, 4)], aggs := #[false, false, true], bool := false, elem := none, kind := none }
theorem ok12 : TI.Ok Tryz.prog 36 ti12 where
 row := ⟨_, Tryz.underlying36, rfl⟩
 isBool := fun h => (by cases h)
 isSlice := fun e n h => (by cases h)
 isInt := fun k h => (by cases h)
 zsize := rfl
 izero := by kernel_rfl
 bytes := by kernel_rfl
 pos := Nat.le_of_ble_eq_true rfl
 lone := fun h => (by cases h)
 size := by kernel_rfl
 zero := fun w => by kernel_rfl
 fldA := fun k p hp b o w => match k, hp with
  | 0, hp => by cases hp; kernel_rfl
  | 1, hp => by cases hp; kernel_rfl
  | 2, hp => by cases hp; kernel_rfl
  | n + 3, hp => (places_none hp (by simp)).elim
 fld := fun k p hp cs w v hv => match k, hp with
  | 0, hp => by cases hp; exact fld_one 0 Tryz.underlying36 rfl rfl (fun w => by kernel_rfl) hv
  | 1, hp => by cases hp; exact fld_one 1 Tryz.underlying36 rfl rfl (fun w => by kernel_rfl) hv
  | 2, hp => by cases hp; exact fld_agg 2 4 Tryz.underlying36 rfl rfl (fun w => by kernel_rfl) (fun w => by kernel_rfl) hv
  | n + 3, hp => (places_none hp (by simp)).elim
 bld := fun _ => bld_of (fun w => by kernel_rfl) Tryz.underlying36 (fun w => by kernel_rfl)
def ti13 : TI := { size := 1, agg := false, zero := .slice none 0 0, places := #[], aggs := #[], bool := false, elem := some (55, 6), kind := none }
theorem sz13 (w : World) : (sizeOf 55).run Tryz.prog w = .ok 6 w := by kernel_rfl
theorem ok13 : TI.Ok Tryz.prog 45 ti13 where
 row := ⟨_, Tryz.underlying45, rfl⟩
 isBool := fun h => (by cases h)
 isSlice := fun e n h => (by cases h; exact ⟨Tryz.underlying45, sz13⟩)
 isInt := fun k h => (by cases h)
 zsize := rfl
 izero := by kernel_rfl
 bytes := by kernel_rfl
 pos := Nat.le_of_ble_eq_true rfl
 lone := fun h => rfl
 size := by kernel_rfl
 zero := fun w => by kernel_rfl
 fldA := fun k p hp b o w => (places_none hp (by simp)).elim
 fld := fun k p hp cs w v hv => (places_none hp (by simp)).elim
 bld := fun h => (by cases h)
def ti14 : TI := { size := 2, agg := true, zero := .agg #[.bool false, .slice none 0 0], places := #[(0, 1), (1, 1)], aggs := #[false, false], bool := false, elem := none, kind := none }
theorem ok14 : TI.Ok Tryz.prog 50 ti14 where
 row := ⟨_, Tryz.underlying50, rfl⟩
 isBool := fun h => (by cases h)
 isSlice := fun e n h => (by cases h)
 isInt := fun k h => (by cases h)
 zsize := rfl
 izero := by kernel_rfl
 bytes := by kernel_rfl
 pos := Nat.le_of_ble_eq_true rfl
 lone := fun h => (by cases h)
 size := by kernel_rfl
 zero := fun w => by kernel_rfl
 fldA := fun k p hp b o w => match k, hp with
  | 0, hp => by cases hp; kernel_rfl
  | 1, hp => by cases hp; kernel_rfl
  | n + 2, hp => (places_none hp (by simp)).elim
 fld := fun k p hp cs w v hv => match k, hp with
  | 0, hp => by cases hp; exact fld_one 0 Tryz.underlying50 rfl rfl (fun w => by kernel_rfl) hv
  | 1, hp => by cases hp; exact fld_one 1 Tryz.underlying50 rfl rfl (fun w => by kernel_rfl) hv
  | n + 2, hp => (places_none hp (by simp)).elim
 bld := fun _ => bld_of (fun w => by kernel_rfl) Tryz.underlying50 (fun w => by kernel_rfl)
def ti15 : TI := { size := 4, agg := true, zero := .agg #[.bool false, .slice none 0 0, .bool false, .slice none 0 0], places := #[(0, 2), (2, 2)], aggs := #[true, true], bool := false, elem := none, kind := none }
theorem ok15 : TI.Ok Tryz.prog 52 ti15 where
 row := ⟨_, Tryz.underlying52, rfl⟩
 isBool := fun h => (by cases h)
 isSlice := fun e n h => (by cases h)
 isInt := fun k h => (by cases h)
 zsize := rfl
 izero := by kernel_rfl
 bytes := by kernel_rfl
 pos := Nat.le_of_ble_eq_true rfl
 lone := fun h => (by cases h)
 size := by kernel_rfl
 zero := fun w => by kernel_rfl
 fldA := fun k p hp b o w => match k, hp with
  | 0, hp => by cases hp; kernel_rfl
  | 1, hp => by cases hp; kernel_rfl
  | n + 2, hp => (places_none hp (by simp)).elim
 fld := fun k p hp cs w v hv => match k, hp with
  | 0, hp => by cases hp; exact fld_agg 0 2 Tryz.underlying52 rfl rfl (fun w => by kernel_rfl) (fun w => by kernel_rfl) hv
  | 1, hp => by cases hp; exact fld_agg 2 2 Tryz.underlying52 rfl rfl (fun w => by kernel_rfl) (fun w => by kernel_rfl) hv
  | n + 2, hp => (places_none hp (by simp)).elim
 bld := fun _ => bld_of (fun w => by kernel_rfl) Tryz.underlying52 (fun w => by kernel_rfl)
def ti16 : TI := { size := 6, agg := true, zero := .agg #[.int .i64 0, .int .i64 0, .bool false, .slice none 0 0, .bool false, .slice none 0 0], places := #[(0, 1), (1, 1), (2, 4)], aggs := #[false, false, true], bool := false, elem := none, kind := none }
theorem ok16 : TI.Ok Tryz.prog 55 ti16 where
 row := ⟨_, Tryz.underlying55, rfl⟩
 isBool := fun h => (by cases h)
 isSlice := fun e n h => (by cases h)
 isInt := fun k h => (by cases h)
 zsize := rfl
 izero := by kernel_rfl
 bytes := by kernel_rfl
 pos := Nat.le_of_ble_eq_true rfl
 lone := fun h => (by cases h)
 size := by kernel_rfl
 zero := fun w => by kernel_rfl
 fldA := fun k p hp b o w => match k, hp with
  | 0, hp => by cases hp; kernel_rfl
  | 1, hp => by cases hp; kernel_rfl
  | 2, hp => by cases hp; kernel_rfl
  | n + 3, hp => (places_none hp (by simp)).elim
 fld := fun k p hp cs w v hv => match k, hp with
  | 0, hp => by cases hp; exact fld_one 0 Tryz.underlying55 rfl rfl (fun w => by kernel_rfl) hv
  | 1, hp => by cases hp; exact fld_one 1 Tryz.underlying55 rfl rfl (fun w => by kernel_rfl) hv
  | 2, hp => by cases hp; exact fld_agg 2 4 Tryz.underlying55 rfl rfl (fun w => by kernel_rfl) (fun w => by kernel_rfl) hv
  | n + 3, hp => (places_none hp (by simp)).elim
 bld := fun _ => bld_of (fun w => by kernel_rfl) Tryz.underlying55 (fun w => by kernel_rfl)
def ti17 : TI := { size := 1, agg := false, zero := .int .u32 0, places := #[], aggs := #[], bool := false, elem := none, kind := some .u32 }
theorem ok17 : TI.Ok Tryz.prog 59 ti17 where
 row := ⟨_, Tryz.underlying59, rfl⟩
 isBool := fun h => (by cases h)
 isSlice := fun e n h => (by cases h)
 isInt := fun k h => (by cases h; exact Tryz.underlying59)
 zsize := rfl
 izero := by kernel_rfl
 bytes := by kernel_rfl
 pos := Nat.le_of_ble_eq_true rfl
 lone := fun h => rfl
 size := by kernel_rfl
 zero := fun w => by kernel_rfl
 fldA := fun k p hp b o w => (places_none hp (by simp)).elim
 fld := fun k p hp cs w v hv => (places_none hp (by simp)).elim
 bld := fun h => (by cases h)
def ti18 : TI := { size := 9, agg := true, zero := .agg #[.bool false, .slice none 0 0, .bool false, .slice none 0 0, .bool false, .slice none 0 0, .bool false, .slice none 0 0, .int .i64 0], places := #[(0, 4), (4, 4), (8, 1)], aggs := #[true, true, false], bool := false, elem := none, kind := none }
theorem ok18 : TI.Ok Tryz.prog 67 ti18 where
 row := ⟨_, Tryz.underlying67, rfl⟩
 isBool := fun h => (by cases h)
 isSlice := fun e n h => (by cases h)
 isInt := fun k h => (by cases h)
 zsize := rfl
 izero := by kernel_rfl
 bytes := by kernel_rfl
 pos := Nat.le_of_ble_eq_true rfl
 lone := fun h => (by cases h)
 size := by kernel_rfl
 zero := fun w => by kernel_rfl
 fldA := fun k p hp b o w => match k, hp with
  | 0, hp => by cases hp; kernel_rfl
  | 1, hp => by cases hp; kernel_rfl
  | 2, hp => by cases hp; kernel_rfl
  | n + 3, hp => (places_none hp (by simp)).elim
 fld := fun k p hp cs w v hv => match k, hp with
  | 0, hp => by cases hp; exact fld_agg 0 4 Tryz.underlying67 rfl rfl (fun w => by kernel_rfl) (fun w => by kernel_rfl) hv
  | 1, hp => by cases hp; exact fld_agg 4 4 Tryz.underlying67 rfl rfl (fun w => by kernel_rfl) (fun w => by kernel_rfl) hv
  | 2, hp => by cases hp; exact fld_one 8 Tryz.underlying67 rfl rfl (fun w => by kernel_rfl) hv
  | n + 3, hp => (places_none hp (by simp)).elim
 bld := fun _ => bld_of (fun w => by kernel_rfl) Tryz.underlying67 (fun w => by kernel_rfl)
def ti19 : TI := { size := 1, agg := false, zero := .slice none 0 0, places := #[], aggs := #[], bool := false, elem := some (84, 8), kind := none }
theorem sz19 (w : World) : (sizeOf 84).run Tryz.prog w = .ok 8 w := by kernel_rfl
theorem ok19 : TI.Ok Tryz.prog 68 ti19 where
 row := ⟨_, Tryz.underlying68, rfl⟩
 isBool := fun h => (by cases h)
 isSlice := fun e n h => (by cases h; exact ⟨Tryz.underlying68, sz19⟩)
 isInt := fun k h => (by cases h)
 zsize := rfl
 izero := by kernel_rfl
 bytes := by kernel_rfl
 pos := Nat.le_of_ble_eq_true rfl
 lone := fun h => rfl
 size := by kernel_rfl
 zero := fun w => by kernel_rfl
 fldA := fun k p hp b o w => (places_none hp (by simp)).elim
 fld := fun k p hp cs w v hv => (places_none hp (by simp)).elim
 bld := fun h => (by cases h)
def ti20 : TI := { size := 1, agg := false, zero := .slice none 0 0, places := #[], aggs := #[], bool := false, elem := some (77, 28), kind := none }
theorem sz20 (w : World) : (sizeOf 77).run Tryz.prog w = .ok 28 w := by kernel_rfl
theorem ok20 : TI.Ok Tryz.prog 70 ti20 where
 row := ⟨_, Tryz.underlying70, rfl⟩
 isBool := fun h => (by cases h)
 isSlice := fun e n h => (by cases h; exact ⟨Tryz.underlying70, sz20⟩)
 isInt := fun k h => (by cases h)
 zsize := rfl
 izero := by kernel_rfl
 bytes := by kernel_rfl
 pos := Nat.le_of_ble_eq_true rfl
 lone := fun h => rfl
 size := by kernel_rfl
 zero := fun w => by kernel_rfl
 fldA := fun k p hp b o w => (places_none hp (by simp)).elim
 fld := fun k p hp cs w v hv => (places_none hp (by simp)).elim
 bld := fun h => (by cases h)
def ti21 : TI := { size := 1, agg := false, zero := .slice none 0 0, places := #[], aggs := #[], bool := false, elem := some (79, 6), kind := none }
theorem sz21 (w : World) : (sizeOf 79).run Tryz.prog w = .ok 6 w := by kernel_rfl
theorem ok21 : TI.Ok Tryz.prog 71 ti21 where
 row := ⟨_, Tryz.underlying71, rfl⟩
 isBool := fun h => (by cases h)
 isSlice := fun e n h => (by cases h; exact ⟨Tryz.underlying71, sz21⟩)
 isInt := fun k h => (by cases h)
 zsize := rfl
 izero := by kernel_rfl
 bytes := by kernel_rfl
 pos := Nat.le_of_ble_eq_true rfl
 lone := fun h => rfl
 size := by kernel_rfl
 zero := fun w => by kernel_rfl
 fldA := fun k p hp b o w => (places_none hp (by simp)).elim
 fld := fun k p hp cs w v hv => (places_none hp (by simp)).elim
 bld := fun h => (by cases h)
def ti22 : TI := { size := 2, agg := true, zero := .agg #[.slice none 0 0, .slice none 0 0], places := #[(0, 1), (1, 1)], aggs := #[false, false], bool := false, elem := none, kind := none }
theorem ok22 : TI.Ok Tryz.prog 73 ti22 where
 row := ⟨_, Tryz.underlying73, rfl⟩
 isBool := fun h => (by cases h)
 isSlice := fun e n h => (by cases h)
 isInt := fun k h => (by cases h)
 zsize := rfl
 izero := by kernel_rfl
 bytes := by kernel_rfl
 pos := Nat.le_of_ble_eq_true rfl
 lone := fun h => (by cases h)
 size := by kernel_rfl
 zero := fun w => by kernel_rfl
 fldA := fun k p hp b o w => match k, hp with
  | 0, hp => by cases hp; kernel_rfl
  | 1, hp => by cases hp; kernel_rfl
  | n + 2, hp => (places_none hp (by simp)).elim
 fld := fun k p hp cs w v hv => match k, hp with
  | 0, hp => by cases hp; exact fld_one 0 Tryz.underlying73 rfl rfl (fun w => by kernel_rfl) hv
  | 1, hp => by cases hp; exact fld_one 1 Tryz.underlying73 rfl rfl (fun w => by kernel_rfl) hv
  | n + 2, hp => (places_none hp (by simp)).elim
 bld := fun _ => bld_of (fun w => by kernel_rfl) Tryz.underlying73 (fun w => by kernel_rfl)
def ti23 : TI := { size := 28, agg := true, zero := .agg #[.bool false, .slice none 0 0, .bool false, .slice none 0 0, .bool false, .slice none 0 0, .bool false, .slice none 0 0, .bool false, .slice none 0 0, .bool false, .slice none 0 0, .bool false, .slice none 0 0, .bool false, .slice none 0 0, .bool false, .slice none 0 0, .bool false, .slice none 0 0, .bool false, .slice none 0 0, .bool false, .slice none 0 0, .bool false, .slice none 0 0, .bool false, .slice none 0 0], places := #[(0, 4), (4, 4), (8, 4), (12, 4), (16, 4), (20, 4), (24, 4)], aggs := #[true, true, true, true, true, true, true], bool := false, elem := none, kind := none }
theorem ok23 : TI.Ok Tryz.prog 77 ti23 where
 row := ⟨_, Tryz.underlying77, rfl⟩
 isBool := fun h => (by cases h)
 isSlice := fun e n h => (by cases h)
 isInt := fun k h => (by cases h)
 zsize := rfl
 izero := by kernel_rfl
 bytes := by kernel_rfl
 pos := Nat.le_of_ble_eq_true rfl
 lone := fun h => (by cases h)
 size := by kernel_rfl
 zero := fun w => by kernel_rfl
 fldA := fun k p hp b o w => match k, hp with
  | 0, hp => by cases hp; kernel_rfl
  | 1, hp => by cases hp; kernel_rfl
  | 2, hp => by cases hp; kernel_rfl
  | 3, hp => by cases hp; kernel_rfl
  | 4, hp => by cases hp; kernel_rfl
  | 5, hp => by cases hp; kernel_rfl
  | 6, hp => by cases hp; kernel_rfl
  | n + 7, hp => (places_none hp (by simp)).elim
 fld := fun k p hp cs w v hv => match k, hp with
  | 0, hp => by cases hp; exact fld_agg 0 4 Tryz.underlying77 rfl rfl (fun w => by kernel_rfl) (fun w => by kernel_rfl) hv
  | 1, hp => by cases hp; exact fld_agg 4 4 Tryz.underlying77 rfl rfl (fun w => by kernel_rfl) (fun w => by kernel_rfl) hv
  | 2, hp => by cases hp; exact fld_agg 8 4 Tryz.underlying77 rfl rfl (fun w => by kernel_rfl) (fun w => by kernel_rfl) hv
  | 3, hp => by cases hp; exact fld_agg 12 4 Tryz.underlying77 rfl rfl (fun w => by kernel_rfl) (fun w => by kernel_rfl) hv
  | 4, hp => by cases hp; exact fld_agg 16 4 Tryz.underlying77 rfl rfl (fun w => by kernel_rfl) (fun w => by kernel_rfl) hv
  | 5, hp => by cases hp; exact fld_agg 20 4 Tryz.underlying77 rfl rfl (fun w => by kernel_rfl) (fun w => by kernel_rfl) hv
  | 6, hp => by cases hp; exact fld_agg 24 4 Tryz.underlying77 rfl rfl (fun w => by kernel_rfl) (fun w => by kernel_rfl) hv
  | n + 7, hp => (places_none hp (by simp)).elim
 bld := fun _ => bld_of (fun w => by kernel_rfl) Tryz.underlying77 (fun w => by kernel_rfl)
def ti24 : TI := { size := 6, agg := true, zero := .agg #[.int .i64 0, .int .i64 0, .bool false, .slice none 0 0, .bool false, .slice none 0 0], places := #[(0, 1), (1, 1), (2, 4)], aggs := #[false, false, true], bool := false, elem := none, kind := none }
theorem ok24 : TI.Ok Tryz.prog 79 ti24 where
 row := ⟨_, Tryz.underlying79, rfl⟩
 isBool := fun h => (by cases h)
 isSlice := fun e n h => (by cases h)
 isInt := fun k h => (by cases h)
 zsize := rfl
 izero := by kernel_rfl
 bytes := by kernel_rfl
 pos := Nat.le_of_ble_eq_true rfl
 lone := fun h => (by cases h)
 size := by kernel_rfl
 zero := fun w => by kernel_rfl
 fldA := fun k p hp b o w => match k, hp with
  | 0, hp => by cases hp; kernel_rfl
  | 1, hp => by cases hp; kernel_rfl
  | 2, hp => by cases hp; kernel_rfl
  | n + 3, hp => (places_none hp (by simp)).elim
 fld := fun k p hp cs w v hv => match k, hp with
  | 0, hp => by cases hp; exact fld_one 0 Tryz.underlying79 rfl rfl (fun w => by kernel_rfl) hv
  | 1, hp => by cases hp; exact fld_one 1 Tryz.underlying79 rfl rfl (fun w => by kernel_rfl) hv
  | 2, hp => by cases hp; exact fld_agg 2 4 Tryz.underlying79 rfl rfl (fun w => by kernel_rfl) (fun w => by kernel_rfl) hv
  | n + 3, hp => (places_none hp (by simp)).elim
 bld := fun _ => bld_of (fun w => by kernel_rfl) Tryz.underlying79 (fun w => by kernel_rfl)
def ti25 : TI := { size := 8, agg := true, zero := .agg #[.bool false, .slice none 0 0, .bool false, .slice none 0 0, .bool false, .slice none 0 0, .bool false, .slice none 0 0], places := #[(0, 4), (4, 4)], aggs := #[true, true], bool := false, elem := none, kind := none }
theorem ok25 : TI.Ok Tryz.prog 84 ti25 where
 row := ⟨_, Tryz.underlying84, rfl⟩
 isBool := fun h => (by cases h)
 isSlice := fun e n h => (by cases h)
 isInt := fun k h => (by cases h)
 zsize := rfl
 izero := by kernel_rfl
 bytes := by kernel_rfl
 pos := Nat.le_of_ble_eq_true rfl
 lone := fun h => (by cases h)
 size := by kernel_rfl
 zero := fun w => by kernel_rfl
 fldA := fun k p hp b o w => match k, hp with
  | 0, hp => by cases hp; kernel_rfl
  | 1, hp => by cases hp; kernel_rfl
  | n + 2, hp => (places_none hp (by simp)).elim
 fld := fun k p hp cs w v hv => match k, hp with
  | 0, hp => by cases hp; exact fld_agg 0 4 Tryz.underlying84 rfl rfl (fun w => by kernel_rfl) (fun w => by kernel_rfl) hv
  | 1, hp => by cases hp; exact fld_agg 4 4 Tryz.underlying84 rfl rfl (fun w => by kernel_rfl) (fun w => by kernel_rfl) hv
  | n + 2, hp => (places_none hp (by simp)).elim
 bld := fun _ => bld_of (fun w => by kernel_rfl) Tryz.underlying84 (fun w => by kernel_rfl)
def ti26 : TI := { size := 9, agg := true, zero := .agg #[.bool false, .slice none 0 0, .bool false, .slice none 0 0, .bool false, .slice none 0 0, .bool false, .slice none 0 0, .int .i64 0], places := #[(0, 4), (4, 4), (8, 1)], aggs := #[true, true, false], bool := false, elem := none, kind := none }
theorem ok26 : TI.Ok Tryz.prog 87 ti26 where
 row := ⟨_, Tryz.underlying87, rfl⟩
 isBool := fun h => (by cases h)
 isSlice := fun e n h => (by cases h)
 isInt := fun k h => (by cases h)
 zsize := rfl
 izero := by kernel_rfl
 bytes := by kernel_rfl
 pos := Nat.le_of_ble_eq_true rfl
 lone := fun h => (by cases h)
 size := by kernel_rfl
 zero := fun w => by kernel_rfl
 fldA := fun k p hp b o w => match k, hp with
  | 0, hp => by cases hp; kernel_rfl
  | 1, hp => by cases hp; kernel_rfl
  | 2, hp => by cases hp; kernel_rfl
  | n + 3, hp => (places_none hp (by simp)).elim
 fld := fun k p hp cs w v hv => match k, hp with
  | 0, hp => by cases hp; exact fld_agg 0 4 Tryz.underlying87 rfl rfl (fun w => by kernel_rfl) (fun w => by kernel_rfl) hv
  | 1, hp => by cases hp; exact fld_agg 4 4 Tryz.underlying87 rfl rfl (fun w => by kernel_rfl) (fun w => by kernel_rfl) hv
  | 2, hp => by cases hp; exact fld_one 8 Tryz.underlying87 rfl rfl (fun w => by kernel_rfl) hv
  | n + 3, hp => (places_none hp (by simp)).elim
 bld := fun _ => bld_of (fun w => by kernel_rfl) Tryz.underlying87 (fun w => by kernel_rfl)
def ti27 : TI := { size := 1, agg := false, zero := .slice none 0 0, places := #[], aggs := #[], bool := false, elem := some (147, 8), kind := none }
theorem sz27 (w : World) : (sizeOf 147).run Tryz.prog w = .ok 8 w := by kernel_rfl
theorem ok27 : TI.Ok Tryz.prog 89 ti27 where
 row := ⟨_, Tryz.underlying89, rfl⟩
 isBool := fun h => (by cases h)
 isSlice := fun e n h => (by cases h; exact ⟨Tryz.underlying89, sz27⟩)
 isInt := fun k h => (by cases h)
 zsize := rfl
 izero := by kernel_rfl
 bytes := by kernel_rfl
 pos := Nat.le_of_ble_eq_true rfl
 lone := fun h => rfl
 size := by kernel_rfl
 zero := fun w => by kernel_rfl
 fldA := fun k p hp b o w => (places_none hp (by simp)).elim
 fld := fun k p hp cs w v hv => (places_none hp (by simp)).elim
 bld := fun h => (by cases h)
def ti28 : TI := { size := 1, agg := false, zero := .slice none 0 0, places := #[], aggs := #[], bool := false, elem := some (154, 28), kind := none }
theorem sz28 (w : World) : (sizeOf 154).run Tryz.prog w = .ok 28 w := by kernel_rfl
theorem ok28 : TI.Ok Tryz.prog 91 ti28 where
 row := ⟨_, Tryz.underlying91, rfl⟩
 isBool := fun h => (by cases h)
 isSlice := fun e n h => (by cases h; exact ⟨Tryz.underlying91, sz28⟩)
 isInt := fun k h => (by cases h)
 zsize := rfl
 izero := by kernel_rfl
 bytes := by kernel_rfl
 pos := Nat.le_of_ble_eq_true rfl
 lone := fun h => rfl
 size := by kernel_rfl
 zero := fun w => by kernel_rfl
 fldA := fun k p hp b o w => (places_none hp (by simp)).elim
 fld := fun k p hp cs w v hv => (places_none hp (by simp)).elim
 bld := fun h => (by cases h)
def ti29 : TI := { size := 1, agg := false, zero := .slice none 0 0, places := #[], aggs := #[], bool := false, elem := some (152, 6), kind := none }
theorem sz29 (w : World) : (sizeOf 152).run Tryz.prog w = .ok 6 w := by kernel_rfl
theorem ok29 : TI.Ok Tryz.prog 92 ti29 where
 row := ⟨_, Tryz.underlying92, rfl⟩
 isBool := fun h => (by cases h)
 isSlice := fun e n h => (by cases h; exact ⟨Tryz.underlying92, sz29⟩)
 isInt := fun k h => (by cases h)
 zsize := rfl
 izero := by kernel_rfl
 bytes := by kernel_rfl
 pos := Nat.le_of_ble_eq_true rfl
 lone := fun h => rfl
 size := by kernel_rfl
 zero := fun w => by kernel_rfl
 fldA := fun k p hp b o w => (places_none hp (by simp)).elim
 fld := fun k p hp cs w v hv => (places_none hp (by simp)).elim
 bld := fun h => (by cases h)
def ti30 : TI := { size := 2, agg := true, zero := .agg #[.slice none 0 0, .slice none 0 0], places := #[(0, 1), (1, 1)], aggs := #[false, false], bool := false, elem := none, kind := none }
theorem ok30 : TI.Ok Tryz.prog 94 ti30 where
 row := ⟨_, Tryz.underlying94, rfl⟩
 isBool := fun h => (by cases h)
 isSlice := fun e n h => (by cases h)
 isInt := fun k h => (by cases h)
 zsize := rfl
 izero := by kernel_rfl
 bytes := by kernel_rfl
 pos := Nat.le_of_ble_eq_true rfl
 lone := fun h => (by cases h)
 size := by kernel_rfl
 zero := fun w => by kernel_rfl
 fldA := fun k p hp b o w => match k, hp with
  | 0, hp => by cases hp; kernel_rfl
  | 1, hp => by cases hp; kernel_rfl
  | n + 2, hp => (places_none hp (by simp)).elim
 fld := fun k p hp cs w v hv => match k, hp with
  | 0, hp => by cases hp; exact fld_one 0 Tryz.underlying94 rfl rfl (fun w => by kernel_rfl) hv
  | 1, hp => by cases hp; exact fld_one 1 Tryz.underlying94 rfl rfl (fun w => by kernel_rfl) hv
  | n + 2, hp => (places_none hp (by simp)).elim
 bld := fun _ => bld_of (fun w => by kernel_rfl) Tryz.underlying94 (fun w => by kernel_rfl)
def ti31 : TI := { size := 1, agg := false, zero := .slice none 0 0, places := #[], aggs := #[], bool := false, elem := some (33, 4), kind := none }
theorem sz31 (w : World) : (sizeOf 33).run Tryz.prog w = .ok 4 w := by kernel_rfl
theorem ok31 : TI.Ok Tryz.prog 103 ti31 where
 row := ⟨_, Tryz.underlying103, rfl⟩
 isBool := fun h => (by cases h)
 isSlice := fun e n h => (by cases h; exact ⟨Tryz.underlying103, sz31⟩)
 isInt := fun k h => (by cases h)
 zsize := rfl
 izero := by kernel_rfl
 bytes := by kernel_rfl
 pos := Nat.le_of_ble_eq_true rfl
 lone := fun h => rfl
 size := by kernel_rfl
 zero := fun w => by kernel_rfl
 fldA := fun k p hp b o w => (places_none hp (by simp)).elim
 fld := fun k p hp cs w v hv => (places_none hp (by simp)).elim
 bld := fun h => (by cases h)
def ti32 : TI := { size := 1, agg := false, zero := .slice none 0 0, places := #[], aggs := #[], bool := false, elem := some (2, 1), kind := none }
theorem sz32 (w : World) : (sizeOf 2).run Tryz.prog w = .ok 1 w := by kernel_rfl
theorem ok32 : TI.Ok Tryz.prog 110 ti32 where
 row := ⟨_, Tryz.underlying110, rfl⟩
 isBool := fun h => (by cases h)
 isSlice := fun e n h => (by cases h; exact ⟨Tryz.underlying110, sz32⟩)
 isInt := fun k h => (by cases h)
 zsize := rfl
 izero := by kernel_rfl
 bytes := by kernel_rfl
 pos := Nat.le_of_ble_eq_true rfl
 lone := fun h => rfl
 size := by kernel_rfl
 zero := fun w => by kernel_rfl
 fldA := fun k p hp b o w => (places_none hp (by simp)).elim
 fld := fun k p hp cs w v hv => (places_none hp (by simp)).elim
 bld := fun h => (by cases h)
def ti33 : TI := { size := 1, agg := true, zero := .agg #[.slice none 0 0], places := #[(0, 1)], aggs := #[false], bool := false, elem := none, kind := none }
theorem ok33 : TI.Ok Tryz.prog 120 ti33 where
 row := ⟨_, Tryz.underlying120, rfl⟩
 isBool := fun h => (by cases h)
 isSlice := fun e n h => (by cases h)
 isInt := fun k h => (by cases h)
 zsize := rfl
 izero := by kernel_rfl
 bytes := by kernel_rfl
 pos := Nat.le_of_ble_eq_true rfl
 lone := fun h => (by cases h)
 size := by kernel_rfl
 zero := fun w => by kernel_rfl
 fldA := fun k p hp b o w => match k, hp with
  | 0, hp => by cases hp; kernel_rfl
  | n + 1, hp => (places_none hp (by simp)).elim
 fld := fun k p hp cs w v hv => match k, hp with
  | 0, hp => by cases hp; exact fld_one 0 Tryz.underlying120 rfl rfl (fun w => by kernel_rfl) hv
  | n + 1, hp => (places_none hp (by simp)).elim
 bld := fun _ => bld_of (fun w => by kernel_rfl) Tryz.underlying120 (fun w => by kernel_rfl)
def ti34 : TI := { size := 1, agg := true, zero := .agg #[.slice none 0 0], places := #[(0, 1)], aggs := #[true], bool := false, elem := none, kind := none }
theorem ok34 : TI.Ok Tryz.prog 122 ti34 where
 row := ⟨_, Tryz.underlying122, rfl⟩
 isBool := fun h => (by cases h)
 isSlice := fun e n h => (by cases h)
 isInt := fun k h => (by cases h)
 zsize := rfl
 izero := by kernel_rfl
 bytes := by kernel_rfl
 pos := Nat.le_of_ble_eq_true rfl
 lone := fun h => (by cases h)
 size := by kernel_rfl
 zero := fun w => by kernel_rfl
 fldA := fun k p hp b o w => match k, hp with
  | 0, hp => by cases hp; kernel_rfl
  | n + 1, hp => (places_none hp (by simp)).elim
 fld := fun k p hp cs w v hv => match k, hp with
  | 0, hp => by cases hp; exact fld_agg 0 1 Tryz.underlying122 rfl rfl (fun w => by kernel_rfl) (fun w => by kernel_rfl) hv
  | n + 1, hp => (places_none hp (by simp)).elim
 bld := fun _ => bld_of (fun w => by kernel_rfl) Tryz.underlying122 (fun w => by kernel_rfl)
def ti35 : TI := { size := 1, agg := false, zero := .pointer none, places := #[], aggs := #[], bool := false, elem := none, kind := none, ptr := true }
theorem ok35 : TI.Ok Tryz.prog 134 ti35 where
 row := ⟨_, Tryz.underlying134, rfl⟩
 isBool := fun h => (by cases h)
 isSlice := fun e n h => (by cases h)
 isInt := fun k h => (by cases h)
 isPtr := fun _ => by kernel_rfl
 zsize := rfl
 izero := by kernel_rfl
 bytes := by kernel_rfl
 pos := Nat.le_of_ble_eq_true rfl
 lone := fun h => rfl
 size := by kernel_rfl
 zero := fun w => by kernel_rfl
 fldA := fun k p hp b o w => (places_none hp (by simp)).elim
 fld := fun k p hp cs w v hv => (places_none hp (by simp)).elim
 bld := fun h => (by cases h)
def ti36 : TI := { size := 1, agg := false, zero := .slice none 0 0, places := #[], aggs := #[], bool := false, elem := some (142, 5), kind := none }
theorem sz36 (w : World) : (sizeOf 142).run Tryz.prog w = .ok 5 w := by kernel_rfl
theorem ok36 : TI.Ok Tryz.prog 135 ti36 where
 row := ⟨_, Tryz.underlying135, rfl⟩
 isBool := fun h => (by cases h)
 isSlice := fun e n h => (by cases h; exact ⟨Tryz.underlying135, sz36⟩)
 isInt := fun k h => (by cases h)
 zsize := rfl
 izero := by kernel_rfl
 bytes := by kernel_rfl
 pos := Nat.le_of_ble_eq_true rfl
 lone := fun h => rfl
 size := by kernel_rfl
 zero := fun w => by kernel_rfl
 fldA := fun k p hp b o w => (places_none hp (by simp)).elim
 fld := fun k p hp cs w v hv => (places_none hp (by simp)).elim
 bld := fun h => (by cases h)
def ti37 : TI := { size := 1, agg := true, zero := .agg #[.slice none 0 0], places := #[(0, 1)], aggs := #[false], bool := false, elem := none, kind := none }
theorem ok37 : TI.Ok Tryz.prog 137 ti37 where
 row := ⟨_, Tryz.underlying137, rfl⟩
 isBool := fun h => (by cases h)
 isSlice := fun e n h => (by cases h)
 isInt := fun k h => (by cases h)
 zsize := rfl
 izero := by kernel_rfl
 bytes := by kernel_rfl
 pos := Nat.le_of_ble_eq_true rfl
 lone := fun h => (by cases h)
 size := by kernel_rfl
 zero := fun w => by kernel_rfl
 fldA := fun k p hp b o w => match k, hp with
  | 0, hp => by cases hp; kernel_rfl
  | n + 1, hp => (places_none hp (by simp)).elim
 fld := fun k p hp cs w v hv => match k, hp with
  | 0, hp => by cases hp; exact fld_one 0 Tryz.underlying137 rfl rfl (fun w => by kernel_rfl) hv
  | n + 1, hp => (places_none hp (by simp)).elim
 bld := fun _ => bld_of (fun w => by kernel_rfl) Tryz.underlying137 (fun w => by kernel_rfl)
def ti38 : TI := { size := 3, agg := true, zero := .agg #[.slice none 0 0, .slice none 0 0, .slice none 0 0], places := #[(0, 1), (1, 2)], aggs := #[true, true], bool := false, elem := none, kind := none }
theorem ok38 : TI.Ok Tryz.prog 139 ti38 where
 row := ⟨_, Tryz.underlying139, rfl⟩
 isBool := fun h => (by cases h)
 isSlice := fun e n h => (by cases h)
 isInt := fun k h => (by cases h)
 zsize := rfl
 izero := by kernel_rfl
 bytes := by kernel_rfl
 pos := Nat.le_of_ble_eq_true rfl
 lone := fun h => (by cases h)
 size := by kernel_rfl
 zero := fun w => by kernel_rfl
 fldA := fun k p hp b o w => match k, hp with
  | 0, hp => by cases hp; kernel_rfl
  | 1, hp => by cases hp; kernel_rfl
  | n + 2, hp => (places_none hp (by simp)).elim
 fld := fun k p hp cs w v hv => match k, hp with
  | 0, hp => by cases hp; exact fld_agg 0 1 Tryz.underlying139 rfl rfl (fun w => by kernel_rfl) (fun w => by kernel_rfl) hv
  | 1, hp => by cases hp; exact fld_agg 1 2 Tryz.underlying139 rfl rfl (fun w => by kernel_rfl) (fun w => by kernel_rfl) hv
  | n + 2, hp => (places_none hp (by simp)).elim
 bld := fun _ => bld_of (fun w => by kernel_rfl) Tryz.underlying139 (fun w => by kernel_rfl)
def ti39 : TI := { size := 5, agg := true, zero := .agg #[.int .i64 0, .bool false, .slice none 0 0, .bool false, .slice none 0 0], places := #[(0, 1), (1, 4)], aggs := #[false, true], bool := false, elem := none, kind := none }
theorem ok39 : TI.Ok Tryz.prog 142 ti39 where
 row := ⟨_, Tryz.underlying142, rfl⟩
 isBool := fun h => (by cases h)
 isSlice := fun e n h => (by cases h)
 isInt := fun k h => (by cases h)
 zsize := rfl
 izero := by kernel_rfl
 bytes := by kernel_rfl
 pos := Nat.le_of_ble_eq_true rfl
 lone := fun h => (by cases h)
 size := by kernel_rfl
 zero := fun w => by kernel_rfl
 fldA := fun k p hp b o w => match k, hp with
  | 0, hp => by cases hp; kernel_rfl
  | 1, hp => by cases hp; kernel_rfl
  | n + 2, hp => (places_none hp (by simp)).elim
 fld := fun k p hp cs w v hv => match k, hp with
  | 0, hp => by cases hp; exact fld_one 0 Tryz.underlying142 rfl rfl (fun w => by kernel_rfl) hv
  | 1, hp => by cases hp; exact fld_agg 1 4 Tryz.underlying142 rfl rfl (fun w => by kernel_rfl) (fun w => by kernel_rfl) hv
  | n + 2, hp => (places_none hp (by simp)).elim
 bld := fun _ => bld_of (fun w => by kernel_rfl) Tryz.underlying142 (fun w => by kernel_rfl)
def ti40 : TI := { size := 8, agg := true, zero := .agg #[.bool false, .slice none 0 0, .bool false, .slice none 0 0, .bool false, .slice none 0 0, .bool false, .slice none 0 0], places := #[(0, 4), (4, 4)], aggs := #[true, true], bool := false, elem := none, kind := none }
theorem ok40 : TI.Ok Tryz.prog 147 ti40 where
 row := ⟨_, Tryz.underlying147, rfl⟩
 isBool := fun h => (by cases h)
 isSlice := fun e n h => (by cases h)
 isInt := fun k h => (by cases h)
 zsize := rfl
 izero := by kernel_rfl
 bytes := by kernel_rfl
 pos := Nat.le_of_ble_eq_true rfl
 lone := fun h => (by cases h)
 size := by kernel_rfl
 zero := fun w => by kernel_rfl
 fldA := fun k p hp b o w => match k, hp with
  | 0, hp => by cases hp; kernel_rfl
  | 1, hp => by cases hp; kernel_rfl
  | n + 2, hp => (places_none hp (by simp)).elim
 fld := fun k p hp cs w v hv => match k, hp with
  | 0, hp => by cases hp; exact fld_agg 0 4 Tryz.underlying147 rfl rfl (fun w => by kernel_rfl) (fun w => by kernel_rfl) hv
  | 1, hp => by cases hp; exact fld_agg 4 4 Tryz.underlying147 rfl rfl (fun w => by kernel_rfl) (fun w => by kernel_rfl) hv
  | n + 2, hp => (places_none hp (by simp)).elim
 bld := fun _ => bld_of (fun w => by kernel_rfl) Tryz.underlying147 (fun w => by kernel_rfl)
def ti41 : TI := { size := 1, agg := false, zero := .slice none 0 0, places := #[], aggs := #[], bool := false, elem := some (52, 4), kind := none }
theorem sz41 (w : World) : (sizeOf 52).run Tryz.prog w = .ok 4 w := by kernel_rfl
theorem ok41 : TI.Ok Tryz.prog 149 ti41 where
 row := ⟨_, Tryz.underlying149, rfl⟩
 isBool := fun h => (by cases h)
 isSlice := fun e n h => (by cases h; exact ⟨Tryz.underlying149, sz41⟩)
 isInt := fun k h => (by cases h)
 zsize := rfl
 izero := by kernel_rfl
 bytes := by kernel_rfl
 pos := Nat.le_of_ble_eq_true rfl
 lone := fun h => rfl
 size := by kernel_rfl
 zero := fun w => by kernel_rfl
 fldA := fun k p hp b o w => (places_none hp (by simp)).elim
 fld := fun k p hp cs w v hv => (places_none hp (by simp)).elim
 bld := fun h => (by cases h)
def ti42 : TI := { size := 6, agg := true, zero := .agg #[.int .i64 0, .int .i64 0, .bool false, .slice none 0 0, .bool false, .slice none 0 0], places := #[(0, 1), (1, 1), (2, 4)], aggs := #[false, false, true], bool := false, elem := none, kind := none }
theorem ok42 : TI.Ok Tryz.prog 152 ti42 where
 row := ⟨_, Tryz.underlying152, rfl⟩
 isBool := fun h => (by cases h)
 isSlice := fun e n h => (by cases h)
 isInt := fun k h => (by cases h)
 zsize := rfl
 izero := by kernel_rfl
 bytes := by kernel_rfl
 pos := Nat.le_of_ble_eq_true rfl
 lone := fun h => (by cases h)
 size := by kernel_rfl
 zero := fun w => by kernel_rfl
 fldA := fun k p hp b o w => match k, hp with
  | 0, hp => by cases hp; kernel_rfl
  | 1, hp => by cases hp; kernel_rfl
  | 2, hp => by cases hp; kernel_rfl
  | n + 3, hp => (places_none hp (by simp)).elim
 fld := fun k p hp cs w v hv => match k, hp with
  | 0, hp => by cases hp; exact fld_one 0 Tryz.underlying152 rfl rfl (fun w => by kernel_rfl) hv
  | 1, hp => by cases hp; exact fld_one 1 Tryz.underlying152 rfl rfl (fun w => by kernel_rfl) hv
  | 2, hp => by cases hp; exact fld_agg 2 4 Tryz.underlying152 rfl rfl (fun w => by kernel_rfl) (fun w => by kernel_rfl) hv
  | n + 3, hp => (places_none hp (by simp)).elim
 bld := fun _ => bld_of (fun w => by kernel_rfl) Tryz.underlying152 (fun w => by kernel_rfl)
def ti43 : TI := { size := 28, agg := true, zero := .agg #[.bool false, .slice none 0 0, .bool false, .slice none 0 0, .bool false, .slice none 0 0, .bool false, .slice none 0 0, .bool false, .slice none 0 0, .bool false, .slice none 0 0, .bool false, .slice none 0 0, .bool false, .slice none 0 0, .bool false, .slice none 0 0, .bool false, .slice none 0 0, .bool false, .slice none 0 0, .bool false, .slice none 0 0, .bool false, .slice none 0 0, .bool false, .slice none 0 0], places := #[(0, 4), (4, 4), (8, 4), (12, 4), (16, 4), (20, 4), (24, 4)], aggs := #[true, true, true, true, true, true, true], bool := false, elem := none, kind := none }
theorem ok43 : TI.Ok Tryz.prog 154 ti43 where
 row := ⟨_, Tryz.underlying154, rfl⟩
 isBool := fun h => (by cases h)
 isSlice := fun e n h => (by cases h)
 isInt := fun k h => (by cases h)
 zsize := rfl
 izero := by kernel_rfl
 bytes := by kernel_rfl
 pos := Nat.le_of_ble_eq_true rfl
 lone := fun h => (by cases h)
 size := by kernel_rfl
 zero := fun w => by kernel_rfl
 fldA := fun k p hp b o w => match k, hp with
  | 0, hp => by cases hp; kernel_rfl
  | 1, hp => by cases hp; kernel_rfl
  | 2, hp => by cases hp; kernel_rfl
  | 3, hp => by cases hp; kernel_rfl
  | 4, hp => by cases hp; kernel_rfl
  | 5, hp => by cases hp; kernel_rfl
  | 6, hp => by cases hp; kernel_rfl
  | n + 7, hp => (places_none hp (by simp)).elim
 fld := fun k p hp cs w v hv => match k, hp with
  | 0, hp => by cases hp; exact fld_agg 0 4 Tryz.underlying154 rfl rfl (fun w => by kernel_rfl) (fun w => by kernel_rfl) hv
  | 1, hp => by cases hp; exact fld_agg 4 4 Tryz.underlying154 rfl rfl (fun w => by kernel_rfl) (fun w => by kernel_rfl) hv
  | 2, hp => by cases hp; exact fld_agg 8 4 Tryz.underlying154 rfl rfl (fun w => by kernel_rfl) (fun w => by kernel_rfl) hv
  | 3, hp => by cases hp; exact fld_agg 12 4 Tryz.underlying154 rfl rfl (fun w => by kernel_rfl) (fun w => by kernel_rfl) hv
  | 4, hp => by cases hp; exact fld_agg 16 4 Tryz.underlying154 rfl rfl (fun w => by kernel_rfl) (fun w => by kernel_rfl) hv
  | 5, hp => by cases hp; exact fld_agg 20 4 Tryz.underlying154 rfl rfl (fun w => by kernel_rfl) (fun w => by kernel_rfl) hv
  | 6, hp => by cases hp; exact fld_agg 24 4 Tryz.underlying154 rfl rfl (fun w => by kernel_rfl) (fun w => by kernel_rfl) hv
  | n + 7, hp => (places_none hp (by simp)).elim
 bld := fun _ => bld_of (fun w => by kernel_rfl) Tryz.underlying154 (fun w => by kernel_rfl)
def ti44 : TI := { size := 1, agg := false, zero := .int .u64 0, places := #[], aggs := #[], bool := false, elem := none, kind := some .u64 }
theorem ok44 : TI.Ok Tryz.prog 168 ti44 where
 row := ⟨_, Tryz.underlying168, rfl⟩
 isBool := fun h => (by cases h)
 isSlice := fun e n h => (by cases h)
 isInt := fun k h => (by cases h; exact Tryz.underlying168)
 zsize := rfl
 izero := by kernel_rfl
 bytes := by kernel_rfl
 pos := Nat.le_of_ble_eq_true rfl
 lone := fun h => rfl
 size := by kernel_rfl
 zero := fun w => by kernel_rfl
 fldA := fun k p hp b o w => (places_none hp (by simp)).elim
 fld := fun k p hp cs w v hv => (places_none hp (by simp)).elim
 bld := fun h => (by cases h)
def ti45 : TI := { size := 1, agg := false, zero := .int .u64 0, places := #[], aggs := #[], bool := false, elem := none, kind := some .u64 }
theorem ok45 : TI.Ok Tryz.prog 170 ti45 where
 row := ⟨_, Tryz.underlying170, rfl⟩
 isBool := fun h => (by cases h)
 isSlice := fun e n h => (by cases h)
 isInt := fun k h => (by cases h; exact Tryz.underlying170)
 zsize := rfl
 izero := by kernel_rfl
 bytes := by kernel_rfl
 pos := Nat.le_of_ble_eq_true rfl
 lone := fun h => rfl
 size := by kernel_rfl
 zero := fun w => by kernel_rfl
 fldA := fun k p hp b o w => (places_none hp (by simp)).elim
 fld := fun k p hp cs w v hv => (places_none hp (by simp)).elim
 bld := fun h => (by cases h)
def ti46 : TI := { size := 2, agg := true, zero := .agg #[.bool false, .slice none 0 0], places := #[(0, 2)], aggs := #[true], bool := false, elem := none, kind := none }
theorem ok46 : TI.Ok Tryz.prog 175 ti46 where
 row := ⟨_, Tryz.underlying175, rfl⟩
 isBool := fun h => (by cases h)
 isSlice := fun e n h => (by cases h)
 isInt := fun k h => (by cases h)
 zsize := rfl
 izero := by kernel_rfl
 bytes := by kernel_rfl
 pos := Nat.le_of_ble_eq_true rfl
 lone := fun h => (by cases h)
 size := by kernel_rfl
 zero := fun w => by kernel_rfl
 fldA := fun k p hp b o w => match k, hp with
  | 0, hp => by cases hp; kernel_rfl
  | n + 1, hp => (places_none hp (by simp)).elim
 fld := fun k p hp cs w v hv => match k, hp with
  | 0, hp => by cases hp; exact fld_agg 0 2 Tryz.underlying175 rfl rfl (fun w => by kernel_rfl) (fun w => by kernel_rfl) hv
  | n + 1, hp => (places_none hp (by simp)).elim
 bld := fun _ => bld_of (fun w => by kernel_rfl) Tryz.underlying175 (fun w => by kernel_rfl)
def ti47 : TI := { size := 1, agg := false, zero := .pointer none, places := #[], aggs := #[], bool := false, elem := none, kind := none, ptr := true }
theorem ok47 : TI.Ok Tryz.prog 178 ti47 where
 row := ⟨_, Tryz.underlying178, rfl⟩
 isBool := fun h => (by cases h)
 isSlice := fun e n h => (by cases h)
 isInt := fun k h => (by cases h)
 isPtr := fun _ => by kernel_rfl
 zsize := rfl
 izero := by kernel_rfl
 bytes := by kernel_rfl
 pos := Nat.le_of_ble_eq_true rfl
 lone := fun h => rfl
 size := by kernel_rfl
 zero := fun w => by kernel_rfl
 fldA := fun k p hp b o w => (places_none hp (by simp)).elim
 fld := fun k p hp cs w v hv => (places_none hp (by simp)).elim
 bld := fun h => (by cases h)
def ti48 : TI := { size := 1, agg := false, zero := .pointer none, places := #[], aggs := #[], bool := false, elem := none, kind := none, ptr := true }
theorem ok48 : TI.Ok Tryz.prog 190 ti48 where
 row := ⟨_, Tryz.underlying190, rfl⟩
 isBool := fun h => (by cases h)
 isSlice := fun e n h => (by cases h)
 isInt := fun k h => (by cases h)
 isPtr := fun _ => by kernel_rfl
 zsize := rfl
 izero := by kernel_rfl
 bytes := by kernel_rfl
 pos := Nat.le_of_ble_eq_true rfl
 lone := fun h => rfl
 size := by kernel_rfl
 zero := fun w => by kernel_rfl
 fldA := fun k p hp b o w => (places_none hp (by simp)).elim
 fld := fun k p hp cs w v hv => (places_none hp (by simp)).elim
 bld := fun h => (by cases h)
def ti49 : TI := { size := 1, agg := false, zero := .slice none 0 0, places := #[], aggs := #[], bool := false, elem := some (3, 1), kind := none }
theorem sz49 (w : World) : (sizeOf 3).run Tryz.prog w = .ok 1 w := by kernel_rfl
theorem ok49 : TI.Ok Tryz.prog 202 ti49 where
 row := ⟨_, Tryz.underlying202, rfl⟩
 isBool := fun h => (by cases h)
 isSlice := fun e n h => (by cases h; exact ⟨Tryz.underlying202, sz49⟩)
 isInt := fun k h => (by cases h)
 zsize := rfl
 izero := by kernel_rfl
 bytes := by kernel_rfl
 pos := Nat.le_of_ble_eq_true rfl
 lone := fun h => rfl
 size := by kernel_rfl
 zero := fun w => by kernel_rfl
 fldA := fun k p hp b o w => (places_none hp (by simp)).elim
 fld := fun k p hp cs w v hv => (places_none hp (by simp)).elim
 bld := fun h => (by cases h)
def ti50 : TI := { size := 1, agg := false, zero := .slice none 0 0, places := #[], aggs := #[], bool := false, elem := some (29, 1), kind := none }
theorem sz50 (w : World) : (sizeOf 29).run Tryz.prog w = .ok 1 w := by kernel_rfl
theorem ok50 : TI.Ok Tryz.prog 210 ti50 where
 row := ⟨_, Tryz.underlying210, rfl⟩
 isBool := fun h => (by cases h)
 isSlice := fun e n h => (by cases h; exact ⟨Tryz.underlying210, sz50⟩)
 isInt := fun k h => (by cases h)
 zsize := rfl
 izero := by kernel_rfl
 bytes := by kernel_rfl
 pos := Nat.le_of_ble_eq_true rfl
 lone := fun h => rfl
 size := by kernel_rfl
 zero := fun w => by kernel_rfl
 fldA := fun k p hp b o w => (places_none hp (by simp)).elim
 fld := fun k p hp cs w v hv => (places_none hp (by simp)).elim
 bld := fun h => (by cases h)
def ti51 : TI := { size := 4, agg := true, zero := .agg #[.bool false, .slice none 0 0, .bool false, .slice none 0 0], places := #[(0, 4)], aggs := #[true], bool := false, elem := none, kind := none }
theorem ok51 : TI.Ok Tryz.prog 218 ti51 where
 row := ⟨_, Tryz.underlying218, rfl⟩
 isBool := fun h => (by cases h)
 isSlice := fun e n h => (by cases h)
 isInt := fun k h => (by cases h)
 zsize := rfl
 izero := by kernel_rfl
 bytes := by kernel_rfl
 pos := Nat.le_of_ble_eq_true rfl
 lone := fun h => (by cases h)
 size := by kernel_rfl
 zero := fun w => by kernel_rfl
 fldA := fun k p hp b o w => match k, hp with
  | 0, hp => by cases hp; kernel_rfl
  | n + 1, hp => (places_none hp (by simp)).elim
 fld := fun k p hp cs w v hv => match k, hp with
  | 0, hp => by cases hp; exact fld_agg 0 4 Tryz.underlying218 rfl rfl (fun w => by kernel_rfl) (fun w => by kernel_rfl) hv
  | n + 1, hp => (places_none hp (by simp)).elim
 bld := fun _ => bld_of (fun w => by kernel_rfl) Tryz.underlying218 (fun w => by kernel_rfl)
def ti52 : TI := { size := 1, agg := false, zero := .pointer none, places := #[], aggs := #[], bool := false, elem := none, kind := none, ptr := true }
theorem ok52 : TI.Ok Tryz.prog 220 ti52 where
 row := ⟨_, Tryz.underlying220, rfl⟩
 isBool := fun h => (by cases h)
 isSlice := fun e n h => (by cases h)
 isInt := fun k h => (by cases h)
 isPtr := fun _ => by kernel_rfl
 zsize := rfl
 izero := by kernel_rfl
 bytes := by kernel_rfl
 pos := Nat.le_of_ble_eq_true rfl
 lone := fun h => rfl
 size := by kernel_rfl
 zero := fun w => by kernel_rfl
 fldA := fun k p hp b o w => (places_none hp (by simp)).elim
 fld := fun k p hp cs w v hv => (places_none hp (by simp)).elim
 bld := fun h => (by cases h)
def ti53 : TI := { size := 1, agg := false, zero := .pointer none, places := #[], aggs := #[], bool := false, elem := none, kind := none, ptr := true }
theorem ok53 : TI.Ok Tryz.prog 254 ti53 where
 row := ⟨_, Tryz.underlying254, rfl⟩
 isBool := fun h => (by cases h)
 isSlice := fun e n h => (by cases h)
 isInt := fun k h => (by cases h)
 isPtr := fun _ => by kernel_rfl
 zsize := rfl
 izero := by kernel_rfl
 bytes := by kernel_rfl
 pos := Nat.le_of_ble_eq_true rfl
 lone := fun h => rfl
 size := by kernel_rfl
 zero := fun w => by kernel_rfl
 fldA := fun k p hp b o w => (places_none hp (by simp)).elim
 fld := fun k p hp cs w v hv => (places_none hp (by simp)).elim
 bld := fun h => (by cases h)

def table (t : TypeId) : Option TI :=
 bif Nat.beq t 2 then some ti0 else
 bif Nat.beq t 3 then some ti1 else
 bif Nat.beq t 4 then some ti2 else
 bif Nat.beq t 5 then some ti3 else
 bif Nat.beq t 9 then some ti4 else
 bif Nat.beq t 12 then some ti5 else
 bif Nat.beq t 22 then some ti6 else
 bif Nat.beq t 25 then some ti7 else
 bif Nat.beq t 26 then some ti8 else
 bif Nat.beq t 29 then some ti9 else
 bif Nat.beq t 31 then some ti10 else
 bif Nat.beq t 33 then some ti11 else
 bif Nat.beq t 36 then some ti12 else
 bif Nat.beq t 45 then some ti13 else
 bif Nat.beq t 50 then some ti14 else
 bif Nat.beq t 52 then some ti15 else
 bif Nat.beq t 55 then some ti16 else
 bif Nat.beq t 59 then some ti17 else
 bif Nat.beq t 67 then some ti18 else
 bif Nat.beq t 68 then some ti19 else
 bif Nat.beq t 70 then some ti20 else
 bif Nat.beq t 71 then some ti21 else
 bif Nat.beq t 73 then some ti22 else
 bif Nat.beq t 77 then some ti23 else
 bif Nat.beq t 79 then some ti24 else
 bif Nat.beq t 84 then some ti25 else
 bif Nat.beq t 87 then some ti26 else
 bif Nat.beq t 89 then some ti27 else
 bif Nat.beq t 91 then some ti28 else
 bif Nat.beq t 92 then some ti29 else
 bif Nat.beq t 94 then some ti30 else
 bif Nat.beq t 103 then some ti31 else
 bif Nat.beq t 110 then some ti32 else
 bif Nat.beq t 120 then some ti33 else
 bif Nat.beq t 122 then some ti34 else
 bif Nat.beq t 134 then some ti35 else
 bif Nat.beq t 135 then some ti36 else
 bif Nat.beq t 137 then some ti37 else
 bif Nat.beq t 139 then some ti38 else
 bif Nat.beq t 142 then some ti39 else
 bif Nat.beq t 147 then some ti40 else
 bif Nat.beq t 149 then some ti41 else
 bif Nat.beq t 152 then some ti42 else
 bif Nat.beq t 154 then some ti43 else
 bif Nat.beq t 168 then some ti44 else
 bif Nat.beq t 170 then some ti45 else
 bif Nat.beq t 175 then some ti46 else
 bif Nat.beq t 178 then some ti47 else
 bif Nat.beq t 190 then some ti48 else
 bif Nat.beq t 202 then some ti49 else
 bif Nat.beq t 210 then some ti50 else
 bif Nat.beq t 218 then some ti51 else
 bif Nat.beq t 220 then some ti52 else
 bif Nat.beq t 254 then some ti53 else none
theorem bif_some {α : Type} {b : Bool} {x y : Option α} {z : α} (h : (bif b then x else y) = some z) : (b = true ∧ x = some z) ∨ (b = false ∧ y = some z) := by
 cases b
 ·exact .inr ⟨rfl, h⟩
 ·exact .inl ⟨rfl, h⟩
theorem table_ok : ∀ t i, table t = some i → TI.Ok Tryz.prog t i := by
 intro t i h
 unfold table at h
 rcases bif_some h with ⟨e, h⟩ | ⟨_, h⟩
 ·cases h; rw [Nat.eq_of_beq_eq_true e]; exact ok0
 rcases bif_some h with ⟨e, h⟩ | ⟨_, h⟩
 ·cases h; rw [Nat.eq_of_beq_eq_true e]; exact ok1
 rcases bif_some h with ⟨e, h⟩ | ⟨_, h⟩
 ·cases h; rw [Nat.eq_of_beq_eq_true e]; exact ok2
 rcases bif_some h with ⟨e, h⟩ | ⟨_, h⟩
 ·cases h; rw [Nat.eq_of_beq_eq_true e]; exact ok3
 rcases bif_some h with ⟨e, h⟩ | ⟨_, h⟩
 ·cases h; rw [Nat.eq_of_beq_eq_true e]; exact ok4
 rcases bif_some h with ⟨e, h⟩ | ⟨_, h⟩
 ·cases h; rw [Nat.eq_of_beq_eq_true e]; exact ok5
 rcases bif_some h with ⟨e, h⟩ | ⟨_, h⟩
 ·cases h; rw [Nat.eq_of_beq_eq_true e]; exact ok6
 rcases bif_some h with ⟨e, h⟩ | ⟨_, h⟩
 ·cases h; rw [Nat.eq_of_beq_eq_true e]; exact ok7
 rcases bif_some h with ⟨e, h⟩ | ⟨_, h⟩
 ·cases h; rw [Nat.eq_of_beq_eq_true e]; exact ok8
 rcases bif_some h with ⟨e, h⟩ | ⟨_, h⟩
 ·cases h; rw [Nat.eq_of_beq_eq_true e]; exact ok9
 rcases bif_some h with ⟨e, h⟩ | ⟨_, h⟩
 ·cases h; rw [Nat.eq_of_beq_eq_true e]; exact ok10
 rcases bif_some h with ⟨e, h⟩ | ⟨_, h⟩
 ·cases h; rw [Nat.eq_of_beq_eq_true e]; exact ok11
 rcases bif_some h with ⟨e, h⟩ | ⟨_, h⟩
 ·cases h; rw [Nat.eq_of_beq_eq_true e]; exact ok12
 rcases bif_some h with ⟨e, h⟩ | ⟨_, h⟩
 ·cases h; rw [Nat.eq_of_beq_eq_true e]; exact ok13
 rcases bif_some h with ⟨e, h⟩ | ⟨_, h⟩
 ·cases h; rw [Nat.eq_of_beq_eq_true e]; exact ok14
 rcases bif_some h with ⟨e, h⟩ | ⟨_, h⟩
 ·cases h; rw [Nat.eq_of_beq_eq_true e]; exact ok15
 rcases bif_some h with ⟨e, h⟩ | ⟨_, h⟩
 ·cases h; rw [Nat.eq_of_beq_eq_true e]; exact ok16
 rcases bif_some h with ⟨e, h⟩ | ⟨_, h⟩
 ·cases h; rw [Nat.eq_of_beq_eq_true e]; exact ok17
 rcases bif_some h with ⟨e, h⟩ | ⟨_, h⟩
 ·cases h; rw [Nat.eq_of_beq_eq_true e]; exact ok18
 rcases bif_some h with ⟨e, h⟩ | ⟨_, h⟩
 ·cases h; rw [Nat.eq_of_beq_eq_true e]; exact ok19
 rcases bif_some h with ⟨e, h⟩ | ⟨_, h⟩
 ·cases h; rw [Nat.eq_of_beq_eq_true e]; exact ok20
 rcases bif_some h with ⟨e, h⟩ | ⟨_, h⟩
 ·cases h; rw [Nat.eq_of_beq_eq_true e]; exact ok21
 rcases bif_some h with ⟨e, h⟩ | ⟨_, h⟩
 ·cases h; rw [Nat.eq_of_beq_eq_true e]; exact ok22
 rcases bif_some h with ⟨e, h⟩ | ⟨_, h⟩
 ·cases h; rw [Nat.eq_of_beq_eq_true e]; exact ok23
 rcases bif_some h with ⟨e, h⟩ | ⟨_, h⟩
 ·cases h; rw [Nat.eq_of_beq_eq_true e]; exact ok24
 rcases bif_some h with ⟨e, h⟩ | ⟨_, h⟩
 ·cases h; rw [Nat.eq_of_beq_eq_true e]; exact ok25
 rcases bif_some h with ⟨e, h⟩ | ⟨_, h⟩
 ·cases h; rw [Nat.eq_of_beq_eq_true e]; exact ok26
 rcases bif_some h with ⟨e, h⟩ | ⟨_, h⟩
 ·cases h; rw [Nat.eq_of_beq_eq_true e]; exact ok27
 rcases bif_some h with ⟨e, h⟩ | ⟨_, h⟩
 ·cases h; rw [Nat.eq_of_beq_eq_true e]; exact ok28
 rcases bif_some h with ⟨e, h⟩ | ⟨_, h⟩
 ·cases h; rw [Nat.eq_of_beq_eq_true e]; exact ok29
 rcases bif_some h with ⟨e, h⟩ | ⟨_, h⟩
 ·cases h; rw [Nat.eq_of_beq_eq_true e]; exact ok30
 rcases bif_some h with ⟨e, h⟩ | ⟨_, h⟩
 ·cases h; rw [Nat.eq_of_beq_eq_true e]; exact ok31
 rcases bif_some h with ⟨e, h⟩ | ⟨_, h⟩
 ·cases h; rw [Nat.eq_of_beq_eq_true e]; exact ok32
 rcases bif_some h with ⟨e, h⟩ | ⟨_, h⟩
 ·cases h; rw [Nat.eq_of_beq_eq_true e]; exact ok33
 rcases bif_some h with ⟨e, h⟩ | ⟨_, h⟩
 ·cases h; rw [Nat.eq_of_beq_eq_true e]; exact ok34
 rcases bif_some h with ⟨e, h⟩ | ⟨_, h⟩
 ·cases h; rw [Nat.eq_of_beq_eq_true e]; exact ok35
 rcases bif_some h with ⟨e, h⟩ | ⟨_, h⟩
 ·cases h; rw [Nat.eq_of_beq_eq_true e]; exact ok36
 rcases bif_some h with ⟨e, h⟩ | ⟨_, h⟩
 ·cases h; rw [Nat.eq_of_beq_eq_true e]; exact ok37
 rcases bif_some h with ⟨e, h⟩ | ⟨_, h⟩
 ·cases h; rw [Nat.eq_of_beq_eq_true e]; exact ok38
 rcases bif_some h with ⟨e, h⟩ | ⟨_, h⟩
 ·cases h; rw [Nat.eq_of_beq_eq_true e]; exact ok39
 rcases bif_some h with ⟨e, h⟩ | ⟨_, h⟩
 ·cases h; rw [Nat.eq_of_beq_eq_true e]; exact ok40
 rcases bif_some h with ⟨e, h⟩ | ⟨_, h⟩
 ·cases h; rw [Nat.eq_of_beq_eq_true e]; exact ok41
 rcases bif_some h with ⟨e, h⟩ | ⟨_, h⟩
 ·cases h; rw [Nat.eq_of_beq_eq_true e]; exact ok42
 rcases bif_some h with ⟨e, h⟩ | ⟨_, h⟩
 ·cases h; rw [Nat.eq_of_beq_eq_true e]; exact ok43
 rcases bif_some h with ⟨e, h⟩ | ⟨_, h⟩
 ·cases h; rw [Nat.eq_of_beq_eq_true e]; exact ok44
 rcases bif_some h with ⟨e, h⟩ | ⟨_, h⟩
 ·cases h; rw [Nat.eq_of_beq_eq_true e]; exact ok45
 rcases bif_some h with ⟨e, h⟩ | ⟨_, h⟩
 ·cases h; rw [Nat.eq_of_beq_eq_true e]; exact ok46
 rcases bif_some h with ⟨e, h⟩ | ⟨_, h⟩
 ·cases h; rw [Nat.eq_of_beq_eq_true e]; exact ok47
 rcases bif_some h with ⟨e, h⟩ | ⟨_, h⟩
 ·cases h; rw [Nat.eq_of_beq_eq_true e]; exact ok48
 rcases bif_some h with ⟨e, h⟩ | ⟨_, h⟩
 ·cases h; rw [Nat.eq_of_beq_eq_true e]; exact ok49
 rcases bif_some h with ⟨e, h⟩ | ⟨_, h⟩
 ·cases h; rw [Nat.eq_of_beq_eq_true e]; exact ok50
 rcases bif_some h with ⟨e, h⟩ | ⟨_, h⟩
 ·cases h; rw [Nat.eq_of_beq_eq_true e]; exact ok51
 rcases bif_some h with ⟨e, h⟩ | ⟨_, h⟩
 ·cases h; rw [Nat.eq_of_beq_eq_true e]; exact ok52
 rcases bif_some h with ⟨e, h⟩ | ⟨_, h⟩
 ·cases h; rw [Nat.eq_of_beq_eq_true e]; exact ok53
 cases h

abbrev UU : TypeId := 59
abbrev cxOf (P : Program) (w : World) (N : Nat) : Cx := { P := P, w0 := w, N := N, K := KU UU, SU := fun t => Nat.beq t 29, ti := table, keep := fun _ _ => trivial }
abbrev KI : KC := ⟨UU, fun _ => True, fun t => Nat.beq t 3⟩
abbrev cxI (P : Program) (w : World) (N : Nat) : Cx := { P := P, w0 := w, N := N, K := KI, SU := fun t => Nat.beq t 29 || Nat.beq t 202, ti := table, keep := fun _ _ => trivial }
theorem cxI_ok (w : World) (N : Nat) : (cxI Tryz.prog w N).Ok := table_ok
theorem cxI_mixed (w : World) (N : Nat) : (cxI Tryz.prog w N).P.follows .mixedOrders = true := by show Tryz.prog.follows .mixedOrders = true; kernel_rfl
theorem cx_ok (w : World) (N : Nat) : (cxOf Tryz.prog w N).Ok := table_ok
theorem cx_mixed (w : World) (N : Nat) : (cxOf Tryz.prog w N).P.follows .mixedOrders = true := by show Tryz.prog.follows .mixedOrders = true; kernel_rfl

section
variable {C : Cx} {m : Option (List FuncId)} {full : Array Oper} {K : Fr → Hp → World → Prop} {F F' : Fr} {H H' : Hp} {w w1 : World} {N : Nat} {o : Oper} {r l l' : List Oper} {Q : Exit → Act → World → Prop} {k k' : List It} {v : AV} {u : Option (Nat × (TypeId × List AV))} {id : Nat} {ops : Array Oper}
theorem wN (h : K F H w) : vcOps C m full [] K F H w := VO.nil h
theorem wV (e : runD C full 80 l F H = (l', F', H')) (h : vcOps C m full l' K F' H' w) : vcOps C m full l K F H w := VO.run 80 e h
theorem wO (e : stepOf C full F H o = .det v u) (e' : runD C full 80 r (F.puto o.dst v) (H.upd u) = (l', F', H')) (h : vcOps C m full l' K F' H' w) : vcOps C m full (o :: r) K F H w := VO.op1 e (VO.run 80 e' h)
theorem cx_r (e : runD (cxOf Tryz.prog w1 N) ops 80 ops.toList F H = (l', F', H')) (h : vcOps (cxOf Tryz.prog w1 N) none ops l' (VS (cxOf Tryz.prog w1 N) Q k) F' H' w) : VS (cxOf Tryz.prog w1 N) Q (.code (.region id ops false) :: k) F H w := VS.region (cx_ok _ _) (VO.run 80 e h)
theorem cx_d (e : runD (cxOf Tryz.prog w1 N) ops 80 ops.toList F H = (l', F', H')) (h : vcOps (cxOf Tryz.prog w1 N) (some []) ops l' (VS (cxOf Tryz.prog w1 N) Q k) F' H' w) (hchk : drawOk (cxOf Tryz.prog w1 N).SU [] ops = true := by kernel_rfl) : VS (cxOf Tryz.prog w1 N) Q (.code (.region id ops true) :: k) F H w := VS.draw (cx_ok _ _) (cx_mixed _ _) [] hchk (VO.run 80 e h)
theorem cxI_r (e : runD (cxI Tryz.prog w1 N) ops 80 ops.toList F H = (l', F', H')) (h : vcOps (cxI Tryz.prog w1 N) none ops l' (VS (cxI Tryz.prog w1 N) Q k) F' H' w) : VS (cxI Tryz.prog w1 N) Q (.code (.region id ops false) :: k) F H w := VS.region (cxI_ok _ _) (VO.run 80 e h)
theorem cxI_d (e : runD (cxI Tryz.prog w1 N) ops 80 ops.toList F H = (l', F', H')) (h : vcOps (cxI Tryz.prog w1 N) (some []) ops l' (VS (cxI Tryz.prog w1 N) Q k) F' H' w) (hchk : drawOk (cxI Tryz.prog w1 N).SU [] ops = true := by kernel_rfl) : VS (cxI Tryz.prog w1 N) Q (.code (.region id ops true) :: k) F H w := VS.draw (cxI_ok _ _) (cxI_mixed _ _) [] hchk (VO.run 80 e h)
def peel (F : Fr) : List It → Option (List It)
 | .code (.seq x y) :: k => some (.code x :: .code y :: k)
 | .code (.block id c) :: k => some (.code c :: .blk id :: k)
 | .blk _ :: k => some k
 | .code .skip :: k => some k
 | .code (.exit id) :: k => pop id k
 | .code (.cond c x y) :: k => (match evv F c with
  | some (.bool true) => some (.code x :: k)
  | some (.bool false) => some (.code y :: k)
  | _ => none)
 | _ => none
theorem wP (e : peel F k = some k') (h : VS C Q k' F H w) : VS C Q k F H w := by
 unfold peel at e
 split at e
 ·cases e; exact VS.seq h
 ·cases e; exact VS.block h
 ·cases e; exact VS.blk h
 ·cases e; exact VS.skip h
 ·exact VS.exit e h
 ·split at e
  ·rename_i hc; cases e; exact VS.condT hc h
  ·rename_i hc; cases e; exact VS.condF hc h
  ·cases e
 ·cases e
theorem fk {P : Program} {g : FuncId} {fn : Func} (h : P.funcs[g]? = some fn) (h1 : (fn.name == "runtime.NumGoroutine") = false := by kernel_rfl) (h2 : fn.body.isNone = false := by kernel_rfl) : FnOk P g := ⟨fn, h, h1, h2⟩
theorem kU (w : World) : KpS (KU UU) w w := KpS.refl _ _
theorem kR {k : KC} (w : World) : KpS k w w := KpS.refl _ _
theorem kT {k : KC} {a b c : World} (h : KpS k a b) (h' : KpS k b c) : KpS k a c := h.thn h'
end
end Go.Proofs.YtohlmpibnnkanaaGreat
