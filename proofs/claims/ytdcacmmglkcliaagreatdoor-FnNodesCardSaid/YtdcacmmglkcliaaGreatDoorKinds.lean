/-
  The table of kinds of nodes: contracts of the functions that lay it.
-/
import Derived.Test.YtdcacmmglkcliaaGreatDoorOwn
import Derived.Test.YtdcacmmglkcliaaGreatDoorScal
namespace Go.Proofs.YtdcacmmglkcliaaGreatDoor
open Go.ChangeShapes Go.WideShapes Go.ChangeAt Go.RowKit
set_option linter.unusedVariables false

theorem isKind_any (n : Int) (w : World) :
    Calls Tryz.prog 41 #[.int .i64 n] w fun e w' => e = .returned (.bool (inB n 1 17)) ∧ w = w' := by
  go_enter Tryz.func41, Tryz.ntmps41
  go_wp2_with (go_at_call 73; refine (within_any _ _ _ _).mono ?_; rintro e w' ⟨rfl, rfl⟩)
  go_ret
  exact ⟨rfl, rfl⟩
theorem l06Kind_any (n : Int) (w : World) :
    Calls Tryz.prog 65 #[.int .i64 n] w fun e w' => e = .returned (.bool (inB n 1 17)) ∧ w = w' := by
  go_enter Tryz.func65, Tryz.ntmps65
  go_wp2_with (go_at_call 68; refine (l00In_any _ _ _ _).mono ?_; rintro e w' ⟨rfl, rfl⟩)
  go_ret
  exact ⟨rfl, rfl⟩
/-! ### what is known of the kinds: kind k is row k - 1 -/
def kNm (i : Nat) : ByteArray := ([(⟨#[105, 110, 112, 117, 116]⟩ : ByteArray), (⟨#[99, 111, 110, 115, 116]⟩ : ByteArray), (⟨#[97, 100, 100]⟩ : ByteArray), (⟨#[115, 117, 98]⟩ : ByteArray), (⟨#[103, 97, 105, 110]⟩ : ByteArray), (⟨#[100, 101, 108, 97, 121]⟩ : ByteArray), (⟨#[115, 117, 109]⟩ : ByteArray), (⟨#[100, 105, 102, 102]⟩ : ByteArray), (⟨#[109, 117, 108]⟩ : ByteArray), (⟨#[115, 104, 105, 102, 116]⟩ : ByteArray), (⟨#[99, 108, 105, 112]⟩ : ByteArray), (⟨#[112, 104, 97, 115, 101]⟩ : ByteArray), (⟨#[116, 97, 98, 108, 101]⟩ : ByteArray), (⟨#[110, 111, 105, 115, 101]⟩ : ByteArray), (⟨#[115, 101, 108, 101, 99, 116]⟩ : ByteArray), (⟨#[104, 111, 108, 100]⟩ : ByteArray), (⟨#[99, 111, 109, 98]⟩ : ByteArray)] : List ByteArray).getD i ⟨#[]⟩
def kAr (i : Nat) : Int := ([0, 0, 2, 2, 1, 1, 1, 1, 2, 1, 1, 1, 1, 0, 3, 2, 1] : List Int).getD i 0
def kLo (i : Nat) : Int := ([0, -2147483648, 1, 1, -2147483648, 1, 1, 1, 1, 0, 0, -2147483648, 0, -2147483648, 1, 1, -2147483648] : List Int).getD i 0
def kHi (i : Nat) : Int := ([3, 2147483647, 0, 0, 2147483647, 16, 0, 0, 0, 31, 2147483647, 2147483647, 3, 2147483647, 0, 0, 2147483647] : List Int).getD i 0
def kLi (i : Nat) : Bool := ([true, false, true, true, true, true, true, true, false, false, false, false, false, false, false, false, true] : List Bool).getD i false
def kBb (i : Nat) : Bool := ([false, false, false, false, false, false, false, false, false, false, false, false, false, false, false, false, true] : List Bool).getD i false

/-- the table of kinds lies at block g -/
def KindCells (w : World) (g : Nat) : Prop := ∀ i, i < 17 → w.cell? ⟨g, i * 6, none⟩ = some (.string (kNm i)) ∧ w.cell? ⟨g, i * 6 + 1, none⟩ = some (.int .i64 (kAr i)) ∧ w.cell? ⟨g, i * 6 + 2, none⟩ = some (.int .i64 (kLo i)) ∧
  w.cell? ⟨g, i * 6 + 3, none⟩ = some (.int .i64 (kHi i)) ∧ w.cell? ⟨g, i * 6 + 4, none⟩ = some (.bool (kLi i)) ∧ w.cell? ⟨g, i * 6 + 5, none⟩ = some (.bool (kBb i))
theorem seventeen {i : Nat} (h : i < 17) : i = 0 ∨ i = 1 ∨ i = 2 ∨ i = 3 ∨ i = 4 ∨ i = 5 ∨ i = 6 ∨ i = 7 ∨ i = 8 ∨ i = 9 ∨ i = 10 ∨ i = 11 ∨ i = 12 ∨ i = 13 ∨ i = 14 ∨ i = 15 ∨ i = 16 := by omega
set_option maxHeartbeats 4000000 in
set_option maxRecDepth 100000 in
theorem kinds_any (w : World) :
    Calls Tryz.prog 42 #[] w fun e w' => e = .returned (.slice (some ⟨w.heap.size, 0, none⟩) 17 17) ∧ KindCells w' w.heap.size ∧ Below w.heap.size w w' := by
  go_enter Tryz.func42, Tryz.ntmps42
  go_wp2
  go_ret
  refine ⟨rfl, fun i hi => ?_, (Below.refl _ _).alloc (Nat.le_refl _) _⟩
  rcases seventeen hi with rfl | rfl | rfl | rfl | rfl | rfl | rfl | rfl | rfl | rfl | rfl | rfl | rfl | rfl | rfl | rfl | rfl <;>
    exact ⟨by rw [World.cell?_alloc_at _ _ _ _ rfl]; rfl, by rw [World.cell?_alloc_at _ _ _ _ rfl]; rfl, by rw [World.cell?_alloc_at _ _ _ _ rfl]; rfl, by rw [World.cell?_alloc_at _ _ _ _ rfl]; rfl, by rw [World.cell?_alloc_at _ _ _ _ rfl]; rfl, by rw [World.cell?_alloc_at _ _ _ _ rfl]; rfl⟩
set_option maxHeartbeats 4000000 in
set_option maxRecDepth 100000 in
theorem l06Names_any (w : World) :
    Calls Tryz.prog 114 #[] w fun e w' => e = .returned (.slice (some ⟨w.heap.size, 0, none⟩) 18 18) ∧ (∀ i, i < 17 → w'.cell? ⟨w.heap.size, i + 1, none⟩ = some (.string (kNm i))) ∧ Below w.heap.size w w' := by
  go_enter Tryz.func114, Tryz.ntmps114
  go_wp2
  go_ret
  refine ⟨rfl, fun i hi => ?_, (Below.refl _ _).alloc (Nat.le_refl _) _⟩
  rcases seventeen hi with rfl | rfl | rfl | rfl | rfl | rfl | rfl | rfl | rfl | rfl | rfl | rfl | rfl | rfl | rfl | rfl | rfl <;> (rw [World.cell?_alloc_at _ _ _ _ rfl]; rfl)
set_option maxHeartbeats 4000000 in
set_option maxRecDepth 100000 in
theorem l06Arity_any (i : Nat) (hi : i < 17) (w : World) :
    Calls Tryz.prog 67 #[.int .i64 ((i : Int) + 1)] w fun e w' => e = .returned (.int .i64 (kAr i)) ∧ Below w.heap.size w w' := by
  go_enter Tryz.func67, Tryz.ntmps67
  go_wp2
  go_ret
  refine ⟨?_, (Below.refl _ _).alloc (Nat.le_refl _) _⟩
  rcases seventeen hi with rfl | rfl | rfl | rfl | rfl | rfl | rfl | rfl | rfl | rfl | rfl | rfl | rfl | rfl | rfl | rfl | rfl <;> rfl
end Go.Proofs.YtdcacmmglkcliaaGreatDoor
