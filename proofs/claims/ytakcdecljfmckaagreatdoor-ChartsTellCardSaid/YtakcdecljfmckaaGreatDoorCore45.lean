/- corpus.All: thirteen programs. (printed by mkcorpus.py) -/
import Derived.Test.YtakcdecljfmckaaGreatDoorCore44
set_option linter.all false
set_option linter.unusedVariables false
set_option linter.unusedSimpArgs false
namespace Go.Proofs.YtakcdecljfmckaaGreatDoor
open Go.RowKit

def cL0 : List (List UInt8) := [[109, 111, 118, 54, 52, 32, 114, 48, 32, 52, 50], [101, 120, 105, 116]]
def cL1 : List (List UInt8) := [[109, 111, 118, 54, 52, 32, 114, 48, 32, 48], [109, 111, 118, 54, 52, 32, 114, 49, 32, 49, 48], [97, 100, 100, 54, 52, 32, 114, 48, 32, 114, 49], [115, 117, 98, 54, 52, 32, 114, 49, 32, 49], [106, 110, 101, 54, 52, 32, 114, 49, 32, 48, 32, 45, 51], [101, 120, 105, 116]]
def cL2 : List (List UInt8) := [[109, 111, 118, 54, 52, 32, 114, 49, 32, 45, 53], [97, 114, 115, 104, 54, 52, 32, 114, 49, 32, 49], [106, 115, 103, 116, 54, 52, 32, 114, 49, 32, 45, 52, 32, 43, 50], [109, 111, 118, 54, 52, 32, 114, 48, 32, 48], [101, 120, 105, 116], [109, 111, 118, 54, 52, 32, 114, 48, 32, 49], [101, 120, 105, 116]]
def cL3 : List (List UInt8) := [[109, 111, 118, 54, 52, 32, 114, 48, 32, 49, 48, 48], [109, 111, 118, 54, 52, 32, 114, 49, 32, 55], [100, 105, 118, 54, 52, 32, 114, 48, 32, 114, 49], [109, 111, 118, 54, 52, 32, 114, 51, 32, 48], [109, 111, 118, 54, 52, 32, 114, 50, 32, 49, 48, 48], [100, 105, 118, 54, 52, 32, 114, 50, 32, 114, 51], [97, 100, 100, 54, 52, 32, 114, 48, 32, 114, 50], [109, 111, 118, 54, 52, 32, 114, 50, 32, 57], [109, 111, 100, 54, 52, 32, 114, 50, 32, 114, 51], [97, 100, 100, 54, 52, 32, 114, 48, 32, 114, 50], [101, 120, 105, 116]]
def cL4 : List (List UInt8) := [[109, 111, 118, 54, 52, 32, 114, 50, 32, 55], [115, 116, 120, 56, 32, 114, 49, 48, 32, 45, 56, 32, 114, 50], [108, 100, 120, 56, 32, 114, 48, 32, 114, 49, 48, 32, 45, 56], [101, 120, 105, 116]]
def cL5 : List (List UInt8) := [[108, 100, 120, 56, 32, 114, 48, 32, 114, 49, 32, 49, 54], [97, 100, 100, 51, 50, 32, 114, 48, 32, 49], [115, 116, 120, 56, 32, 114, 49, 32, 49, 54, 32, 114, 48], [101, 120, 105, 116]]
def cL6 : List (List UInt8) := [[99, 97, 108, 108, 32, 55], [109, 111, 118, 54, 52, 32, 114, 54, 32, 114, 48], [99, 97, 108, 108, 32, 55], [120, 111, 114, 54, 52, 32, 114, 48, 32, 114, 54], [101, 120, 105, 116]]
def cL7 : List (List UInt8) := [[108, 100, 120, 56, 32, 114, 50, 32, 114, 49, 32, 48], [108, 100, 120, 56, 32, 114, 51, 32, 114, 49, 32, 56], [109, 111, 118, 54, 52, 32, 114, 48, 32, 48], [109, 111, 118, 54, 52, 32, 114, 52, 32, 114, 50], [97, 100, 100, 54, 52, 32, 114, 52, 32, 52], [106, 103, 116, 54, 52, 32, 114, 52, 32, 114, 51, 32, 43, 49], [108, 100, 120, 52, 32, 114, 48, 32, 114, 50, 32, 48], [101, 120, 105, 116]]
def cL8 : List (List UInt8) := [[108, 100, 120, 56, 32, 114, 50, 32, 114, 49, 32, 48], [108, 100, 120, 56, 32, 114, 51, 32, 114, 49, 32, 56], [109, 111, 118, 54, 52, 32, 114, 48, 32, 48], [109, 111, 118, 54, 52, 32, 114, 52, 32, 114, 50], [97, 100, 100, 54, 52, 32, 114, 52, 32, 49], [106, 103, 116, 54, 52, 32, 114, 52, 32, 114, 51, 32, 43, 55], [108, 100, 120, 49, 32, 114, 53, 32, 114, 50, 32, 48], [97, 110, 100, 54, 52, 32, 114, 53, 32, 55], [97, 100, 100, 54, 52, 32, 114, 50, 32, 114, 53], [109, 111, 118, 54, 52, 32, 114, 52, 32, 114, 50], [97, 100, 100, 54, 52, 32, 114, 52, 32, 50], [106, 103, 116, 54, 52, 32, 114, 52, 32, 114, 51, 32, 43, 49], [108, 100, 120, 50, 32, 114, 48, 32, 114, 50, 32, 48], [101, 120, 105, 116]]
def cL9 : List (List UInt8) := [[108, 100, 120, 56, 32, 114, 54, 32, 114, 49, 32, 48], [108, 100, 120, 56, 32, 114, 55, 32, 114, 49, 32, 56], [109, 111, 118, 54, 52, 32, 114, 48, 32, 48], [109, 111, 118, 54, 52, 32, 114, 56, 32, 52], [109, 111, 118, 54, 52, 32, 114, 52, 32, 114, 54], [97, 100, 100, 54, 52, 32, 114, 52, 32, 49], [106, 103, 116, 54, 52, 32, 114, 52, 32, 114, 55, 32, 43, 53], [108, 100, 120, 49, 32, 114, 53, 32, 114, 54, 32, 48], [97, 100, 100, 54, 52, 32, 114, 48, 32, 114, 53], [97, 100, 100, 54, 52, 32, 114, 54, 32, 49], [115, 117, 98, 54, 52, 32, 114, 56, 32, 49], [106, 110, 101, 54, 52, 32, 114, 56, 32, 48, 32, 45, 56], [101, 120, 105, 116]]
def cL10 : List (List UInt8) := [[115, 116, 52, 32, 114, 49, 48, 32, 45, 52, 32, 50], [109, 111, 118, 54, 52, 32, 114, 50, 32, 114, 49, 48], [97, 100, 100, 54, 52, 32, 114, 50, 32, 45, 52], [108, 100, 109, 97, 112, 32, 114, 49, 32, 48], [99, 97, 108, 108, 32, 49], [106, 101, 113, 54, 52, 32, 114, 48, 32, 48, 32, 43, 49], [108, 100, 120, 56, 32, 114, 48, 32, 114, 48, 32, 48], [101, 120, 105, 116]]
def cL11 : List (List UInt8) := [[115, 116, 52, 32, 114, 49, 48, 32, 45, 52, 32, 48], [109, 111, 118, 54, 52, 32, 114, 50, 32, 114, 49, 48], [97, 100, 100, 54, 52, 32, 114, 50, 32, 45, 52], [108, 100, 109, 97, 112, 32, 114, 49, 32, 48], [99, 97, 108, 108, 32, 49], [106, 101, 113, 54, 52, 32, 114, 48, 32, 48, 32, 43, 52], [108, 100, 120, 49, 32, 114, 49, 32, 114, 48, 32, 48], [97, 110, 100, 54, 52, 32, 114, 49, 32, 55], [97, 100, 100, 54, 52, 32, 114, 48, 32, 114, 49], [108, 100, 120, 49, 32, 114, 48, 32, 114, 48, 32, 56], [101, 120, 105, 116]]
def cL12 : List (List UInt8) := [[109, 111, 118, 54, 52, 32, 114, 54, 32, 53], [115, 116, 120, 56, 32, 114, 49, 48, 32, 45, 56, 32, 114, 54], [115, 116, 56, 32, 114, 49, 48, 32, 45, 49, 54, 32, 55, 55], [109, 111, 118, 54, 52, 32, 114, 50, 32, 114, 49, 48], [97, 100, 100, 54, 52, 32, 114, 50, 32, 45, 56], [109, 111, 118, 54, 52, 32, 114, 51, 32, 114, 49, 48], [97, 100, 100, 54, 52, 32, 114, 51, 32, 45, 49, 54], [109, 111, 118, 54, 52, 32, 114, 52, 32, 48], [108, 100, 109, 97, 112, 32, 114, 49, 32, 48], [99, 97, 108, 108, 32, 50], [101, 120, 105, 116]]
def cLines : List (List (List UInt8)) := [cL0, cL1, cL2, cL3, cL4, cL5, cL6, cL7, cL8, cL9, cL10, cL11, cL12]
def cTexts : List (List UInt8) := cLines.map linesT
def cNames : List (List UInt8) := [[97, 110, 115, 119, 101, 114], [115, 117, 109], [115, 105, 103, 110, 101, 100], [100, 105, 118, 105, 100, 101], [115, 116, 97, 99, 107], [109, 97, 114, 107], [100, 114, 97, 119, 115], [112, 97, 99, 107, 101, 116], [111, 102, 102, 115, 101, 116], [98, 121, 116, 101, 115], [108, 111, 111, 107, 117, 112], [105, 110, 100, 101, 120], [117, 112, 100, 97, 116, 101]]
theorem cl0 (W : World) : Calls Tryz.prog 43 #[.slice (some ⟨W.heap.size, 0, none⟩) 2 2] (W.alloc (.cells #[.string ⟨#[109, 111, 118, 54, 52, 32, 114, 48, 32, 52, 50]⟩, .string ⟨#[101, 120, 105, 116]⟩] 9)) fun e w' => e = .returned (.string (bA (linesT cL0))) ∧ Fr No W w' :=
  (clines_any cL0 W.heap.size 2 (W.alloc (.cells #[.string ⟨#[109, 111, 118, 54, 52, 32, 114, 48, 32, 52, 50]⟩, .string ⟨#[101, 120, 105, 116]⟩] 9)) (CellsAt.new W (strs cL0) 9) rfl (by decide) (by decide)).mono fun e w' h => ⟨h.1, h.2 ▸ (Fr.refl _ _).alloc _⟩
theorem cl1 (W : World) : Calls Tryz.prog 43 #[.slice (some ⟨W.heap.size, 0, none⟩) 6 6] (W.alloc (.cells #[.string ⟨#[109, 111, 118, 54, 52, 32, 114, 48, 32, 48]⟩, .string ⟨#[109, 111, 118, 54, 52, 32, 114, 49, 32, 49, 48]⟩, .string ⟨#[97, 100, 100, 54, 52, 32, 114, 48, 32, 114, 49]⟩, .string ⟨#[115, 117, 98, 54, 52, 32, 114, 49, 32, 49]⟩, .string ⟨#[106, 110, 101, 54, 52, 32, 114, 49, 32, 48, 32, 45, 51]⟩, .string ⟨#[101, 120, 105, 116]⟩] 9)) fun e w' => e = .returned (.string (bA (linesT cL1))) ∧ Fr No W w' :=
  (clines_any cL1 W.heap.size 6 (W.alloc (.cells #[.string ⟨#[109, 111, 118, 54, 52, 32, 114, 48, 32, 48]⟩, .string ⟨#[109, 111, 118, 54, 52, 32, 114, 49, 32, 49, 48]⟩, .string ⟨#[97, 100, 100, 54, 52, 32, 114, 48, 32, 114, 49]⟩, .string ⟨#[115, 117, 98, 54, 52, 32, 114, 49, 32, 49]⟩, .string ⟨#[106, 110, 101, 54, 52, 32, 114, 49, 32, 48, 32, 45, 51]⟩, .string ⟨#[101, 120, 105, 116]⟩] 9)) (CellsAt.new W (strs cL1) 9) rfl (by decide) (by decide)).mono fun e w' h => ⟨h.1, h.2 ▸ (Fr.refl _ _).alloc _⟩
theorem cl2 (W : World) : Calls Tryz.prog 43 #[.slice (some ⟨W.heap.size, 0, none⟩) 7 7] (W.alloc (.cells #[.string ⟨#[109, 111, 118, 54, 52, 32, 114, 49, 32, 45, 53]⟩, .string ⟨#[97, 114, 115, 104, 54, 52, 32, 114, 49, 32, 49]⟩, .string ⟨#[106, 115, 103, 116, 54, 52, 32, 114, 49, 32, 45, 52, 32, 43, 50]⟩, .string ⟨#[109, 111, 118, 54, 52, 32, 114, 48, 32, 48]⟩, .string ⟨#[101, 120, 105, 116]⟩, .string ⟨#[109, 111, 118, 54, 52, 32, 114, 48, 32, 49]⟩, .string ⟨#[101, 120, 105, 116]⟩] 9)) fun e w' => e = .returned (.string (bA (linesT cL2))) ∧ Fr No W w' :=
  (clines_any cL2 W.heap.size 7 (W.alloc (.cells #[.string ⟨#[109, 111, 118, 54, 52, 32, 114, 49, 32, 45, 53]⟩, .string ⟨#[97, 114, 115, 104, 54, 52, 32, 114, 49, 32, 49]⟩, .string ⟨#[106, 115, 103, 116, 54, 52, 32, 114, 49, 32, 45, 52, 32, 43, 50]⟩, .string ⟨#[109, 111, 118, 54, 52, 32, 114, 48, 32, 48]⟩, .string ⟨#[101, 120, 105, 116]⟩, .string ⟨#[109, 111, 118, 54, 52, 32, 114, 48, 32, 49]⟩, .string ⟨#[101, 120, 105, 116]⟩] 9)) (CellsAt.new W (strs cL2) 9) rfl (by decide) (by decide)).mono fun e w' h => ⟨h.1, h.2 ▸ (Fr.refl _ _).alloc _⟩
theorem cl3 (W : World) : Calls Tryz.prog 43 #[.slice (some ⟨W.heap.size, 0, none⟩) 11 11] (W.alloc (.cells #[.string ⟨#[109, 111, 118, 54, 52, 32, 114, 48, 32, 49, 48, 48]⟩, .string ⟨#[109, 111, 118, 54, 52, 32, 114, 49, 32, 55]⟩, .string ⟨#[100, 105, 118, 54, 52, 32, 114, 48, 32, 114, 49]⟩, .string ⟨#[109, 111, 118, 54, 52, 32, 114, 51, 32, 48]⟩, .string ⟨#[109, 111, 118, 54, 52, 32, 114, 50, 32, 49, 48, 48]⟩, .string ⟨#[100, 105, 118, 54, 52, 32, 114, 50, 32, 114, 51]⟩, .string ⟨#[97, 100, 100, 54, 52, 32, 114, 48, 32, 114, 50]⟩, .string ⟨#[109, 111, 118, 54, 52, 32, 114, 50, 32, 57]⟩, .string ⟨#[109, 111, 100, 54, 52, 32, 114, 50, 32, 114, 51]⟩, .string ⟨#[97, 100, 100, 54, 52, 32, 114, 48, 32, 114, 50]⟩, .string ⟨#[101, 120, 105, 116]⟩] 9)) fun e w' => e = .returned (.string (bA (linesT cL3))) ∧ Fr No W w' :=
  (clines_any cL3 W.heap.size 11 (W.alloc (.cells #[.string ⟨#[109, 111, 118, 54, 52, 32, 114, 48, 32, 49, 48, 48]⟩, .string ⟨#[109, 111, 118, 54, 52, 32, 114, 49, 32, 55]⟩, .string ⟨#[100, 105, 118, 54, 52, 32, 114, 48, 32, 114, 49]⟩, .string ⟨#[109, 111, 118, 54, 52, 32, 114, 51, 32, 48]⟩, .string ⟨#[109, 111, 118, 54, 52, 32, 114, 50, 32, 49, 48, 48]⟩, .string ⟨#[100, 105, 118, 54, 52, 32, 114, 50, 32, 114, 51]⟩, .string ⟨#[97, 100, 100, 54, 52, 32, 114, 48, 32, 114, 50]⟩, .string ⟨#[109, 111, 118, 54, 52, 32, 114, 50, 32, 57]⟩, .string ⟨#[109, 111, 100, 54, 52, 32, 114, 50, 32, 114, 51]⟩, .string ⟨#[97, 100, 100, 54, 52, 32, 114, 48, 32, 114, 50]⟩, .string ⟨#[101, 120, 105, 116]⟩] 9)) (CellsAt.new W (strs cL3) 9) rfl (by decide) (by decide)).mono fun e w' h => ⟨h.1, h.2 ▸ (Fr.refl _ _).alloc _⟩
theorem cl4 (W : World) : Calls Tryz.prog 43 #[.slice (some ⟨W.heap.size, 0, none⟩) 4 4] (W.alloc (.cells #[.string ⟨#[109, 111, 118, 54, 52, 32, 114, 50, 32, 55]⟩, .string ⟨#[115, 116, 120, 56, 32, 114, 49, 48, 32, 45, 56, 32, 114, 50]⟩, .string ⟨#[108, 100, 120, 56, 32, 114, 48, 32, 114, 49, 48, 32, 45, 56]⟩, .string ⟨#[101, 120, 105, 116]⟩] 9)) fun e w' => e = .returned (.string (bA (linesT cL4))) ∧ Fr No W w' :=
  (clines_any cL4 W.heap.size 4 (W.alloc (.cells #[.string ⟨#[109, 111, 118, 54, 52, 32, 114, 50, 32, 55]⟩, .string ⟨#[115, 116, 120, 56, 32, 114, 49, 48, 32, 45, 56, 32, 114, 50]⟩, .string ⟨#[108, 100, 120, 56, 32, 114, 48, 32, 114, 49, 48, 32, 45, 56]⟩, .string ⟨#[101, 120, 105, 116]⟩] 9)) (CellsAt.new W (strs cL4) 9) rfl (by decide) (by decide)).mono fun e w' h => ⟨h.1, h.2 ▸ (Fr.refl _ _).alloc _⟩
theorem cl5 (W : World) : Calls Tryz.prog 43 #[.slice (some ⟨W.heap.size, 0, none⟩) 4 4] (W.alloc (.cells #[.string ⟨#[108, 100, 120, 56, 32, 114, 48, 32, 114, 49, 32, 49, 54]⟩, .string ⟨#[97, 100, 100, 51, 50, 32, 114, 48, 32, 49]⟩, .string ⟨#[115, 116, 120, 56, 32, 114, 49, 32, 49, 54, 32, 114, 48]⟩, .string ⟨#[101, 120, 105, 116]⟩] 9)) fun e w' => e = .returned (.string (bA (linesT cL5))) ∧ Fr No W w' :=
  (clines_any cL5 W.heap.size 4 (W.alloc (.cells #[.string ⟨#[108, 100, 120, 56, 32, 114, 48, 32, 114, 49, 32, 49, 54]⟩, .string ⟨#[97, 100, 100, 51, 50, 32, 114, 48, 32, 49]⟩, .string ⟨#[115, 116, 120, 56, 32, 114, 49, 32, 49, 54, 32, 114, 48]⟩, .string ⟨#[101, 120, 105, 116]⟩] 9)) (CellsAt.new W (strs cL5) 9) rfl (by decide) (by decide)).mono fun e w' h => ⟨h.1, h.2 ▸ (Fr.refl _ _).alloc _⟩
theorem cl6 (W : World) : Calls Tryz.prog 43 #[.slice (some ⟨W.heap.size, 0, none⟩) 5 5] (W.alloc (.cells #[.string ⟨#[99, 97, 108, 108, 32, 55]⟩, .string ⟨#[109, 111, 118, 54, 52, 32, 114, 54, 32, 114, 48]⟩, .string ⟨#[99, 97, 108, 108, 32, 55]⟩, .string ⟨#[120, 111, 114, 54, 52, 32, 114, 48, 32, 114, 54]⟩, .string ⟨#[101, 120, 105, 116]⟩] 9)) fun e w' => e = .returned (.string (bA (linesT cL6))) ∧ Fr No W w' :=
  (clines_any cL6 W.heap.size 5 (W.alloc (.cells #[.string ⟨#[99, 97, 108, 108, 32, 55]⟩, .string ⟨#[109, 111, 118, 54, 52, 32, 114, 54, 32, 114, 48]⟩, .string ⟨#[99, 97, 108, 108, 32, 55]⟩, .string ⟨#[120, 111, 114, 54, 52, 32, 114, 48, 32, 114, 54]⟩, .string ⟨#[101, 120, 105, 116]⟩] 9)) (CellsAt.new W (strs cL6) 9) rfl (by decide) (by decide)).mono fun e w' h => ⟨h.1, h.2 ▸ (Fr.refl _ _).alloc _⟩
theorem cl7 (W : World) : Calls Tryz.prog 43 #[.slice (some ⟨W.heap.size, 0, none⟩) 8 8] (W.alloc (.cells #[.string ⟨#[108, 100, 120, 56, 32, 114, 50, 32, 114, 49, 32, 48]⟩, .string ⟨#[108, 100, 120, 56, 32, 114, 51, 32, 114, 49, 32, 56]⟩, .string ⟨#[109, 111, 118, 54, 52, 32, 114, 48, 32, 48]⟩, .string ⟨#[109, 111, 118, 54, 52, 32, 114, 52, 32, 114, 50]⟩, .string ⟨#[97, 100, 100, 54, 52, 32, 114, 52, 32, 52]⟩, .string ⟨#[106, 103, 116, 54, 52, 32, 114, 52, 32, 114, 51, 32, 43, 49]⟩, .string ⟨#[108, 100, 120, 52, 32, 114, 48, 32, 114, 50, 32, 48]⟩, .string ⟨#[101, 120, 105, 116]⟩] 9)) fun e w' => e = .returned (.string (bA (linesT cL7))) ∧ Fr No W w' :=
  (clines_any cL7 W.heap.size 8 (W.alloc (.cells #[.string ⟨#[108, 100, 120, 56, 32, 114, 50, 32, 114, 49, 32, 48]⟩, .string ⟨#[108, 100, 120, 56, 32, 114, 51, 32, 114, 49, 32, 56]⟩, .string ⟨#[109, 111, 118, 54, 52, 32, 114, 48, 32, 48]⟩, .string ⟨#[109, 111, 118, 54, 52, 32, 114, 52, 32, 114, 50]⟩, .string ⟨#[97, 100, 100, 54, 52, 32, 114, 52, 32, 52]⟩, .string ⟨#[106, 103, 116, 54, 52, 32, 114, 52, 32, 114, 51, 32, 43, 49]⟩, .string ⟨#[108, 100, 120, 52, 32, 114, 48, 32, 114, 50, 32, 48]⟩, .string ⟨#[101, 120, 105, 116]⟩] 9)) (CellsAt.new W (strs cL7) 9) rfl (by decide) (by decide)).mono fun e w' h => ⟨h.1, h.2 ▸ (Fr.refl _ _).alloc _⟩
theorem cl8 (W : World) : Calls Tryz.prog 43 #[.slice (some ⟨W.heap.size, 0, none⟩) 14 14] (W.alloc (.cells #[.string ⟨#[108, 100, 120, 56, 32, 114, 50, 32, 114, 49, 32, 48]⟩, .string ⟨#[108, 100, 120, 56, 32, 114, 51, 32, 114, 49, 32, 56]⟩, .string ⟨#[109, 111, 118, 54, 52, 32, 114, 48, 32, 48]⟩, .string ⟨#[109, 111, 118, 54, 52, 32, 114, 52, 32, 114, 50]⟩, .string ⟨#[97, 100, 100, 54, 52, 32, 114, 52, 32, 49]⟩, .string ⟨#[106, 103, 116, 54, 52, 32, 114, 52, 32, 114, 51, 32, 43, 55]⟩, .string ⟨#[108, 100, 120, 49, 32, 114, 53, 32, 114, 50, 32, 48]⟩, .string ⟨#[97, 110, 100, 54, 52, 32, 114, 53, 32, 55]⟩, .string ⟨#[97, 100, 100, 54, 52, 32, 114, 50, 32, 114, 53]⟩, .string ⟨#[109, 111, 118, 54, 52, 32, 114, 52, 32, 114, 50]⟩, .string ⟨#[97, 100, 100, 54, 52, 32, 114, 52, 32, 50]⟩, .string ⟨#[106, 103, 116, 54, 52, 32, 114, 52, 32, 114, 51, 32, 43, 49]⟩, .string ⟨#[108, 100, 120, 50, 32, 114, 48, 32, 114, 50, 32, 48]⟩, .string ⟨#[101, 120, 105, 116]⟩] 9)) fun e w' => e = .returned (.string (bA (linesT cL8))) ∧ Fr No W w' :=
  (clines_any cL8 W.heap.size 14 (W.alloc (.cells #[.string ⟨#[108, 100, 120, 56, 32, 114, 50, 32, 114, 49, 32, 48]⟩, .string ⟨#[108, 100, 120, 56, 32, 114, 51, 32, 114, 49, 32, 56]⟩, .string ⟨#[109, 111, 118, 54, 52, 32, 114, 48, 32, 48]⟩, .string ⟨#[109, 111, 118, 54, 52, 32, 114, 52, 32, 114, 50]⟩, .string ⟨#[97, 100, 100, 54, 52, 32, 114, 52, 32, 49]⟩, .string ⟨#[106, 103, 116, 54, 52, 32, 114, 52, 32, 114, 51, 32, 43, 55]⟩, .string ⟨#[108, 100, 120, 49, 32, 114, 53, 32, 114, 50, 32, 48]⟩, .string ⟨#[97, 110, 100, 54, 52, 32, 114, 53, 32, 55]⟩, .string ⟨#[97, 100, 100, 54, 52, 32, 114, 50, 32, 114, 53]⟩, .string ⟨#[109, 111, 118, 54, 52, 32, 114, 52, 32, 114, 50]⟩, .string ⟨#[97, 100, 100, 54, 52, 32, 114, 52, 32, 50]⟩, .string ⟨#[106, 103, 116, 54, 52, 32, 114, 52, 32, 114, 51, 32, 43, 49]⟩, .string ⟨#[108, 100, 120, 50, 32, 114, 48, 32, 114, 50, 32, 48]⟩, .string ⟨#[101, 120, 105, 116]⟩] 9)) (CellsAt.new W (strs cL8) 9) rfl (by decide) (by decide)).mono fun e w' h => ⟨h.1, h.2 ▸ (Fr.refl _ _).alloc _⟩
theorem cl9 (W : World) : Calls Tryz.prog 43 #[.slice (some ⟨W.heap.size, 0, none⟩) 13 13] (W.alloc (.cells #[.string ⟨#[108, 100, 120, 56, 32, 114, 54, 32, 114, 49, 32, 48]⟩, .string ⟨#[108, 100, 120, 56, 32, 114, 55, 32, 114, 49, 32, 56]⟩, .string ⟨#[109, 111, 118, 54, 52, 32, 114, 48, 32, 48]⟩, .string ⟨#[109, 111, 118, 54, 52, 32, 114, 56, 32, 52]⟩, .string ⟨#[109, 111, 118, 54, 52, 32, 114, 52, 32, 114, 54]⟩, .string ⟨#[97, 100, 100, 54, 52, 32, 114, 52, 32, 49]⟩, .string ⟨#[106, 103, 116, 54, 52, 32, 114, 52, 32, 114, 55, 32, 43, 53]⟩, .string ⟨#[108, 100, 120, 49, 32, 114, 53, 32, 114, 54, 32, 48]⟩, .string ⟨#[97, 100, 100, 54, 52, 32, 114, 48, 32, 114, 53]⟩, .string ⟨#[97, 100, 100, 54, 52, 32, 114, 54, 32, 49]⟩, .string ⟨#[115, 117, 98, 54, 52, 32, 114, 56, 32, 49]⟩, .string ⟨#[106, 110, 101, 54, 52, 32, 114, 56, 32, 48, 32, 45, 56]⟩, .string ⟨#[101, 120, 105, 116]⟩] 9)) fun e w' => e = .returned (.string (bA (linesT cL9))) ∧ Fr No W w' :=
  (clines_any cL9 W.heap.size 13 (W.alloc (.cells #[.string ⟨#[108, 100, 120, 56, 32, 114, 54, 32, 114, 49, 32, 48]⟩, .string ⟨#[108, 100, 120, 56, 32, 114, 55, 32, 114, 49, 32, 56]⟩, .string ⟨#[109, 111, 118, 54, 52, 32, 114, 48, 32, 48]⟩, .string ⟨#[109, 111, 118, 54, 52, 32, 114, 56, 32, 52]⟩, .string ⟨#[109, 111, 118, 54, 52, 32, 114, 52, 32, 114, 54]⟩, .string ⟨#[97, 100, 100, 54, 52, 32, 114, 52, 32, 49]⟩, .string ⟨#[106, 103, 116, 54, 52, 32, 114, 52, 32, 114, 55, 32, 43, 53]⟩, .string ⟨#[108, 100, 120, 49, 32, 114, 53, 32, 114, 54, 32, 48]⟩, .string ⟨#[97, 100, 100, 54, 52, 32, 114, 48, 32, 114, 53]⟩, .string ⟨#[97, 100, 100, 54, 52, 32, 114, 54, 32, 49]⟩, .string ⟨#[115, 117, 98, 54, 52, 32, 114, 56, 32, 49]⟩, .string ⟨#[106, 110, 101, 54, 52, 32, 114, 56, 32, 48, 32, 45, 56]⟩, .string ⟨#[101, 120, 105, 116]⟩] 9)) (CellsAt.new W (strs cL9) 9) rfl (by decide) (by decide)).mono fun e w' h => ⟨h.1, h.2 ▸ (Fr.refl _ _).alloc _⟩
theorem cl10 (W : World) : Calls Tryz.prog 43 #[.slice (some ⟨W.heap.size, 0, none⟩) 8 8] (W.alloc (.cells #[.string ⟨#[115, 116, 52, 32, 114, 49, 48, 32, 45, 52, 32, 50]⟩, .string ⟨#[109, 111, 118, 54, 52, 32, 114, 50, 32, 114, 49, 48]⟩, .string ⟨#[97, 100, 100, 54, 52, 32, 114, 50, 32, 45, 52]⟩, .string ⟨#[108, 100, 109, 97, 112, 32, 114, 49, 32, 48]⟩, .string ⟨#[99, 97, 108, 108, 32, 49]⟩, .string ⟨#[106, 101, 113, 54, 52, 32, 114, 48, 32, 48, 32, 43, 49]⟩, .string ⟨#[108, 100, 120, 56, 32, 114, 48, 32, 114, 48, 32, 48]⟩, .string ⟨#[101, 120, 105, 116]⟩] 9)) fun e w' => e = .returned (.string (bA (linesT cL10))) ∧ Fr No W w' :=
  (clines_any cL10 W.heap.size 8 (W.alloc (.cells #[.string ⟨#[115, 116, 52, 32, 114, 49, 48, 32, 45, 52, 32, 50]⟩, .string ⟨#[109, 111, 118, 54, 52, 32, 114, 50, 32, 114, 49, 48]⟩, .string ⟨#[97, 100, 100, 54, 52, 32, 114, 50, 32, 45, 52]⟩, .string ⟨#[108, 100, 109, 97, 112, 32, 114, 49, 32, 48]⟩, .string ⟨#[99, 97, 108, 108, 32, 49]⟩, .string ⟨#[106, 101, 113, 54, 52, 32, 114, 48, 32, 48, 32, 43, 49]⟩, .string ⟨#[108, 100, 120, 56, 32, 114, 48, 32, 114, 48, 32, 48]⟩, .string ⟨#[101, 120, 105, 116]⟩] 9)) (CellsAt.new W (strs cL10) 9) rfl (by decide) (by decide)).mono fun e w' h => ⟨h.1, h.2 ▸ (Fr.refl _ _).alloc _⟩
theorem cl11 (W : World) : Calls Tryz.prog 43 #[.slice (some ⟨W.heap.size, 0, none⟩) 11 11] (W.alloc (.cells #[.string ⟨#[115, 116, 52, 32, 114, 49, 48, 32, 45, 52, 32, 48]⟩, .string ⟨#[109, 111, 118, 54, 52, 32, 114, 50, 32, 114, 49, 48]⟩, .string ⟨#[97, 100, 100, 54, 52, 32, 114, 50, 32, 45, 52]⟩, .string ⟨#[108, 100, 109, 97, 112, 32, 114, 49, 32, 48]⟩, .string ⟨#[99, 97, 108, 108, 32, 49]⟩, .string ⟨#[106, 101, 113, 54, 52, 32, 114, 48, 32, 48, 32, 43, 52]⟩, .string ⟨#[108, 100, 120, 49, 32, 114, 49, 32, 114, 48, 32, 48]⟩, .string ⟨#[97, 110, 100, 54, 52, 32, 114, 49, 32, 55]⟩, .string ⟨#[97, 100, 100, 54, 52, 32, 114, 48, 32, 114, 49]⟩, .string ⟨#[108, 100, 120, 49, 32, 114, 48, 32, 114, 48, 32, 56]⟩, .string ⟨#[101, 120, 105, 116]⟩] 9)) fun e w' => e = .returned (.string (bA (linesT cL11))) ∧ Fr No W w' :=
  (clines_any cL11 W.heap.size 11 (W.alloc (.cells #[.string ⟨#[115, 116, 52, 32, 114, 49, 48, 32, 45, 52, 32, 48]⟩, .string ⟨#[109, 111, 118, 54, 52, 32, 114, 50, 32, 114, 49, 48]⟩, .string ⟨#[97, 100, 100, 54, 52, 32, 114, 50, 32, 45, 52]⟩, .string ⟨#[108, 100, 109, 97, 112, 32, 114, 49, 32, 48]⟩, .string ⟨#[99, 97, 108, 108, 32, 49]⟩, .string ⟨#[106, 101, 113, 54, 52, 32, 114, 48, 32, 48, 32, 43, 52]⟩, .string ⟨#[108, 100, 120, 49, 32, 114, 49, 32, 114, 48, 32, 48]⟩, .string ⟨#[97, 110, 100, 54, 52, 32, 114, 49, 32, 55]⟩, .string ⟨#[97, 100, 100, 54, 52, 32, 114, 48, 32, 114, 49]⟩, .string ⟨#[108, 100, 120, 49, 32, 114, 48, 32, 114, 48, 32, 56]⟩, .string ⟨#[101, 120, 105, 116]⟩] 9)) (CellsAt.new W (strs cL11) 9) rfl (by decide) (by decide)).mono fun e w' h => ⟨h.1, h.2 ▸ (Fr.refl _ _).alloc _⟩
theorem cl12 (W : World) : Calls Tryz.prog 43 #[.slice (some ⟨W.heap.size, 0, none⟩) 11 11] (W.alloc (.cells #[.string ⟨#[109, 111, 118, 54, 52, 32, 114, 54, 32, 53]⟩, .string ⟨#[115, 116, 120, 56, 32, 114, 49, 48, 32, 45, 56, 32, 114, 54]⟩, .string ⟨#[115, 116, 56, 32, 114, 49, 48, 32, 45, 49, 54, 32, 55, 55]⟩, .string ⟨#[109, 111, 118, 54, 52, 32, 114, 50, 32, 114, 49, 48]⟩, .string ⟨#[97, 100, 100, 54, 52, 32, 114, 50, 32, 45, 56]⟩, .string ⟨#[109, 111, 118, 54, 52, 32, 114, 51, 32, 114, 49, 48]⟩, .string ⟨#[97, 100, 100, 54, 52, 32, 114, 51, 32, 45, 49, 54]⟩, .string ⟨#[109, 111, 118, 54, 52, 32, 114, 52, 32, 48]⟩, .string ⟨#[108, 100, 109, 97, 112, 32, 114, 49, 32, 48]⟩, .string ⟨#[99, 97, 108, 108, 32, 50]⟩, .string ⟨#[101, 120, 105, 116]⟩] 9)) fun e w' => e = .returned (.string (bA (linesT cL12))) ∧ Fr No W w' :=
  (clines_any cL12 W.heap.size 11 (W.alloc (.cells #[.string ⟨#[109, 111, 118, 54, 52, 32, 114, 54, 32, 53]⟩, .string ⟨#[115, 116, 120, 56, 32, 114, 49, 48, 32, 45, 56, 32, 114, 54]⟩, .string ⟨#[115, 116, 56, 32, 114, 49, 48, 32, 45, 49, 54, 32, 55, 55]⟩, .string ⟨#[109, 111, 118, 54, 52, 32, 114, 50, 32, 114, 49, 48]⟩, .string ⟨#[97, 100, 100, 54, 52, 32, 114, 50, 32, 45, 56]⟩, .string ⟨#[109, 111, 118, 54, 52, 32, 114, 51, 32, 114, 49, 48]⟩, .string ⟨#[97, 100, 100, 54, 52, 32, 114, 51, 32, 45, 49, 54]⟩, .string ⟨#[109, 111, 118, 54, 52, 32, 114, 52, 32, 48]⟩, .string ⟨#[108, 100, 109, 97, 112, 32, 114, 49, 32, 48]⟩, .string ⟨#[99, 97, 108, 108, 32, 50]⟩, .string ⟨#[101, 120, 105, 116]⟩] 9)) (CellsAt.new W (strs cL12) 9) rfl (by decide) (by decide)).mono fun e w' h => ⟨h.1, h.2 ▸ (Fr.refl _ _).alloc _⟩
/-- Entry k of the programs: its nine cells, the first two its name and its text. -/
def EntAt (w : World) (g k : Nat) (N T : ByteArray) : Prop := ∃ v2 v3 v4 v5 v6 v7 v8, CellsAt w g (9 * k) [.string N, .string T, v2, v3, v4, v5, v6, v7, v8] ∧ [v2, v3, v4, v5, v6, v7, v8].all (·.oneCell') = true
theorem CellsAt.part {w : World} {g o : Nat} {vs : List Value} (h : CellsAt w g o vs) (p n : Nat) : CellsAt w g (o + p) ((vs.drop p).take n) := by
  intro j v hj
  rw [List.getElem?_take] at hj
  split at hj
  · rw [List.getElem?_drop] at hj
    have := h (p + j) v hj
    rwa [← Nat.add_assoc] at this
  · cases hj
theorem cells_arr (w : World) (cs : Array Value) (t : TypeId) : CellsAt (w.alloc (.cells cs t)) w.heap.size 0 cs.toList := by
  have := CellsAt.new w cs.toList t
  simpa using this
theorem ent_new (w : World) (cs : Array Value) (t : TypeId) (k : Nat) (N T : ByteArray) (h : ∃ v2 v3 v4 v5 v6 v7 v8, (cs.toList.drop (9 * k)).take 9 = [.string N, .string T, v2, v3, v4, v5, v6, v7, v8] ∧ [v2, v3, v4, v5, v6, v7, v8].all (·.oneCell') = true) : EntAt (w.alloc (.cells cs t)) w.heap.size k N T := by
  obtain ⟨v2, v3, v4, v5, v6, v7, v8, h, ho⟩ := h
  refine ⟨v2, v3, v4, v5, v6, v7, v8, ?_, ho⟩
  have := (cells_arr w cs t).part (9 * k) 9
  rw [h, Nat.zero_add] at this
  exact this
def AllAt (w : World) (g gm : Nat) : Prop := (∀ k N T, cNames[k]? = some N → cTexts[k]? = some T → EntAt w g k (bA N) (bA T)) ∧ w.cell? ⟨g, 8, none⟩ = some (.int .u64 42) ∧ w.cell? ⟨g, 110, none⟩ = some (.slice (some ⟨gm, 0, none⟩) 1 1) ∧ w.cell? ⟨gm, 0, none⟩ = some (.int .i64 2)

set_option maxRecDepth 100000 in
set_option maxHeartbeats 4000000 in
theorem call_any (w : World) : Calls Tryz.prog 20 #[] w fun e w' => ∃ g gm, e = .returned (.slice (some ⟨g, 0, none⟩) 13 13) ∧ w.heap.size ≤ g ∧ g < w'.heap.size ∧ w.heap.size ≤ gm ∧ Fr No w w' ∧ AllAt w' g gm := by
  have L0 := Lib.hid cl0
  have L1 := Lib.hid cl1
  have L2 := Lib.hid cl2
  have L3 := Lib.hid cl3
  have L4 := Lib.hid cl4
  have L5 := Lib.hid cl5
  have L6 := Lib.hid cl6
  have L7 := Lib.hid cl7
  have L8 := Lib.hid cl8
  have L9 := Lib.hid cl9
  have L10 := Lib.hid cl10
  have L11 := Lib.hid cl11
  have L12 := Lib.hid cl12
  obtain ⟨T0, hT0⟩ : ∃ T, bA (linesT cL0) = T := ⟨_, rfl⟩
  rw [hT0] at L0
  have HT0 := Lib.hid hT0
  clear hT0
  obtain ⟨T1, hT1⟩ : ∃ T, bA (linesT cL1) = T := ⟨_, rfl⟩
  rw [hT1] at L1
  have HT1 := Lib.hid hT1
  clear hT1
  obtain ⟨T2, hT2⟩ : ∃ T, bA (linesT cL2) = T := ⟨_, rfl⟩
  rw [hT2] at L2
  have HT2 := Lib.hid hT2
  clear hT2
  obtain ⟨T3, hT3⟩ : ∃ T, bA (linesT cL3) = T := ⟨_, rfl⟩
  rw [hT3] at L3
  have HT3 := Lib.hid hT3
  clear hT3
  obtain ⟨T4, hT4⟩ : ∃ T, bA (linesT cL4) = T := ⟨_, rfl⟩
  rw [hT4] at L4
  have HT4 := Lib.hid hT4
  clear hT4
  obtain ⟨T5, hT5⟩ : ∃ T, bA (linesT cL5) = T := ⟨_, rfl⟩
  rw [hT5] at L5
  have HT5 := Lib.hid hT5
  clear hT5
  obtain ⟨T6, hT6⟩ : ∃ T, bA (linesT cL6) = T := ⟨_, rfl⟩
  rw [hT6] at L6
  have HT6 := Lib.hid hT6
  clear hT6
  obtain ⟨T7, hT7⟩ : ∃ T, bA (linesT cL7) = T := ⟨_, rfl⟩
  rw [hT7] at L7
  have HT7 := Lib.hid hT7
  clear hT7
  obtain ⟨T8, hT8⟩ : ∃ T, bA (linesT cL8) = T := ⟨_, rfl⟩
  rw [hT8] at L8
  have HT8 := Lib.hid hT8
  clear hT8
  obtain ⟨T9, hT9⟩ : ∃ T, bA (linesT cL9) = T := ⟨_, rfl⟩
  rw [hT9] at L9
  have HT9 := Lib.hid hT9
  clear hT9
  obtain ⟨T10, hT10⟩ : ∃ T, bA (linesT cL10) = T := ⟨_, rfl⟩
  rw [hT10] at L10
  have HT10 := Lib.hid hT10
  clear hT10
  obtain ⟨T11, hT11⟩ : ∃ T, bA (linesT cL11) = T := ⟨_, rfl⟩
  rw [hT11] at L11
  have HT11 := Lib.hid hT11
  clear hT11
  obtain ⟨T12, hT12⟩ : ∃ T, bA (linesT cL12) = T := ⟨_, rfl⟩
  rw [hT12] at L12
  have HT12 := Lib.hid hT12
  clear hT12
  have L7 : Hid (∀ (W : World) (c : Array Value) (t : TypeId), Calls Tryz.prog 43 #[.slice (some ⟨W.heap.size + 1, 0, none⟩) 8 8] ((W.alloc (.cells c t)).alloc (.cells #[.string ⟨#[108, 100, 120, 56, 32, 114, 50, 32, 114, 49, 32, 48]⟩, .string ⟨#[108, 100, 120, 56, 32, 114, 51, 32, 114, 49, 32, 56]⟩, .string ⟨#[109, 111, 118, 54, 52, 32, 114, 48, 32, 48]⟩, .string ⟨#[109, 111, 118, 54, 52, 32, 114, 52, 32, 114, 50]⟩, .string ⟨#[97, 100, 100, 54, 52, 32, 114, 52, 32, 52]⟩, .string ⟨#[106, 103, 116, 54, 52, 32, 114, 52, 32, 114, 51, 32, 43, 49]⟩, .string ⟨#[108, 100, 120, 52, 32, 114, 48, 32, 114, 50, 32, 48]⟩, .string ⟨#[101, 120, 105, 116]⟩] 9)) fun e w' => e = .returned (.string T7) ∧ Fr No (W.alloc (.cells c t)) w') := fun W c t => by
    have := L7.out (W.alloc (.cells c t))
    rwa [alloc_len] at this
  go_enter Tryz.func20, Tryz.ntmps20
  go_wp2_with fail
  go_at_call 43
  with_reducible refine (L0.out _).mono ?_
  rintro e w1 ⟨rfl, hf1⟩
  have HF1 := Lib.hid hf1
  clear hf1
  go_wp2_with fail
  go_at_call 43
  with_reducible refine (L1.out _).mono ?_
  rintro e w2 ⟨rfl, hf2⟩
  have HF2 := Lib.hid (HF1.out.trans hf2)
  clear hf2
  go_wp2_with fail
  go_at_call 43
  with_reducible refine (L2.out _).mono ?_
  rintro e w3 ⟨rfl, hf3⟩
  have HF3 := Lib.hid (HF2.out.trans hf3)
  clear hf3
  go_wp2_with fail
  go_at_call 43
  with_reducible refine (L3.out _).mono ?_
  rintro e w4 ⟨rfl, hf4⟩
  have HF4 := Lib.hid (HF3.out.trans hf4)
  clear hf4
  go_wp2_with fail
  go_at_call 43
  with_reducible refine (L4.out _).mono ?_
  rintro e w5 ⟨rfl, hf5⟩
  have HF5 := Lib.hid (HF4.out.trans hf5)
  clear hf5
  go_wp2_with fail
  go_at_call 43
  with_reducible refine (L5.out _).mono ?_
  rintro e w6 ⟨rfl, hf6⟩
  have HF6 := Lib.hid (HF5.out.trans hf6)
  clear hf6
  go_wp2_with fail
  go_at_call 43
  with_reducible refine (L6.out _).mono ?_
  rintro e w7 ⟨rfl, hf7⟩
  have HF7 := Lib.hid (HF6.out.trans hf7)
  clear hf7
  go_wp2_with fail
  go_at_call 43
  with_reducible refine (L7.out _ _ _).mono ?_
  rintro e w8 ⟨rfl, hf8⟩
  have HF8 := Lib.hid ((HF7.out.alloc _).trans hf8)
  clear hf8
  go_wp2_with fail
  go_at_call 43
  with_reducible refine (L8.out _).mono ?_
  rintro e w9 ⟨rfl, hf9⟩
  have HF9 := Lib.hid (HF8.out.trans hf9)
  clear hf9
  go_wp2_with fail
  go_at_call 43
  with_reducible refine (L9.out _).mono ?_
  rintro e w10 ⟨rfl, hf10⟩
  have HF10 := Lib.hid (HF9.out.trans hf10)
  clear hf10
  go_wp2_with fail
  go_at_call 43
  with_reducible refine (L10.out _).mono ?_
  rintro e w11 ⟨rfl, hf11⟩
  have HF11 := Lib.hid (HF10.out.trans hf11)
  clear hf11
  go_wp2_with fail
  go_at_call 44
  with_reducible refine (carray_any _ _ _).mono ?_
  rintro e w12 ⟨ga12, rfl, hf12⟩
  have HF12 := Lib.hid (HF11.out.trans hf12)
  clear hf12
  go_wp2_with fail
  go_at_call 45
  with_reducible refine (centry_any _ _ _).mono ?_
  rintro e w13 ⟨ga13, rfl, hf13⟩
  have HF13 := Lib.hid (HF12.out.trans hf13)
  clear hf13
  go_wp2_with fail
  go_at_call 43
  with_reducible refine (L11.out _).mono ?_
  rintro e w14 ⟨rfl, hf14⟩
  have HF14 := Lib.hid (HF13.out.trans hf14)
  clear hf14
  go_wp2_with fail
  go_at_call 44
  with_reducible refine (carray_any _ _ _).mono ?_
  rintro e w15 ⟨ga15, rfl, hf15⟩
  have HF15 := Lib.hid (HF14.out.trans hf15)
  clear hf15
  go_wp2_with fail
  go_at_call 45
  with_reducible refine (centry_any _ _ _).mono ?_
  rintro e w16 ⟨ga16, rfl, hf16⟩
  have HF16 := Lib.hid (HF15.out.trans hf16)
  clear hf16
  go_wp2_with fail
  go_at_call 43
  with_reducible refine (L12.out _).mono ?_
  rintro e w17 ⟨rfl, hf17⟩
  have HF17 := Lib.hid (HF16.out.trans hf17)
  clear hf17
  go_wp2_with fail
  go_at_call 46
  with_reducible refine (chash_any _ _ _ _).mono ?_
  rintro e w18 ⟨gm, rfl, hf18, hgm, hcm⟩
  have HF18 := Lib.hid (HF17.out.trans hf18)
  clear hf18
  have HGM := Lib.hid (Nat.le_trans HF17.out.size hgm)
  have HCM := Lib.hid hcm
  clear hgm hcm
  go_wp2_with fail
  go_ret
  refine ⟨_, gm, rfl, HF18.out.size, by rw [alloc_len]; omega, HGM.out, HF18.out.alloc _, ?_, cells_arr _ _ _ 8 _ rfl, cells_arr _ _ _ 110 _ rfl, ((Fr.refl No _).alloc _).cell HCM.out id⟩
  intro k N T hN hT
  match k, hN, hT with
  | 0, hN, hT =>
    obtain rfl := Option.some.inj hN
    obtain rfl : linesT cL0 = T := Option.some.inj hT
    rw [HT0.out]
    exact ent_new _ _ _ 0 _ _ ⟨_, _, _, _, _, _, _, rfl, rfl⟩
  | 1, hN, hT =>
    obtain rfl := Option.some.inj hN
    obtain rfl : linesT cL1 = T := Option.some.inj hT
    rw [HT1.out]
    exact ent_new _ _ _ 1 _ _ ⟨_, _, _, _, _, _, _, rfl, rfl⟩
  | 2, hN, hT =>
    obtain rfl := Option.some.inj hN
    obtain rfl : linesT cL2 = T := Option.some.inj hT
    rw [HT2.out]
    exact ent_new _ _ _ 2 _ _ ⟨_, _, _, _, _, _, _, rfl, rfl⟩
  | 3, hN, hT =>
    obtain rfl := Option.some.inj hN
    obtain rfl : linesT cL3 = T := Option.some.inj hT
    rw [HT3.out]
    exact ent_new _ _ _ 3 _ _ ⟨_, _, _, _, _, _, _, rfl, rfl⟩
  | 4, hN, hT =>
    obtain rfl := Option.some.inj hN
    obtain rfl : linesT cL4 = T := Option.some.inj hT
    rw [HT4.out]
    exact ent_new _ _ _ 4 _ _ ⟨_, _, _, _, _, _, _, rfl, rfl⟩
  | 5, hN, hT =>
    obtain rfl := Option.some.inj hN
    obtain rfl : linesT cL5 = T := Option.some.inj hT
    rw [HT5.out]
    exact ent_new _ _ _ 5 _ _ ⟨_, _, _, _, _, _, _, rfl, rfl⟩
  | 6, hN, hT =>
    obtain rfl := Option.some.inj hN
    obtain rfl : linesT cL6 = T := Option.some.inj hT
    rw [HT6.out]
    exact ent_new _ _ _ 6 _ _ ⟨_, _, _, _, _, _, _, rfl, rfl⟩
  | 7, hN, hT =>
    obtain rfl := Option.some.inj hN
    obtain rfl : linesT cL7 = T := Option.some.inj hT
    rw [HT7.out]
    exact ent_new _ _ _ 7 _ _ ⟨_, _, _, _, _, _, _, rfl, rfl⟩
  | 8, hN, hT =>
    obtain rfl := Option.some.inj hN
    obtain rfl : linesT cL8 = T := Option.some.inj hT
    rw [HT8.out]
    exact ent_new _ _ _ 8 _ _ ⟨_, _, _, _, _, _, _, rfl, rfl⟩
  | 9, hN, hT =>
    obtain rfl := Option.some.inj hN
    obtain rfl : linesT cL9 = T := Option.some.inj hT
    rw [HT9.out]
    exact ent_new _ _ _ 9 _ _ ⟨_, _, _, _, _, _, _, rfl, rfl⟩
  | 10, hN, hT =>
    obtain rfl := Option.some.inj hN
    obtain rfl : linesT cL10 = T := Option.some.inj hT
    rw [HT10.out]
    exact ent_new _ _ _ 10 _ _ ⟨_, _, _, _, _, _, _, rfl, rfl⟩
  | 11, hN, hT =>
    obtain rfl := Option.some.inj hN
    obtain rfl : linesT cL11 = T := Option.some.inj hT
    rw [HT11.out]
    exact ent_new _ _ _ 11 _ _ ⟨_, _, _, _, _, _, _, rfl, rfl⟩
  | 12, hN, hT =>
    obtain rfl := Option.some.inj hN
    obtain rfl : linesT cL12 = T := Option.some.inj hT
    rw [HT12.out]
    exact ent_new _ _ _ 12 _ _ ⟨_, _, _, _, _, _, _, rfl, rfl⟩
  | n + 13, hN, _ => exact absurd hN (by simp [cNames])
end Go.Proofs.YtakcdecljfmckaaGreatDoor
