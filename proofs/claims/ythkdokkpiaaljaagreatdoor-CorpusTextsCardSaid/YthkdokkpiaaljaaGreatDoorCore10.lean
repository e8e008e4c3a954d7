/- lines.words, walked: a class of opcodes each. -/
import Derived.Test.YthkdokkpiaaljaaGreatDoorCore9
import Derived.Deep.RegionHeld3
import Derived.Deep.QuietTactic
import Derived.BigQuiet
set_option linter.all false
set_option linter.unusedVariables false
set_option linter.unusedSimpArgs false
namespace Go.Proofs.YthkdokkpiaaljaaGreatDoor
open Go.RowKit

/-- a slice of words comes back -/
def SlStrs (l : List (List UInt8)) (w : World) (e : Ending) (w' : World) : Prop := ∃ v, e = .returned v ∧ StrsAt w' v l ∧ Fr No w w'

set_option maxRecDepth 100000 in
set_option maxHeartbeats 2000000 in
theorem words_nospec (op dst src t cn k z : Nat) (off imm : Int) (rB : Bool) (nm : List UInt8) (hop : op < 256) (hd : dst < 256) (hs : src < 256) (ho : -32768 ≤ off ∧ off < 32768) (hm : -2147483648 ≤ imm ∧ imm < 2147483648)
    (ht8 : op % 8 = t) (hcn : codeN op = cn) (hk : op / 16 = k) (hz : sizeN op = z) (hr : regB op = rB)
    (e194 : ((op : Int) == 194) = true) (w : World) (hT : LT w) :
    Calls Tryz.prog 23 #[.agg #[.int .u8 op, .int .u8 dst, .int .u8 src, .int .i16 off, .int .i32 imm]] w (SlStrs [[110, 111, 115, 112, 101, 99]] w) := by
  have HT : Hid (∀ W, Fr No w W → LT W) := fun W h => hT.fr h
  have hop2 : (0 : Int) ≤ (op : Int) := by omega
  have hop3 : (op : Int) < 256 := by omega
  have m8 : (op : Int) % 8 = (t : Int) := by omega
  have m16 : (op : Int) / 16 = (k : Int) := by omega
  have p1 := and240 op hop
  rw [hcn] at p1
  have HR : Hid (∀ (n : Nat) W, n < 256 → LT W → Calls Tryz.prog 50 #[.int .u8 n] W fun e w' => e = .returned (.string (bA (regN n))) ∧ Fr No W w') := fun n W h h2 => lreg_any n h W h2
  have HN6 : Hid (∀ W, LT W → Calls Tryz.prog 20 #[.int .i16 off] W fun e w' => e = .returned (.string (bA (itoaN off))) ∧ Fr No W w') := fun W h2 => num_i16 off ho W h2
  have HN2 : Hid (∀ W, LT W → Calls Tryz.prog 21 #[.int .i32 imm] W fun e w' => e = .returned (.string (bA (itoaN imm))) ∧ Fr No W w') := fun W h2 => num_i32 imm hm W h2
  have HJ : Hid (∀ W, LT W → Calls Tryz.prog 49 #[.int .i16 off] W fun e w' => e = .returned (.string (bA (signN off))) ∧ Fr No W w') := fun W h2 => ljump_any off ho W h2
  have HSZ : Hid (∀ W, LT W → Calls Tryz.prog 48 #[.int .u8 op] W fun e w' => e = .returned (.int .i64 z) ∧ W = w') := fun W h2 => by have := isize_any op hop W h2; rw [hz] at this; exact this
  have HIT : Hid (∀ W, LT W → Calls Tryz.prog 45 #[.int .i64 z] W fun e w' => e = .returned (.string (bA (itoaN z))) ∧ Fr No W w') := fun W h2 => itoa_any z (by have := size_le op; omega) (by have := size_le op; omega) W h2
  have HW : Hid (∀ W, Calls Tryz.prog 51 #[.int .u8 t] W fun e w' => e = .returned (.string (bA (if t = 7 ∨ t = 5 then [54, 52] else [51, 50]))) ∧ W = w') := fun W => lwidth_any t W
  have HO : Hid (∀ W, LT W → Calls Tryz.prog 52 #[.agg #[.int .u8 op, .int .u8 dst, .int .u8 src, .int .i16 off, .int .i32 imm]] W fun e w' => e = .returned (.string (bA (if rB then regN src else itoaN imm))) ∧ Fr No W w') := fun W h2 => by have := operand_any ⟨op, dst, src, off, imm⟩ ⟨hop, hd, hs, ho, hm⟩ W h2; simp only [hr] at this; exact this
  clear ht8 hcn hk hz hr hT
  go_enter Tryz.func23, Tryz.ntmps23
  go_wp2_with fail
  go_quiet (fail)
  obtain ⟨W0, hW0⟩ : ∃ W0, W0 = (w.alloc (.cells #[.int .u8 op, .int .u8 dst, .int .u8 src, .int .i16 off, .int .i32 imm] 51)).drewN nq := ⟨_, rfl⟩
  have H0 : Hid (∀ W, Fr No W0 W → W.cell? ⟨w.heap.size, 0, none⟩ = some (.int .u8 op) ∧ W.cell? ⟨w.heap.size, 1, none⟩ = some (.int .u8 dst) ∧ W.cell? ⟨w.heap.size, 2, none⟩ = some (.int .u8 src) ∧ W.cell? ⟨w.heap.size, 3, none⟩ = some (.int .i16 off) ∧ W.cell? ⟨w.heap.size, 4, none⟩ = some (.int .i32 imm)) := fun W hW => by
    subst hW0
    refine ⟨hW.cell ?_ id, hW.cell ?_ id, hW.cell ?_ id, hW.cell ?_ id, hW.cell ?_ id⟩ <;> go_simp
  have HF0 : Hid (Fr No w W0) := by rw [hW0]; exact ((Fr.refl _ _).alloc _).drewN _
  rw [← hW0]
  clear hW0
  obtain ⟨g0, g1, g2, g3, g4⟩ := H0.out W0 (Fr.refl _ _)
  go_wp2_with (first
    | (go_at_call 48; (with_reducible refine (HSZ.out _ (HT.out _ HF0.out)).mono ?_); rintro e w0 ⟨rfl, rfl⟩)
    | (go_at_call 45; (with_reducible refine (HIT.out _ (HT.out _ HF0.out)).mono ?_); rintro e w1 ⟨rfl, hf1⟩; have HF1 := Lib.hid (HF0.out.trans hf1); have HX1 := Lib.hid hf1; obtain ⟨k0, k1, k2, k3, k4⟩ := H0.out _ hf1; clear hf1 g0 g1 g2 g3 g4)
    | (go_at_call 21; (with_reducible refine (HN2.out _ (HT.out _ HF1.out)).mono ?_); rintro e w2 ⟨rfl, hf2⟩)
    | (go_at_call 49; (with_reducible refine (HJ.out _ (HT.out _ HF1.out)).mono ?_); rintro e w2 ⟨rfl, hf2⟩))
  go_ret
  exact ⟨_, rfl, StrsAt.new _ [[110, 111, 115, 112, 101, 99]] _ _ rfl, (HF1.out).alloc _⟩
set_option maxRecDepth 100000 in
set_option maxHeartbeats 2000000 in
theorem words_call (op dst src t cn k z : Nat) (off imm : Int) (rB : Bool) (nm : List UInt8) (hop : op < 256) (hd : dst < 256) (hs : src < 256) (ho : -32768 ≤ off ∧ off < 32768) (hm : -2147483648 ≤ imm ∧ imm < 2147483648)
    (ht8 : op % 8 = t) (hcn : codeN op = cn) (hk : op / 16 = k) (hz : sizeN op = z) (hr : regB op = rB)
    (e194 : ((op : Int) == 194) = false) (e133 : ((op : Int) == 133) = true) (w : World) (hT : LT w) :
    Calls Tryz.prog 23 #[.agg #[.int .u8 op, .int .u8 dst, .int .u8 src, .int .i16 off, .int .i32 imm]] w (SlStrs [[99, 97, 108, 108], itoaN imm] w) := by
  have HT : Hid (∀ W, Fr No w W → LT W) := fun W h => hT.fr h
  have hop2 : (0 : Int) ≤ (op : Int) := by omega
  have hop3 : (op : Int) < 256 := by omega
  have m8 : (op : Int) % 8 = (t : Int) := by omega
  have m16 : (op : Int) / 16 = (k : Int) := by omega
  have p1 := and240 op hop
  rw [hcn] at p1
  have HR : Hid (∀ (n : Nat) W, n < 256 → LT W → Calls Tryz.prog 50 #[.int .u8 n] W fun e w' => e = .returned (.string (bA (regN n))) ∧ Fr No W w') := fun n W h h2 => lreg_any n h W h2
  have HN6 : Hid (∀ W, LT W → Calls Tryz.prog 20 #[.int .i16 off] W fun e w' => e = .returned (.string (bA (itoaN off))) ∧ Fr No W w') := fun W h2 => num_i16 off ho W h2
  have HN2 : Hid (∀ W, LT W → Calls Tryz.prog 21 #[.int .i32 imm] W fun e w' => e = .returned (.string (bA (itoaN imm))) ∧ Fr No W w') := fun W h2 => num_i32 imm hm W h2
  have HJ : Hid (∀ W, LT W → Calls Tryz.prog 49 #[.int .i16 off] W fun e w' => e = .returned (.string (bA (signN off))) ∧ Fr No W w') := fun W h2 => ljump_any off ho W h2
  have HSZ : Hid (∀ W, LT W → Calls Tryz.prog 48 #[.int .u8 op] W fun e w' => e = .returned (.int .i64 z) ∧ W = w') := fun W h2 => by have := isize_any op hop W h2; rw [hz] at this; exact this
  have HIT : Hid (∀ W, LT W → Calls Tryz.prog 45 #[.int .i64 z] W fun e w' => e = .returned (.string (bA (itoaN z))) ∧ Fr No W w') := fun W h2 => itoa_any z (by have := size_le op; omega) (by have := size_le op; omega) W h2
  have HW : Hid (∀ W, Calls Tryz.prog 51 #[.int .u8 t] W fun e w' => e = .returned (.string (bA (if t = 7 ∨ t = 5 then [54, 52] else [51, 50]))) ∧ W = w') := fun W => lwidth_any t W
  have HO : Hid (∀ W, LT W → Calls Tryz.prog 52 #[.agg #[.int .u8 op, .int .u8 dst, .int .u8 src, .int .i16 off, .int .i32 imm]] W fun e w' => e = .returned (.string (bA (if rB then regN src else itoaN imm))) ∧ Fr No W w') := fun W h2 => by have := operand_any ⟨op, dst, src, off, imm⟩ ⟨hop, hd, hs, ho, hm⟩ W h2; simp only [hr] at this; exact this
  clear ht8 hcn hk hz hr hT
  go_enter Tryz.func23, Tryz.ntmps23
  go_wp2_with fail
  go_quiet (fail)
  obtain ⟨W0, hW0⟩ : ∃ W0, W0 = (w.alloc (.cells #[.int .u8 op, .int .u8 dst, .int .u8 src, .int .i16 off, .int .i32 imm] 51)).drewN nq := ⟨_, rfl⟩
  have H0 : Hid (∀ W, Fr No W0 W → W.cell? ⟨w.heap.size, 0, none⟩ = some (.int .u8 op) ∧ W.cell? ⟨w.heap.size, 1, none⟩ = some (.int .u8 dst) ∧ W.cell? ⟨w.heap.size, 2, none⟩ = some (.int .u8 src) ∧ W.cell? ⟨w.heap.size, 3, none⟩ = some (.int .i16 off) ∧ W.cell? ⟨w.heap.size, 4, none⟩ = some (.int .i32 imm)) := fun W hW => by
    subst hW0
    refine ⟨hW.cell ?_ id, hW.cell ?_ id, hW.cell ?_ id, hW.cell ?_ id, hW.cell ?_ id⟩ <;> go_simp
  have HF0 : Hid (Fr No w W0) := by rw [hW0]; exact ((Fr.refl _ _).alloc _).drewN _
  rw [← hW0]
  clear hW0
  obtain ⟨g0, g1, g2, g3, g4⟩ := H0.out W0 (Fr.refl _ _)
  go_wp2_with (first
    | (go_at_call 48; (with_reducible refine (HSZ.out _ (HT.out _ HF0.out)).mono ?_); rintro e w0 ⟨rfl, rfl⟩)
    | (go_at_call 45; (with_reducible refine (HIT.out _ (HT.out _ HF0.out)).mono ?_); rintro e w1 ⟨rfl, hf1⟩; have HF1 := Lib.hid (HF0.out.trans hf1); have HX1 := Lib.hid hf1; obtain ⟨k0, k1, k2, k3, k4⟩ := H0.out _ hf1; clear hf1 g0 g1 g2 g3 g4)
    | (go_at_call 21; (with_reducible refine (HN2.out _ (HT.out _ HF1.out)).mono ?_); rintro e w2 ⟨rfl, hf2⟩)
    | (go_at_call 49; (with_reducible refine (HJ.out _ (HT.out _ HF1.out)).mono ?_); rintro e w2 ⟨rfl, hf2⟩))
  go_ret
  exact ⟨_, rfl, StrsAt.new _ [[99, 97, 108, 108], itoaN imm] _ _ rfl, (HF1.out.trans hf2).alloc _⟩
set_option maxRecDepth 100000 in
set_option maxHeartbeats 2000000 in
theorem words_exit (op dst src t cn k z : Nat) (off imm : Int) (rB : Bool) (nm : List UInt8) (hop : op < 256) (hd : dst < 256) (hs : src < 256) (ho : -32768 ≤ off ∧ off < 32768) (hm : -2147483648 ≤ imm ∧ imm < 2147483648)
    (ht8 : op % 8 = t) (hcn : codeN op = cn) (hk : op / 16 = k) (hz : sizeN op = z) (hr : regB op = rB)
    (e194 : ((op : Int) == 194) = false) (e133 : ((op : Int) == 133) = false) (e149 : ((op : Int) == 149) = true) (w : World) (hT : LT w) :
    Calls Tryz.prog 23 #[.agg #[.int .u8 op, .int .u8 dst, .int .u8 src, .int .i16 off, .int .i32 imm]] w (SlStrs [[101, 120, 105, 116]] w) := by
  have HT : Hid (∀ W, Fr No w W → LT W) := fun W h => hT.fr h
  have hop2 : (0 : Int) ≤ (op : Int) := by omega
  have hop3 : (op : Int) < 256 := by omega
  have m8 : (op : Int) % 8 = (t : Int) := by omega
  have m16 : (op : Int) / 16 = (k : Int) := by omega
  have p1 := and240 op hop
  rw [hcn] at p1
  have HR : Hid (∀ (n : Nat) W, n < 256 → LT W → Calls Tryz.prog 50 #[.int .u8 n] W fun e w' => e = .returned (.string (bA (regN n))) ∧ Fr No W w') := fun n W h h2 => lreg_any n h W h2
  have HN6 : Hid (∀ W, LT W → Calls Tryz.prog 20 #[.int .i16 off] W fun e w' => e = .returned (.string (bA (itoaN off))) ∧ Fr No W w') := fun W h2 => num_i16 off ho W h2
  have HN2 : Hid (∀ W, LT W → Calls Tryz.prog 21 #[.int .i32 imm] W fun e w' => e = .returned (.string (bA (itoaN imm))) ∧ Fr No W w') := fun W h2 => num_i32 imm hm W h2
  have HJ : Hid (∀ W, LT W → Calls Tryz.prog 49 #[.int .i16 off] W fun e w' => e = .returned (.string (bA (signN off))) ∧ Fr No W w') := fun W h2 => ljump_any off ho W h2
  have HSZ : Hid (∀ W, LT W → Calls Tryz.prog 48 #[.int .u8 op] W fun e w' => e = .returned (.int .i64 z) ∧ W = w') := fun W h2 => by have := isize_any op hop W h2; rw [hz] at this; exact this
  have HIT : Hid (∀ W, LT W → Calls Tryz.prog 45 #[.int .i64 z] W fun e w' => e = .returned (.string (bA (itoaN z))) ∧ Fr No W w') := fun W h2 => itoa_any z (by have := size_le op; omega) (by have := size_le op; omega) W h2
  have HW : Hid (∀ W, Calls Tryz.prog 51 #[.int .u8 t] W fun e w' => e = .returned (.string (bA (if t = 7 ∨ t = 5 then [54, 52] else [51, 50]))) ∧ W = w') := fun W => lwidth_any t W
  have HO : Hid (∀ W, LT W → Calls Tryz.prog 52 #[.agg #[.int .u8 op, .int .u8 dst, .int .u8 src, .int .i16 off, .int .i32 imm]] W fun e w' => e = .returned (.string (bA (if rB then regN src else itoaN imm))) ∧ Fr No W w') := fun W h2 => by have := operand_any ⟨op, dst, src, off, imm⟩ ⟨hop, hd, hs, ho, hm⟩ W h2; simp only [hr] at this; exact this
  clear ht8 hcn hk hz hr hT
  go_enter Tryz.func23, Tryz.ntmps23
  go_wp2_with fail
  go_quiet (fail)
  obtain ⟨W0, hW0⟩ : ∃ W0, W0 = (w.alloc (.cells #[.int .u8 op, .int .u8 dst, .int .u8 src, .int .i16 off, .int .i32 imm] 51)).drewN nq := ⟨_, rfl⟩
  have H0 : Hid (∀ W, Fr No W0 W → W.cell? ⟨w.heap.size, 0, none⟩ = some (.int .u8 op) ∧ W.cell? ⟨w.heap.size, 1, none⟩ = some (.int .u8 dst) ∧ W.cell? ⟨w.heap.size, 2, none⟩ = some (.int .u8 src) ∧ W.cell? ⟨w.heap.size, 3, none⟩ = some (.int .i16 off) ∧ W.cell? ⟨w.heap.size, 4, none⟩ = some (.int .i32 imm)) := fun W hW => by
    subst hW0
    refine ⟨hW.cell ?_ id, hW.cell ?_ id, hW.cell ?_ id, hW.cell ?_ id, hW.cell ?_ id⟩ <;> go_simp
  have HF0 : Hid (Fr No w W0) := by rw [hW0]; exact ((Fr.refl _ _).alloc _).drewN _
  rw [← hW0]
  clear hW0
  obtain ⟨g0, g1, g2, g3, g4⟩ := H0.out W0 (Fr.refl _ _)
  go_wp2_with (first
    | (go_at_call 48; (with_reducible refine (HSZ.out _ (HT.out _ HF0.out)).mono ?_); rintro e w0 ⟨rfl, rfl⟩)
    | (go_at_call 45; (with_reducible refine (HIT.out _ (HT.out _ HF0.out)).mono ?_); rintro e w1 ⟨rfl, hf1⟩; have HF1 := Lib.hid (HF0.out.trans hf1); have HX1 := Lib.hid hf1; obtain ⟨k0, k1, k2, k3, k4⟩ := H0.out _ hf1; clear hf1 g0 g1 g2 g3 g4)
    | (go_at_call 21; (with_reducible refine (HN2.out _ (HT.out _ HF1.out)).mono ?_); rintro e w2 ⟨rfl, hf2⟩)
    | (go_at_call 49; (with_reducible refine (HJ.out _ (HT.out _ HF1.out)).mono ?_); rintro e w2 ⟨rfl, hf2⟩))
  go_ret
  exact ⟨_, rfl, StrsAt.new _ [[101, 120, 105, 116]] _ _ rfl, (HF1.out).alloc _⟩
set_option maxRecDepth 100000 in
set_option maxHeartbeats 2000000 in
theorem words_ja (op dst src t cn k z : Nat) (off imm : Int) (rB : Bool) (nm : List UInt8) (hop : op < 256) (hd : dst < 256) (hs : src < 256) (ho : -32768 ≤ off ∧ off < 32768) (hm : -2147483648 ≤ imm ∧ imm < 2147483648)
    (ht8 : op % 8 = t) (hcn : codeN op = cn) (hk : op / 16 = k) (hz : sizeN op = z) (hr : regB op = rB)
    (e194 : ((op : Int) == 194) = false) (e133 : ((op : Int) == 133) = false) (e149 : ((op : Int) == 149) = false) (e5 : ((op : Int) == 5) = true) (w : World) (hT : LT w) :
    Calls Tryz.prog 23 #[.agg #[.int .u8 op, .int .u8 dst, .int .u8 src, .int .i16 off, .int .i32 imm]] w (SlStrs [[106, 97], signN off] w) := by
  have HT : Hid (∀ W, Fr No w W → LT W) := fun W h => hT.fr h
  have hop2 : (0 : Int) ≤ (op : Int) := by omega
  have hop3 : (op : Int) < 256 := by omega
  have m8 : (op : Int) % 8 = (t : Int) := by omega
  have m16 : (op : Int) / 16 = (k : Int) := by omega
  have p1 := and240 op hop
  rw [hcn] at p1
  have HR : Hid (∀ (n : Nat) W, n < 256 → LT W → Calls Tryz.prog 50 #[.int .u8 n] W fun e w' => e = .returned (.string (bA (regN n))) ∧ Fr No W w') := fun n W h h2 => lreg_any n h W h2
  have HN6 : Hid (∀ W, LT W → Calls Tryz.prog 20 #[.int .i16 off] W fun e w' => e = .returned (.string (bA (itoaN off))) ∧ Fr No W w') := fun W h2 => num_i16 off ho W h2
  have HN2 : Hid (∀ W, LT W → Calls Tryz.prog 21 #[.int .i32 imm] W fun e w' => e = .returned (.string (bA (itoaN imm))) ∧ Fr No W w') := fun W h2 => num_i32 imm hm W h2
  have HJ : Hid (∀ W, LT W → Calls Tryz.prog 49 #[.int .i16 off] W fun e w' => e = .returned (.string (bA (signN off))) ∧ Fr No W w') := fun W h2 => ljump_any off ho W h2
  have HSZ : Hid (∀ W, LT W → Calls Tryz.prog 48 #[.int .u8 op] W fun e w' => e = .returned (.int .i64 z) ∧ W = w') := fun W h2 => by have := isize_any op hop W h2; rw [hz] at this; exact this
  have HIT : Hid (∀ W, LT W → Calls Tryz.prog 45 #[.int .i64 z] W fun e w' => e = .returned (.string (bA (itoaN z))) ∧ Fr No W w') := fun W h2 => itoa_any z (by have := size_le op; omega) (by have := size_le op; omega) W h2
  have HW : Hid (∀ W, Calls Tryz.prog 51 #[.int .u8 t] W fun e w' => e = .returned (.string (bA (if t = 7 ∨ t = 5 then [54, 52] else [51, 50]))) ∧ W = w') := fun W => lwidth_any t W
  have HO : Hid (∀ W, LT W → Calls Tryz.prog 52 #[.agg #[.int .u8 op, .int .u8 dst, .int .u8 src, .int .i16 off, .int .i32 imm]] W fun e w' => e = .returned (.string (bA (if rB then regN src else itoaN imm))) ∧ Fr No W w') := fun W h2 => by have := operand_any ⟨op, dst, src, off, imm⟩ ⟨hop, hd, hs, ho, hm⟩ W h2; simp only [hr] at this; exact this
  clear ht8 hcn hk hz hr hT
  go_enter Tryz.func23, Tryz.ntmps23
  go_wp2_with fail
  go_quiet (fail)
  obtain ⟨W0, hW0⟩ : ∃ W0, W0 = (w.alloc (.cells #[.int .u8 op, .int .u8 dst, .int .u8 src, .int .i16 off, .int .i32 imm] 51)).drewN nq := ⟨_, rfl⟩
  have H0 : Hid (∀ W, Fr No W0 W → W.cell? ⟨w.heap.size, 0, none⟩ = some (.int .u8 op) ∧ W.cell? ⟨w.heap.size, 1, none⟩ = some (.int .u8 dst) ∧ W.cell? ⟨w.heap.size, 2, none⟩ = some (.int .u8 src) ∧ W.cell? ⟨w.heap.size, 3, none⟩ = some (.int .i16 off) ∧ W.cell? ⟨w.heap.size, 4, none⟩ = some (.int .i32 imm)) := fun W hW => by
    subst hW0
    refine ⟨hW.cell ?_ id, hW.cell ?_ id, hW.cell ?_ id, hW.cell ?_ id, hW.cell ?_ id⟩ <;> go_simp
  have HF0 : Hid (Fr No w W0) := by rw [hW0]; exact ((Fr.refl _ _).alloc _).drewN _
  rw [← hW0]
  clear hW0
  obtain ⟨g0, g1, g2, g3, g4⟩ := H0.out W0 (Fr.refl _ _)
  go_wp2_with (first
    | (go_at_call 48; (with_reducible refine (HSZ.out _ (HT.out _ HF0.out)).mono ?_); rintro e w0 ⟨rfl, rfl⟩)
    | (go_at_call 45; (with_reducible refine (HIT.out _ (HT.out _ HF0.out)).mono ?_); rintro e w1 ⟨rfl, hf1⟩; have HF1 := Lib.hid (HF0.out.trans hf1); have HX1 := Lib.hid hf1; obtain ⟨k0, k1, k2, k3, k4⟩ := H0.out _ hf1; clear hf1 g0 g1 g2 g3 g4)
    | (go_at_call 21; (with_reducible refine (HN2.out _ (HT.out _ HF1.out)).mono ?_); rintro e w2 ⟨rfl, hf2⟩)
    | (go_at_call 49; (with_reducible refine (HJ.out _ (HT.out _ HF1.out)).mono ?_); rintro e w2 ⟨rfl, hf2⟩))
  go_ret
  exact ⟨_, rfl, StrsAt.new _ [[106, 97], signN off] _ _ rfl, (HF1.out.trans hf2).alloc _⟩
set_option maxRecDepth 100000 in
set_option maxHeartbeats 2000000 in
theorem words_ldx (op dst src t cn k z : Nat) (off imm : Int) (rB : Bool) (nm : List UInt8) (hop : op < 256) (hd : dst < 256) (hs : src < 256) (ho : -32768 ≤ off ∧ off < 32768) (hm : -2147483648 ≤ imm ∧ imm < 2147483648)
    (ht8 : op % 8 = t) (hcn : codeN op = cn) (hk : op / 16 = k) (hz : sizeN op = z) (hr : regB op = rB)
    (e194 : ((op : Int) == 194) = false) (e133 : ((op : Int) == 133) = false) (e149 : ((op : Int) == 149) = false) (e5 : ((op : Int) == 5) = false) (c1 : ((t : Int) == 1) = true) (w : World) (hT : LT w) :
    Calls Tryz.prog 23 #[.agg #[.int .u8 op, .int .u8 dst, .int .u8 src, .int .i16 off, .int .i32 imm]] w (SlStrs [[108, 100, 120] ++ itoaN z, regN dst, regN src, itoaN off] w) := by
  have HT : Hid (∀ W, Fr No w W → LT W) := fun W h => hT.fr h
  have hop2 : (0 : Int) ≤ (op : Int) := by omega
  have hop3 : (op : Int) < 256 := by omega
  have m8 : (op : Int) % 8 = (t : Int) := by omega
  have m16 : (op : Int) / 16 = (k : Int) := by omega
  have p1 := and240 op hop
  rw [hcn] at p1
  have HR : Hid (∀ (n : Nat) W, n < 256 → LT W → Calls Tryz.prog 50 #[.int .u8 n] W fun e w' => e = .returned (.string (bA (regN n))) ∧ Fr No W w') := fun n W h h2 => lreg_any n h W h2
  have HN6 : Hid (∀ W, LT W → Calls Tryz.prog 20 #[.int .i16 off] W fun e w' => e = .returned (.string (bA (itoaN off))) ∧ Fr No W w') := fun W h2 => num_i16 off ho W h2
  have HN2 : Hid (∀ W, LT W → Calls Tryz.prog 21 #[.int .i32 imm] W fun e w' => e = .returned (.string (bA (itoaN imm))) ∧ Fr No W w') := fun W h2 => num_i32 imm hm W h2
  have HJ : Hid (∀ W, LT W → Calls Tryz.prog 49 #[.int .i16 off] W fun e w' => e = .returned (.string (bA (signN off))) ∧ Fr No W w') := fun W h2 => ljump_any off ho W h2
  have HSZ : Hid (∀ W, LT W → Calls Tryz.prog 48 #[.int .u8 op] W fun e w' => e = .returned (.int .i64 z) ∧ W = w') := fun W h2 => by have := isize_any op hop W h2; rw [hz] at this; exact this
  have HIT : Hid (∀ W, LT W → Calls Tryz.prog 45 #[.int .i64 z] W fun e w' => e = .returned (.string (bA (itoaN z))) ∧ Fr No W w') := fun W h2 => itoa_any z (by have := size_le op; omega) (by have := size_le op; omega) W h2
  have HW : Hid (∀ W, Calls Tryz.prog 51 #[.int .u8 t] W fun e w' => e = .returned (.string (bA (if t = 7 ∨ t = 5 then [54, 52] else [51, 50]))) ∧ W = w') := fun W => lwidth_any t W
  have HO : Hid (∀ W, LT W → Calls Tryz.prog 52 #[.agg #[.int .u8 op, .int .u8 dst, .int .u8 src, .int .i16 off, .int .i32 imm]] W fun e w' => e = .returned (.string (bA (if rB then regN src else itoaN imm))) ∧ Fr No W w') := fun W h2 => by have := operand_any ⟨op, dst, src, off, imm⟩ ⟨hop, hd, hs, ho, hm⟩ W h2; simp only [hr] at this; exact this
  have sz : (bA (itoaN z)).size ≤ 1000 := by rw [bA_size]; have := size_le op; exact itoa_len1 (by omega) (by omega)
  have sw : (bA (if t = 7 ∨ t = 5 then [54, 52] else [51, 50])).size ≤ 1000 := by rw [bA_size]; split <;> simp
  have a0 := addB (⟨#[108, 100, 120]⟩) (bA (itoaN z)) (Nat.le_trans (by first | assumption | decide : (⟨#[108, 100, 120]⟩ : ByteArray).size ≤ 1000) (by decide)) (Nat.le_trans (by first | assumption | decide : (bA (itoaN z) : ByteArray).size ≤ 1000) (by decide))
  clear ht8 hcn hk hz hr hT
  go_enter Tryz.func23, Tryz.ntmps23
  go_wp2_with fail
  go_quiet (fail)
  obtain ⟨W0, hW0⟩ : ∃ W0, W0 = (w.alloc (.cells #[.int .u8 op, .int .u8 dst, .int .u8 src, .int .i16 off, .int .i32 imm] 51)).drewN nq := ⟨_, rfl⟩
  have H0 : Hid (∀ W, Fr No W0 W → W.cell? ⟨w.heap.size, 0, none⟩ = some (.int .u8 op) ∧ W.cell? ⟨w.heap.size, 1, none⟩ = some (.int .u8 dst) ∧ W.cell? ⟨w.heap.size, 2, none⟩ = some (.int .u8 src) ∧ W.cell? ⟨w.heap.size, 3, none⟩ = some (.int .i16 off) ∧ W.cell? ⟨w.heap.size, 4, none⟩ = some (.int .i32 imm)) := fun W hW => by
    subst hW0
    refine ⟨hW.cell ?_ id, hW.cell ?_ id, hW.cell ?_ id, hW.cell ?_ id, hW.cell ?_ id⟩ <;> go_simp
  have HF0 : Hid (Fr No w W0) := by rw [hW0]; exact ((Fr.refl _ _).alloc _).drewN _
  rw [← hW0]
  clear hW0
  obtain ⟨g0, g1, g2, g3, g4⟩ := H0.out W0 (Fr.refl _ _)
  go_wp2_with (first
    | (go_at_call 48; (with_reducible refine (HSZ.out _ (HT.out _ HF0.out)).mono ?_); rintro e w0 ⟨rfl, rfl⟩)
    | (go_at_call 45; (with_reducible refine (HIT.out _ (HT.out _ HF0.out)).mono ?_); rintro e w1 ⟨rfl, hf1⟩; have HF1 := Lib.hid (HF0.out.trans hf1); have HX1 := Lib.hid hf1; obtain ⟨k0, k1, k2, k3, k4⟩ := H0.out _ hf1; clear hf1 g0 g1 g2 g3 g4)
    | (go_at_call 21; (with_reducible refine (HN2.out _ (HT.out _ HF1.out)).mono ?_); rintro e w2 ⟨rfl, hf2⟩)
    | (go_at_call 49; (with_reducible refine (HJ.out _ (HT.out _ HF1.out)).mono ?_); rintro e w2 ⟨rfl, hf2⟩))
  have HB : Hid (∀ W, Fr No w1 W → (W.cell? ⟨w.heap.size, 0, none⟩ = some (.int .u8 op) ∧ W.cell? ⟨w.heap.size, 1, none⟩ = some (.int .u8 dst) ∧ W.cell? ⟨w.heap.size, 2, none⟩ = some (.int .u8 src) ∧ W.cell? ⟨w.heap.size, 3, none⟩ = some (.int .i16 off) ∧ W.cell? ⟨w.heap.size, 4, none⟩ = some (.int .i32 imm) ∧ Hid (Fr No w W))) := fun W h => by
    obtain ⟨a0, a1, a2, a3, a4⟩ := H0.out _ (HX1.out.trans h)
    exact ⟨a0, a1, a2, a3, a4, HF1.out.trans h⟩
  have HK : Hid (∀ W W', Fr No W W' → (W.cell? ⟨w.heap.size, 0, none⟩ = some (.int .u8 op) ∧ W.cell? ⟨w.heap.size, 1, none⟩ = some (.int .u8 dst) ∧ W.cell? ⟨w.heap.size, 2, none⟩ = some (.int .u8 src) ∧ W.cell? ⟨w.heap.size, 3, none⟩ = some (.int .i16 off) ∧ W.cell? ⟨w.heap.size, 4, none⟩ = some (.int .i32 imm) ∧ Hid (Fr No w W)) → (W'.cell? ⟨w.heap.size, 0, none⟩ = some (.int .u8 op) ∧ W'.cell? ⟨w.heap.size, 1, none⟩ = some (.int .u8 dst) ∧ W'.cell? ⟨w.heap.size, 2, none⟩ = some (.int .u8 src) ∧ W'.cell? ⟨w.heap.size, 3, none⟩ = some (.int .i16 off) ∧ W'.cell? ⟨w.heap.size, 4, none⟩ = some (.int .i32 imm) ∧ Hid (Fr No w W'))) := fun W W' hf h =>
    ⟨hf.cell h.1 id, hf.cell h.2.1 id, hf.cell h.2.2.1 id, hf.cell h.2.2.2.1 id, hf.cell h.2.2.2.2.1 id, h.2.2.2.2.2.out.trans hf⟩
  have HL : Hid (∀ W, (W.cell? ⟨w.heap.size, 0, none⟩ = some (.int .u8 op) ∧ W.cell? ⟨w.heap.size, 1, none⟩ = some (.int .u8 dst) ∧ W.cell? ⟨w.heap.size, 2, none⟩ = some (.int .u8 src) ∧ W.cell? ⟨w.heap.size, 3, none⟩ = some (.int .i16 off) ∧ W.cell? ⟨w.heap.size, 4, none⟩ = some (.int .i32 imm) ∧ Hid (Fr No w W)) → LT W) := fun W h => HT.out _ h.2.2.2.2.2.out
  have HL2 : Hid (∀ W, (W.cell? ⟨w.heap.size, 0, none⟩ = some (.int .u8 op) ∧ W.cell? ⟨w.heap.size, 1, none⟩ = some (.int .u8 dst) ∧ W.cell? ⟨w.heap.size, 2, none⟩ = some (.int .u8 src) ∧ W.cell? ⟨w.heap.size, 3, none⟩ = some (.int .i16 off) ∧ W.cell? ⟨w.heap.size, 4, none⟩ = some (.int .i32 imm) ∧ Hid (Fr No w W)) → Fr No w W) := fun W h => h.2.2.2.2.2.out
  have hst : w1.drew.cell? ⟨w.heap.size, 0, none⟩ = some (.int .u8 op) ∧ w1.drew.cell? ⟨w.heap.size, 1, none⟩ = some (.int .u8 dst) ∧ w1.drew.cell? ⟨w.heap.size, 2, none⟩ = some (.int .u8 src) ∧ w1.drew.cell? ⟨w.heap.size, 3, none⟩ = some (.int .i16 off) ∧ w1.drew.cell? ⟨w.heap.size, 4, none⟩ = some (.int .i32 imm) ∧ Hid (Fr No w w1.drew) := HB.out _ (Fr.refl _ _).drew
  clear k0 k1 k2 k3 k4
  go_region_held3 (fun W => W.cell? ⟨w.heap.size, 0, none⟩ = some (.int .u8 op) ∧ W.cell? ⟨w.heap.size, 1, none⟩ = some (.int .u8 dst) ∧ W.cell? ⟨w.heap.size, 2, none⟩ = some (.int .u8 src) ∧ W.cell? ⟨w.heap.size, 3, none⟩ = some (.int .i16 off) ∧ W.cell? ⟨w.heap.size, 4, none⟩ = some (.int .i32 imm) ∧ Hid (Fr No w W)) (first | assumption | exact HK.out _ _ (by assumption) (by assumption) | exact HK.out _ _ ((Fr.refl _ _).alloc _) (by assumption))
    (first
      | (go_at_call 51; (with_reducible refine (HW.out _).mono ?_); rintro e w3 ⟨rfl, rfl⟩)
      | (go_at_call 50; (with_reducible refine (HR.out _ _ (by omega) (HL.out _ (by assumption))).mono ?_); rintro e w4 ⟨rfl, hf4⟩)
      | (go_at_call 20; (with_reducible refine (HN6.out _ (HL.out _ (by assumption))).mono ?_); rintro e w5 ⟨rfl, hf5⟩)
      | (go_at_call 21; (with_reducible refine (HN2.out _ (HL.out _ (by assumption))).mono ?_); rintro e w6 ⟨rfl, hf6⟩)
      | (go_at_call 49; (with_reducible refine (HJ.out _ (HL.out _ (by assumption))).mono ?_); rintro e w7 ⟨rfl, hf7⟩)
      | (go_at_call 52; (with_reducible refine (HO.out _ (HL.out _ (by assumption))).mono ?_); rintro e w8 ⟨rfl, hf8⟩))
  all_goals go_wp2_with fail
  all_goals go_ret
  all_goals exact ⟨_, rfl, StrsAt.new _ [[108, 100, 120] ++ itoaN z, regN dst, regN src, itoaN off] _ _ (by simp only [strs, List.map_cons, List.map_nil]; rw [← bA_app]; try rfl), HL2.out _ (by assumption)⟩
set_option maxRecDepth 100000 in
set_option maxHeartbeats 2000000 in
theorem words_st (op dst src t cn k z : Nat) (off imm : Int) (rB : Bool) (nm : List UInt8) (hop : op < 256) (hd : dst < 256) (hs : src < 256) (ho : -32768 ≤ off ∧ off < 32768) (hm : -2147483648 ≤ imm ∧ imm < 2147483648)
    (ht8 : op % 8 = t) (hcn : codeN op = cn) (hk : op / 16 = k) (hz : sizeN op = z) (hr : regB op = rB)
    (e194 : ((op : Int) == 194) = false) (e133 : ((op : Int) == 133) = false) (e149 : ((op : Int) == 149) = false) (e5 : ((op : Int) == 5) = false) (c1 : ((t : Int) == 1) = false) (c2 : ((t : Int) == 2) = true) (w : World) (hT : LT w) :
    Calls Tryz.prog 23 #[.agg #[.int .u8 op, .int .u8 dst, .int .u8 src, .int .i16 off, .int .i32 imm]] w (SlStrs [[115, 116] ++ itoaN z, regN dst, itoaN off, itoaN imm] w) := by
  have HT : Hid (∀ W, Fr No w W → LT W) := fun W h => hT.fr h
  have hop2 : (0 : Int) ≤ (op : Int) := by omega
  have hop3 : (op : Int) < 256 := by omega
  have m8 : (op : Int) % 8 = (t : Int) := by omega
  have m16 : (op : Int) / 16 = (k : Int) := by omega
  have p1 := and240 op hop
  rw [hcn] at p1
  have HR : Hid (∀ (n : Nat) W, n < 256 → LT W → Calls Tryz.prog 50 #[.int .u8 n] W fun e w' => e = .returned (.string (bA (regN n))) ∧ Fr No W w') := fun n W h h2 => lreg_any n h W h2
  have HN6 : Hid (∀ W, LT W → Calls Tryz.prog 20 #[.int .i16 off] W fun e w' => e = .returned (.string (bA (itoaN off))) ∧ Fr No W w') := fun W h2 => num_i16 off ho W h2
  have HN2 : Hid (∀ W, LT W → Calls Tryz.prog 21 #[.int .i32 imm] W fun e w' => e = .returned (.string (bA (itoaN imm))) ∧ Fr No W w') := fun W h2 => num_i32 imm hm W h2
  have HJ : Hid (∀ W, LT W → Calls Tryz.prog 49 #[.int .i16 off] W fun e w' => e = .returned (.string (bA (signN off))) ∧ Fr No W w') := fun W h2 => ljump_any off ho W h2
  have HSZ : Hid (∀ W, LT W → Calls Tryz.prog 48 #[.int .u8 op] W fun e w' => e = .returned (.int .i64 z) ∧ W = w') := fun W h2 => by have := isize_any op hop W h2; rw [hz] at this; exact this
  have HIT : Hid (∀ W, LT W → Calls Tryz.prog 45 #[.int .i64 z] W fun e w' => e = .returned (.string (bA (itoaN z))) ∧ Fr No W w') := fun W h2 => itoa_any z (by have := size_le op; omega) (by have := size_le op; omega) W h2
  have HW : Hid (∀ W, Calls Tryz.prog 51 #[.int .u8 t] W fun e w' => e = .returned (.string (bA (if t = 7 ∨ t = 5 then [54, 52] else [51, 50]))) ∧ W = w') := fun W => lwidth_any t W
  have HO : Hid (∀ W, LT W → Calls Tryz.prog 52 #[.agg #[.int .u8 op, .int .u8 dst, .int .u8 src, .int .i16 off, .int .i32 imm]] W fun e w' => e = .returned (.string (bA (if rB then regN src else itoaN imm))) ∧ Fr No W w') := fun W h2 => by have := operand_any ⟨op, dst, src, off, imm⟩ ⟨hop, hd, hs, ho, hm⟩ W h2; simp only [hr] at this; exact this
  have sz : (bA (itoaN z)).size ≤ 1000 := by rw [bA_size]; have := size_le op; exact itoa_len1 (by omega) (by omega)
  have sw : (bA (if t = 7 ∨ t = 5 then [54, 52] else [51, 50])).size ≤ 1000 := by rw [bA_size]; split <;> simp
  have a0 := addB (⟨#[115, 116]⟩) (bA (itoaN z)) (Nat.le_trans (by first | assumption | decide : (⟨#[115, 116]⟩ : ByteArray).size ≤ 1000) (by decide)) (Nat.le_trans (by first | assumption | decide : (bA (itoaN z) : ByteArray).size ≤ 1000) (by decide))
  clear ht8 hcn hk hz hr hT
  go_enter Tryz.func23, Tryz.ntmps23
  go_wp2_with fail
  go_quiet (fail)
  obtain ⟨W0, hW0⟩ : ∃ W0, W0 = (w.alloc (.cells #[.int .u8 op, .int .u8 dst, .int .u8 src, .int .i16 off, .int .i32 imm] 51)).drewN nq := ⟨_, rfl⟩
  have H0 : Hid (∀ W, Fr No W0 W → W.cell? ⟨w.heap.size, 0, none⟩ = some (.int .u8 op) ∧ W.cell? ⟨w.heap.size, 1, none⟩ = some (.int .u8 dst) ∧ W.cell? ⟨w.heap.size, 2, none⟩ = some (.int .u8 src) ∧ W.cell? ⟨w.heap.size, 3, none⟩ = some (.int .i16 off) ∧ W.cell? ⟨w.heap.size, 4, none⟩ = some (.int .i32 imm)) := fun W hW => by
    subst hW0
    refine ⟨hW.cell ?_ id, hW.cell ?_ id, hW.cell ?_ id, hW.cell ?_ id, hW.cell ?_ id⟩ <;> go_simp
  have HF0 : Hid (Fr No w W0) := by rw [hW0]; exact ((Fr.refl _ _).alloc _).drewN _
  rw [← hW0]
  clear hW0
  obtain ⟨g0, g1, g2, g3, g4⟩ := H0.out W0 (Fr.refl _ _)
  go_wp2_with (first
    | (go_at_call 48; (with_reducible refine (HSZ.out _ (HT.out _ HF0.out)).mono ?_); rintro e w0 ⟨rfl, rfl⟩)
    | (go_at_call 45; (with_reducible refine (HIT.out _ (HT.out _ HF0.out)).mono ?_); rintro e w1 ⟨rfl, hf1⟩; have HF1 := Lib.hid (HF0.out.trans hf1); have HX1 := Lib.hid hf1; obtain ⟨k0, k1, k2, k3, k4⟩ := H0.out _ hf1; clear hf1 g0 g1 g2 g3 g4)
    | (go_at_call 21; (with_reducible refine (HN2.out _ (HT.out _ HF1.out)).mono ?_); rintro e w2 ⟨rfl, hf2⟩)
    | (go_at_call 49; (with_reducible refine (HJ.out _ (HT.out _ HF1.out)).mono ?_); rintro e w2 ⟨rfl, hf2⟩))
  have HB : Hid (∀ W, Fr No w1 W → (W.cell? ⟨w.heap.size, 0, none⟩ = some (.int .u8 op) ∧ W.cell? ⟨w.heap.size, 1, none⟩ = some (.int .u8 dst) ∧ W.cell? ⟨w.heap.size, 2, none⟩ = some (.int .u8 src) ∧ W.cell? ⟨w.heap.size, 3, none⟩ = some (.int .i16 off) ∧ W.cell? ⟨w.heap.size, 4, none⟩ = some (.int .i32 imm) ∧ Hid (Fr No w W))) := fun W h => by
    obtain ⟨a0, a1, a2, a3, a4⟩ := H0.out _ (HX1.out.trans h)
    exact ⟨a0, a1, a2, a3, a4, HF1.out.trans h⟩
  have HK : Hid (∀ W W', Fr No W W' → (W.cell? ⟨w.heap.size, 0, none⟩ = some (.int .u8 op) ∧ W.cell? ⟨w.heap.size, 1, none⟩ = some (.int .u8 dst) ∧ W.cell? ⟨w.heap.size, 2, none⟩ = some (.int .u8 src) ∧ W.cell? ⟨w.heap.size, 3, none⟩ = some (.int .i16 off) ∧ W.cell? ⟨w.heap.size, 4, none⟩ = some (.int .i32 imm) ∧ Hid (Fr No w W)) → (W'.cell? ⟨w.heap.size, 0, none⟩ = some (.int .u8 op) ∧ W'.cell? ⟨w.heap.size, 1, none⟩ = some (.int .u8 dst) ∧ W'.cell? ⟨w.heap.size, 2, none⟩ = some (.int .u8 src) ∧ W'.cell? ⟨w.heap.size, 3, none⟩ = some (.int .i16 off) ∧ W'.cell? ⟨w.heap.size, 4, none⟩ = some (.int .i32 imm) ∧ Hid (Fr No w W'))) := fun W W' hf h =>
    ⟨hf.cell h.1 id, hf.cell h.2.1 id, hf.cell h.2.2.1 id, hf.cell h.2.2.2.1 id, hf.cell h.2.2.2.2.1 id, h.2.2.2.2.2.out.trans hf⟩
  have HL : Hid (∀ W, (W.cell? ⟨w.heap.size, 0, none⟩ = some (.int .u8 op) ∧ W.cell? ⟨w.heap.size, 1, none⟩ = some (.int .u8 dst) ∧ W.cell? ⟨w.heap.size, 2, none⟩ = some (.int .u8 src) ∧ W.cell? ⟨w.heap.size, 3, none⟩ = some (.int .i16 off) ∧ W.cell? ⟨w.heap.size, 4, none⟩ = some (.int .i32 imm) ∧ Hid (Fr No w W)) → LT W) := fun W h => HT.out _ h.2.2.2.2.2.out
  have HL2 : Hid (∀ W, (W.cell? ⟨w.heap.size, 0, none⟩ = some (.int .u8 op) ∧ W.cell? ⟨w.heap.size, 1, none⟩ = some (.int .u8 dst) ∧ W.cell? ⟨w.heap.size, 2, none⟩ = some (.int .u8 src) ∧ W.cell? ⟨w.heap.size, 3, none⟩ = some (.int .i16 off) ∧ W.cell? ⟨w.heap.size, 4, none⟩ = some (.int .i32 imm) ∧ Hid (Fr No w W)) → Fr No w W) := fun W h => h.2.2.2.2.2.out
  have hst : w1.drew.cell? ⟨w.heap.size, 0, none⟩ = some (.int .u8 op) ∧ w1.drew.cell? ⟨w.heap.size, 1, none⟩ = some (.int .u8 dst) ∧ w1.drew.cell? ⟨w.heap.size, 2, none⟩ = some (.int .u8 src) ∧ w1.drew.cell? ⟨w.heap.size, 3, none⟩ = some (.int .i16 off) ∧ w1.drew.cell? ⟨w.heap.size, 4, none⟩ = some (.int .i32 imm) ∧ Hid (Fr No w w1.drew) := HB.out _ (Fr.refl _ _).drew
  clear k0 k1 k2 k3 k4
  go_region_held3 (fun W => W.cell? ⟨w.heap.size, 0, none⟩ = some (.int .u8 op) ∧ W.cell? ⟨w.heap.size, 1, none⟩ = some (.int .u8 dst) ∧ W.cell? ⟨w.heap.size, 2, none⟩ = some (.int .u8 src) ∧ W.cell? ⟨w.heap.size, 3, none⟩ = some (.int .i16 off) ∧ W.cell? ⟨w.heap.size, 4, none⟩ = some (.int .i32 imm) ∧ Hid (Fr No w W)) (first | assumption | exact HK.out _ _ (by assumption) (by assumption) | exact HK.out _ _ ((Fr.refl _ _).alloc _) (by assumption))
    (first
      | (go_at_call 51; (with_reducible refine (HW.out _).mono ?_); rintro e w3 ⟨rfl, rfl⟩)
      | (go_at_call 50; (with_reducible refine (HR.out _ _ (by omega) (HL.out _ (by assumption))).mono ?_); rintro e w4 ⟨rfl, hf4⟩)
      | (go_at_call 20; (with_reducible refine (HN6.out _ (HL.out _ (by assumption))).mono ?_); rintro e w5 ⟨rfl, hf5⟩)
      | (go_at_call 21; (with_reducible refine (HN2.out _ (HL.out _ (by assumption))).mono ?_); rintro e w6 ⟨rfl, hf6⟩)
      | (go_at_call 49; (with_reducible refine (HJ.out _ (HL.out _ (by assumption))).mono ?_); rintro e w7 ⟨rfl, hf7⟩)
      | (go_at_call 52; (with_reducible refine (HO.out _ (HL.out _ (by assumption))).mono ?_); rintro e w8 ⟨rfl, hf8⟩))
  all_goals go_wp2_with fail
  all_goals go_ret
  all_goals exact ⟨_, rfl, StrsAt.new _ [[115, 116] ++ itoaN z, regN dst, itoaN off, itoaN imm] _ _ (by simp only [strs, List.map_cons, List.map_nil]; rw [← bA_app]; try rfl), HL2.out _ (by assumption)⟩
set_option maxRecDepth 100000 in
set_option maxHeartbeats 2000000 in
theorem words_stx (op dst src t cn k z : Nat) (off imm : Int) (rB : Bool) (nm : List UInt8) (hop : op < 256) (hd : dst < 256) (hs : src < 256) (ho : -32768 ≤ off ∧ off < 32768) (hm : -2147483648 ≤ imm ∧ imm < 2147483648)
    (ht8 : op % 8 = t) (hcn : codeN op = cn) (hk : op / 16 = k) (hz : sizeN op = z) (hr : regB op = rB)
    (e194 : ((op : Int) == 194) = false) (e133 : ((op : Int) == 133) = false) (e149 : ((op : Int) == 149) = false) (e5 : ((op : Int) == 5) = false) (c1 : ((t : Int) == 1) = false) (c2 : ((t : Int) == 2) = false) (c3 : ((t : Int) == 3) = true) (w : World) (hT : LT w) :
    Calls Tryz.prog 23 #[.agg #[.int .u8 op, .int .u8 dst, .int .u8 src, .int .i16 off, .int .i32 imm]] w (SlStrs [[115, 116, 120] ++ itoaN z, regN dst, itoaN off, regN src] w) := by
  have HT : Hid (∀ W, Fr No w W → LT W) := fun W h => hT.fr h
  have hop2 : (0 : Int) ≤ (op : Int) := by omega
  have hop3 : (op : Int) < 256 := by omega
  have m8 : (op : Int) % 8 = (t : Int) := by omega
  have m16 : (op : Int) / 16 = (k : Int) := by omega
  have p1 := and240 op hop
  rw [hcn] at p1
  have HR : Hid (∀ (n : Nat) W, n < 256 → LT W → Calls Tryz.prog 50 #[.int .u8 n] W fun e w' => e = .returned (.string (bA (regN n))) ∧ Fr No W w') := fun n W h h2 => lreg_any n h W h2
  have HN6 : Hid (∀ W, LT W → Calls Tryz.prog 20 #[.int .i16 off] W fun e w' => e = .returned (.string (bA (itoaN off))) ∧ Fr No W w') := fun W h2 => num_i16 off ho W h2
  have HN2 : Hid (∀ W, LT W → Calls Tryz.prog 21 #[.int .i32 imm] W fun e w' => e = .returned (.string (bA (itoaN imm))) ∧ Fr No W w') := fun W h2 => num_i32 imm hm W h2
  have HJ : Hid (∀ W, LT W → Calls Tryz.prog 49 #[.int .i16 off] W fun e w' => e = .returned (.string (bA (signN off))) ∧ Fr No W w') := fun W h2 => ljump_any off ho W h2
  have HSZ : Hid (∀ W, LT W → Calls Tryz.prog 48 #[.int .u8 op] W fun e w' => e = .returned (.int .i64 z) ∧ W = w') := fun W h2 => by have := isize_any op hop W h2; rw [hz] at this; exact this
  have HIT : Hid (∀ W, LT W → Calls Tryz.prog 45 #[.int .i64 z] W fun e w' => e = .returned (.string (bA (itoaN z))) ∧ Fr No W w') := fun W h2 => itoa_any z (by have := size_le op; omega) (by have := size_le op; omega) W h2
  have HW : Hid (∀ W, Calls Tryz.prog 51 #[.int .u8 t] W fun e w' => e = .returned (.string (bA (if t = 7 ∨ t = 5 then [54, 52] else [51, 50]))) ∧ W = w') := fun W => lwidth_any t W
  have HO : Hid (∀ W, LT W → Calls Tryz.prog 52 #[.agg #[.int .u8 op, .int .u8 dst, .int .u8 src, .int .i16 off, .int .i32 imm]] W fun e w' => e = .returned (.string (bA (if rB then regN src else itoaN imm))) ∧ Fr No W w') := fun W h2 => by have := operand_any ⟨op, dst, src, off, imm⟩ ⟨hop, hd, hs, ho, hm⟩ W h2; simp only [hr] at this; exact this
  have sz : (bA (itoaN z)).size ≤ 1000 := by rw [bA_size]; have := size_le op; exact itoa_len1 (by omega) (by omega)
  have sw : (bA (if t = 7 ∨ t = 5 then [54, 52] else [51, 50])).size ≤ 1000 := by rw [bA_size]; split <;> simp
  have a0 := addB (⟨#[115, 116, 120]⟩) (bA (itoaN z)) (Nat.le_trans (by first | assumption | decide : (⟨#[115, 116, 120]⟩ : ByteArray).size ≤ 1000) (by decide)) (Nat.le_trans (by first | assumption | decide : (bA (itoaN z) : ByteArray).size ≤ 1000) (by decide))
  clear ht8 hcn hk hz hr hT
  go_enter Tryz.func23, Tryz.ntmps23
  go_wp2_with fail
  go_quiet (fail)
  obtain ⟨W0, hW0⟩ : ∃ W0, W0 = (w.alloc (.cells #[.int .u8 op, .int .u8 dst, .int .u8 src, .int .i16 off, .int .i32 imm] 51)).drewN nq := ⟨_, rfl⟩
  have H0 : Hid (∀ W, Fr No W0 W → W.cell? ⟨w.heap.size, 0, none⟩ = some (.int .u8 op) ∧ W.cell? ⟨w.heap.size, 1, none⟩ = some (.int .u8 dst) ∧ W.cell? ⟨w.heap.size, 2, none⟩ = some (.int .u8 src) ∧ W.cell? ⟨w.heap.size, 3, none⟩ = some (.int .i16 off) ∧ W.cell? ⟨w.heap.size, 4, none⟩ = some (.int .i32 imm)) := fun W hW => by
    subst hW0
    refine ⟨hW.cell ?_ id, hW.cell ?_ id, hW.cell ?_ id, hW.cell ?_ id, hW.cell ?_ id⟩ <;> go_simp
  have HF0 : Hid (Fr No w W0) := by rw [hW0]; exact ((Fr.refl _ _).alloc _).drewN _
  rw [← hW0]
  clear hW0
  obtain ⟨g0, g1, g2, g3, g4⟩ := H0.out W0 (Fr.refl _ _)
  go_wp2_with (first
    | (go_at_call 48; (with_reducible refine (HSZ.out _ (HT.out _ HF0.out)).mono ?_); rintro e w0 ⟨rfl, rfl⟩)
    | (go_at_call 45; (with_reducible refine (HIT.out _ (HT.out _ HF0.out)).mono ?_); rintro e w1 ⟨rfl, hf1⟩; have HF1 := Lib.hid (HF0.out.trans hf1); have HX1 := Lib.hid hf1; obtain ⟨k0, k1, k2, k3, k4⟩ := H0.out _ hf1; clear hf1 g0 g1 g2 g3 g4)
    | (go_at_call 21; (with_reducible refine (HN2.out _ (HT.out _ HF1.out)).mono ?_); rintro e w2 ⟨rfl, hf2⟩)
    | (go_at_call 49; (with_reducible refine (HJ.out _ (HT.out _ HF1.out)).mono ?_); rintro e w2 ⟨rfl, hf2⟩))
  have HB : Hid (∀ W, Fr No w1 W → (W.cell? ⟨w.heap.size, 0, none⟩ = some (.int .u8 op) ∧ W.cell? ⟨w.heap.size, 1, none⟩ = some (.int .u8 dst) ∧ W.cell? ⟨w.heap.size, 2, none⟩ = some (.int .u8 src) ∧ W.cell? ⟨w.heap.size, 3, none⟩ = some (.int .i16 off) ∧ W.cell? ⟨w.heap.size, 4, none⟩ = some (.int .i32 imm) ∧ Hid (Fr No w W))) := fun W h => by
    obtain ⟨a0, a1, a2, a3, a4⟩ := H0.out _ (HX1.out.trans h)
    exact ⟨a0, a1, a2, a3, a4, HF1.out.trans h⟩
  have HK : Hid (∀ W W', Fr No W W' → (W.cell? ⟨w.heap.size, 0, none⟩ = some (.int .u8 op) ∧ W.cell? ⟨w.heap.size, 1, none⟩ = some (.int .u8 dst) ∧ W.cell? ⟨w.heap.size, 2, none⟩ = some (.int .u8 src) ∧ W.cell? ⟨w.heap.size, 3, none⟩ = some (.int .i16 off) ∧ W.cell? ⟨w.heap.size, 4, none⟩ = some (.int .i32 imm) ∧ Hid (Fr No w W)) → (W'.cell? ⟨w.heap.size, 0, none⟩ = some (.int .u8 op) ∧ W'.cell? ⟨w.heap.size, 1, none⟩ = some (.int .u8 dst) ∧ W'.cell? ⟨w.heap.size, 2, none⟩ = some (.int .u8 src) ∧ W'.cell? ⟨w.heap.size, 3, none⟩ = some (.int .i16 off) ∧ W'.cell? ⟨w.heap.size, 4, none⟩ = some (.int .i32 imm) ∧ Hid (Fr No w W'))) := fun W W' hf h =>
    ⟨hf.cell h.1 id, hf.cell h.2.1 id, hf.cell h.2.2.1 id, hf.cell h.2.2.2.1 id, hf.cell h.2.2.2.2.1 id, h.2.2.2.2.2.out.trans hf⟩
  have HL : Hid (∀ W, (W.cell? ⟨w.heap.size, 0, none⟩ = some (.int .u8 op) ∧ W.cell? ⟨w.heap.size, 1, none⟩ = some (.int .u8 dst) ∧ W.cell? ⟨w.heap.size, 2, none⟩ = some (.int .u8 src) ∧ W.cell? ⟨w.heap.size, 3, none⟩ = some (.int .i16 off) ∧ W.cell? ⟨w.heap.size, 4, none⟩ = some (.int .i32 imm) ∧ Hid (Fr No w W)) → LT W) := fun W h => HT.out _ h.2.2.2.2.2.out
  have HL2 : Hid (∀ W, (W.cell? ⟨w.heap.size, 0, none⟩ = some (.int .u8 op) ∧ W.cell? ⟨w.heap.size, 1, none⟩ = some (.int .u8 dst) ∧ W.cell? ⟨w.heap.size, 2, none⟩ = some (.int .u8 src) ∧ W.cell? ⟨w.heap.size, 3, none⟩ = some (.int .i16 off) ∧ W.cell? ⟨w.heap.size, 4, none⟩ = some (.int .i32 imm) ∧ Hid (Fr No w W)) → Fr No w W) := fun W h => h.2.2.2.2.2.out
  have hst : w1.drew.cell? ⟨w.heap.size, 0, none⟩ = some (.int .u8 op) ∧ w1.drew.cell? ⟨w.heap.size, 1, none⟩ = some (.int .u8 dst) ∧ w1.drew.cell? ⟨w.heap.size, 2, none⟩ = some (.int .u8 src) ∧ w1.drew.cell? ⟨w.heap.size, 3, none⟩ = some (.int .i16 off) ∧ w1.drew.cell? ⟨w.heap.size, 4, none⟩ = some (.int .i32 imm) ∧ Hid (Fr No w w1.drew) := HB.out _ (Fr.refl _ _).drew
  clear k0 k1 k2 k3 k4
  go_region_held3 (fun W => W.cell? ⟨w.heap.size, 0, none⟩ = some (.int .u8 op) ∧ W.cell? ⟨w.heap.size, 1, none⟩ = some (.int .u8 dst) ∧ W.cell? ⟨w.heap.size, 2, none⟩ = some (.int .u8 src) ∧ W.cell? ⟨w.heap.size, 3, none⟩ = some (.int .i16 off) ∧ W.cell? ⟨w.heap.size, 4, none⟩ = some (.int .i32 imm) ∧ Hid (Fr No w W)) (first | assumption | exact HK.out _ _ (by assumption) (by assumption) | exact HK.out _ _ ((Fr.refl _ _).alloc _) (by assumption))
    (first
      | (go_at_call 51; (with_reducible refine (HW.out _).mono ?_); rintro e w3 ⟨rfl, rfl⟩)
      | (go_at_call 50; (with_reducible refine (HR.out _ _ (by omega) (HL.out _ (by assumption))).mono ?_); rintro e w4 ⟨rfl, hf4⟩)
      | (go_at_call 20; (with_reducible refine (HN6.out _ (HL.out _ (by assumption))).mono ?_); rintro e w5 ⟨rfl, hf5⟩)
      | (go_at_call 21; (with_reducible refine (HN2.out _ (HL.out _ (by assumption))).mono ?_); rintro e w6 ⟨rfl, hf6⟩)
      | (go_at_call 49; (with_reducible refine (HJ.out _ (HL.out _ (by assumption))).mono ?_); rintro e w7 ⟨rfl, hf7⟩)
      | (go_at_call 52; (with_reducible refine (HO.out _ (HL.out _ (by assumption))).mono ?_); rintro e w8 ⟨rfl, hf8⟩))
  all_goals go_wp2_with fail
  all_goals go_ret
  all_goals exact ⟨_, rfl, StrsAt.new _ [[115, 116, 120] ++ itoaN z, regN dst, itoaN off, regN src] _ _ (by simp only [strs, List.map_cons, List.map_nil]; rw [← bA_app]; try rfl), HL2.out _ (by assumption)⟩
set_option maxRecDepth 100000 in
set_option maxHeartbeats 2000000 in
theorem words_jmp5 (op dst src t cn k z : Nat) (off imm : Int) (rB : Bool) (nm : List UInt8) (hop : op < 256) (hd : dst < 256) (hs : src < 256) (ho : -32768 ≤ off ∧ off < 32768) (hm : -2147483648 ≤ imm ∧ imm < 2147483648)
    (ht8 : op % 8 = t) (hcn : codeN op = cn) (hk : op / 16 = k) (hz : sizeN op = z) (hr : regB op = rB) (hk2 : k < 14) (hnm : ((jumpN)[k]?).getD [] = nm)
    (e194 : ((op : Int) == 194) = false) (e133 : ((op : Int) == 133) = false) (e149 : ((op : Int) == 149) = false) (e5 : ((op : Int) == 5) = false) (c1 : ((t : Int) == 1) = false) (c2 : ((t : Int) == 2) = false) (c3 : ((t : Int) == 3) = false) (c5 : ((t : Int) == 5) = true) (w : World) (hT : LT w) :
    Calls Tryz.prog 23 #[.agg #[.int .u8 op, .int .u8 dst, .int .u8 src, .int .i16 off, .int .i32 imm]] w (SlStrs [nm ++ (if t = 7 ∨ t = 5 then [54, 52] else [51, 50]), regN dst, (if rB then regN src else itoaN imm), signN off] w) := by
  have HT : Hid (∀ W, Fr No w W → LT W) := fun W h => hT.fr h
  have hop2 : (0 : Int) ≤ (op : Int) := by omega
  have hop3 : (op : Int) < 256 := by omega
  have m8 : (op : Int) % 8 = (t : Int) := by omega
  have m16 : (op : Int) / 16 = (k : Int) := by omega
  have p1 := and240 op hop
  rw [hcn] at p1
  have HR : Hid (∀ (n : Nat) W, n < 256 → LT W → Calls Tryz.prog 50 #[.int .u8 n] W fun e w' => e = .returned (.string (bA (regN n))) ∧ Fr No W w') := fun n W h h2 => lreg_any n h W h2
  have HN6 : Hid (∀ W, LT W → Calls Tryz.prog 20 #[.int .i16 off] W fun e w' => e = .returned (.string (bA (itoaN off))) ∧ Fr No W w') := fun W h2 => num_i16 off ho W h2
  have HN2 : Hid (∀ W, LT W → Calls Tryz.prog 21 #[.int .i32 imm] W fun e w' => e = .returned (.string (bA (itoaN imm))) ∧ Fr No W w') := fun W h2 => num_i32 imm hm W h2
  have HJ : Hid (∀ W, LT W → Calls Tryz.prog 49 #[.int .i16 off] W fun e w' => e = .returned (.string (bA (signN off))) ∧ Fr No W w') := fun W h2 => ljump_any off ho W h2
  have HSZ : Hid (∀ W, LT W → Calls Tryz.prog 48 #[.int .u8 op] W fun e w' => e = .returned (.int .i64 z) ∧ W = w') := fun W h2 => by have := isize_any op hop W h2; rw [hz] at this; exact this
  have HIT : Hid (∀ W, LT W → Calls Tryz.prog 45 #[.int .i64 z] W fun e w' => e = .returned (.string (bA (itoaN z))) ∧ Fr No W w') := fun W h2 => itoa_any z (by have := size_le op; omega) (by have := size_le op; omega) W h2
  have HW : Hid (∀ W, Calls Tryz.prog 51 #[.int .u8 t] W fun e w' => e = .returned (.string (bA (if t = 7 ∨ t = 5 then [54, 52] else [51, 50]))) ∧ W = w') := fun W => lwidth_any t W
  have HO : Hid (∀ W, LT W → Calls Tryz.prog 52 #[.agg #[.int .u8 op, .int .u8 dst, .int .u8 src, .int .i16 off, .int .i32 imm]] W fun e w' => e = .returned (.string (bA (if rB then regN src else itoaN imm))) ∧ Fr No W w') := fun W h2 => by have := operand_any ⟨op, dst, src, off, imm⟩ ⟨hop, hd, hs, ho, hm⟩ W h2; simp only [hr] at this; exact this
  have sz : (bA (itoaN z)).size ≤ 1000 := by rw [bA_size]; have := size_le op; exact itoa_len1 (by omega) (by omega)
  have sw : (bA (if t = 7 ∨ t = 5 then [54, 52] else [51, 50])).size ≤ 1000 := by rw [bA_size]; split <;> simp
  have sn : (bA nm).size ≤ 1000 := by rw [bA_size, ← hnm]; exact jumps_len k
  obtain ⟨WD, hWD⟩ : ∃ WD, (if t = 7 ∨ t = 5 then [54, 52] else [51, 50] : List UInt8) = WD := ⟨_, rfl⟩
  rw [hWD] at HW sw
  rw [hWD]
  clear hWD
  have a0 := addB (bA nm) (bA WD) (Nat.le_trans (by first | assumption | decide : (bA nm : ByteArray).size ≤ 1000) (by decide)) (Nat.le_trans (by first | assumption | decide : (bA WD : ByteArray).size ≤ 1000) (by decide))
  have HG : Hid (∀ W, Fr No w W → W.cell? ⟨0, k, none⟩ = some (.string (bA nm))) := fun W h => by
    have := (hT.fr h).jumps k (.string (bA nm)) (by
      simp only [strs, List.getElem?_map]
      rw [List.getElem?_eq_getElem (by simpa [jumpN] using hk2)]
      rw [List.getElem?_eq_getElem (by simpa [jumpN] using hk2)] at hnm
      simp only [Option.getD_some] at hnm
      rw [hnm]
      rfl)
    rwa [Nat.zero_add] at this
  have hk3 : (k : Int) < 14 := by omega
  have hk4 : (0 : Int) ≤ (k : Int) := by omega
  generalize (if rB then regN src else itoaN imm) = OP at *
  clear ht8 hcn hk hz hr hT hnm
  go_enter Tryz.func23, Tryz.ntmps23
  go_wp2_with fail
  go_quiet (fail)
  obtain ⟨W0, hW0⟩ : ∃ W0, W0 = (w.alloc (.cells #[.int .u8 op, .int .u8 dst, .int .u8 src, .int .i16 off, .int .i32 imm] 51)).drewN nq := ⟨_, rfl⟩
  have H0 : Hid (∀ W, Fr No W0 W → W.cell? ⟨w.heap.size, 0, none⟩ = some (.int .u8 op) ∧ W.cell? ⟨w.heap.size, 1, none⟩ = some (.int .u8 dst) ∧ W.cell? ⟨w.heap.size, 2, none⟩ = some (.int .u8 src) ∧ W.cell? ⟨w.heap.size, 3, none⟩ = some (.int .i16 off) ∧ W.cell? ⟨w.heap.size, 4, none⟩ = some (.int .i32 imm)) := fun W hW => by
    subst hW0
    refine ⟨hW.cell ?_ id, hW.cell ?_ id, hW.cell ?_ id, hW.cell ?_ id, hW.cell ?_ id⟩ <;> go_simp
  have HF0 : Hid (Fr No w W0) := by rw [hW0]; exact ((Fr.refl _ _).alloc _).drewN _
  rw [← hW0]
  clear hW0
  obtain ⟨g0, g1, g2, g3, g4⟩ := H0.out W0 (Fr.refl _ _)
  go_wp2_with (first
    | (go_at_call 48; (with_reducible refine (HSZ.out _ (HT.out _ HF0.out)).mono ?_); rintro e w0 ⟨rfl, rfl⟩)
    | (go_at_call 45; (with_reducible refine (HIT.out _ (HT.out _ HF0.out)).mono ?_); rintro e w1 ⟨rfl, hf1⟩; have HF1 := Lib.hid (HF0.out.trans hf1); have HX1 := Lib.hid hf1; obtain ⟨k0, k1, k2, k3, k4⟩ := H0.out _ hf1; clear hf1 g0 g1 g2 g3 g4)
    | (go_at_call 21; (with_reducible refine (HN2.out _ (HT.out _ HF1.out)).mono ?_); rintro e w2 ⟨rfl, hf2⟩)
    | (go_at_call 49; (with_reducible refine (HJ.out _ (HT.out _ HF1.out)).mono ?_); rintro e w2 ⟨rfl, hf2⟩))
  have HB : Hid (∀ W, Fr No w1 W → (W.cell? ⟨w.heap.size, 0, none⟩ = some (.int .u8 op) ∧ W.cell? ⟨w.heap.size, 1, none⟩ = some (.int .u8 dst) ∧ W.cell? ⟨w.heap.size, 2, none⟩ = some (.int .u8 src) ∧ W.cell? ⟨w.heap.size, 3, none⟩ = some (.int .i16 off) ∧ W.cell? ⟨w.heap.size, 4, none⟩ = some (.int .i32 imm) ∧ W.cell? ⟨0, k, none⟩ = some (.string (bA nm)) ∧ Hid (Fr No w W))) := fun W h => by
    obtain ⟨a0, a1, a2, a3, a4⟩ := H0.out _ (HX1.out.trans h)
    exact ⟨a0, a1, a2, a3, a4, HG.out _ (HF1.out.trans h), HF1.out.trans h⟩
  have HK : Hid (∀ W W', Fr No W W' → (W.cell? ⟨w.heap.size, 0, none⟩ = some (.int .u8 op) ∧ W.cell? ⟨w.heap.size, 1, none⟩ = some (.int .u8 dst) ∧ W.cell? ⟨w.heap.size, 2, none⟩ = some (.int .u8 src) ∧ W.cell? ⟨w.heap.size, 3, none⟩ = some (.int .i16 off) ∧ W.cell? ⟨w.heap.size, 4, none⟩ = some (.int .i32 imm) ∧ W.cell? ⟨0, k, none⟩ = some (.string (bA nm)) ∧ Hid (Fr No w W)) → (W'.cell? ⟨w.heap.size, 0, none⟩ = some (.int .u8 op) ∧ W'.cell? ⟨w.heap.size, 1, none⟩ = some (.int .u8 dst) ∧ W'.cell? ⟨w.heap.size, 2, none⟩ = some (.int .u8 src) ∧ W'.cell? ⟨w.heap.size, 3, none⟩ = some (.int .i16 off) ∧ W'.cell? ⟨w.heap.size, 4, none⟩ = some (.int .i32 imm) ∧ W'.cell? ⟨0, k, none⟩ = some (.string (bA nm)) ∧ Hid (Fr No w W'))) := fun W W' hf h =>
    ⟨hf.cell h.1 id, hf.cell h.2.1 id, hf.cell h.2.2.1 id, hf.cell h.2.2.2.1 id, hf.cell h.2.2.2.2.1 id, hf.cell h.2.2.2.2.2.1 id, h.2.2.2.2.2.2.out.trans hf⟩
  have HL : Hid (∀ W, (W.cell? ⟨w.heap.size, 0, none⟩ = some (.int .u8 op) ∧ W.cell? ⟨w.heap.size, 1, none⟩ = some (.int .u8 dst) ∧ W.cell? ⟨w.heap.size, 2, none⟩ = some (.int .u8 src) ∧ W.cell? ⟨w.heap.size, 3, none⟩ = some (.int .i16 off) ∧ W.cell? ⟨w.heap.size, 4, none⟩ = some (.int .i32 imm) ∧ W.cell? ⟨0, k, none⟩ = some (.string (bA nm)) ∧ Hid (Fr No w W)) → LT W) := fun W h => HT.out _ h.2.2.2.2.2.2.out
  have HL2 : Hid (∀ W, (W.cell? ⟨w.heap.size, 0, none⟩ = some (.int .u8 op) ∧ W.cell? ⟨w.heap.size, 1, none⟩ = some (.int .u8 dst) ∧ W.cell? ⟨w.heap.size, 2, none⟩ = some (.int .u8 src) ∧ W.cell? ⟨w.heap.size, 3, none⟩ = some (.int .i16 off) ∧ W.cell? ⟨w.heap.size, 4, none⟩ = some (.int .i32 imm) ∧ W.cell? ⟨0, k, none⟩ = some (.string (bA nm)) ∧ Hid (Fr No w W)) → Fr No w W) := fun W h => h.2.2.2.2.2.2.out
  have hst : w1.drew.cell? ⟨w.heap.size, 0, none⟩ = some (.int .u8 op) ∧ w1.drew.cell? ⟨w.heap.size, 1, none⟩ = some (.int .u8 dst) ∧ w1.drew.cell? ⟨w.heap.size, 2, none⟩ = some (.int .u8 src) ∧ w1.drew.cell? ⟨w.heap.size, 3, none⟩ = some (.int .i16 off) ∧ w1.drew.cell? ⟨w.heap.size, 4, none⟩ = some (.int .i32 imm) ∧ w1.drew.cell? ⟨0, k, none⟩ = some (.string (bA nm)) ∧ Hid (Fr No w w1.drew) := HB.out _ (Fr.refl _ _).drew
  clear k0 k1 k2 k3 k4
  go_region_held3 (fun W => W.cell? ⟨w.heap.size, 0, none⟩ = some (.int .u8 op) ∧ W.cell? ⟨w.heap.size, 1, none⟩ = some (.int .u8 dst) ∧ W.cell? ⟨w.heap.size, 2, none⟩ = some (.int .u8 src) ∧ W.cell? ⟨w.heap.size, 3, none⟩ = some (.int .i16 off) ∧ W.cell? ⟨w.heap.size, 4, none⟩ = some (.int .i32 imm) ∧ W.cell? ⟨0, k, none⟩ = some (.string (bA nm)) ∧ Hid (Fr No w W)) (first | assumption | exact HK.out _ _ (by assumption) (by assumption) | exact HK.out _ _ ((Fr.refl _ _).alloc _) (by assumption))
    (first
      | (go_at_call 51; (with_reducible refine (HW.out _).mono ?_); rintro e w3 ⟨rfl, rfl⟩)
      | (go_at_call 50; (with_reducible refine (HR.out _ _ (by omega) (HL.out _ (by assumption))).mono ?_); rintro e w4 ⟨rfl, hf4⟩)
      | (go_at_call 20; (with_reducible refine (HN6.out _ (HL.out _ (by assumption))).mono ?_); rintro e w5 ⟨rfl, hf5⟩)
      | (go_at_call 21; (with_reducible refine (HN2.out _ (HL.out _ (by assumption))).mono ?_); rintro e w6 ⟨rfl, hf6⟩)
      | (go_at_call 49; (with_reducible refine (HJ.out _ (HL.out _ (by assumption))).mono ?_); rintro e w7 ⟨rfl, hf7⟩)
      | (go_at_call 52; (with_reducible refine (HO.out _ (HL.out _ (by assumption))).mono ?_); rintro e w8 ⟨rfl, hf8⟩))
  all_goals go_wp2_with fail
  all_goals go_ret
  all_goals exact ⟨_, rfl, StrsAt.new _ [nm ++ WD, regN dst, OP, signN off] _ _ (by simp only [strs, List.map_cons, List.map_nil]; rw [← bA_app]; try rfl), HL2.out _ (by assumption)⟩
set_option maxRecDepth 100000 in
set_option maxHeartbeats 2000000 in
theorem words_jmp6 (op dst src t cn k z : Nat) (off imm : Int) (rB : Bool) (nm : List UInt8) (hop : op < 256) (hd : dst < 256) (hs : src < 256) (ho : -32768 ≤ off ∧ off < 32768) (hm : -2147483648 ≤ imm ∧ imm < 2147483648)
    (ht8 : op % 8 = t) (hcn : codeN op = cn) (hk : op / 16 = k) (hz : sizeN op = z) (hr : regB op = rB) (hk2 : k < 14) (hnm : ((jumpN)[k]?).getD [] = nm)
    (e194 : ((op : Int) == 194) = false) (e133 : ((op : Int) == 133) = false) (e149 : ((op : Int) == 149) = false) (e5 : ((op : Int) == 5) = false) (c1 : ((t : Int) == 1) = false) (c2 : ((t : Int) == 2) = false) (c3 : ((t : Int) == 3) = false) (c5 : ((t : Int) == 5) = false) (c6 : ((t : Int) == 6) = true) (w : World) (hT : LT w) :
    Calls Tryz.prog 23 #[.agg #[.int .u8 op, .int .u8 dst, .int .u8 src, .int .i16 off, .int .i32 imm]] w (SlStrs [nm ++ (if t = 7 ∨ t = 5 then [54, 52] else [51, 50]), regN dst, (if rB then regN src else itoaN imm), signN off] w) := by
  have HT : Hid (∀ W, Fr No w W → LT W) := fun W h => hT.fr h
  have hop2 : (0 : Int) ≤ (op : Int) := by omega
  have hop3 : (op : Int) < 256 := by omega
  have m8 : (op : Int) % 8 = (t : Int) := by omega
  have m16 : (op : Int) / 16 = (k : Int) := by omega
  have p1 := and240 op hop
  rw [hcn] at p1
  have HR : Hid (∀ (n : Nat) W, n < 256 → LT W → Calls Tryz.prog 50 #[.int .u8 n] W fun e w' => e = .returned (.string (bA (regN n))) ∧ Fr No W w') := fun n W h h2 => lreg_any n h W h2
  have HN6 : Hid (∀ W, LT W → Calls Tryz.prog 20 #[.int .i16 off] W fun e w' => e = .returned (.string (bA (itoaN off))) ∧ Fr No W w') := fun W h2 => num_i16 off ho W h2
  have HN2 : Hid (∀ W, LT W → Calls Tryz.prog 21 #[.int .i32 imm] W fun e w' => e = .returned (.string (bA (itoaN imm))) ∧ Fr No W w') := fun W h2 => num_i32 imm hm W h2
  have HJ : Hid (∀ W, LT W → Calls Tryz.prog 49 #[.int .i16 off] W fun e w' => e = .returned (.string (bA (signN off))) ∧ Fr No W w') := fun W h2 => ljump_any off ho W h2
  have HSZ : Hid (∀ W, LT W → Calls Tryz.prog 48 #[.int .u8 op] W fun e w' => e = .returned (.int .i64 z) ∧ W = w') := fun W h2 => by have := isize_any op hop W h2; rw [hz] at this; exact this
  have HIT : Hid (∀ W, LT W → Calls Tryz.prog 45 #[.int .i64 z] W fun e w' => e = .returned (.string (bA (itoaN z))) ∧ Fr No W w') := fun W h2 => itoa_any z (by have := size_le op; omega) (by have := size_le op; omega) W h2
  have HW : Hid (∀ W, Calls Tryz.prog 51 #[.int .u8 t] W fun e w' => e = .returned (.string (bA (if t = 7 ∨ t = 5 then [54, 52] else [51, 50]))) ∧ W = w') := fun W => lwidth_any t W
  have HO : Hid (∀ W, LT W → Calls Tryz.prog 52 #[.agg #[.int .u8 op, .int .u8 dst, .int .u8 src, .int .i16 off, .int .i32 imm]] W fun e w' => e = .returned (.string (bA (if rB then regN src else itoaN imm))) ∧ Fr No W w') := fun W h2 => by have := operand_any ⟨op, dst, src, off, imm⟩ ⟨hop, hd, hs, ho, hm⟩ W h2; simp only [hr] at this; exact this
  have sz : (bA (itoaN z)).size ≤ 1000 := by rw [bA_size]; have := size_le op; exact itoa_len1 (by omega) (by omega)
  have sw : (bA (if t = 7 ∨ t = 5 then [54, 52] else [51, 50])).size ≤ 1000 := by rw [bA_size]; split <;> simp
  have sn : (bA nm).size ≤ 1000 := by rw [bA_size, ← hnm]; exact jumps_len k
  obtain ⟨WD, hWD⟩ : ∃ WD, (if t = 7 ∨ t = 5 then [54, 52] else [51, 50] : List UInt8) = WD := ⟨_, rfl⟩
  rw [hWD] at HW sw
  rw [hWD]
  clear hWD
  have a0 := addB (bA nm) (bA WD) (Nat.le_trans (by first | assumption | decide : (bA nm : ByteArray).size ≤ 1000) (by decide)) (Nat.le_trans (by first | assumption | decide : (bA WD : ByteArray).size ≤ 1000) (by decide))
  have HG : Hid (∀ W, Fr No w W → W.cell? ⟨0, k, none⟩ = some (.string (bA nm))) := fun W h => by
    have := (hT.fr h).jumps k (.string (bA nm)) (by
      simp only [strs, List.getElem?_map]
      rw [List.getElem?_eq_getElem (by simpa [jumpN] using hk2)]
      rw [List.getElem?_eq_getElem (by simpa [jumpN] using hk2)] at hnm
      simp only [Option.getD_some] at hnm
      rw [hnm]
      rfl)
    rwa [Nat.zero_add] at this
  have hk3 : (k : Int) < 14 := by omega
  have hk4 : (0 : Int) ≤ (k : Int) := by omega
  generalize (if rB then regN src else itoaN imm) = OP at *
  clear ht8 hcn hk hz hr hT hnm
  go_enter Tryz.func23, Tryz.ntmps23
  go_wp2_with fail
  go_quiet (fail)
  obtain ⟨W0, hW0⟩ : ∃ W0, W0 = (w.alloc (.cells #[.int .u8 op, .int .u8 dst, .int .u8 src, .int .i16 off, .int .i32 imm] 51)).drewN nq := ⟨_, rfl⟩
  have H0 : Hid (∀ W, Fr No W0 W → W.cell? ⟨w.heap.size, 0, none⟩ = some (.int .u8 op) ∧ W.cell? ⟨w.heap.size, 1, none⟩ = some (.int .u8 dst) ∧ W.cell? ⟨w.heap.size, 2, none⟩ = some (.int .u8 src) ∧ W.cell? ⟨w.heap.size, 3, none⟩ = some (.int .i16 off) ∧ W.cell? ⟨w.heap.size, 4, none⟩ = some (.int .i32 imm)) := fun W hW => by
    subst hW0
    refine ⟨hW.cell ?_ id, hW.cell ?_ id, hW.cell ?_ id, hW.cell ?_ id, hW.cell ?_ id⟩ <;> go_simp
  have HF0 : Hid (Fr No w W0) := by rw [hW0]; exact ((Fr.refl _ _).alloc _).drewN _
  rw [← hW0]
  clear hW0
  obtain ⟨g0, g1, g2, g3, g4⟩ := H0.out W0 (Fr.refl _ _)
  go_wp2_with (first
    | (go_at_call 48; (with_reducible refine (HSZ.out _ (HT.out _ HF0.out)).mono ?_); rintro e w0 ⟨rfl, rfl⟩)
    | (go_at_call 45; (with_reducible refine (HIT.out _ (HT.out _ HF0.out)).mono ?_); rintro e w1 ⟨rfl, hf1⟩; have HF1 := Lib.hid (HF0.out.trans hf1); have HX1 := Lib.hid hf1; obtain ⟨k0, k1, k2, k3, k4⟩ := H0.out _ hf1; clear hf1 g0 g1 g2 g3 g4)
    | (go_at_call 21; (with_reducible refine (HN2.out _ (HT.out _ HF1.out)).mono ?_); rintro e w2 ⟨rfl, hf2⟩)
    | (go_at_call 49; (with_reducible refine (HJ.out _ (HT.out _ HF1.out)).mono ?_); rintro e w2 ⟨rfl, hf2⟩))
  have HB : Hid (∀ W, Fr No w1 W → (W.cell? ⟨w.heap.size, 0, none⟩ = some (.int .u8 op) ∧ W.cell? ⟨w.heap.size, 1, none⟩ = some (.int .u8 dst) ∧ W.cell? ⟨w.heap.size, 2, none⟩ = some (.int .u8 src) ∧ W.cell? ⟨w.heap.size, 3, none⟩ = some (.int .i16 off) ∧ W.cell? ⟨w.heap.size, 4, none⟩ = some (.int .i32 imm) ∧ W.cell? ⟨0, k, none⟩ = some (.string (bA nm)) ∧ Hid (Fr No w W))) := fun W h => by
    obtain ⟨a0, a1, a2, a3, a4⟩ := H0.out _ (HX1.out.trans h)
    exact ⟨a0, a1, a2, a3, a4, HG.out _ (HF1.out.trans h), HF1.out.trans h⟩
  have HK : Hid (∀ W W', Fr No W W' → (W.cell? ⟨w.heap.size, 0, none⟩ = some (.int .u8 op) ∧ W.cell? ⟨w.heap.size, 1, none⟩ = some (.int .u8 dst) ∧ W.cell? ⟨w.heap.size, 2, none⟩ = some (.int .u8 src) ∧ W.cell? ⟨w.heap.size, 3, none⟩ = some (.int .i16 off) ∧ W.cell? ⟨w.heap.size, 4, none⟩ = some (.int .i32 imm) ∧ W.cell? ⟨0, k, none⟩ = some (.string (bA nm)) ∧ Hid (Fr No w W)) → (W'.cell? ⟨w.heap.size, 0, none⟩ = some (.int .u8 op) ∧ W'.cell? ⟨w.heap.size, 1, none⟩ = some (.int .u8 dst) ∧ W'.cell? ⟨w.heap.size, 2, none⟩ = some (.int .u8 src) ∧ W'.cell? ⟨w.heap.size, 3, none⟩ = some (.int .i16 off) ∧ W'.cell? ⟨w.heap.size, 4, none⟩ = some (.int .i32 imm) ∧ W'.cell? ⟨0, k, none⟩ = some (.string (bA nm)) ∧ Hid (Fr No w W'))) := fun W W' hf h =>
    ⟨hf.cell h.1 id, hf.cell h.2.1 id, hf.cell h.2.2.1 id, hf.cell h.2.2.2.1 id, hf.cell h.2.2.2.2.1 id, hf.cell h.2.2.2.2.2.1 id, h.2.2.2.2.2.2.out.trans hf⟩
  have HL : Hid (∀ W, (W.cell? ⟨w.heap.size, 0, none⟩ = some (.int .u8 op) ∧ W.cell? ⟨w.heap.size, 1, none⟩ = some (.int .u8 dst) ∧ W.cell? ⟨w.heap.size, 2, none⟩ = some (.int .u8 src) ∧ W.cell? ⟨w.heap.size, 3, none⟩ = some (.int .i16 off) ∧ W.cell? ⟨w.heap.size, 4, none⟩ = some (.int .i32 imm) ∧ W.cell? ⟨0, k, none⟩ = some (.string (bA nm)) ∧ Hid (Fr No w W)) → LT W) := fun W h => HT.out _ h.2.2.2.2.2.2.out
  have HL2 : Hid (∀ W, (W.cell? ⟨w.heap.size, 0, none⟩ = some (.int .u8 op) ∧ W.cell? ⟨w.heap.size, 1, none⟩ = some (.int .u8 dst) ∧ W.cell? ⟨w.heap.size, 2, none⟩ = some (.int .u8 src) ∧ W.cell? ⟨w.heap.size, 3, none⟩ = some (.int .i16 off) ∧ W.cell? ⟨w.heap.size, 4, none⟩ = some (.int .i32 imm) ∧ W.cell? ⟨0, k, none⟩ = some (.string (bA nm)) ∧ Hid (Fr No w W)) → Fr No w W) := fun W h => h.2.2.2.2.2.2.out
  have hst : w1.drew.cell? ⟨w.heap.size, 0, none⟩ = some (.int .u8 op) ∧ w1.drew.cell? ⟨w.heap.size, 1, none⟩ = some (.int .u8 dst) ∧ w1.drew.cell? ⟨w.heap.size, 2, none⟩ = some (.int .u8 src) ∧ w1.drew.cell? ⟨w.heap.size, 3, none⟩ = some (.int .i16 off) ∧ w1.drew.cell? ⟨w.heap.size, 4, none⟩ = some (.int .i32 imm) ∧ w1.drew.cell? ⟨0, k, none⟩ = some (.string (bA nm)) ∧ Hid (Fr No w w1.drew) := HB.out _ (Fr.refl _ _).drew
  clear k0 k1 k2 k3 k4
  go_region_held3 (fun W => W.cell? ⟨w.heap.size, 0, none⟩ = some (.int .u8 op) ∧ W.cell? ⟨w.heap.size, 1, none⟩ = some (.int .u8 dst) ∧ W.cell? ⟨w.heap.size, 2, none⟩ = some (.int .u8 src) ∧ W.cell? ⟨w.heap.size, 3, none⟩ = some (.int .i16 off) ∧ W.cell? ⟨w.heap.size, 4, none⟩ = some (.int .i32 imm) ∧ W.cell? ⟨0, k, none⟩ = some (.string (bA nm)) ∧ Hid (Fr No w W)) (first | assumption | exact HK.out _ _ (by assumption) (by assumption) | exact HK.out _ _ ((Fr.refl _ _).alloc _) (by assumption))
    (first
      | (go_at_call 51; (with_reducible refine (HW.out _).mono ?_); rintro e w3 ⟨rfl, rfl⟩)
      | (go_at_call 50; (with_reducible refine (HR.out _ _ (by omega) (HL.out _ (by assumption))).mono ?_); rintro e w4 ⟨rfl, hf4⟩)
      | (go_at_call 20; (with_reducible refine (HN6.out _ (HL.out _ (by assumption))).mono ?_); rintro e w5 ⟨rfl, hf5⟩)
      | (go_at_call 21; (with_reducible refine (HN2.out _ (HL.out _ (by assumption))).mono ?_); rintro e w6 ⟨rfl, hf6⟩)
      | (go_at_call 49; (with_reducible refine (HJ.out _ (HL.out _ (by assumption))).mono ?_); rintro e w7 ⟨rfl, hf7⟩)
      | (go_at_call 52; (with_reducible refine (HO.out _ (HL.out _ (by assumption))).mono ?_); rintro e w8 ⟨rfl, hf8⟩))
  all_goals go_wp2_with fail
  all_goals go_ret
  all_goals exact ⟨_, rfl, StrsAt.new _ [nm ++ WD, regN dst, OP, signN off] _ _ (by simp only [strs, List.map_cons, List.map_nil]; rw [← bA_app]; try rfl), HL2.out _ (by assumption)⟩
set_option maxRecDepth 100000 in
set_option maxHeartbeats 2000000 in
theorem words_neg (op dst src t cn k z : Nat) (off imm : Int) (rB : Bool) (nm : List UInt8) (hop : op < 256) (hd : dst < 256) (hs : src < 256) (ho : -32768 ≤ off ∧ off < 32768) (hm : -2147483648 ≤ imm ∧ imm < 2147483648)
    (ht8 : op % 8 = t) (hcn : codeN op = cn) (hk : op / 16 = k) (hz : sizeN op = z) (hr : regB op = rB)
    (e194 : ((op : Int) == 194) = false) (e133 : ((op : Int) == 133) = false) (e149 : ((op : Int) == 149) = false) (e5 : ((op : Int) == 5) = false) (c1 : ((t : Int) == 1) = false) (c2 : ((t : Int) == 2) = false) (c3 : ((t : Int) == 3) = false) (c5 : ((t : Int) == 5) = false) (c6 : ((t : Int) == 6) = false) (ng : ((cn : Int) == 128) = true) (w : World) (hT : LT w) :
    Calls Tryz.prog 23 #[.agg #[.int .u8 op, .int .u8 dst, .int .u8 src, .int .i16 off, .int .i32 imm]] w (SlStrs [[110, 101, 103] ++ (if t = 7 ∨ t = 5 then [54, 52] else [51, 50]), regN dst] w) := by
  have HT : Hid (∀ W, Fr No w W → LT W) := fun W h => hT.fr h
  have hop2 : (0 : Int) ≤ (op : Int) := by omega
  have hop3 : (op : Int) < 256 := by omega
  have m8 : (op : Int) % 8 = (t : Int) := by omega
  have m16 : (op : Int) / 16 = (k : Int) := by omega
  have p1 := and240 op hop
  rw [hcn] at p1
  have HR : Hid (∀ (n : Nat) W, n < 256 → LT W → Calls Tryz.prog 50 #[.int .u8 n] W fun e w' => e = .returned (.string (bA (regN n))) ∧ Fr No W w') := fun n W h h2 => lreg_any n h W h2
  have HN6 : Hid (∀ W, LT W → Calls Tryz.prog 20 #[.int .i16 off] W fun e w' => e = .returned (.string (bA (itoaN off))) ∧ Fr No W w') := fun W h2 => num_i16 off ho W h2
  have HN2 : Hid (∀ W, LT W → Calls Tryz.prog 21 #[.int .i32 imm] W fun e w' => e = .returned (.string (bA (itoaN imm))) ∧ Fr No W w') := fun W h2 => num_i32 imm hm W h2
  have HJ : Hid (∀ W, LT W → Calls Tryz.prog 49 #[.int .i16 off] W fun e w' => e = .returned (.string (bA (signN off))) ∧ Fr No W w') := fun W h2 => ljump_any off ho W h2
  have HSZ : Hid (∀ W, LT W → Calls Tryz.prog 48 #[.int .u8 op] W fun e w' => e = .returned (.int .i64 z) ∧ W = w') := fun W h2 => by have := isize_any op hop W h2; rw [hz] at this; exact this
  have HIT : Hid (∀ W, LT W → Calls Tryz.prog 45 #[.int .i64 z] W fun e w' => e = .returned (.string (bA (itoaN z))) ∧ Fr No W w') := fun W h2 => itoa_any z (by have := size_le op; omega) (by have := size_le op; omega) W h2
  have HW : Hid (∀ W, Calls Tryz.prog 51 #[.int .u8 t] W fun e w' => e = .returned (.string (bA (if t = 7 ∨ t = 5 then [54, 52] else [51, 50]))) ∧ W = w') := fun W => lwidth_any t W
  have HO : Hid (∀ W, LT W → Calls Tryz.prog 52 #[.agg #[.int .u8 op, .int .u8 dst, .int .u8 src, .int .i16 off, .int .i32 imm]] W fun e w' => e = .returned (.string (bA (if rB then regN src else itoaN imm))) ∧ Fr No W w') := fun W h2 => by have := operand_any ⟨op, dst, src, off, imm⟩ ⟨hop, hd, hs, ho, hm⟩ W h2; simp only [hr] at this; exact this
  have sz : (bA (itoaN z)).size ≤ 1000 := by rw [bA_size]; have := size_le op; exact itoa_len1 (by omega) (by omega)
  have sw : (bA (if t = 7 ∨ t = 5 then [54, 52] else [51, 50])).size ≤ 1000 := by rw [bA_size]; split <;> simp
  obtain ⟨WD, hWD⟩ : ∃ WD, (if t = 7 ∨ t = 5 then [54, 52] else [51, 50] : List UInt8) = WD := ⟨_, rfl⟩
  rw [hWD] at HW sw
  rw [hWD]
  clear hWD
  have a0 := addB (⟨#[110, 101, 103]⟩) (bA WD) (Nat.le_trans (by first | assumption | decide : (⟨#[110, 101, 103]⟩ : ByteArray).size ≤ 1000) (by decide)) (Nat.le_trans (by first | assumption | decide : (bA WD : ByteArray).size ≤ 1000) (by decide))
  clear ht8 hcn hk hz hr hT
  go_enter Tryz.func23, Tryz.ntmps23
  go_wp2_with fail
  go_quiet (fail)
  obtain ⟨W0, hW0⟩ : ∃ W0, W0 = (w.alloc (.cells #[.int .u8 op, .int .u8 dst, .int .u8 src, .int .i16 off, .int .i32 imm] 51)).drewN nq := ⟨_, rfl⟩
  have H0 : Hid (∀ W, Fr No W0 W → W.cell? ⟨w.heap.size, 0, none⟩ = some (.int .u8 op) ∧ W.cell? ⟨w.heap.size, 1, none⟩ = some (.int .u8 dst) ∧ W.cell? ⟨w.heap.size, 2, none⟩ = some (.int .u8 src) ∧ W.cell? ⟨w.heap.size, 3, none⟩ = some (.int .i16 off) ∧ W.cell? ⟨w.heap.size, 4, none⟩ = some (.int .i32 imm)) := fun W hW => by
    subst hW0
    refine ⟨hW.cell ?_ id, hW.cell ?_ id, hW.cell ?_ id, hW.cell ?_ id, hW.cell ?_ id⟩ <;> go_simp
  have HF0 : Hid (Fr No w W0) := by rw [hW0]; exact ((Fr.refl _ _).alloc _).drewN _
  rw [← hW0]
  clear hW0
  obtain ⟨g0, g1, g2, g3, g4⟩ := H0.out W0 (Fr.refl _ _)
  go_wp2_with (first
    | (go_at_call 48; (with_reducible refine (HSZ.out _ (HT.out _ HF0.out)).mono ?_); rintro e w0 ⟨rfl, rfl⟩)
    | (go_at_call 45; (with_reducible refine (HIT.out _ (HT.out _ HF0.out)).mono ?_); rintro e w1 ⟨rfl, hf1⟩; have HF1 := Lib.hid (HF0.out.trans hf1); have HX1 := Lib.hid hf1; obtain ⟨k0, k1, k2, k3, k4⟩ := H0.out _ hf1; clear hf1 g0 g1 g2 g3 g4)
    | (go_at_call 21; (with_reducible refine (HN2.out _ (HT.out _ HF1.out)).mono ?_); rintro e w2 ⟨rfl, hf2⟩)
    | (go_at_call 49; (with_reducible refine (HJ.out _ (HT.out _ HF1.out)).mono ?_); rintro e w2 ⟨rfl, hf2⟩))
  have HB : Hid (∀ W, Fr No w1 W → (W.cell? ⟨w.heap.size, 0, none⟩ = some (.int .u8 op) ∧ W.cell? ⟨w.heap.size, 1, none⟩ = some (.int .u8 dst) ∧ W.cell? ⟨w.heap.size, 2, none⟩ = some (.int .u8 src) ∧ W.cell? ⟨w.heap.size, 3, none⟩ = some (.int .i16 off) ∧ W.cell? ⟨w.heap.size, 4, none⟩ = some (.int .i32 imm) ∧ Hid (Fr No w W))) := fun W h => by
    obtain ⟨a0, a1, a2, a3, a4⟩ := H0.out _ (HX1.out.trans h)
    exact ⟨a0, a1, a2, a3, a4, HF1.out.trans h⟩
  have HK : Hid (∀ W W', Fr No W W' → (W.cell? ⟨w.heap.size, 0, none⟩ = some (.int .u8 op) ∧ W.cell? ⟨w.heap.size, 1, none⟩ = some (.int .u8 dst) ∧ W.cell? ⟨w.heap.size, 2, none⟩ = some (.int .u8 src) ∧ W.cell? ⟨w.heap.size, 3, none⟩ = some (.int .i16 off) ∧ W.cell? ⟨w.heap.size, 4, none⟩ = some (.int .i32 imm) ∧ Hid (Fr No w W)) → (W'.cell? ⟨w.heap.size, 0, none⟩ = some (.int .u8 op) ∧ W'.cell? ⟨w.heap.size, 1, none⟩ = some (.int .u8 dst) ∧ W'.cell? ⟨w.heap.size, 2, none⟩ = some (.int .u8 src) ∧ W'.cell? ⟨w.heap.size, 3, none⟩ = some (.int .i16 off) ∧ W'.cell? ⟨w.heap.size, 4, none⟩ = some (.int .i32 imm) ∧ Hid (Fr No w W'))) := fun W W' hf h =>
    ⟨hf.cell h.1 id, hf.cell h.2.1 id, hf.cell h.2.2.1 id, hf.cell h.2.2.2.1 id, hf.cell h.2.2.2.2.1 id, h.2.2.2.2.2.out.trans hf⟩
  have HL : Hid (∀ W, (W.cell? ⟨w.heap.size, 0, none⟩ = some (.int .u8 op) ∧ W.cell? ⟨w.heap.size, 1, none⟩ = some (.int .u8 dst) ∧ W.cell? ⟨w.heap.size, 2, none⟩ = some (.int .u8 src) ∧ W.cell? ⟨w.heap.size, 3, none⟩ = some (.int .i16 off) ∧ W.cell? ⟨w.heap.size, 4, none⟩ = some (.int .i32 imm) ∧ Hid (Fr No w W)) → LT W) := fun W h => HT.out _ h.2.2.2.2.2.out
  have HL2 : Hid (∀ W, (W.cell? ⟨w.heap.size, 0, none⟩ = some (.int .u8 op) ∧ W.cell? ⟨w.heap.size, 1, none⟩ = some (.int .u8 dst) ∧ W.cell? ⟨w.heap.size, 2, none⟩ = some (.int .u8 src) ∧ W.cell? ⟨w.heap.size, 3, none⟩ = some (.int .i16 off) ∧ W.cell? ⟨w.heap.size, 4, none⟩ = some (.int .i32 imm) ∧ Hid (Fr No w W)) → Fr No w W) := fun W h => h.2.2.2.2.2.out
  have hst : w1.drew.cell? ⟨w.heap.size, 0, none⟩ = some (.int .u8 op) ∧ w1.drew.cell? ⟨w.heap.size, 1, none⟩ = some (.int .u8 dst) ∧ w1.drew.cell? ⟨w.heap.size, 2, none⟩ = some (.int .u8 src) ∧ w1.drew.cell? ⟨w.heap.size, 3, none⟩ = some (.int .i16 off) ∧ w1.drew.cell? ⟨w.heap.size, 4, none⟩ = some (.int .i32 imm) ∧ Hid (Fr No w w1.drew) := HB.out _ (Fr.refl _ _).drew
  clear k0 k1 k2 k3 k4
  go_region_held3 (fun W => W.cell? ⟨w.heap.size, 0, none⟩ = some (.int .u8 op) ∧ W.cell? ⟨w.heap.size, 1, none⟩ = some (.int .u8 dst) ∧ W.cell? ⟨w.heap.size, 2, none⟩ = some (.int .u8 src) ∧ W.cell? ⟨w.heap.size, 3, none⟩ = some (.int .i16 off) ∧ W.cell? ⟨w.heap.size, 4, none⟩ = some (.int .i32 imm) ∧ Hid (Fr No w W)) (first | assumption | exact HK.out _ _ (by assumption) (by assumption) | exact HK.out _ _ ((Fr.refl _ _).alloc _) (by assumption))
    (first
      | (go_at_call 51; (with_reducible refine (HW.out _).mono ?_); rintro e w3 ⟨rfl, rfl⟩)
      | (go_at_call 50; (with_reducible refine (HR.out _ _ (by omega) (HL.out _ (by assumption))).mono ?_); rintro e w4 ⟨rfl, hf4⟩)
      | (go_at_call 20; (with_reducible refine (HN6.out _ (HL.out _ (by assumption))).mono ?_); rintro e w5 ⟨rfl, hf5⟩)
      | (go_at_call 21; (with_reducible refine (HN2.out _ (HL.out _ (by assumption))).mono ?_); rintro e w6 ⟨rfl, hf6⟩)
      | (go_at_call 49; (with_reducible refine (HJ.out _ (HL.out _ (by assumption))).mono ?_); rintro e w7 ⟨rfl, hf7⟩)
      | (go_at_call 52; (with_reducible refine (HO.out _ (HL.out _ (by assumption))).mono ?_); rintro e w8 ⟨rfl, hf8⟩))
  all_goals go_wp2_with fail
  all_goals go_ret
  all_goals exact ⟨_, rfl, StrsAt.new _ [[110, 101, 103] ++ WD, regN dst] _ _ (by simp only [strs, List.map_cons, List.map_nil]; rw [← bA_app]; try rfl), HL2.out _ (by assumption)⟩
set_option maxRecDepth 100000 in
set_option maxHeartbeats 2000000 in
theorem words_arith (op dst src t cn k z : Nat) (off imm : Int) (rB : Bool) (nm : List UInt8) (hop : op < 256) (hd : dst < 256) (hs : src < 256) (ho : -32768 ≤ off ∧ off < 32768) (hm : -2147483648 ≤ imm ∧ imm < 2147483648)
    (ht8 : op % 8 = t) (hcn : codeN op = cn) (hk : op / 16 = k) (hz : sizeN op = z) (hr : regB op = rB) (hk2 : k < 13) (hnm : ((arithN)[k]?).getD [] = nm)
    (e194 : ((op : Int) == 194) = false) (e133 : ((op : Int) == 133) = false) (e149 : ((op : Int) == 149) = false) (e5 : ((op : Int) == 5) = false) (c1 : ((t : Int) == 1) = false) (c2 : ((t : Int) == 2) = false) (c3 : ((t : Int) == 3) = false) (c5 : ((t : Int) == 5) = false) (c6 : ((t : Int) == 6) = false) (ng : ((cn : Int) == 128) = false) (w : World) (hT : LT w) :
    Calls Tryz.prog 23 #[.agg #[.int .u8 op, .int .u8 dst, .int .u8 src, .int .i16 off, .int .i32 imm]] w (SlStrs [nm ++ (if t = 7 ∨ t = 5 then [54, 52] else [51, 50]), regN dst, (if rB then regN src else itoaN imm)] w) := by
  have HT : Hid (∀ W, Fr No w W → LT W) := fun W h => hT.fr h
  have hop2 : (0 : Int) ≤ (op : Int) := by omega
  have hop3 : (op : Int) < 256 := by omega
  have m8 : (op : Int) % 8 = (t : Int) := by omega
  have m16 : (op : Int) / 16 = (k : Int) := by omega
  have p1 := and240 op hop
  rw [hcn] at p1
  have HR : Hid (∀ (n : Nat) W, n < 256 → LT W → Calls Tryz.prog 50 #[.int .u8 n] W fun e w' => e = .returned (.string (bA (regN n))) ∧ Fr No W w') := fun n W h h2 => lreg_any n h W h2
  have HN6 : Hid (∀ W, LT W → Calls Tryz.prog 20 #[.int .i16 off] W fun e w' => e = .returned (.string (bA (itoaN off))) ∧ Fr No W w') := fun W h2 => num_i16 off ho W h2
  have HN2 : Hid (∀ W, LT W → Calls Tryz.prog 21 #[.int .i32 imm] W fun e w' => e = .returned (.string (bA (itoaN imm))) ∧ Fr No W w') := fun W h2 => num_i32 imm hm W h2
  have HJ : Hid (∀ W, LT W → Calls Tryz.prog 49 #[.int .i16 off] W fun e w' => e = .returned (.string (bA (signN off))) ∧ Fr No W w') := fun W h2 => ljump_any off ho W h2
  have HSZ : Hid (∀ W, LT W → Calls Tryz.prog 48 #[.int .u8 op] W fun e w' => e = .returned (.int .i64 z) ∧ W = w') := fun W h2 => by have := isize_any op hop W h2; rw [hz] at this; exact this
  have HIT : Hid (∀ W, LT W → Calls Tryz.prog 45 #[.int .i64 z] W fun e w' => e = .returned (.string (bA (itoaN z))) ∧ Fr No W w') := fun W h2 => itoa_any z (by have := size_le op; omega) (by have := size_le op; omega) W h2
  have HW : Hid (∀ W, Calls Tryz.prog 51 #[.int .u8 t] W fun e w' => e = .returned (.string (bA (if t = 7 ∨ t = 5 then [54, 52] else [51, 50]))) ∧ W = w') := fun W => lwidth_any t W
  have HO : Hid (∀ W, LT W → Calls Tryz.prog 52 #[.agg #[.int .u8 op, .int .u8 dst, .int .u8 src, .int .i16 off, .int .i32 imm]] W fun e w' => e = .returned (.string (bA (if rB then regN src else itoaN imm))) ∧ Fr No W w') := fun W h2 => by have := operand_any ⟨op, dst, src, off, imm⟩ ⟨hop, hd, hs, ho, hm⟩ W h2; simp only [hr] at this; exact this
  have sz : (bA (itoaN z)).size ≤ 1000 := by rw [bA_size]; have := size_le op; exact itoa_len1 (by omega) (by omega)
  have sw : (bA (if t = 7 ∨ t = 5 then [54, 52] else [51, 50])).size ≤ 1000 := by rw [bA_size]; split <;> simp
  have sn : (bA nm).size ≤ 1000 := by rw [bA_size, ← hnm]; exact ariths_len k
  obtain ⟨WD, hWD⟩ : ∃ WD, (if t = 7 ∨ t = 5 then [54, 52] else [51, 50] : List UInt8) = WD := ⟨_, rfl⟩
  rw [hWD] at HW sw
  rw [hWD]
  clear hWD
  have a0 := addB (bA nm) (bA WD) (Nat.le_trans (by first | assumption | decide : (bA nm : ByteArray).size ≤ 1000) (by decide)) (Nat.le_trans (by first | assumption | decide : (bA WD : ByteArray).size ≤ 1000) (by decide))
  have HG : Hid (∀ W, Fr No w W → W.cell? ⟨1, k, none⟩ = some (.string (bA nm))) := fun W h => by
    have := (hT.fr h).ariths k (.string (bA nm)) (by
      simp only [strs, List.getElem?_map]
      rw [List.getElem?_eq_getElem (by simpa [arithN] using hk2)]
      rw [List.getElem?_eq_getElem (by simpa [arithN] using hk2)] at hnm
      simp only [Option.getD_some] at hnm
      rw [hnm]
      rfl)
    rwa [Nat.zero_add] at this
  have hk3 : (k : Int) < 13 := by omega
  have hk4 : (0 : Int) ≤ (k : Int) := by omega
  generalize (if rB then regN src else itoaN imm) = OP at *
  clear ht8 hcn hk hz hr hT hnm
  go_enter Tryz.func23, Tryz.ntmps23
  go_wp2_with fail
  go_quiet (fail)
  obtain ⟨W0, hW0⟩ : ∃ W0, W0 = (w.alloc (.cells #[.int .u8 op, .int .u8 dst, .int .u8 src, .int .i16 off, .int .i32 imm] 51)).drewN nq := ⟨_, rfl⟩
  have H0 : Hid (∀ W, Fr No W0 W → W.cell? ⟨w.heap.size, 0, none⟩ = some (.int .u8 op) ∧ W.cell? ⟨w.heap.size, 1, none⟩ = some (.int .u8 dst) ∧ W.cell? ⟨w.heap.size, 2, none⟩ = some (.int .u8 src) ∧ W.cell? ⟨w.heap.size, 3, none⟩ = some (.int .i16 off) ∧ W.cell? ⟨w.heap.size, 4, none⟩ = some (.int .i32 imm)) := fun W hW => by
    subst hW0
    refine ⟨hW.cell ?_ id, hW.cell ?_ id, hW.cell ?_ id, hW.cell ?_ id, hW.cell ?_ id⟩ <;> go_simp
  have HF0 : Hid (Fr No w W0) := by rw [hW0]; exact ((Fr.refl _ _).alloc _).drewN _
  rw [← hW0]
  clear hW0
  obtain ⟨g0, g1, g2, g3, g4⟩ := H0.out W0 (Fr.refl _ _)
  go_wp2_with (first
    | (go_at_call 48; (with_reducible refine (HSZ.out _ (HT.out _ HF0.out)).mono ?_); rintro e w0 ⟨rfl, rfl⟩)
    | (go_at_call 45; (with_reducible refine (HIT.out _ (HT.out _ HF0.out)).mono ?_); rintro e w1 ⟨rfl, hf1⟩; have HF1 := Lib.hid (HF0.out.trans hf1); have HX1 := Lib.hid hf1; obtain ⟨k0, k1, k2, k3, k4⟩ := H0.out _ hf1; clear hf1 g0 g1 g2 g3 g4)
    | (go_at_call 21; (with_reducible refine (HN2.out _ (HT.out _ HF1.out)).mono ?_); rintro e w2 ⟨rfl, hf2⟩)
    | (go_at_call 49; (with_reducible refine (HJ.out _ (HT.out _ HF1.out)).mono ?_); rintro e w2 ⟨rfl, hf2⟩))
  have HB : Hid (∀ W, Fr No w1 W → (W.cell? ⟨w.heap.size, 0, none⟩ = some (.int .u8 op) ∧ W.cell? ⟨w.heap.size, 1, none⟩ = some (.int .u8 dst) ∧ W.cell? ⟨w.heap.size, 2, none⟩ = some (.int .u8 src) ∧ W.cell? ⟨w.heap.size, 3, none⟩ = some (.int .i16 off) ∧ W.cell? ⟨w.heap.size, 4, none⟩ = some (.int .i32 imm) ∧ W.cell? ⟨1, k, none⟩ = some (.string (bA nm)) ∧ Hid (Fr No w W))) := fun W h => by
    obtain ⟨a0, a1, a2, a3, a4⟩ := H0.out _ (HX1.out.trans h)
    exact ⟨a0, a1, a2, a3, a4, HG.out _ (HF1.out.trans h), HF1.out.trans h⟩
  have HK : Hid (∀ W W', Fr No W W' → (W.cell? ⟨w.heap.size, 0, none⟩ = some (.int .u8 op) ∧ W.cell? ⟨w.heap.size, 1, none⟩ = some (.int .u8 dst) ∧ W.cell? ⟨w.heap.size, 2, none⟩ = some (.int .u8 src) ∧ W.cell? ⟨w.heap.size, 3, none⟩ = some (.int .i16 off) ∧ W.cell? ⟨w.heap.size, 4, none⟩ = some (.int .i32 imm) ∧ W.cell? ⟨1, k, none⟩ = some (.string (bA nm)) ∧ Hid (Fr No w W)) → (W'.cell? ⟨w.heap.size, 0, none⟩ = some (.int .u8 op) ∧ W'.cell? ⟨w.heap.size, 1, none⟩ = some (.int .u8 dst) ∧ W'.cell? ⟨w.heap.size, 2, none⟩ = some (.int .u8 src) ∧ W'.cell? ⟨w.heap.size, 3, none⟩ = some (.int .i16 off) ∧ W'.cell? ⟨w.heap.size, 4, none⟩ = some (.int .i32 imm) ∧ W'.cell? ⟨1, k, none⟩ = some (.string (bA nm)) ∧ Hid (Fr No w W'))) := fun W W' hf h =>
    ⟨hf.cell h.1 id, hf.cell h.2.1 id, hf.cell h.2.2.1 id, hf.cell h.2.2.2.1 id, hf.cell h.2.2.2.2.1 id, hf.cell h.2.2.2.2.2.1 id, h.2.2.2.2.2.2.out.trans hf⟩
  have HL : Hid (∀ W, (W.cell? ⟨w.heap.size, 0, none⟩ = some (.int .u8 op) ∧ W.cell? ⟨w.heap.size, 1, none⟩ = some (.int .u8 dst) ∧ W.cell? ⟨w.heap.size, 2, none⟩ = some (.int .u8 src) ∧ W.cell? ⟨w.heap.size, 3, none⟩ = some (.int .i16 off) ∧ W.cell? ⟨w.heap.size, 4, none⟩ = some (.int .i32 imm) ∧ W.cell? ⟨1, k, none⟩ = some (.string (bA nm)) ∧ Hid (Fr No w W)) → LT W) := fun W h => HT.out _ h.2.2.2.2.2.2.out
  have HL2 : Hid (∀ W, (W.cell? ⟨w.heap.size, 0, none⟩ = some (.int .u8 op) ∧ W.cell? ⟨w.heap.size, 1, none⟩ = some (.int .u8 dst) ∧ W.cell? ⟨w.heap.size, 2, none⟩ = some (.int .u8 src) ∧ W.cell? ⟨w.heap.size, 3, none⟩ = some (.int .i16 off) ∧ W.cell? ⟨w.heap.size, 4, none⟩ = some (.int .i32 imm) ∧ W.cell? ⟨1, k, none⟩ = some (.string (bA nm)) ∧ Hid (Fr No w W)) → Fr No w W) := fun W h => h.2.2.2.2.2.2.out
  have hst : w1.drew.cell? ⟨w.heap.size, 0, none⟩ = some (.int .u8 op) ∧ w1.drew.cell? ⟨w.heap.size, 1, none⟩ = some (.int .u8 dst) ∧ w1.drew.cell? ⟨w.heap.size, 2, none⟩ = some (.int .u8 src) ∧ w1.drew.cell? ⟨w.heap.size, 3, none⟩ = some (.int .i16 off) ∧ w1.drew.cell? ⟨w.heap.size, 4, none⟩ = some (.int .i32 imm) ∧ w1.drew.cell? ⟨1, k, none⟩ = some (.string (bA nm)) ∧ Hid (Fr No w w1.drew) := HB.out _ (Fr.refl _ _).drew
  clear k0 k1 k2 k3 k4
  go_region_held3 (fun W => W.cell? ⟨w.heap.size, 0, none⟩ = some (.int .u8 op) ∧ W.cell? ⟨w.heap.size, 1, none⟩ = some (.int .u8 dst) ∧ W.cell? ⟨w.heap.size, 2, none⟩ = some (.int .u8 src) ∧ W.cell? ⟨w.heap.size, 3, none⟩ = some (.int .i16 off) ∧ W.cell? ⟨w.heap.size, 4, none⟩ = some (.int .i32 imm) ∧ W.cell? ⟨1, k, none⟩ = some (.string (bA nm)) ∧ Hid (Fr No w W)) (first | assumption | exact HK.out _ _ (by assumption) (by assumption) | exact HK.out _ _ ((Fr.refl _ _).alloc _) (by assumption))
    (first
      | (go_at_call 51; (with_reducible refine (HW.out _).mono ?_); rintro e w3 ⟨rfl, rfl⟩)
      | (go_at_call 50; (with_reducible refine (HR.out _ _ (by omega) (HL.out _ (by assumption))).mono ?_); rintro e w4 ⟨rfl, hf4⟩)
      | (go_at_call 20; (with_reducible refine (HN6.out _ (HL.out _ (by assumption))).mono ?_); rintro e w5 ⟨rfl, hf5⟩)
      | (go_at_call 21; (with_reducible refine (HN2.out _ (HL.out _ (by assumption))).mono ?_); rintro e w6 ⟨rfl, hf6⟩)
      | (go_at_call 49; (with_reducible refine (HJ.out _ (HL.out _ (by assumption))).mono ?_); rintro e w7 ⟨rfl, hf7⟩)
      | (go_at_call 52; (with_reducible refine (HO.out _ (HL.out _ (by assumption))).mono ?_); rintro e w8 ⟨rfl, hf8⟩))
  all_goals go_wp2_with fail
  all_goals go_ret
  all_goals exact ⟨_, rfl, StrsAt.new _ [nm ++ WD, regN dst, OP] _ _ (by simp only [strs, List.map_cons, List.map_nil]; rw [← bA_app]; try rfl), HL2.out _ (by assumption)⟩
end Go.Proofs.YthkdokkpiaaljaaGreatDoor
