/- firewalllaw03.shown: a program's text is that text, and read as that program. firewalllaw03.spoken: the chapter's examples. -/
import Derived.Test.YthkdokkpiaaljaaGreatDoorCore14
import Derived.Test.YthkdokkpiaaljaaGreatDoorCore15
import Derived.Test.YthkdokkpiaaljaaGreatDoorCore33
import Derived.Test.YthkdokkpiaaljaaGreatDoorCore29
set_option linter.all false
set_option linter.unusedVariables false
set_option linter.unusedSimpArgs false
namespace Go.Proofs.YthkdokkpiaaljaaGreatDoor
open Go.RowKit

theorem lread_any (s : List UInt8) (hs : s.length ≤ 1000000) (w : World) (hT : LT w) : Calls Tryz.prog 14 #[.string (bA s)] w (ReadTo w (readS s)) := by
  rw [← readP_is]; exact read_any s hs w hT
set_option maxRecDepth 100000 in
set_option maxHeartbeats 1000000 in
theorem shown_any (s : List UInt8) (v : Value) (l : List Ins) (w : World) (h : InsAt w v l) (hok : ∀ i ∈ l, i.ok) (hn : l.length ≤ 64) (hs : showL l = s) (hT : LT w) :
    Calls Tryz.prog 18 #[.string (bA s), v] w fun e w' => e = .returned (.bool true) ∧ Fr No w w' := by
  have hsl : s.length ≤ 1000000 := by have := show_size l hok; rw [hs] at this; omega
  have hr : readS s = (l, 0, 0) := by rw [← hs]; exact show_read l hok hn
  have HRD : Hid (Calls Tryz.prog 14 #[.string (bA s)] w (ReadTo w (l, 0, 0))) := by
    have := lread_any s hsl w hT
    rw [hr] at this
    exact this
  have HSH : Hid (∀ W, Fr No w W → Calls Tryz.prog 11 #[v] W fun e w' => e = .returned (.string (bA s)) ∧ Fr No W w') := fun W hf => by
    rw [← hs]
    exact lshow_any v l W (h.fr hf) hok (by omega) (hT.fr hf)
  have HSM : Hid (∀ W m, Fr No w W → InsAt W m l → Calls Tryz.prog 13 #[m, v] W fun e w' => e = .returned (.bool true) ∧ Fr No W w') := fun W m hf hm => isame_true m v l W hm (h.fr hf) (by omega)
  obtain ⟨a, c, rfl⟩ := h.form
  clear hr hs hsl h hT
  generalize bA s = B at *
  go_enter Tryz.func18, Tryz.ntmps18
  go_wp2_with (first
    | (go_at_call 14; (with_reducible refine HRD.out.mono ?_); rintro e w1 ⟨m, rfl, hm, hf1⟩; obtain ⟨ma, mc, rfl⟩ := hm.form; have HM := Lib.hid hm; have HF1 := Lib.hid hf1; clear hm hf1)
    | (go_at_call 11; (with_reducible refine (HSH.out _ HF1.out).mono ?_); rintro e w2 ⟨rfl, hf2⟩; have HM2 := Lib.hid (HM.out.fr hf2); have HF2 := Lib.hid (HF1.out.trans hf2); clear hf2)
    | (go_at_call 13; (with_reducible refine (HSM.out _ _ HF2.out HM2.out).mono ?_); rintro e w3 ⟨rfl, hf3⟩; have HF3 := Lib.hid (HF2.out.trans hf3); clear hf3))
  go_ret
  exact ⟨rfl, HF3.out⟩
end Go.Proofs.YthkdokkpiaaljaaGreatDoor

namespace Go.Proofs.YthkdokkpiaaljaaGreatDoor
open Go.RowKit

theorem eql_ins (o1 d1 s1 f1 m1 o2 d2 s2 f2 m2 : Int) (w : World) : (binOp .eql 51 (.agg #[.int .u8 o1, .int .u8 d1, .int .u8 s1, .int .i16 f1, .int .i32 m1]) (.agg #[.int .u8 o2, .int .u8 d2, .int .u8 s2, .int .i16 f2, .int .i32 m2])).run Tryz.prog w = .ok (.bool (o1 == o2 && (d1 == d2 && (s1 == s2 && (f1 == f2 && m1 == m2))))) w := by
  have u5 := Tryz.underlying5
  have a5 := Tryz.isAgg5
  have z5 := Tryz.sizeOf5
  have u9 := Tryz.underlying49
  have a9 := Tryz.isAgg49
  have z9 := Tryz.sizeOf49
  have u4 := Tryz.underlying21
  have a4 := Tryz.isAgg21
  have z4 := Tryz.sizeOf21
  have hS : Tryz.prog.underlying 51 = some (.struct (Tryz.prog.fieldsOf 51)) := by kernel_rfl
  have hp : Tryz.prog.stoodInHeld 51 = false := by kernel_rfl
  rw [run_eql_struct, show (10000 : Nat) = 9999 + 1 from rfl, run_equalIn_agg w 9999 _ _ _ hS hp]
  simp only [Program.fieldsOf, Tryz.underlying51]
  go_simp
  by_cases h1 : o1 = o2 <;> by_cases h2 : d1 = d2 <;> by_cases h3 : s1 = s2 <;> by_cases h4 : f1 = f2 <;> by_cases h5 : m1 = m2 <;> simp [h1, h2, h3, h4, h5]

def sp1 : List Ins := [⟨15, 1, 2, 0, 0⟩]
def sp2 : List Ins := [⟨180, 1, 0, 0, -5⟩, ⟨135, 3, 0, 0, 0⟩]
def sp3 : List Ins := [⟨198, 1, 0, 3, 7⟩, ⟨5, 0, 0, -2, 0⟩]
def sp4 : List Ins := [⟨105, 1, 2, 4, 0⟩, ⟨122, 10, 0, -8, 5⟩, ⟨115, 1, 2, 0, 0⟩]
def sp5 : List Ins := [⟨24, 1, 0, 0, -1⟩, ⟨0, 0, 0, 0, 1⟩]
def sp6 : List Ins := [⟨24, 1, 0, 0, -1⟩]
def okB (i : Ins) : Bool := decide (i.op < 256) && decide (i.dst < 256) && decide (i.src < 256) && decide (-32768 ≤ i.off) && decide (i.off < 32768) && decide (-2147483648 ≤ i.imm) && decide (i.imm < 2147483648)
theorem ok_of_B {l : List Ins} (h : l.all okB = true) : ∀ i ∈ l, i.ok := by
  intro i hi
  have := List.all_eq_true.1 h i hi
  simp only [okB, Bool.and_eq_true, decide_eq_true_eq] at this
  obtain ⟨⟨⟨⟨⟨⟨a, b⟩, c⟩, d⟩, e⟩, f⟩, g⟩ := this
  exact ⟨a, b, c, ⟨d, e⟩, ⟨f, g⟩⟩
/-- an example: a program in a row of its own is shown -/
theorem shown_lit (l : List Ins) (n : Nat) (s : List UInt8) (S : ByteArray) (cs : Array Value) (w0 W : World) (hT : LT w0) (hf : Fr No w0 W) (hS : bA s = S) (hcs : (iflat l).toArray = cs) (hn : l.length = n) (hok : l.all okB = true) (hn64 : l.length ≤ 64) (hn0 : l ≠ []) (hs : showL l = s) :
    Calls Tryz.prog 18 #[.string S, .slice (some ⟨W.heap.size, 0, none⟩) n n] (W.alloc (.cells cs 51)) fun e w' => e = .returned (.bool true) ∧ Fr No w0 w' := by
  subst hS hcs hn
  refine (shown_any s _ l _ (.inr ⟨W.heap.size, 0, l.length, rfl, CellsAt.new W (iflat l) _⟩) (ok_of_B hok) hn64 hs (hT.fr (hf.alloc _))).mono ?_
  rintro e w' ⟨he, hf2⟩
  exact ⟨he, (hf.alloc _).trans hf2⟩
theorem lines_1 : readS [59, 32, 97, 10, 106, 97, 32, 226, 136, 146, 50] = ([⟨5, 0, 0, -2, 0⟩], 0, 0) := by decide +kernel
theorem lines_2 : readS [101, 120, 105, 116, 10, 101, 120, 105, 116, 32, 114, 49] = ([], 2, 10) := by decide +kernel

set_option maxRecDepth 100000 in
set_option maxHeartbeats 2000000 in
theorem spoken_any (w : World) (hT : LT w) : Calls Tryz.prog 10 #[] w fun e w' => e = .returned (.bool true) ∧ Fr No w w' := by
  have H1 : Hid (∀ W, Fr No w W → Calls Tryz.prog 18 #[.string ⟨#[97, 100, 100, 54, 52, 32, 114, 49, 32, 114, 50, 10]⟩, .slice (some ⟨W.heap.size, 0, none⟩) 1 1] (W.alloc (.cells #[.int .u8 15, .int .u8 1, .int .u8 2, .int .i16 0, .int .i32 0] 51)) fun e w' => e = .returned (.bool true) ∧ Fr No w w') := fun W hf =>
    shown_lit sp1 1 [97, 100, 100, 54, 52, 32, 114, 49, 32, 114, 50, 10] _ _ w W hT hf rfl rfl rfl (by decide) (by decide) (by decide) (by decide +kernel)
  have H2 : Hid (∀ W, Fr No w W → Calls Tryz.prog 18 #[.string ⟨#[109, 111, 118, 51, 50, 32, 114, 49, 32, 45, 53, 10, 110, 101, 103, 54, 52, 32, 114, 51, 10]⟩, .slice (some ⟨W.heap.size, 0, none⟩) 2 2] (W.alloc (.cells #[.int .u8 180, .int .u8 1, .int .u8 0, .int .i16 0, .int .i32 (-5), .int .u8 135, .int .u8 3, .int .u8 0, .int .i16 0, .int .i32 0] 51)) fun e w' => e = .returned (.bool true) ∧ Fr No w w') := fun W hf =>
    shown_lit sp2 2 [109, 111, 118, 51, 50, 32, 114, 49, 32, 45, 53, 10, 110, 101, 103, 54, 52, 32, 114, 51, 10] _ _ w W hT hf rfl rfl rfl (by decide) (by decide) (by decide) (by decide +kernel)
  have H3 : Hid (∀ W, Fr No w W → Calls Tryz.prog 18 #[.string ⟨#[106, 115, 108, 116, 51, 50, 32, 114, 49, 32, 55, 32, 43, 51, 10, 106, 97, 32, 45, 50, 10]⟩, .slice (some ⟨W.heap.size, 0, none⟩) 2 2] (W.alloc (.cells #[.int .u8 198, .int .u8 1, .int .u8 0, .int .i16 3, .int .i32 7, .int .u8 5, .int .u8 0, .int .u8 0, .int .i16 (-2), .int .i32 0] 51)) fun e w' => e = .returned (.bool true) ∧ Fr No w w') := fun W hf =>
    shown_lit sp3 2 [106, 115, 108, 116, 51, 50, 32, 114, 49, 32, 55, 32, 43, 51, 10, 106, 97, 32, 45, 50, 10] _ _ w W hT hf rfl rfl rfl (by decide) (by decide) (by decide) (by decide +kernel)
  have H4 : Hid (∀ W, Fr No w W → Calls Tryz.prog 18 #[.string ⟨#[108, 100, 120, 50, 32, 114, 49, 32, 114, 50, 32, 52, 10, 115, 116, 56, 32, 114, 49, 48, 32, 45, 56, 32, 53, 10, 115, 116, 120, 49, 32, 114, 49, 32, 48, 32, 114, 50, 10]⟩, .slice (some ⟨W.heap.size, 0, none⟩) 3 3] (W.alloc (.cells #[.int .u8 105, .int .u8 1, .int .u8 2, .int .i16 4, .int .i32 0, .int .u8 122, .int .u8 10, .int .u8 0, .int .i16 (-8), .int .i32 5, .int .u8 115, .int .u8 1, .int .u8 2, .int .i16 0, .int .i32 0] 51)) fun e w' => e = .returned (.bool true) ∧ Fr No w w') := fun W hf =>
    shown_lit sp4 3 [108, 100, 120, 50, 32, 114, 49, 32, 114, 50, 32, 52, 10, 115, 116, 56, 32, 114, 49, 48, 32, 45, 56, 32, 53, 10, 115, 116, 120, 49, 32, 114, 49, 32, 48, 32, 114, 50, 10] _ _ w W hT hf rfl rfl rfl (by decide) (by decide) (by decide) (by decide +kernel)
  have H5 : Hid (∀ W, Fr No w W → Calls Tryz.prog 18 #[.string ⟨#[108, 100, 105, 109, 109, 32, 114, 49, 32, 56, 53, 56, 57, 57, 51, 52, 53, 57, 49, 10]⟩, .slice (some ⟨W.heap.size, 0, none⟩) 2 2] (W.alloc (.cells #[.int .u8 24, .int .u8 1, .int .u8 0, .int .i16 0, .int .i32 (-1), .int .u8 0, .int .u8 0, .int .u8 0, .int .i16 0, .int .i32 1] 51)) fun e w' => e = .returned (.bool true) ∧ Fr No w w') := fun W hf =>
    shown_lit sp5 2 [108, 100, 105, 109, 109, 32, 114, 49, 32, 56, 53, 56, 57, 57, 51, 52, 53, 57, 49, 10] _ _ w W hT hf rfl rfl rfl (by decide) (by decide) (by decide) (by decide +kernel)
  have H6 : Hid (∀ W, Fr No w W → Calls Tryz.prog 18 #[.string ⟨#[114, 97, 119, 32, 50, 52, 32, 49, 32, 48, 32, 48, 32, 45, 49, 10]⟩, .slice (some ⟨W.heap.size, 0, none⟩) 1 1] (W.alloc (.cells #[.int .u8 24, .int .u8 1, .int .u8 0, .int .i16 0, .int .i32 (-1)] 51)) fun e w' => e = .returned (.bool true) ∧ Fr No w w') := fun W hf =>
    shown_lit sp6 1 [114, 97, 119, 32, 50, 52, 32, 49, 32, 48, 32, 48, 32, 45, 49, 10] _ _ w W hT hf rfl rfl rfl (by decide) (by decide) (by decide) (by decide +kernel)
  have R1 : Hid (∀ W, Fr No w W → Calls Tryz.prog 14 #[.string ⟨#[59, 32, 97, 10, 106, 97, 32, 226, 136, 146, 50]⟩] W (ReadTo W ([⟨5, 0, 0, -2, 0⟩], 0, 0))) := fun W hf => by
    have := lread_any [59, 32, 97, 10, 106, 97, 32, 226, 136, 146, 50] (by decide) W (hT.fr hf)
    rw [lines_1] at this
    exact this
  have R2 : Hid (∀ W, Fr No w W → Calls Tryz.prog 14 #[.string ⟨#[101, 120, 105, 116, 10, 101, 120, 105, 116, 32, 114, 49]⟩] W (ReadTo W ([], 2, 10))) := fun W hf => by
    have := lread_any [101, 120, 105, 116, 10, 101, 120, 105, 116, 32, 114, 49] (by decide) W (hT.fr hf)
    rw [lines_2] at this
    exact this
  have HF0 : Hid (Fr No w w) := Lib.hid (Fr.refl _ _)
  have q2 := guard_ins
  have q1 := eql_ins 5 0 0 (-2) 0 5 0 0 (-2) 0
  simp only [beq_self_eq_true, Bool.and_self] at q1
  clear hT
  go_enter Tryz.func10, Tryz.ntmps10
  go_wp2_with (first
    | (go_at_call 18; (with_reducible refine (H1.out _ HF0.out).mono ?_); rintro e w1 ⟨rfl, hf1⟩; have HF1 := Lib.hid hf1; clear hf1)
    | (go_at_call 18; (with_reducible refine (H2.out _ HF1.out).mono ?_); rintro e w2 ⟨rfl, hf2⟩; have HF2 := Lib.hid hf2; clear hf2)
    | (go_at_call 18; (with_reducible refine (H3.out _ HF2.out).mono ?_); rintro e w3 ⟨rfl, hf3⟩; have HF3 := Lib.hid hf3; clear hf3)
    | (go_at_call 18; (with_reducible refine (H4.out _ HF3.out).mono ?_); rintro e w4 ⟨rfl, hf4⟩; have HF4 := Lib.hid hf4; clear hf4)
    | (go_at_call 18; (with_reducible refine (H5.out _ HF4.out).mono ?_); rintro e w5 ⟨rfl, hf5⟩; have HF5 := Lib.hid hf5; clear hf5)
    | (go_at_call 18; (with_reducible refine (H6.out _ HF5.out).mono ?_); rintro e w6 ⟨rfl, hf6⟩; have HF6 := Lib.hid hf6; clear hf6)
    | (go_at_call 14; (with_reducible refine (R1.out _ HF6.out).mono ?_); rintro e w7 ⟨m, rfl, hm, hf7⟩; obtain ⟨g, off, cap, rfl, hc⟩ : ∃ g off cap, m = .slice (some ⟨g, off, none⟩) 1 cap ∧ CellsAt w7 g off (iflat [⟨5, 0, 0, -2, 0⟩]) := (by rcases hm with ⟨h, _⟩ | h; exact absurd h (by simp); exact h); have HC := Lib.hid hc; have HF7 := Lib.hid (HF6.out.trans hf7); clear hf7 hc)
    | (go_at_call 14; (with_reducible refine (R2.out _ HF7.out).mono ?_); rintro e w8 ⟨m2, rfl, hm2, hf8⟩; obtain ⟨a8, c8, rfl⟩ := hm2.form; have HF8 := Lib.hid (HF7.out.trans hf8); obtain ⟨g0, g1, g2, g3, g4⟩ : w8.cell? ⟨g, off, none⟩ = some (.int .u8 5) ∧ w8.cell? ⟨g, off + 1, none⟩ = some (.int .u8 0) ∧ w8.cell? ⟨g, off + 2, none⟩ = some (.int .u8 0) ∧ w8.cell? ⟨g, off + 3, none⟩ = some (.int .i16 (-2)) ∧ w8.cell? ⟨g, off + 4, none⟩ = some (.int .i32 0) := (ins_cell (hf8.cells HC.out id) (k := 0) (x := ⟨5, 0, 0, -2, 0⟩) rfl); clear hf8 hm2))
  go_ret
  exact ⟨rfl, HF8.out⟩
end Go.Proofs.YthkdokkpiaaljaaGreatDoor
