/- package lines: what its walks ask of the world; numerals. strconv.FormatUint at base 10. insns: what a jump uses, what an opcode uses. -/
import Derived.Test.YthkdokkpiaaljaaGreatDoorCore7
import Derived.Lib.AppendIntMem
import Derived.Maps.OwnSet
import Derived.Shelf.Unicode.DecodeSlow
import Derived.Shelf.Strconv.Itoa3
import Derived.Handy
import Derived.BigGuardPart
import Derived.Laws.NewBlocks
set_option linter.all false
set_option linter.unusedVariables false
set_option linter.unusedSimpArgs false
namespace Go.Proofs.YthkdokkpiaaljaaGreatDoor
open Go.RowKit
open Go.Maps (Keyed int_keyed)

def isizeD : DataW Unit := .map [(.int .u8 97, .lit (.int .i64 4)), (.int .u8 98, .lit (.int .i64 4)), (.int .u8 99, .lit (.int .i64 4)), (.int .u8 105, .lit (.int .i64 2)), (.int .u8 106, .lit (.int .i64 2)), (.int .u8 107, .lit (.int .i64 2)), (.int .u8 113, .lit (.int .i64 1)), (.int .u8 114, .lit (.int .i64 1)), (.int .u8 115, .lit (.int .i64 1)), (.int .u8 121, .lit (.int .i64 8)), (.int .u8 122, .lit (.int .i64 8)), (.int .u8 123, .lit (.int .i64 8))]

/-- strings' cells -/
def strs (l : List (List UInt8)) : List Value := l.map fun s => .string (bA s)

def lsizeD : DataW Unit := .map [(.int .i64 1, .agg [.lit (.int .u8 113), .lit (.int .u8 114), .lit (.int .u8 115)]), (.int .i64 2, .agg [.lit (.int .u8 105), .lit (.int .u8 106), .lit (.int .u8 107)]), (.int .i64 4, .agg [.lit (.int .u8 97), .lit (.int .u8 98), .lit (.int .u8 99)]), (.int .i64 8, .agg [.lit (.int .u8 121), .lit (.int .u8 122), .lit (.int .u8 123)])]
/-- how a row of bytes reads -/
def u8L : List Value → Option (List (DataW Unit))
  | [] => some []
  | .int .u8 a :: t => (u8L t).map (.lit (.int .u8 a) :: ·)
  | _ => none
def arr3 (v : Value) : Option (DataW Unit × List MemPlace) :=
  match v with
  | .agg xs => (u8L xs.toList).map fun l => (.agg l, [])
  | _ => none
/-- the program's variables, as they are laid -/
structure LT (w : World) : Prop where
  jumps : CellsAt w 0 0 (strs jumpN)
  ariths : CellsAt w 1 0 (strs arithN)
  pow : Lib.TabIs Tryz.prog w "internal/strconv.uint64pow10" .u64 Lib.pow10Tab
  isize : ∃ bm n, w.cell? ⟨4, 0, none⟩ = some (.map (some bm)) ∧ w.ownsMap Tryz.prog 5 (plainElem Tryz.prog 3) bm n isizeD
  max : ∃ m, w.cell? ⟨7, 0, none⟩ = some (.int .i64 m)
  errS : ∃ tp p, w.var? Tryz.prog "strconv.ErrSyntax" = some #[.iface tp p]
  errR : ∃ tp p, w.var? Tryz.prog "strconv.ErrRange" = some #[.iface tp p]
  utf : Lib.Utf8Tabs 2 3 w
  lsize : ∃ bm n, w.cell? ⟨5, 0, none⟩ = some (.map (some bm)) ∧ w.ownsMap Tryz.prog 3 arr3 bm n lsizeD

theorem owns_fr {w w' : World} {t : TypeId} {f : Value → Option (DataW Unit × List MemPlace)} {bm n : Nat} {D : DataW Unit} (h : w.ownsMap Tryz.prog t f bm n D) (hf : Fr No w w') : w'.ownsMap Tryz.prog t f bm n D := by
  obtain ⟨es, clock, hb, hF, hn, hD⟩ := h
  refine ⟨es, clock, ?_, hF, hn, hD⟩
  have hlt : bm < w.heap.size := (Array.getElem?_eq_some_iff.1 hb).1
  rw [hf.block bm hlt id]
  exact hb
theorem var_fr {w w' : World} {s : String} {cs : Array Value} (h : w.var? Tryz.prog s = some cs) (hf : Fr No w w') : w'.var? Tryz.prog s = some cs := by
  unfold World.var? at h ⊢
  obtain ⟨g, hg, hm⟩ := Option.bind_eq_some_iff.1 h
  rw [hg, Option.bind_some]
  have hlt : g < w.heap.size := by
    rcases Nat.lt_or_ge g w.heap.size with h | h
    · exact h
    · rw [Array.getElem?_eq_none h] at hm; cases hm
  rw [hf.block g hlt id]
  exact hm
theorem LT.fr {w w' : World} (h : LT w) (hf : Fr No w w') : LT w' where
  jumps := hf.cells h.jumps id
  ariths := hf.cells h.ariths id
  pow := var_fr h.pow hf
  isize := by
    obtain ⟨bm, n, hc, ho⟩ := h.isize
    exact ⟨bm, n, hf.cell hc id, owns_fr ho hf⟩
  max := by obtain ⟨m, hm⟩ := h.max; exact ⟨m, hf.cell hm id⟩
  errS := by obtain ⟨t, p, hm⟩ := h.errS; exact ⟨t, p, var_fr hm hf⟩
  errR := by obtain ⟨t, p, hm⟩ := h.errR; exact ⟨t, p, var_fr hm hf⟩
  utf := ⟨fun c hc => hf.cell (h.utf.1 c hc) id, fun i hi => ⟨hf.cell (h.utf.2 i hi).1 id, hf.cell (h.utf.2 i hi).2 id⟩⟩
  lsize := by
    obtain ⟨bm, n, hc, ho⟩ := h.lsize
    exact ⟨bm, n, hf.cell hc id, owns_fr ho hf⟩
theorem itoa_any (n : Int) (h0 : -9223372036854775808 < n) (h1 : n ≤ 9223372036854775807) (w : World) (ht : LT w) : Calls Tryz.prog 45 #[.int .i64 n] w fun e w' => e = .returned (.string (bA (itoaN n))) ∧ Fr No w w' := by
  refine (Tryz.strconv_Itoa n (by omega) h1 w ht.pow).mono ?_
  rintro e w' ⟨rfl, k, os, rfl⟩
  refine ⟨?_, Fr.of_below (Go.Lib.below_grow w.heap.size w (Nat.le_refl _) k os)⟩
  rw [itoaN_itoa (by omega)]
  rfl
set_option maxRecDepth 100000 in
theorem num_u8 (n : Nat) (h : n < 256) (w : World) (ht : LT w) : Calls Tryz.prog 19 #[.int .u8 n] w fun e w' => e = .returned (.string (bA (itoaN n))) ∧ Fr No w w' := by
  have H := Lib.hid (itoa_any n (by omega) (by omega) w ht)
  have f1 : IntKind.i64.wrap (n : Int) = n := IntWalk.i64_in _ (by omega)
  clear h ht
  go_enter Tryz.func19, Tryz.ntmps19
  go_wp2_with (go_at_call 45; (with_reducible refine (H.out).mono ?_); rintro e w1 ⟨rfl, hf1⟩)
  go_ret
  exact ⟨rfl, hf1⟩
set_option maxRecDepth 100000 in
theorem num_i16 (n : Int) (h : -32768 ≤ n ∧ n < 32768) (w : World) (ht : LT w) : Calls Tryz.prog 20 #[.int .i16 n] w fun e w' => e = .returned (.string (bA (itoaN n))) ∧ Fr No w w' := by
  have H := Lib.hid (itoa_any n (by omega) (by omega) w ht)
  have f1 : IntKind.i64.wrap n = n := IntWalk.i64_in _ (by omega)
  clear h ht
  go_enter Tryz.func20, Tryz.ntmps20
  go_wp2_with (go_at_call 45; (with_reducible refine (H.out).mono ?_); rintro e w1 ⟨rfl, hf1⟩)
  go_ret
  exact ⟨rfl, hf1⟩
set_option maxRecDepth 100000 in
theorem num_i32 (n : Int) (h : -2147483648 ≤ n ∧ n < 2147483648) (w : World) (ht : LT w) : Calls Tryz.prog 21 #[.int .i32 n] w fun e w' => e = .returned (.string (bA (itoaN n))) ∧ Fr No w w' := by
  have H := Lib.hid (itoa_any n (by omega) (by omega) w ht)
  have f1 : IntKind.i64.wrap n = n := IntWalk.i64_in _ (by omega)
  clear h ht
  go_enter Tryz.func21, Tryz.ntmps21
  go_wp2_with (go_at_call 45; (with_reducible refine (H.out).mono ?_); rintro e w1 ⟨rfl, hf1⟩)
  go_ret
  exact ⟨rfl, hf1⟩
set_option maxRecDepth 100000 in
theorem lreg_any (n : Nat) (h : n < 256) (w : World) (ht : LT w) : Calls Tryz.prog 50 #[.int .u8 n] w fun e w' => e = .returned (.string (bA (regN n))) ∧ Fr No w w' := by
  have H := Lib.hid (num_u8 n h w ht)
  have e : bA (regN n) = ⟨#[114]⟩ ++ bA (itoaN n) := by
    have : itoaN (n : Int) = decN n := by unfold itoaN; rw [if_neg (by omega)]; simp
    rw [this]
    exact (bA_app [114] (decN n)).symm
  have sz : (bA (itoaN n)).size ≤ 1000 := by rw [bA_size]; exact itoa_len1 (by omega) (by omega)
  have a0 := addB ⟨#[114]⟩ (bA (itoaN n)) (by decide) (by omega)
  rw [e]
  clear h ht e
  go_enter Tryz.func50, Tryz.ntmps50
  go_wp2_with (go_at_call 19; (with_reducible refine (H.out).mono ?_); rintro e w1 ⟨rfl, hf1⟩)
  go_ret
  exact ⟨rfl, hf1⟩
set_option maxRecDepth 100000 in
theorem ljump_any (n : Int) (h : -32768 ≤ n ∧ n < 32768) (w : World) (ht : LT w) : Calls Tryz.prog 49 #[.int .i16 n] w fun e w' => e = .returned (.string (bA (signN n))) ∧ Fr No w w' := by
  have H := Lib.hid (num_i16 n h w ht)
  have sz : (bA (itoaN n)).size ≤ 1000 := by rw [bA_size]; exact itoa_len1 (by omega) (by omega)
  have a0 := addB ⟨#[43]⟩ (bA (itoaN n)) (by decide) (by omega)
  by_cases hn : n < 0
  · have e : signN n = itoaN n := by unfold signN; rw [if_pos hn]
    have q : decide (n < 0) = true := by simpa using hn
    rw [e]
    clear h ht e
    go_enter Tryz.func49, Tryz.ntmps49
    go_wp2_with (go_at_call 20; (with_reducible refine (H.out).mono ?_); rintro e w1 ⟨rfl, hf1⟩)
    go_ret
    exact ⟨rfl, hf1⟩
  · have e : bA (signN n) = ⟨#[43]⟩ ++ bA (itoaN n) := by unfold signN; rw [if_neg hn]; exact (bA_app [43] (itoaN n)).symm
    have q : decide (n < 0) = false := by simpa using hn
    rw [e]
    clear h ht e
    go_enter Tryz.func49, Tryz.ntmps49
    go_wp2_with (go_at_call 20; (with_reducible refine (H.out).mono ?_); rintro e w1 ⟨rfl, hf1⟩)
    go_ret
    exact ⟨rfl, hf1⟩
set_option maxRecDepth 100000 in
theorem lwidth_any (n : Nat) (w : World) : Calls Tryz.prog 51 #[.int .u8 n] w fun e w' => e = .returned (.string (bA (if n = 7 ∨ n = 5 then [54, 52] else [51, 50]))) ∧ w = w' := by
  have q1 : ((n : Int) == 7) = (n == 7) := beq_nat n 7
  have q2 : ((n : Int) == 5) = (n == 5) := beq_nat n 5
  have e : bA (if n = 7 ∨ n = 5 then [54, 52] else [51, 50]) = if (n == 7 || n == 5) then ⟨#[54, 52]⟩ else ⟨#[51, 50]⟩ := by
    by_cases h : n = 7 ∨ n = 5
    · rw [if_pos h, if_pos (by simpa using h)]; rfl
    · rw [if_neg h, if_neg (by simpa using h)]; rfl
  rw [e]
  generalize (n == 7) = b7 at *
  generalize (n == 5) = b5 at *
  clear e
  cases b7
  all_goals cases b5
  all_goals go_enter Tryz.func51, Tryz.ntmps51
  all_goals go_wp2_with fail
  all_goals go_ret
  all_goals exact ⟨rfl, rfl⟩
theorem isize_at (op : Nat) : isizeD.atKey (.int .u8 op) (.lit (.int .i64 0)) = .lit (.int .i64 (sizeN op)) := by
  by_cases h : op ∈ ([97, 98, 99, 105, 106, 107, 113, 114, 115, 121, 122, 123] : List Nat)
  · simp only [List.mem_cons, List.not_mem_nil, or_false] at h
    rcases h with rfl | rfl | rfl | rfl | rfl | rfl | rfl | rfl | rfl | rfl | rfl | rfl <;> rfl
  · simp only [List.mem_cons, List.not_mem_nil, or_false, not_or] at h
    have s1 : ∀ (x : Int) (y : DataW Unit), ¬ x = (op : Int) → ((Lit.int .u8 x, y).1.sameKey (.int .u8 op)) = false := fun x y hx => by simp [Lit.sameKey, hx]
    have e1 := s1 97 (.lit (.int .i64 4)) (by omega)
    have e2 := s1 98 (.lit (.int .i64 4)) (by omega)
    have e3 := s1 99 (.lit (.int .i64 4)) (by omega)
    have e4 := s1 105 (.lit (.int .i64 2)) (by omega)
    have e5 := s1 106 (.lit (.int .i64 2)) (by omega)
    have e6 := s1 107 (.lit (.int .i64 2)) (by omega)
    have e7 := s1 113 (.lit (.int .i64 1)) (by omega)
    have e8 := s1 114 (.lit (.int .i64 1)) (by omega)
    have e9 := s1 115 (.lit (.int .i64 1)) (by omega)
    have e10 := s1 121 (.lit (.int .i64 8)) (by omega)
    have e11 := s1 122 (.lit (.int .i64 8)) (by omega)
    have e12 := s1 123 (.lit (.int .i64 8)) (by omega)
    have e : sizeN op = 0 := by unfold sizeN; simp [h]
    rw [e]
    unfold isizeD
    simp only [DataW.atKey, List.find?_cons, e1, e2, e3, e4, e5, e6, e7, e8, e9, e10, e11, e12, List.find?_nil]
    rfl
theorem wf_u8 {n : Nat} (h : n < 256) : (Lit.int .u8 (n : Int)).wf = true := by
  have e1 : IntKind.min .u8 = 0 := by decide
  have e2 : IntKind.max .u8 = 255 := by decide
  simp only [Lit.wf, e1, e2, Bool.and_eq_true, decide_eq_true_eq]
  omega
theorem isize_run {w : World} {bm n : Nat} (h : w.ownsMap Tryz.prog 5 (plainElem Tryz.prog 3) bm n isizeD) (op : Nat) (hw : op < 256) :
    (Instr.lookup 120 (.map (some bm)) (.int .u8 op) false).run Tryz.prog w = .ok (.int .i64 (sizeN op)) w := by
  obtain ⟨c, hrun, hat, _⟩ := h.lookup_int (int_keyed Tryz.underlying5) Tryz.underlying120 Tryz.underlying3 (by kernel_rfl) (Go.Maps.keyOf_int_mk Tryz.underlying5 (q := .u8) (a := (op : Int)) (wf_u8 hw))
  rw [isize_at op] at hat
  have e : ((sizeN op : Nat) : Int) = c := by
    generalize ((sizeN op : Nat) : Int) = q at hat
    simp only [DataW.lit.injEq, Lit.int.injEq, true_and] at hat
    exact hat
  rw [← e] at hrun
  exact hrun
set_option maxRecDepth 100000 in
theorem isize_any (op : Nat) (h : op < 256) (w : World) (ht : LT w) : Calls Tryz.prog 48 #[.int .u8 op] w fun e w' => e = .returned (.int .i64 (sizeN op)) ∧ w = w' := by
  obtain ⟨bm, n, hc, ho⟩ := ht.isize
  have hr := isize_run ho op h
  clear ho ht h
  go_enter Tryz.func48, Tryz.ntmps48
  go_wp2_with fail
  go_ret
  exact ⟨rfl, rfl⟩
end Go.Proofs.YthkdokkpiaaljaaGreatDoor

namespace Go.Proofs.YthkdokkpiaaljaaGreatDoor
open Go.RowKit Go.Lib Go.Sort

set_option maxRecDepth 100000 in
set_option maxHeartbeats 1000000 in
theorem ifuint_any (u : Nat) (hu64 : u < 18446744073709551616) (w : World) (ht : LT w) : Calls Tryz.prog 80 #[.int .u64 u, .int .i64 10] w fun e w' => e = .returned (.string (bA (decN u))) ∧ Fr No w w' := by
  have hdec : decN u = Lib.decDigits u := decN_dec (by omega)
  by_cases hs : u < 100
  · have f1 : IntKind.i64.wrap (u : Int) = u := IntWalk.i64_in _ (by omega)
    have q : decide ((u : Int) < 100) = true := by simp; omega
    have HS := Lib.hid (fun W => Tryz.internal_strconv_small u hs W)
    rw [hdec]
    clear hdec hu64 ht hs
    go_enter Tryz.func80, Tryz.ntmps80
    go_wp2_with (go_at_call 102; (with_reducible refine (HS.out _).mono ?_); rintro e w' ⟨rfl, rfl⟩)
    go_ret
    exact ⟨rfl, Fr.refl _ _⟩
  · have hu1 : 1 ≤ u := by omega
    have q : decide ((u : Int) < 100) = false := by simp; omega
    have hnd20 : Lib.nDigits u ≤ 20 := by have := Lib.numDigits_eq u hu1 hu64; split at this <;> omega
    have hal : Tryz.prog.arrayLen 151 = 24 := by simp [Program.arrayLen, Tryz.underlying151]
    have hsl1 : ∀ W, (Instr.sliceAt 151 (.pointer (some ⟨w.heap.size, 0, none⟩)) none (some (.int .i64 (Lib.nDigits u : Int))) none).run Tryz.prog W = .ok (.slice (some ⟨w.heap.size, 0, none⟩) (Lib.nDigits u) 24) W := fun W => by
      rw [run_sliceAt_array_h W 151 ⟨w.heap.size, 0, none⟩ (by simp [Program.arrayLen, Program.elem, Tryz.underlying151]) .i64 (Lib.nDigits u : Int) (by omega) (by rw [hal]; omega)]
      go_simp
    have hH0 := Lib.holds_zero0 w 151 (Lib.nDigits u) (by omega)
    have hfmt := Tryz.internal_strconv_formatBase10 w.heap.size 0 24 u (Array.replicate (Lib.nDigits u) 0) (w.alloc (.cells Lib.zeros24 151)) hH0 (by rw [Array.size_replicate]; exact Lib.lt_pow_nDigits u) hu64 (by rw [Array.size_replicate]; omega)
    rw [Array.size_replicate] at hfmt
    have HH0 := Lib.hid hH0
    have HND := Lib.hid (fun W h => Tryz.internal_strconv_numDigits u hu1 hu64 W h)
    have HT := Lib.hid (Lib.tabIs_alloc ht.pow (.cells Lib.zeros24 151))
    have HFM := Lib.hid hfmt
    rw [hdec]
    clear hH0 hal hfmt hdec ht hu64
    go_enter Tryz.func80, Tryz.ntmps80
    go_wp2_with (go_at_call 103; refine (HND.out _ HT.out).mono ?_; rintro e w' ⟨rfl, rfl⟩)
    go_at_call 104
    refine HFM.out.mono ?_
    rintro e w' ⟨rfl, k, v', dk, rfl, hF⟩
    have hcv : (convert 31 9 (.slice (some ⟨w.heap.size, 0, none⟩) (Lib.nDigits u) 24)).run Tryz.prog ((putRow (fun (b : UInt8) => Value.int .u8 (b.toNat : Int)) (w.alloc (.cells Lib.zeros24 151)) w.heap.size 0 dk).drewN k) = .ok (.string ⟨(Lib.decDigits u).toArray⟩) ((putRow (fun (b : UInt8) => Value.int .u8 (b.toNat : Int)) (w.alloc (.cells Lib.zeros24 151)) w.heap.size 0 dk).drewN k) := by
      have h := run_convert_bytes_back (P := Tryz.prog) ((putRow (fun (b : UInt8) => Value.int .u8 (b.toNat : Int)) (w.alloc (.cells Lib.zeros24 151)) w.heap.size 0 dk).drewN k) 31 9 5 ⟨w.heap.size, 0, none⟩ 24 (Lib.decDigits u) Tryz.underlying31 Tryz.underlying5 Tryz.underlying9 (fun j hj => by
        rw [Lib.row_is_numeral hF j hj, Lib.add_plain, World.cell?_drewN]
        exact cell?_putRow (fun (b : UInt8) => Value.int .u8 (b.toNat : Int)) _ w.heap.size 0 _ dk HH0.out (by rw [hF.size, Array.size_replicate]) j (by rw [hF.size]; rw [Lib.decDigits_length] at hj; exact hj))
      rw [Lib.decDigits_length] at h
      exact h
    have HF2 := Lib.hid hF
    clear hF
    go_wp2_with fail
    go_ret
    obtain ⟨os, eo⟩ := Lib.fin_at w (.cells Lib.zeros24 151) dk k 0
    refine ⟨rfl, ?_⟩
    have := Fr.of_below (S := No) (Lib.below_grow w.heap.size w (Nat.le_refl _) k os)
    rw [← eo] at this
    exact this
set_option maxRecDepth 100000 in
theorem fuint_any (u : Nat) (hu64 : u < 18446744073709551616) (w : World) (ht : LT w) : Calls Tryz.prog 53 #[.int .u64 u, .int .i64 10] w fun e w' => e = .returned (.string (bA (decN u))) ∧ Fr No w w' := by
  have H := Lib.hid (ifuint_any u hu64 w ht)
  clear hu64 ht
  go_enter Tryz.func53, Tryz.ntmps53
  go_wp2_with (go_at_call 80; (with_reducible refine (H.out).mono ?_); rintro e w1 ⟨rfl, hf1⟩)
  go_ret
  exact ⟨rfl, hf1⟩
end Go.Proofs.YthkdokkpiaaljaaGreatDoor

namespace Go.Proofs.YthkdokkpiaaljaaGreatDoor
open Go.RowKit

/-! ### bits of an opcode -/
theorem and240 (op : Nat) (h : op < 256) : bits BinOp.and IntKind.u8 (op : Int) 240 = (codeN op : Int) := by
  have : ∀ op : Nat, op < 256 → bits BinOp.and IntKind.u8 (op : Int) 240 = (codeN op : Int) := by decide +kernel
  exact this op h
theorem and8 (op : Nat) (h : op < 256) : (bits BinOp.and IntKind.u8 (op : Int) 8 == 0) = !regB op := by
  have : ∀ op : Nat, op < 256 → (bits BinOp.and IntKind.u8 (op : Int) 8 == 0) = !regB op := by decide +kernel
  exact this op h
theorem and7 (op : Nat) (h : op < 256) : bits BinOp.and IntKind.u8 (op : Int) 7 = (op : Int) % 8 := by
  have : ∀ op : Nat, op < 256 → bits BinOp.and IntKind.u8 (op : Int) 7 = (op : Int) % 8 := by decide +kernel
  exact this op h
theorem and8n (op : Nat) (h : op < 256) : (bits BinOp.and IntKind.u8 (op : Int) 8 != 0) = regB op := by
  rw [bne, and8 op h]
  simp

/-! ### what is used -/
def usesV (d s o i w : Bool) : Value := .agg #[.bool d, .bool s, .bool o, .bool i, .bool w]
/-- by a jump -/
def jumpF (c0 c128 c144 reg alone le : Bool) : Value :=
  if c0 then .tuple #[usesV false false true false false, .bool alone]
  else if c128 then .tuple #[usesV false false false true false, .bool alone]
  else if c144 then .tuple #[usesV false false false false false, .bool alone]
  else .tuple #[usesV true reg true (!reg) false, .bool le]
def aloneB (op : Nat) : Bool := op % 8 == 5 && !regB op
def jumpV (op : Nat) : Value := jumpF (codeN op == 0) (codeN op == 128) (codeN op == 144) (regB op) (aloneB op) (decide (codeN op ≤ 208))

set_option maxRecDepth 100000 in
set_option maxHeartbeats 1000000 in
theorem ijump_any (op : Nat) (h : op < 256) (w : World) : Calls Tryz.prog 79 #[.int .u8 op] w fun e w' => e = .returned (jumpV op) ∧ Fr No w w' := by
  have p1 := and240 op h
  have p2 := and8 op h
  have p3 := and8n op h
  have q0 : ((codeN op : Int) == 0) = (codeN op == 0) := beq_nat (codeN op) 0
  have q1 : ((codeN op : Int) == 128) = (codeN op == 128) := beq_nat (codeN op) 128
  have q2 : ((codeN op : Int) == 144) = (codeN op == 144) := beq_nat (codeN op) 144
  have q3 : decide ((codeN op : Int) ≤ 208) = decide (codeN op ≤ 208) := by rw [decide_eq_decide]; omega
  have q5 : ((op : Int) % 8 == 5) = (op % 8 == 5) := beq_mod op 8 5
  have q5' : (bits BinOp.and IntKind.u8 (op : Int) 7 == 5) = (op % 8 == 5) := by rw [and7 op h, ← q5]
  unfold jumpV aloneB
  generalize (op % 8 == 5) = b5 at *
  generalize regB op = rB at *
  generalize (codeN op == 0) = b0 at *
  generalize (codeN op == 128) = b1 at *
  generalize (codeN op == 144) = b2 at *
  generalize decide (codeN op ≤ 208) = le at *
  generalize codeN op = c at *
  clear h
  obtain ⟨R, hR⟩ : ∃ R, jumpF b0 b1 b2 rB (b5 && !rB) le = R := ⟨_, rfl⟩
  rw [hR]
  have HX := Lib.hid hR
  clear hR
  go_enter Tryz.func79, Tryz.ntmps79
  go_wp2_with fail
  all_goals clear p1 p2 p3 q0 q1 q2 q3 q5 q5'
  all_goals subst_vars
  all_goals go_returns
  all_goals exact ⟨by first | rfl | (cases rB <;> rfl) | (cases rB <;> cases b5 <;> rfl) | simp [jumpF, usesV, *], (Fr.refl _ _).alloc _⟩
end Go.Proofs.YthkdokkpiaaljaaGreatDoor
