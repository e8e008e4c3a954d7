/- lines.code: the opcode of a name with a width. -/
import Derived.Test.YthkdokkpiaaljaaGreatDoorCore21
import Derived.Laws.BitsAllLaws
set_option linter.all false
set_option linter.unusedVariables false
set_option linter.unusedSimpArgs false
namespace Go.Proofs.YthkdokkpiaaljaaGreatDoor
open Go.RowKit

theorem cuts_any (s p : ByteArray) (hs : s.size ≤ 1000000) (w : World) : Calls Tryz.prog 117 #[.string s, .string p] w fun e w' => e = .returned (.tuple #[.string (bA (Lib.trimSuffix s.data.toList p.data.toList)), .bool (Lib.hasSuffix s.data.toList p.data.toList)]) ∧ w = w' :=
  (Tryz.strings_CutSuffix s p w (by omega)).mono fun e w' ⟨he, hw⟩ => ⟨he, hw.symm⟩
/-- a block of the call's own may have turned -/
def Isk (b : Nat) : Nat → Prop := fun k => b = k
theorem Fr.own {b : Nat} {w a c : World} (h : Fr No w a) (k : Fr (Isk b) a c) (hb : w.heap.size ≤ b) : Fr No w c :=
  ⟨k.os.trans h.os, k.tape.trans h.tape, k.output.trans h.output, Nat.le_trans h.size k.size, fun i hi hs => (k.block i (Nat.lt_of_lt_of_le hi h.size) (fun e => by unfold Isk at e; omega)).trans (h.block i hi hs)⟩
theorem Fr.grown {b : Nat} {w w' : World} (h : w.grownBy w' (some b)) : Fr (Isk b) w w' := ⟨h.os, h.tape, h.output, h.size, fun k hk hs => h.block k hk (fun e => hs (Option.some.inj e).symm)⟩
theorem arrB_inv {v : Value} {l : List Int} {ps : List MemPlace} (h : arr3 v = some (.agg (l.map fun a => .lit (.int .u8 a)), ps)) : v = .agg (l.map fun a => Value.int .u8 a).toArray := by
  unfold arr3 at h
  split at h
  · rename_i xs
    simp only [Option.map_eq_some_iff, Prod.mk.injEq] at h
    obtain ⟨k, hl, he, _⟩ := h
    simp only [DataW.agg.injEq] at he
    rw [he] at hl
    have := u8L_inv xs.toList l hl
    congr 1
    apply Array.toList_inj.1
    rw [this]
  · cases h
/-- the map of classes by width, made and asked -/
def ClassesRun (wide : Bool) (w w1 w2 : World) : Prop := (Instr.mapUpdate 165 (.map (some w.heap.size)) (.bool true) (.agg #[.int .u8 7, .int .u8 5])).run Tryz.prog (w.alloc (.map #[] 0)) = .ok () w1 ∧
    (Instr.mapUpdate 165 (.map (some w.heap.size)) (.bool false) (.agg #[.int .u8 4, .int .u8 6])).run Tryz.prog w1 = .ok () w2 ∧
    (Instr.lookup 165 (.map (some w.heap.size)) (.bool wide) false).run Tryz.prog w2 = .ok (.agg #[.int .u8 (if wide then 7 else 4), .int .u8 (if wide then 5 else 6)]) w2 ∧ Fr No w w2
theorem classes_run (wide : Bool) (w : World) : ∃ w1 w2, ClassesRun wide w w1 w2 := by
  have hK := Go.Maps.bool_keyed Tryz.underlying4
  have h0 := World.ownsMap_made (H := Unit) w Tryz.prog 4 arr3
  obtain ⟨w1, hr1, h1, g1⟩ := h0.update hK Tryz.underlying165 (by decide) (key := .bool true) (val := .agg #[.int .u8 7, .int .u8 5]) (Go.Maps.keyOf_bool_mk Tryz.underlying4 true) (d := .agg [.lit (.int .u8 7), .lit (.int .u8 5)]) (ps := []) rfl
  obtain ⟨w2, hr2, h2, g2⟩ := h1.update hK Tryz.underlying165 (by decide) (key := .bool false) (val := .agg #[.int .u8 4, .int .u8 6]) (Go.Maps.keyOf_bool_mk Tryz.underlying4 false) (d := .agg [.lit (.int .u8 4), .lit (.int .u8 6)]) (ps := []) rfl
  obtain ⟨v, ps, hr3, hv⟩ := h2.lookup hK Tryz.underlying165 (z := .agg #[.int .u8 0, .int .u8 0]) (by kernel_rfl) (zd := .agg [.lit (.int .u8 0), .lit (.int .u8 0)]) (zp := []) rfl (key := .bool wide) (Go.Maps.keyOf_bool_mk Tryz.underlying4 wide)
  refine ⟨w1, w2, hr1, hr2, ?_, ?_⟩
  · rw [hr3]
    have : v = .agg #[.int .u8 (if wide then 7 else 4), .int .u8 (if wide then 5 else 6)] := by
      cases wide
      · exact arrB_inv (l := [4, 6]) hv
      · exact arrB_inv (l := [7, 5]) hv
    rw [this]
  · exact (((Fr.refl No w).alloc _).own (Fr.grown g1) (Nat.le_refl _)).own (Fr.grown g2) (Nat.le_refl _)

/-- the opcode of a name with a width -/
def codeF (wide : Bool) (name : List UInt8) : Option (Nat × Bool) :=
  match placeN arithN name with
  | some k => some (k * 16 + (if wide then 7 else 4), false)
  | none => match placeN jumpN name with
    | some k => some (k * 16 + (if wide then 5 else 6), true)
    | none => none
def codeW (word : List UInt8) : Option (Nat × Bool) :=
  if Lib.hasSuffix word [54, 52] then codeF true (Lib.trimSuffix word [54, 52])
  else if Lib.hasSuffix word [51, 50] then codeF false (Lib.trimSuffix word [51, 50]) else none
def codeV : Option (Nat × Bool) → Value
  | some (op, j) => .tuple #[.int .u8 op, .bool j, .bool true]
  | none => .tuple #[.int .u8 0, .bool false, .bool false]
theorem place_lt {L : List (List UInt8)} {x : List UInt8} {k : Nat} (h : placeN L x = some k) : k < L.length := (List.findIdx?_eq_some_iff_getElem.1 h).1
theorem or_low (k c : Nat) (hk : k < 16) (hc : c < 16) : bits BinOp.or IntKind.u8 ((k : Int) * 16) (c : Int) = (k : Int) * 16 + (c : Int) := by
  have : ∀ k : Nat, k < 16 → ∀ c : Nat, c < 16 → bits BinOp.or IntKind.u8 ((k : Int) * 16) (c : Int) = (k : Int) * 16 + (c : Int) := by decide +kernel
  exact this k hk c hc

/-- the place of a name, in the world there is -/
theorem place_at {w : World} (hT : LT w) (x : List UInt8) : Hid (∀ W, Fr No w W → Calls Tryz.prog 118 #[.slice (some ⟨1, 0, none⟩) 13 13, .string (bA x)] W fun e w' => e = .returned (.int .i64 (placeI (placeN arithN x))) ∧ W = w') ∧
    Hid (∀ W, Fr No w W → Calls Tryz.prog 118 #[.slice (some ⟨0, 0, none⟩) 14 14, .string (bA x)] W fun e w' => e = .returned (.int .i64 (placeI (placeN jumpN x))) ∧ W = w') :=
  ⟨fun W hf => place_any 1 13 13 arithN x (by decide) (by decide) W (hT.fr hf).ariths, fun W hf => place_any 0 14 14 jumpN x (by decide) (by decide) W (hT.fr hf).jumps⟩
set_option maxRecDepth 100000 in
set_option maxHeartbeats 2000000 in
theorem lcode_no (word : List UInt8) (hs : word.length ≤ 1000000) (w : World) (h1 : Lib.hasSuffix word [54, 52] = false) (h2 : Lib.hasSuffix word [51, 50] = false) : Calls Tryz.prog 98 #[.string (bA word)] w fun e w' => e = .returned (.tuple #[.int .u8 0, .bool false, .bool false]) ∧ Fr No w w' := by
  have HC1 : Hid (∀ W, Calls Tryz.prog 117 #[.string (bA word), .string ⟨#[54, 52]⟩] W fun e w' => e = .returned (.tuple #[.string (bA (Lib.trimSuffix word [54, 52])), .bool false]) ∧ W = w') := fun W => h1 ▸ cuts_any (bA word) ⟨#[54, 52]⟩ (by rw [bA_size]; exact hs) W
  have HC2 : Hid (∀ W, Calls Tryz.prog 117 #[.string (bA word), .string ⟨#[51, 50]⟩] W fun e w' => e = .returned (.tuple #[.string (bA (Lib.trimSuffix word [51, 50])), .bool false]) ∧ W = w') := fun W => h2 ▸ cuts_any (bA word) ⟨#[51, 50]⟩ (by rw [bA_size]; exact hs) W
  clear h1 h2 hs
  generalize Lib.trimSuffix word [54, 52] = R1 at *
  generalize Lib.trimSuffix word [51, 50] = R2 at *
  go_enter Tryz.func98, Tryz.ntmps98
  go_wp2_with (go_at_call 117; (with_reducible first | refine (HC1.out _).mono ?_ | refine (HC2.out _).mono ?_); rintro e w1 ⟨rfl, rfl⟩)
  go_returns
  exact ⟨rfl, Fr.refl _ _⟩
/-- code's answer when the width is known -/
theorem wrap_or {k c : Nat} (hk : k < 14) (hc : c < 8) : IntKind.i64.wrap (k : Int) = k ∧ IntKind.u8.wrap (k : Int) = k ∧ IntKind.u8.wrap ((k : Int) * 16) = (k : Int) * 16 ∧ bits BinOp.or IntKind.u8 ((k : Int) * 16 % 256) (c : Int) = (k : Int) * 16 + (c : Int) := by
  refine ⟨IntWalk.i64_in _ (by omega), IntWalk.u8_in _ (by omega), IntWalk.u8_in _ (by omega), ?_⟩
  rw [show (k : Int) * 16 % 256 = (k : Int) * 16 by omega]
  exact or_low k c (by omega) (by omega)
set_option maxRecDepth 100000 in
set_option maxHeartbeats 2000000 in
theorem lcode_wide (word : List UInt8) (hs : word.length ≤ 1000000) (w : World) (hT : LT w) (h1 : Lib.hasSuffix word [54, 52] = true) : Calls Tryz.prog 98 #[.string (bA word)] w fun e w' => e = .returned (codeV (codeF true (Lib.trimSuffix word [54, 52]))) ∧ Fr No w w' := by
  have HC1 : Hid (∀ W, Calls Tryz.prog 117 #[.string (bA word), .string ⟨#[54, 52]⟩] W fun e w' => e = .returned (.tuple #[.string (bA (Lib.trimSuffix word [54, 52])), .bool true]) ∧ W = w') := fun W => h1 ▸ cuts_any (bA word) ⟨#[54, 52]⟩ (by rw [bA_size]; exact hs) W
  clear h1 hs
  generalize Lib.trimSuffix word [54, 52] = R at *
  obtain ⟨HA, HJ⟩ := place_at hT R
  obtain ⟨w1, w2, hr1, hr2, hr3, hf2⟩ := classes_run true w
  have hmk := run_makeMap (P := Tryz.prog) 165 w
  have HF2 := Lib.hid hf2
  clear hf2 hT
  simp only [if_true, Bool.false_eq_true, if_false] at hr3
  unfold codeF
  cases ha : placeN arithN R with
  | some k =>
    have hk : k < 14 := Nat.lt_of_lt_of_le (place_lt ha) (by decide)
    rw [ha] at HA
    dsimp only [placeI] at HA ⊢
    obtain ⟨f1, f2, f3, f4⟩ := wrap_or (k := k) (c := 7) hk (by decide)
    have g1 : (0 : Int) ≤ (k : Int) := Int.natCast_nonneg k
    clear ha HJ hk
    simp only [if_true, Bool.false_eq_true, if_false]
    unfold codeV
    dsimp only
    have f5 : ((k * 16 + 7 : Nat) : Int) = (k : Int) * 16 + 7 := rfl
    rw [f5]
    clear f5
    generalize (k : Int) = K at *
    have HB := Lib.hid f4
    clear f3 f4
    generalize K * 16 + 7 = Z at *
    go_enter Tryz.func98, Tryz.ntmps98
    go_wp2_with (first | (go_at_call 117; (with_reducible first | refine (HC1.out _).mono ?_); rintro e w1 ⟨rfl, rfl⟩) | (go_at_call 118; (with_reducible first | refine (HA.out _ (HF2.out.alloc _)).mono ?_); rintro e w3 ⟨rfl, rfl⟩))
    go_returns
    refine ⟨?_, HF2.out.alloc _⟩
    show Ending.returned (.tuple #[.int .u8 (bits BinOp.or IntKind.u8 (K * 16 % 256) 7), .bool false, .bool true]) = _
    rw [show bits BinOp.or IntKind.u8 (K * 16 % 256) 7 = Z from HB.out]
  | none =>
    rw [ha] at HA
    clear ha
    cases hj : placeN jumpN R with
    | some k =>
      have hk : k < 14 := Nat.lt_of_lt_of_le (place_lt hj) (by decide)
      rw [hj] at HJ
      dsimp only [placeI] at HJ HA ⊢
      obtain ⟨f1, f2, f3, f4⟩ := wrap_or (k := k) (c := 5) hk (by decide)
      have g1 : (0 : Int) ≤ (k : Int) := Int.natCast_nonneg k
      clear hj hk
      simp only [if_true, Bool.false_eq_true, if_false]
      unfold codeV
      dsimp only
      have f5 : ((k * 16 + 5 : Nat) : Int) = (k : Int) * 16 + 5 := rfl
      rw [f5]
      clear f5
      generalize (k : Int) = K at *
      have HB := Lib.hid f4
      clear f3 f4
      generalize K * 16 + 5 = Z at *
      go_enter Tryz.func98, Tryz.ntmps98
      go_wp2_with (first | (go_at_call 117; (with_reducible first | refine (HC1.out _).mono ?_); rintro e w1 ⟨rfl, rfl⟩) | (go_at_call 118; (with_reducible first | refine (HA.out _ (HF2.out.alloc _)).mono ?_ | refine (HJ.out _ (HF2.out.alloc _)).mono ?_); rintro e w3 ⟨rfl, rfl⟩))
      go_returns
      refine ⟨?_, HF2.out.alloc _⟩
      show Ending.returned (.tuple #[.int .u8 (bits BinOp.or IntKind.u8 (K * 16 % 256) 5), .bool true, .bool true]) = _
      rw [show bits BinOp.or IntKind.u8 (K * 16 % 256) 5 = Z from HB.out]
    | none =>
      rw [hj] at HJ
      clear hj
      dsimp only [placeI] at HA HJ ⊢
      unfold codeV
      dsimp only
      go_enter Tryz.func98, Tryz.ntmps98
      go_wp2_with (first | (go_at_call 117; (with_reducible first | refine (HC1.out _).mono ?_); rintro e w1 ⟨rfl, rfl⟩) | (go_at_call 118; (with_reducible first | refine (HA.out _ (HF2.out.alloc _)).mono ?_ | refine (HJ.out _ (HF2.out.alloc _)).mono ?_); rintro e w3 ⟨rfl, rfl⟩))
      go_returns
      exact ⟨rfl, HF2.out.alloc _⟩
set_option maxRecDepth 100000 in
set_option maxHeartbeats 2000000 in
theorem lcode_narrow (word : List UInt8) (hs : word.length ≤ 1000000) (w : World) (hT : LT w) (h1 : Lib.hasSuffix word [54, 52] = false) (h2 : Lib.hasSuffix word [51, 50] = true) : Calls Tryz.prog 98 #[.string (bA word)] w fun e w' => e = .returned (codeV (codeF false (Lib.trimSuffix word [51, 50]))) ∧ Fr No w w' := by
  have HC1 : Hid (∀ W, Calls Tryz.prog 117 #[.string (bA word), .string ⟨#[54, 52]⟩] W fun e w' => e = .returned (.tuple #[.string (bA (Lib.trimSuffix word [54, 52])), .bool false]) ∧ W = w') := fun W => h1 ▸ cuts_any (bA word) ⟨#[54, 52]⟩ (by rw [bA_size]; exact hs) W
  have HC2 : Hid (∀ W, Calls Tryz.prog 117 #[.string (bA word), .string ⟨#[51, 50]⟩] W fun e w' => e = .returned (.tuple #[.string (bA (Lib.trimSuffix word [51, 50])), .bool true]) ∧ W = w') := fun W => h2 ▸ cuts_any (bA word) ⟨#[51, 50]⟩ (by rw [bA_size]; exact hs) W
  clear h1 h2 hs
  generalize Lib.trimSuffix word [54, 52] = R1 at *
  generalize Lib.trimSuffix word [51, 50] = R at *
  obtain ⟨HA, HJ⟩ := place_at hT R
  obtain ⟨w1, w2, hr1, hr2, hr3, hf2⟩ := classes_run false w
  have hmk := run_makeMap (P := Tryz.prog) 165 w
  have HF2 := Lib.hid hf2
  clear hf2 hT
  simp only [if_true, Bool.false_eq_true, if_false] at hr3
  unfold codeF
  cases ha : placeN arithN R with
  | some k =>
    have hk : k < 14 := Nat.lt_of_lt_of_le (place_lt ha) (by decide)
    rw [ha] at HA
    dsimp only [placeI] at HA ⊢
    obtain ⟨f1, f2, f3, f4⟩ := wrap_or (k := k) (c := 4) hk (by decide)
    have g1 : (0 : Int) ≤ (k : Int) := Int.natCast_nonneg k
    clear ha HJ hk
    simp only [if_true, Bool.false_eq_true, if_false]
    unfold codeV
    dsimp only
    have f5 : ((k * 16 + 4 : Nat) : Int) = (k : Int) * 16 + 4 := rfl
    rw [f5]
    clear f5
    generalize (k : Int) = K at *
    have HB := Lib.hid f4
    clear f3 f4
    generalize K * 16 + 4 = Z at *
    go_enter Tryz.func98, Tryz.ntmps98
    go_wp2_with (first | (go_at_call 117; (with_reducible first | refine (HC1.out _).mono ?_ | refine (HC2.out _).mono ?_); rintro e w1 ⟨rfl, rfl⟩) | (go_at_call 118; (with_reducible first | refine (HA.out _ (HF2.out.alloc _)).mono ?_); rintro e w3 ⟨rfl, rfl⟩))
    go_returns
    refine ⟨?_, HF2.out.alloc _⟩
    show Ending.returned (.tuple #[.int .u8 (bits BinOp.or IntKind.u8 (K * 16 % 256) 4), .bool false, .bool true]) = _
    rw [show bits BinOp.or IntKind.u8 (K * 16 % 256) 4 = Z from HB.out]
  | none =>
    rw [ha] at HA
    clear ha
    cases hj : placeN jumpN R with
    | some k =>
      have hk : k < 14 := Nat.lt_of_lt_of_le (place_lt hj) (by decide)
      rw [hj] at HJ
      dsimp only [placeI] at HJ HA ⊢
      obtain ⟨f1, f2, f3, f4⟩ := wrap_or (k := k) (c := 6) hk (by decide)
      have g1 : (0 : Int) ≤ (k : Int) := Int.natCast_nonneg k
      clear hj hk
      simp only [if_true, Bool.false_eq_true, if_false]
      unfold codeV
      dsimp only
      have f5 : ((k * 16 + 6 : Nat) : Int) = (k : Int) * 16 + 6 := rfl
      rw [f5]
      clear f5
      generalize (k : Int) = K at *
      have HB := Lib.hid f4
      clear f3 f4
      generalize K * 16 + 6 = Z at *
      go_enter Tryz.func98, Tryz.ntmps98
      go_wp2_with (first | (go_at_call 117; (with_reducible first | refine (HC1.out _).mono ?_ | refine (HC2.out _).mono ?_); rintro e w1 ⟨rfl, rfl⟩) | (go_at_call 118; (with_reducible first | refine (HA.out _ (HF2.out.alloc _)).mono ?_ | refine (HJ.out _ (HF2.out.alloc _)).mono ?_); rintro e w3 ⟨rfl, rfl⟩))
      go_returns
      refine ⟨?_, HF2.out.alloc _⟩
      show Ending.returned (.tuple #[.int .u8 (bits BinOp.or IntKind.u8 (K * 16 % 256) 6), .bool true, .bool true]) = _
      rw [show bits BinOp.or IntKind.u8 (K * 16 % 256) 6 = Z from HB.out]
    | none =>
      rw [hj] at HJ
      clear hj
      dsimp only [placeI] at HA HJ ⊢
      unfold codeV
      dsimp only
      go_enter Tryz.func98, Tryz.ntmps98
      go_wp2_with (first | (go_at_call 117; (with_reducible first | refine (HC1.out _).mono ?_ | refine (HC2.out _).mono ?_); rintro e w1 ⟨rfl, rfl⟩) | (go_at_call 118; (with_reducible first | refine (HA.out _ (HF2.out.alloc _)).mono ?_ | refine (HJ.out _ (HF2.out.alloc _)).mono ?_); rintro e w3 ⟨rfl, rfl⟩))
      go_returns
      exact ⟨rfl, HF2.out.alloc _⟩
/-- lines.code -/
theorem lcode_any (word : List UInt8) (hs : word.length ≤ 1000000) (w : World) (hT : LT w) : Calls Tryz.prog 98 #[.string (bA word)] w fun e w' => e = .returned (codeV (codeW word)) ∧ Fr No w w' := by
  unfold codeW
  cases h1 : Lib.hasSuffix word [54, 52] with
  | true => exact lcode_wide word hs w hT h1
  | false =>
    cases h2 : Lib.hasSuffix word [51, 50] with
    | true => exact lcode_narrow word hs w hT h1 h2
    | false => exact lcode_no word hs w h1 h2
end Go.Proofs.YthkdokkpiaaljaaGreatDoor
