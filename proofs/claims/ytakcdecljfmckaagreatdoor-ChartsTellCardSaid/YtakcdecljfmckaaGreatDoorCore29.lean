/- lines.build: words with a size. (printed by mkraw.py) -/
import Derived.Test.YtakcdecljfmckaaGreatDoorCore28
set_option linter.all false
set_option linter.unusedVariables false
set_option linter.unusedSimpArgs false
namespace Go.Proofs.YtakcdecljfmckaaGreatDoor
open Go.RowKit

def sizedX (o : Option Int) : Nat × Nat × Nat := match o with
  | some k => lsizeN k
  | none => (0, 0, 0)
def sizedY (o : Option Int) : Bool := match o with
  | some k => lsizeB k
  | none => false
theorem sizedV_eq (o : Option Int) : sizedV o = .tuple #[.agg #[.int .u8 (sizedX o).1, .int .u8 (sizedX o).2.1, .int .u8 (sizedX o).2.2], .bool (sizedY o)] := by cases o <;> rfl
/-- a word that is none of the seven -/
structure Other (B : ByteArray) : Prop where
  q1 : (B.toList == [101, 120, 105, 116]) = false
  q2 : (B.toList == [110, 111, 115, 112, 101, 99]) = false
  q3 : (B.toList == [99, 97, 108, 108]) = false
  q4 : (B.toList == [106, 97]) = false
  q5 : (B.toList == [108, 100, 105, 109, 109]) = false
  q6 : (B.toList == [108, 100, 109, 97, 112]) = false
  q7 : (B.toList == [114, 97, 119]) = false
/-- what sized answers of a word, in whatever world -/
def SizedC (word : List UInt8) (nm : ByteArray) (w : World) (y : Bool) : Prop := ∀ W, Fr No w W → Calls Tryz.prog 104 #[.string (bA word), .string nm] W fun e w' => e = .returned (.tuple #[.agg #[.int .u8 (sizedX (sizedN word nm.data.toList)).1, .int .u8 (sizedX (sizedN word nm.data.toList)).2.1, .int .u8 (sizedX (sizedN word nm.data.toList)).2.2], .bool y]) ∧ Fr No W w'
theorem sized_c (word : List UInt8) (nm : ByteArray) (w : World) (hT : LT w) (y : Bool) (h : sizedY (sizedN word nm.data.toList) = y) : SizedC word nm w y := fun W hW => by
  have := sized_any word nm W (hT.fr hW)
  rw [sizedV_eq, h] at this
  exact this
def ldxO (a : Nat) (x : List Mv) : Option (List Ins × Int) :=
  (ag dstG x 0).bind fun v0 => (ag dstG x 1).bind fun v1 => (ag shortG x 2).bind fun v2 => some ([⟨a, v0.toNat, v1.toNat, v2, 0⟩], 3)
set_option maxRecDepth 100000 in
set_option maxHeartbeats 4000000 in
theorem build_ldx (word : List UInt8) (ho : Other (bA word)) (x : List Mv) (xv : Value) (b : Nat) (w : World) (hX : XsAt w xv b x) (hT : LT w) (h1 : sizedY (sizedN word [108, 100, 120]) = true) : Calls Tryz.prog 75 #[.string (bA word), xv] w (BuildTo w (ldxO (sizedX (sizedN word [108, 100, 120])).1 x)) := by
  have HS1 : Hid (SizedC word ⟨#[108, 100, 120]⟩ w true) := sized_c word ⟨#[108, 100, 120]⟩ w hT _ h1
  obtain ⟨q1, q2, q3, q4, q5, q6, q7⟩ := ho
  unfold SizedC at HS1
  rw [show (⟨#[108, 100, 120]⟩ : ByteArray).data.toList = [108, 100, 120] from rfl] at HS1
  generalize sizedX (sizedN word [108, 100, 120]) = S1 at *
  obtain ⟨a1, c1, d1⟩ := S1
  dsimp only at *
  generalize bA word = Bw at *
  clear hT h1
  have HF0 := Lib.hid (Fr.refl No w)
  go_enter Tryz.func75, Tryz.ntmps75
  go_wp2_with (first | (go_at_call 104; (with_reducible refine (HS1.out _ HF0.out).mono ?_); rintro e w1 ⟨rfl, hf1⟩; have HF1 := Lib.hid ((HF0.out.trans hf1).alloc (.cells #[.int .u8 a1, .int .u8 c1, .int .u8 d1] 158)); clear hf1))
  refine wp_region_puts 201 [(1, xv), (7, .pointer (some ⟨w1.heap.size, 0, none⟩))] [(104, .pointer (some ⟨w1.heap.size, 0, none⟩)), (105, .int .u8 a1), (106, xv), (107, px b 0), (108, (xg x 0).v), (109, .int .u8 ((ag dstG x 0).getD 0)), (110, xv), (111, px b 1), (112, (xg x 1).v), (113, .int .u8 ((ag dstG x 1).getD 0)), (114, xv), (115, px b 2), (116, (xg x 2).v), (117, .int .i16 ((ag shortG x 2).getD 0)), (118, .agg #[.int .u8 (a1), .int .u8 ((ag dstG x 0).getD 0), .int .u8 ((ag dstG x 1).getD 0), .int .i16 ((ag shortG x 2).getD 0), .int .i32 (0)]), (5, .int .i64 3)] 119 4 15 16 (fun v w' => ((ag dstG x 0).isSome = true ∧ (ag dstG x 1).isSome = true ∧ (ag shortG x 2).isSome = true) → InsAt w' v [⟨a1, ((ag dstG x 0).getD 0).toNat, ((ag dstG x 1).getD 0).toNat, ((ag shortG x 2).getD 0), 0⟩]) (fun i => [True, True, True, (x[0]?).isSome = true, (x[0]?).isSome = true, (ag dstG x 0).isSome = true, True, (x[1]?).isSome = true, (x[1]?).isSome = true, (ag dstG x 1).isSome = true, True, (x[2]?).isSome = true, (x[2]?).isSome = true, (ag shortG x 2).isSome = true, True, True, True, True].getD i True) (by kernel_rfl) (by kernel_rfl) (by kernel_rfl) (by kernel_rfl) ⟨by kernel_rfl, by kernel_rfl, trivial⟩ rfl (fun v W W' h hf hh => (h hh).fr hf) (fun A v hdf hb hp sB s4 => each_op _ _ ?_) ?_ ?_ ?_
  · obtain ⟨b1, b7, _⟩ := hb
    obtain ⟨s104, s105, s106, s107, s108, s109, s110, s111, s112, s113, s114, s115, s116, s117, s118, s5, _⟩ := hp
    refine ⟨?_, ?_, ?_, ?_, ?_, ?_, ?_, ?_, ?_, ?_, ?_, ?_, ?_, ?_, ?_, ?_, ?_, ?_, trivial⟩
    · intro hne W hW hl; exact does_arrx (ev b7) (by kernel_rfl) s104
    · intro hne W hW hl; exact does_arrl (ev s104) (ld_u8 (hW.cell (CellsAt.new w1 [.int .u8 a1, .int .u8 c1, .int .u8 d1] 158 0 _ rfl) id)) s105
    · intro hne W hW hl; exact does_move (ev b1) s106
    · intro hne W hW hl; exact does_index (hX.fr HF1.out) 0 (by decide) (ev s106) s107 (fun hn v W2 hv hf => ⟨hdf, build_dies (by first | (simp [ldxO, hn]; done) | (simp [ldxO, ag, hn]; done)) hv ((HF1.out.trans hW).trans hf)⟩)
    · intro hne W hW hl; exact does_load (hX.fr HF1.out) hW 0 (by (first | exact hl _ (Array.mem_of_getElem? (i := 0) rfl) rfl | exact hl _ (Array.mem_of_getElem? (i := 1) rfl) rfl | exact hl _ (Array.mem_of_getElem? (i := 2) rfl) rfl | exact hl _ (Array.mem_of_getElem? (i := 3) rfl) rfl)) (ev s107) s108
    · intro hne W hW hl; exact does_arg dst_c (hX.fr HF1.out) 0 (by (first | exact hl _ (Array.mem_of_getElem? (i := 0) rfl) rfl | exact hl _ (Array.mem_of_getElem? (i := 1) rfl) rfl | exact hl _ (Array.mem_of_getElem? (i := 2) rfl) rfl | exact hl _ (Array.mem_of_getElem? (i := 3) rfl) rfl)) (ev s108) s109 (fun hn v W2 hv hf => ⟨hdf, build_dies (by first | (simp [ldxO, hn]; done) | (simp [ldxO, ag, hn]; done)) hv ((HF1.out.trans hW).trans hf)⟩)
    · intro hne W hW hl; exact does_move (ev b1) s110
    · intro hne W hW hl; exact does_index (hX.fr HF1.out) 1 (by decide) (ev s110) s111 (fun hn v W2 hv hf => ⟨hdf, build_dies (by first | (simp [ldxO, hn]; done) | (simp [ldxO, ag, hn]; done)) hv ((HF1.out.trans hW).trans hf)⟩)
    · intro hne W hW hl; exact does_load (hX.fr HF1.out) hW 1 (by (first | exact hl _ (Array.mem_of_getElem? (i := 0) rfl) rfl | exact hl _ (Array.mem_of_getElem? (i := 1) rfl) rfl | exact hl _ (Array.mem_of_getElem? (i := 2) rfl) rfl | exact hl _ (Array.mem_of_getElem? (i := 3) rfl) rfl)) (ev s111) s112
    · intro hne W hW hl; exact does_arg dst_c (hX.fr HF1.out) 1 (by (first | exact hl _ (Array.mem_of_getElem? (i := 0) rfl) rfl | exact hl _ (Array.mem_of_getElem? (i := 1) rfl) rfl | exact hl _ (Array.mem_of_getElem? (i := 2) rfl) rfl | exact hl _ (Array.mem_of_getElem? (i := 3) rfl) rfl)) (ev s112) s113 (fun hn v W2 hv hf => ⟨hdf, build_dies (by first | (simp [ldxO, hn]; done) | (simp [ldxO, ag, hn]; done)) hv ((HF1.out.trans hW).trans hf)⟩)
    · intro hne W hW hl; exact does_move (ev b1) s114
    · intro hne W hW hl; exact does_index (hX.fr HF1.out) 2 (by decide) (ev s114) s115 (fun hn v W2 hv hf => ⟨hdf, build_dies (by first | (simp [ldxO, hn]; done) | (simp [ldxO, ag, hn]; done)) hv ((HF1.out.trans hW).trans hf)⟩)
    · intro hne W hW hl; exact does_load (hX.fr HF1.out) hW 2 (by (first | exact hl _ (Array.mem_of_getElem? (i := 0) rfl) rfl | exact hl _ (Array.mem_of_getElem? (i := 1) rfl) rfl | exact hl _ (Array.mem_of_getElem? (i := 2) rfl) rfl | exact hl _ (Array.mem_of_getElem? (i := 3) rfl) rfl)) (ev s115) s116
    · intro hne W hW hl; exact does_arg short_c (hX.fr HF1.out) 2 (by (first | exact hl _ (Array.mem_of_getElem? (i := 0) rfl) rfl | exact hl _ (Array.mem_of_getElem? (i := 1) rfl) rfl | exact hl _ (Array.mem_of_getElem? (i := 2) rfl) rfl | exact hl _ (Array.mem_of_getElem? (i := 3) rfl) rfl)) (ev s116) s117 (fun hn v W2 hv hf => ⟨hdf, build_dies (by first | (simp [ldxO, hn]; done) | (simp [ldxO, ag, hn]; done)) hv ((HF1.out.trans hW).trans hf)⟩)
    · intro hne W hW hl; exact does_build (by simp only [List.map_toArray, List.map_cons, List.map_nil, act_const, ev s105, ev s109, ev s113, ev s117]; rfl) (by kernel_rfl) s118
    · intro hne W hW hl; exact absurd rfl hne
    · intro hne W hW hl; exact does_assign (ev sB) s4
    · intro hne W hW hl; exact does_assign rfl s5
  · intro A hb hp o ho W hW hl
    obtain ⟨s104, s105, s106, s107, s108, s109, s110, s111, s112, s113, s114, s115, s116, s117, s118, s5, _⟩ := hp
    obtain rfl := Option.some.inj ho
    refine ⟨.slice (some ⟨W.heap.size, 0, none⟩) 1 1, W.alloc (.cells #[.int .u8 (a1), .int .u8 ((ag dstG x 0).getD 0), .int .u8 ((ag dstG x 1).getD 0), .int .i16 ((ag shortG x 2).getD 0), .int .i32 (0)] 51), slice_run (by simp only [List.map_toArray, List.map_cons, List.map_nil, ev s118]; rfl) (by kernel_rfl), (Fr.refl _ _).alloc _, fun hh => ?_, trivial⟩
    obtain ⟨h0, h1, h2⟩ := hh
    refine insAt_new _ _ _ _ _ _ ?_ rfl
    obtain ⟨v0, e0⟩ := Option.isSome_iff_exists.1 h0
    have p0 : (((ag dstG x 0).getD 0).toNat : Int) = (ag dstG x 0).getD 0 := by rw [e0]; exact dst_pos e0
    obtain ⟨v1, e1⟩ := Option.isSome_iff_exists.1 h1
    have p1 : (((ag dstG x 1).getD 0).toNat : Int) = (ag dstG x 1).getD 0 := by rw [e1]; exact dst_pos e1
    simp only [iflat, Ins.cells, List.flatMap_cons, List.flatMap_nil, List.cons_append, List.nil_append, p0, p1]
    try rfl
  · rintro c ⟨t1, d1⟩ ⟨t2, d2⟩ w3 hd1 hd2 h
    obtain rfl : d1 = [] := hd1
    obtain rfl : d2 = [] := hd2
    exact h
  · intro A v W hdf hsz hb hp sB s4 hW hv hall
    obtain ⟨s104, s105, s106, s107, s108, s109, s110, s111, s112, s113, s114, s115, s116, s117, s118, s5, _⟩ := hp
    have h0 : (ag dstG x 0).isSome = true := hall 5 (Nat.lt_of_lt_of_eq (by decide : 5 < 18) (by kernel_rfl))
    have h1 : (ag dstG x 1).isSome = true := hall 9 (Nat.lt_of_lt_of_eq (by decide : 9 < 18) (by kernel_rfl))
    have h2 : (ag shortG x 2).isSome = true := hall 13 (Nat.lt_of_lt_of_eq (by decide : 13 < 18) (by kernel_rfl))
    have hI := hv ⟨h0, h1, h2⟩
    have hO : ldxO a1 x = some ([⟨a1, ((ag dstG x 0).getD 0).toNat, ((ag dstG x 1).getD 0).toNat, ((ag shortG x 2).getD 0), 0⟩], 3) := by
      obtain ⟨v0, e0⟩ := Option.isSome_iff_exists.1 h0
      obtain ⟨v1, e1⟩ := Option.isSome_iff_exists.1 h1
      obtain ⟨v2, e2⟩ := Option.isSome_iff_exists.1 h2
      simp [ldxO, e0, e1, e2]
    clear hall
    go_wp2_with fail
    refine bodyPost_ret (v := .tuple #[v, .int .i64 3]) (by simp [results, Tryz.results75, s4, s5, go_sem]) hdf ?_
    exact ⟨v, rfl, hI, (HF1.out.trans hW)⟩
def stxO (a : Nat) (x : List Mv) : Option (List Ins × Int) :=
  (ag dstG x 0).bind fun v0 => (ag shortG x 1).bind fun v1 => (ag dstG x 2).bind fun v2 => some ([⟨a, v0.toNat, v2.toNat, v1, 0⟩], 3)
set_option maxRecDepth 100000 in
set_option maxHeartbeats 4000000 in
theorem build_stx (word : List UInt8) (ho : Other (bA word)) (x : List Mv) (xv : Value) (b : Nat) (w : World) (hX : XsAt w xv b x) (hT : LT w) (h1 : sizedY (sizedN word [108, 100, 120]) = false) (h2 : sizedY (sizedN word [115, 116, 120]) = true) : Calls Tryz.prog 75 #[.string (bA word), xv] w (BuildTo w (stxO (sizedX (sizedN word [115, 116, 120])).2.2 x)) := by
  have HS1 : Hid (SizedC word ⟨#[108, 100, 120]⟩ w false) := sized_c word ⟨#[108, 100, 120]⟩ w hT _ h1
  have HS2 : Hid (SizedC word ⟨#[115, 116, 120]⟩ w true) := sized_c word ⟨#[115, 116, 120]⟩ w hT _ h2
  obtain ⟨q1, q2, q3, q4, q5, q6, q7⟩ := ho
  unfold SizedC at HS1 HS2
  rw [show (⟨#[108, 100, 120]⟩ : ByteArray).data.toList = [108, 100, 120] from rfl] at HS1
  generalize sizedX (sizedN word [108, 100, 120]) = S1 at *
  obtain ⟨a1, c1, d1⟩ := S1
  rw [show (⟨#[115, 116, 120]⟩ : ByteArray).data.toList = [115, 116, 120] from rfl] at HS2
  generalize sizedX (sizedN word [115, 116, 120]) = S2 at *
  obtain ⟨a2, c2, d2⟩ := S2
  dsimp only at *
  generalize bA word = Bw at *
  clear hT h1 h2
  have HF0 := Lib.hid (Fr.refl No w)
  go_enter Tryz.func75, Tryz.ntmps75
  go_wp2_with (first | (go_at_call 104; (with_reducible refine (HS1.out _ HF0.out).mono ?_); rintro e w1 ⟨rfl, hf1⟩; have HF1 := Lib.hid ((HF0.out.trans hf1).alloc (.cells #[.int .u8 a1, .int .u8 c1, .int .u8 d1] 158)); clear hf1) | (go_at_call 104; (with_reducible refine (HS2.out _ HF1.out).mono ?_); rintro e w2 ⟨rfl, hf2⟩; have HF2 := Lib.hid ((HF1.out.trans hf2).alloc (.cells #[.int .u8 a2, .int .u8 c2, .int .u8 d2] 158)); clear hf2))
  refine wp_region_puts 201 [(1, xv), (9, .pointer (some ⟨w2.heap.size, 0, none⟩))] [(126, .pointer (some ⟨w2.heap.size, 2, none⟩)), (127, .int .u8 d2), (128, xv), (129, px b 0), (130, (xg x 0).v), (131, .int .u8 ((ag dstG x 0).getD 0)), (132, xv), (133, px b 1), (134, (xg x 1).v), (135, .int .i16 ((ag shortG x 1).getD 0)), (136, xv), (137, px b 2), (138, (xg x 2).v), (139, .int .u8 ((ag dstG x 2).getD 0)), (140, .agg #[.int .u8 (d2), .int .u8 ((ag dstG x 0).getD 0), .int .u8 ((ag dstG x 2).getD 0), .int .i16 ((ag shortG x 1).getD 0), .int .i32 (0)]), (5, .int .i64 3)] 141 4 15 16 (fun v w' => ((ag dstG x 0).isSome = true ∧ (ag shortG x 1).isSome = true ∧ (ag dstG x 2).isSome = true) → InsAt w' v [⟨d2, ((ag dstG x 0).getD 0).toNat, ((ag dstG x 2).getD 0).toNat, ((ag shortG x 1).getD 0), 0⟩]) (fun i => [True, True, True, (x[0]?).isSome = true, (x[0]?).isSome = true, (ag dstG x 0).isSome = true, True, (x[1]?).isSome = true, (x[1]?).isSome = true, (ag shortG x 1).isSome = true, True, (x[2]?).isSome = true, (x[2]?).isSome = true, (ag dstG x 2).isSome = true, True, True, True, True].getD i True) (by kernel_rfl) (by kernel_rfl) (by kernel_rfl) (by kernel_rfl) ⟨by kernel_rfl, by kernel_rfl, trivial⟩ rfl (fun v W W' h hf hh => (h hh).fr hf) (fun A v hdf hb hp sB s4 => each_op _ _ ?_) ?_ ?_ ?_
  · obtain ⟨b1, b9, _⟩ := hb
    obtain ⟨s126, s127, s128, s129, s130, s131, s132, s133, s134, s135, s136, s137, s138, s139, s140, s5, _⟩ := hp
    refine ⟨?_, ?_, ?_, ?_, ?_, ?_, ?_, ?_, ?_, ?_, ?_, ?_, ?_, ?_, ?_, ?_, ?_, ?_, trivial⟩
    · intro hne W hW hl; exact does_arrx (ev b9) (by kernel_rfl) s126
    · intro hne W hW hl; exact does_arrl (ev s126) (ld_u8 (hW.cell (CellsAt.new w2 [.int .u8 a2, .int .u8 c2, .int .u8 d2] 158 2 _ rfl) id)) s127
    · intro hne W hW hl; exact does_move (ev b1) s128
    · intro hne W hW hl; exact does_index (hX.fr HF2.out) 0 (by decide) (ev s128) s129 (fun hn v W2 hv hf => ⟨hdf, build_dies (by first | (simp [stxO, hn]; done) | (simp [stxO, ag, hn]; done)) hv ((HF2.out.trans hW).trans hf)⟩)
    · intro hne W hW hl; exact does_load (hX.fr HF2.out) hW 0 (by (first | exact hl _ (Array.mem_of_getElem? (i := 0) rfl) rfl | exact hl _ (Array.mem_of_getElem? (i := 1) rfl) rfl | exact hl _ (Array.mem_of_getElem? (i := 2) rfl) rfl | exact hl _ (Array.mem_of_getElem? (i := 3) rfl) rfl)) (ev s129) s130
    · intro hne W hW hl; exact does_arg dst_c (hX.fr HF2.out) 0 (by (first | exact hl _ (Array.mem_of_getElem? (i := 0) rfl) rfl | exact hl _ (Array.mem_of_getElem? (i := 1) rfl) rfl | exact hl _ (Array.mem_of_getElem? (i := 2) rfl) rfl | exact hl _ (Array.mem_of_getElem? (i := 3) rfl) rfl)) (ev s130) s131 (fun hn v W2 hv hf => ⟨hdf, build_dies (by first | (simp [stxO, hn]; done) | (simp [stxO, ag, hn]; done)) hv ((HF2.out.trans hW).trans hf)⟩)
    · intro hne W hW hl; exact does_move (ev b1) s132
    · intro hne W hW hl; exact does_index (hX.fr HF2.out) 1 (by decide) (ev s132) s133 (fun hn v W2 hv hf => ⟨hdf, build_dies (by first | (simp [stxO, hn]; done) | (simp [stxO, ag, hn]; done)) hv ((HF2.out.trans hW).trans hf)⟩)
    · intro hne W hW hl; exact does_load (hX.fr HF2.out) hW 1 (by (first | exact hl _ (Array.mem_of_getElem? (i := 0) rfl) rfl | exact hl _ (Array.mem_of_getElem? (i := 1) rfl) rfl | exact hl _ (Array.mem_of_getElem? (i := 2) rfl) rfl | exact hl _ (Array.mem_of_getElem? (i := 3) rfl) rfl)) (ev s133) s134
    · intro hne W hW hl; exact does_arg short_c (hX.fr HF2.out) 1 (by (first | exact hl _ (Array.mem_of_getElem? (i := 0) rfl) rfl | exact hl _ (Array.mem_of_getElem? (i := 1) rfl) rfl | exact hl _ (Array.mem_of_getElem? (i := 2) rfl) rfl | exact hl _ (Array.mem_of_getElem? (i := 3) rfl) rfl)) (ev s134) s135 (fun hn v W2 hv hf => ⟨hdf, build_dies (by first | (simp [stxO, hn]; done) | (simp [stxO, ag, hn]; done)) hv ((HF2.out.trans hW).trans hf)⟩)
    · intro hne W hW hl; exact does_move (ev b1) s136
    · intro hne W hW hl; exact does_index (hX.fr HF2.out) 2 (by decide) (ev s136) s137 (fun hn v W2 hv hf => ⟨hdf, build_dies (by first | (simp [stxO, hn]; done) | (simp [stxO, ag, hn]; done)) hv ((HF2.out.trans hW).trans hf)⟩)
    · intro hne W hW hl; exact does_load (hX.fr HF2.out) hW 2 (by (first | exact hl _ (Array.mem_of_getElem? (i := 0) rfl) rfl | exact hl _ (Array.mem_of_getElem? (i := 1) rfl) rfl | exact hl _ (Array.mem_of_getElem? (i := 2) rfl) rfl | exact hl _ (Array.mem_of_getElem? (i := 3) rfl) rfl)) (ev s137) s138
    · intro hne W hW hl; exact does_arg dst_c (hX.fr HF2.out) 2 (by (first | exact hl _ (Array.mem_of_getElem? (i := 0) rfl) rfl | exact hl _ (Array.mem_of_getElem? (i := 1) rfl) rfl | exact hl _ (Array.mem_of_getElem? (i := 2) rfl) rfl | exact hl _ (Array.mem_of_getElem? (i := 3) rfl) rfl)) (ev s138) s139 (fun hn v W2 hv hf => ⟨hdf, build_dies (by first | (simp [stxO, hn]; done) | (simp [stxO, ag, hn]; done)) hv ((HF2.out.trans hW).trans hf)⟩)
    · intro hne W hW hl; exact does_build (by simp only [List.map_toArray, List.map_cons, List.map_nil, act_const, ev s127, ev s131, ev s135, ev s139]; rfl) (by kernel_rfl) s140
    · intro hne W hW hl; exact absurd rfl hne
    · intro hne W hW hl; exact does_assign (ev sB) s4
    · intro hne W hW hl; exact does_assign rfl s5
  · intro A hb hp o ho W hW hl
    obtain ⟨s126, s127, s128, s129, s130, s131, s132, s133, s134, s135, s136, s137, s138, s139, s140, s5, _⟩ := hp
    obtain rfl := Option.some.inj ho
    refine ⟨.slice (some ⟨W.heap.size, 0, none⟩) 1 1, W.alloc (.cells #[.int .u8 (d2), .int .u8 ((ag dstG x 0).getD 0), .int .u8 ((ag dstG x 2).getD 0), .int .i16 ((ag shortG x 1).getD 0), .int .i32 (0)] 51), slice_run (by simp only [List.map_toArray, List.map_cons, List.map_nil, ev s140]; rfl) (by kernel_rfl), (Fr.refl _ _).alloc _, fun hh => ?_, trivial⟩
    obtain ⟨h0, h1, h2⟩ := hh
    refine insAt_new _ _ _ _ _ _ ?_ rfl
    obtain ⟨v0, e0⟩ := Option.isSome_iff_exists.1 h0
    have p0 : (((ag dstG x 0).getD 0).toNat : Int) = (ag dstG x 0).getD 0 := by rw [e0]; exact dst_pos e0
    obtain ⟨v2, e2⟩ := Option.isSome_iff_exists.1 h2
    have p2 : (((ag dstG x 2).getD 0).toNat : Int) = (ag dstG x 2).getD 0 := by rw [e2]; exact dst_pos e2
    simp only [iflat, Ins.cells, List.flatMap_cons, List.flatMap_nil, List.cons_append, List.nil_append, p0, p2]
    try rfl
  · rintro c ⟨t1, d1⟩ ⟨t2, d2⟩ w3 hd1 hd2 h
    obtain rfl : d1 = [] := hd1
    obtain rfl : d2 = [] := hd2
    exact h
  · intro A v W hdf hsz hb hp sB s4 hW hv hall
    obtain ⟨s126, s127, s128, s129, s130, s131, s132, s133, s134, s135, s136, s137, s138, s139, s140, s5, _⟩ := hp
    have h0 : (ag dstG x 0).isSome = true := hall 5 (Nat.lt_of_lt_of_eq (by decide : 5 < 18) (by kernel_rfl))
    have h1 : (ag shortG x 1).isSome = true := hall 9 (Nat.lt_of_lt_of_eq (by decide : 9 < 18) (by kernel_rfl))
    have h2 : (ag dstG x 2).isSome = true := hall 13 (Nat.lt_of_lt_of_eq (by decide : 13 < 18) (by kernel_rfl))
    have hI := hv ⟨h0, h1, h2⟩
    have hO : stxO d2 x = some ([⟨d2, ((ag dstG x 0).getD 0).toNat, ((ag dstG x 2).getD 0).toNat, ((ag shortG x 1).getD 0), 0⟩], 3) := by
      obtain ⟨v0, e0⟩ := Option.isSome_iff_exists.1 h0
      obtain ⟨v1, e1⟩ := Option.isSome_iff_exists.1 h1
      obtain ⟨v2, e2⟩ := Option.isSome_iff_exists.1 h2
      simp [stxO, e0, e1, e2]
    clear hall
    go_wp2_with fail
    refine bodyPost_ret (v := .tuple #[v, .int .i64 3]) (by simp [results, Tryz.results75, s4, s5, go_sem]) hdf ?_
    exact ⟨v, rfl, hI, (HF2.out.trans hW)⟩
def stO (a : Nat) (x : List Mv) : Option (List Ins × Int) :=
  (ag dstG x 0).bind fun v0 => (ag shortG x 1).bind fun v1 => (ag wholeG x 2).bind fun v2 => some ([⟨a, v0.toNat, 0, v1, v2⟩], 3)
set_option maxRecDepth 100000 in
set_option maxHeartbeats 4000000 in
theorem build_st (word : List UInt8) (ho : Other (bA word)) (x : List Mv) (xv : Value) (b : Nat) (w : World) (hX : XsAt w xv b x) (hT : LT w) (h1 : sizedY (sizedN word [108, 100, 120]) = false) (h2 : sizedY (sizedN word [115, 116, 120]) = false) (h3 : sizedY (sizedN word [115, 116]) = true) : Calls Tryz.prog 75 #[.string (bA word), xv] w (BuildTo w (stO (sizedX (sizedN word [115, 116])).2.1 x)) := by
  have HS1 : Hid (SizedC word ⟨#[108, 100, 120]⟩ w false) := sized_c word ⟨#[108, 100, 120]⟩ w hT _ h1
  have HS2 : Hid (SizedC word ⟨#[115, 116, 120]⟩ w false) := sized_c word ⟨#[115, 116, 120]⟩ w hT _ h2
  have HS3 : Hid (SizedC word ⟨#[115, 116]⟩ w true) := sized_c word ⟨#[115, 116]⟩ w hT _ h3
  obtain ⟨q1, q2, q3, q4, q5, q6, q7⟩ := ho
  unfold SizedC at HS1 HS2 HS3
  rw [show (⟨#[108, 100, 120]⟩ : ByteArray).data.toList = [108, 100, 120] from rfl] at HS1
  generalize sizedX (sizedN word [108, 100, 120]) = S1 at *
  obtain ⟨a1, c1, d1⟩ := S1
  rw [show (⟨#[115, 116, 120]⟩ : ByteArray).data.toList = [115, 116, 120] from rfl] at HS2
  generalize sizedX (sizedN word [115, 116, 120]) = S2 at *
  obtain ⟨a2, c2, d2⟩ := S2
  rw [show (⟨#[115, 116]⟩ : ByteArray).data.toList = [115, 116] from rfl] at HS3
  generalize sizedX (sizedN word [115, 116]) = S3 at *
  obtain ⟨a3, c3, d3⟩ := S3
  dsimp only at *
  generalize bA word = Bw at *
  clear hT h1 h2 h3
  have HF0 := Lib.hid (Fr.refl No w)
  go_enter Tryz.func75, Tryz.ntmps75
  go_wp2_with (first | (go_at_call 104; (with_reducible refine (HS1.out _ HF0.out).mono ?_); rintro e w1 ⟨rfl, hf1⟩; have HF1 := Lib.hid ((HF0.out.trans hf1).alloc (.cells #[.int .u8 a1, .int .u8 c1, .int .u8 d1] 158)); clear hf1) | (go_at_call 104; (with_reducible refine (HS2.out _ HF1.out).mono ?_); rintro e w2 ⟨rfl, hf2⟩; have HF2 := Lib.hid ((HF1.out.trans hf2).alloc (.cells #[.int .u8 a2, .int .u8 c2, .int .u8 d2] 158)); clear hf2) | (go_at_call 104; (with_reducible refine (HS3.out _ HF2.out).mono ?_); rintro e w3 ⟨rfl, hf3⟩; have HF3 := Lib.hid ((HF2.out.trans hf3).alloc (.cells #[.int .u8 a3, .int .u8 c3, .int .u8 d3] 158)); clear hf3))
  refine wp_region_puts 201 [(1, xv), (11, .pointer (some ⟨w3.heap.size, 0, none⟩))] [(148, .pointer (some ⟨w3.heap.size, 1, none⟩)), (149, .int .u8 c3), (150, xv), (151, px b 0), (152, (xg x 0).v), (153, .int .u8 ((ag dstG x 0).getD 0)), (154, xv), (155, px b 1), (156, (xg x 1).v), (157, .int .i16 ((ag shortG x 1).getD 0)), (158, xv), (159, px b 2), (160, (xg x 2).v), (161, .int .i32 ((ag wholeG x 2).getD 0)), (162, .agg #[.int .u8 (c3), .int .u8 ((ag dstG x 0).getD 0), .int .u8 (0), .int .i16 ((ag shortG x 1).getD 0), .int .i32 ((ag wholeG x 2).getD 0)]), (5, .int .i64 3)] 163 4 15 16 (fun v w' => ((ag dstG x 0).isSome = true ∧ (ag shortG x 1).isSome = true ∧ (ag wholeG x 2).isSome = true) → InsAt w' v [⟨c3, ((ag dstG x 0).getD 0).toNat, 0, ((ag shortG x 1).getD 0), ((ag wholeG x 2).getD 0)⟩]) (fun i => [True, True, True, (x[0]?).isSome = true, (x[0]?).isSome = true, (ag dstG x 0).isSome = true, True, (x[1]?).isSome = true, (x[1]?).isSome = true, (ag shortG x 1).isSome = true, True, (x[2]?).isSome = true, (x[2]?).isSome = true, (ag wholeG x 2).isSome = true, True, True, True, True].getD i True) (by kernel_rfl) (by kernel_rfl) (by kernel_rfl) (by kernel_rfl) ⟨by kernel_rfl, by kernel_rfl, trivial⟩ rfl (fun v W W' h hf hh => (h hh).fr hf) (fun A v hdf hb hp sB s4 => each_op _ _ ?_) ?_ ?_ ?_
  · obtain ⟨b1, b11, _⟩ := hb
    obtain ⟨s148, s149, s150, s151, s152, s153, s154, s155, s156, s157, s158, s159, s160, s161, s162, s5, _⟩ := hp
    refine ⟨?_, ?_, ?_, ?_, ?_, ?_, ?_, ?_, ?_, ?_, ?_, ?_, ?_, ?_, ?_, ?_, ?_, ?_, trivial⟩
    · intro hne W hW hl; exact does_arrx (ev b11) (by kernel_rfl) s148
    · intro hne W hW hl; exact does_arrl (ev s148) (ld_u8 (hW.cell (CellsAt.new w3 [.int .u8 a3, .int .u8 c3, .int .u8 d3] 158 1 _ rfl) id)) s149
    · intro hne W hW hl; exact does_move (ev b1) s150
    · intro hne W hW hl; exact does_index (hX.fr HF3.out) 0 (by decide) (ev s150) s151 (fun hn v W2 hv hf => ⟨hdf, build_dies (by first | (simp [stO, hn]; done) | (simp [stO, ag, hn]; done)) hv ((HF3.out.trans hW).trans hf)⟩)
    · intro hne W hW hl; exact does_load (hX.fr HF3.out) hW 0 (by (first | exact hl _ (Array.mem_of_getElem? (i := 0) rfl) rfl | exact hl _ (Array.mem_of_getElem? (i := 1) rfl) rfl | exact hl _ (Array.mem_of_getElem? (i := 2) rfl) rfl | exact hl _ (Array.mem_of_getElem? (i := 3) rfl) rfl)) (ev s151) s152
    · intro hne W hW hl; exact does_arg dst_c (hX.fr HF3.out) 0 (by (first | exact hl _ (Array.mem_of_getElem? (i := 0) rfl) rfl | exact hl _ (Array.mem_of_getElem? (i := 1) rfl) rfl | exact hl _ (Array.mem_of_getElem? (i := 2) rfl) rfl | exact hl _ (Array.mem_of_getElem? (i := 3) rfl) rfl)) (ev s152) s153 (fun hn v W2 hv hf => ⟨hdf, build_dies (by first | (simp [stO, hn]; done) | (simp [stO, ag, hn]; done)) hv ((HF3.out.trans hW).trans hf)⟩)
    · intro hne W hW hl; exact does_move (ev b1) s154
    · intro hne W hW hl; exact does_index (hX.fr HF3.out) 1 (by decide) (ev s154) s155 (fun hn v W2 hv hf => ⟨hdf, build_dies (by first | (simp [stO, hn]; done) | (simp [stO, ag, hn]; done)) hv ((HF3.out.trans hW).trans hf)⟩)
    · intro hne W hW hl; exact does_load (hX.fr HF3.out) hW 1 (by (first | exact hl _ (Array.mem_of_getElem? (i := 0) rfl) rfl | exact hl _ (Array.mem_of_getElem? (i := 1) rfl) rfl | exact hl _ (Array.mem_of_getElem? (i := 2) rfl) rfl | exact hl _ (Array.mem_of_getElem? (i := 3) rfl) rfl)) (ev s155) s156
    · intro hne W hW hl; exact does_arg short_c (hX.fr HF3.out) 1 (by (first | exact hl _ (Array.mem_of_getElem? (i := 0) rfl) rfl | exact hl _ (Array.mem_of_getElem? (i := 1) rfl) rfl | exact hl _ (Array.mem_of_getElem? (i := 2) rfl) rfl | exact hl _ (Array.mem_of_getElem? (i := 3) rfl) rfl)) (ev s156) s157 (fun hn v W2 hv hf => ⟨hdf, build_dies (by first | (simp [stO, hn]; done) | (simp [stO, ag, hn]; done)) hv ((HF3.out.trans hW).trans hf)⟩)
    · intro hne W hW hl; exact does_move (ev b1) s158
    · intro hne W hW hl; exact does_index (hX.fr HF3.out) 2 (by decide) (ev s158) s159 (fun hn v W2 hv hf => ⟨hdf, build_dies (by first | (simp [stO, hn]; done) | (simp [stO, ag, hn]; done)) hv ((HF3.out.trans hW).trans hf)⟩)
    · intro hne W hW hl; exact does_load (hX.fr HF3.out) hW 2 (by (first | exact hl _ (Array.mem_of_getElem? (i := 0) rfl) rfl | exact hl _ (Array.mem_of_getElem? (i := 1) rfl) rfl | exact hl _ (Array.mem_of_getElem? (i := 2) rfl) rfl | exact hl _ (Array.mem_of_getElem? (i := 3) rfl) rfl)) (ev s159) s160
    · intro hne W hW hl; exact does_arg whole_c (hX.fr HF3.out) 2 (by (first | exact hl _ (Array.mem_of_getElem? (i := 0) rfl) rfl | exact hl _ (Array.mem_of_getElem? (i := 1) rfl) rfl | exact hl _ (Array.mem_of_getElem? (i := 2) rfl) rfl | exact hl _ (Array.mem_of_getElem? (i := 3) rfl) rfl)) (ev s160) s161 (fun hn v W2 hv hf => ⟨hdf, build_dies (by first | (simp [stO, hn]; done) | (simp [stO, ag, hn]; done)) hv ((HF3.out.trans hW).trans hf)⟩)
    · intro hne W hW hl; exact does_build (by simp only [List.map_toArray, List.map_cons, List.map_nil, act_const, ev s149, ev s153, ev s157, ev s161]; rfl) (by kernel_rfl) s162
    · intro hne W hW hl; exact absurd rfl hne
    · intro hne W hW hl; exact does_assign (ev sB) s4
    · intro hne W hW hl; exact does_assign rfl s5
  · intro A hb hp o ho W hW hl
    obtain ⟨s148, s149, s150, s151, s152, s153, s154, s155, s156, s157, s158, s159, s160, s161, s162, s5, _⟩ := hp
    obtain rfl := Option.some.inj ho
    refine ⟨.slice (some ⟨W.heap.size, 0, none⟩) 1 1, W.alloc (.cells #[.int .u8 (c3), .int .u8 ((ag dstG x 0).getD 0), .int .u8 (0), .int .i16 ((ag shortG x 1).getD 0), .int .i32 ((ag wholeG x 2).getD 0)] 51), slice_run (by simp only [List.map_toArray, List.map_cons, List.map_nil, ev s162]; rfl) (by kernel_rfl), (Fr.refl _ _).alloc _, fun hh => ?_, trivial⟩
    obtain ⟨h0, h1, h2⟩ := hh
    refine insAt_new _ _ _ _ _ _ ?_ rfl
    obtain ⟨v0, e0⟩ := Option.isSome_iff_exists.1 h0
    have p0 : (((ag dstG x 0).getD 0).toNat : Int) = (ag dstG x 0).getD 0 := by rw [e0]; exact dst_pos e0
    simp only [iflat, Ins.cells, List.flatMap_cons, List.flatMap_nil, List.cons_append, List.nil_append, p0]
    try rfl
  · rintro c ⟨t1, d1⟩ ⟨t2, d2⟩ w3 hd1 hd2 h
    obtain rfl : d1 = [] := hd1
    obtain rfl : d2 = [] := hd2
    exact h
  · intro A v W hdf hsz hb hp sB s4 hW hv hall
    obtain ⟨s148, s149, s150, s151, s152, s153, s154, s155, s156, s157, s158, s159, s160, s161, s162, s5, _⟩ := hp
    have h0 : (ag dstG x 0).isSome = true := hall 5 (Nat.lt_of_lt_of_eq (by decide : 5 < 18) (by kernel_rfl))
    have h1 : (ag shortG x 1).isSome = true := hall 9 (Nat.lt_of_lt_of_eq (by decide : 9 < 18) (by kernel_rfl))
    have h2 : (ag wholeG x 2).isSome = true := hall 13 (Nat.lt_of_lt_of_eq (by decide : 13 < 18) (by kernel_rfl))
    have hI := hv ⟨h0, h1, h2⟩
    have hO : stO c3 x = some ([⟨c3, ((ag dstG x 0).getD 0).toNat, 0, ((ag shortG x 1).getD 0), ((ag wholeG x 2).getD 0)⟩], 3) := by
      obtain ⟨v0, e0⟩ := Option.isSome_iff_exists.1 h0
      obtain ⟨v1, e1⟩ := Option.isSome_iff_exists.1 h1
      obtain ⟨v2, e2⟩ := Option.isSome_iff_exists.1 h2
      simp [stO, e0, e1, e2]
    clear hall
    go_wp2_with fail
    refine bodyPost_ret (v := .tuple #[v, .int .i64 3]) (by simp [results, Tryz.results75, s4, s5, go_sem]) hdf ?_
    exact ⟨v, rfl, hI, (HF3.out.trans hW)⟩
end Go.Proofs.YtakcdecljfmckaaGreatDoor
