/- lines.build: the words that code knows. -/
import Derived.Test.YtakcdecljfmckaaGreatDoorCore30
import Derived.Test.YtakcdecljfmckaaGreatDoorCore10
set_option linter.all false
set_option linter.unusedVariables false
set_option linter.unusedSimpArgs false
namespace Go.Proofs.YtakcdecljfmckaaGreatDoor
open Go.RowKit

theorem insAt_newb (W : World) (bk : Nat) (hb : bk = W.heap.size) (l : List Ins) (vs : Array Value) (n c : Nat) (t : TypeId) (hv : vs = (iflat l).toArray) (hn : n = l.length) : InsAt (W.alloc (.cells vs t)) (.slice (some ⟨bk, 0, none⟩) n c) l := by
  subst hb
  exact insAt_new W l vs n c t hv hn
theorem heap_alloc_size (w : World) (o : Obj) : w.heap.size + 1 = (w.alloc o).heap.size := (Array.size_push ..).symm
theorem heap_setCell_size (w : World) (a : Addr) (v : Value) : w.heap.size = (w.setCell a v).heap.size := by simp
theorem Fr.ownb {b : Nat} {w a c : World} (h : Fr No w a) (k : Fr (Isb b) a c) (hb : w.heap.size ≤ b) : Fr No w c :=
  ⟨k.os.trans h.os, k.tape.trans h.tape, k.output.trans h.output, Nat.le_trans h.size k.size, fun i hi hs => (k.block i (Nat.lt_of_lt_of_le hi h.size) (fun e => by unfold Isb at e; omega)).trans (h.block i hi hs)⟩
/-- the second operand's place -/
def eitherO (op d : Nat) : Mv → Option Ins
  | .reg n => some ⟨op + 8, d, n, 0, 0⟩
  | m => (wholeG m).map fun z => ⟨op, d, 0, 0, z⟩
theorem either_some {op d : Nat} {mv : Mv} {i : Ins} (hi : eitherO op d mv = some i) (hor : bits BinOp.or IntKind.u8 (op : Int) 8 = (op : Int) + 8) (b : Nat) (w : World) (h : InsBox w b op d 0 0 0) :
    Calls Tryz.prog 106 #[.pointer (some ⟨b, 0, none⟩), mv.v] w (EitherTo b i.op i.dst i.src i.off i.imm w) := by
  cases mv with
  | reg n =>
    obtain rfl := Option.some.inj hi
    exact either_reg b op d 0 0 0 n hor w h
  | no =>
    obtain ⟨z, hz, rfl⟩ := Option.map_eq_some_iff.1 (show (wholeG .no).map (fun z => (⟨op, d, 0, 0, z⟩ : Ins)) = some i from hi)
    exact either_no_some b op d 0 0 0 z hz w h
  | val k n =>
    obtain ⟨z, hz, rfl⟩ := Option.map_eq_some_iff.1 (show (wholeG (.val k n)).map (fun z => (⟨op, d, 0, 0, z⟩ : Ins)) = some i from hi)
    exact either_val_some k n b op d 0 0 0 z hz w h
theorem either_none {op d : Nat} {mv : Mv} (hok : mv.ok) (hi : eitherO op d mv = none) (b : Nat) (w : World) : Calls Tryz.prog 106 #[.pointer (some ⟨b, 0, none⟩), mv.v] w (Died w) := by
  cases mv with
  | reg n => cases hi
  | no => exact either_no_none b hok (Option.map_eq_none_iff.1 (show (wholeG .no).map (fun z => (⟨op, d, 0, 0, z⟩ : Ins)) = none from hi)) w
  | val k n => exact either_val_none k n b hok (Option.map_eq_none_iff.1 (show (wholeG (.val k n)).map (fun z => (⟨op, d, 0, 0, z⟩ : Ins)) = none from hi)) w
def codeO (op : Nat) (j : Bool) (x : List Mv) : Option (List Ins × Int) :=
  (ag dstG x 0).bind fun d => if !j && op / 16 == 8 then some ([⟨op, d.toNat, 0, 0, 0⟩], 1)
    else ((x[1]?).bind (eitherO op d.toNat)).bind fun i => if j then (ag shortG x 2).bind fun o => some ([{ i with off := o }], 3) else some ([i], 2)
theorem codeF_op {wide : Bool} {r : List UInt8} {op : Nat} {j : Bool} (h : codeF wide r = some (op, j)) : op < 256 ∧ bits BinOp.or IntKind.u8 (op : Int) 8 = (op : Int) + 8 := by
  have key : ∀ k : Nat, k < 14 → ∀ c : Nat, c < 8 → k * 16 + c < 256 ∧ bits BinOp.or IntKind.u8 ((k * 16 + c : Nat) : Int) 8 = ((k * 16 + c : Nat) : Int) + 8 := by decide +kernel
  unfold codeF at h
  split at h
  · rename_i k hk
    have hk2 : k < 14 := Nat.lt_of_lt_of_le (place_lt hk) (by decide)
    simp only [Option.some.injEq, Prod.mk.injEq] at h
    obtain ⟨rfl, rfl⟩ := h
    cases wide
    · exact key k hk2 4 (by decide)
    · exact key k hk2 7 (by decide)
  · split at h
    · rename_i k hk
      have hk2 : k < 14 := Nat.lt_of_lt_of_le (place_lt hk) (by decide)
      simp only [Option.some.injEq, Prod.mk.injEq] at h
      obtain ⟨rfl, rfl⟩ := h
      cases wide
      · exact key k hk2 6 (by decide)
      · exact key k hk2 5 (by decide)
    · cases h
theorem codeW_op {word : List UInt8} {op : Nat} {j : Bool} (h : codeW word = some (op, j)) : op < 256 ∧ bits BinOp.or IntKind.u8 (op : Int) 8 = (op : Int) + 8 := by
  unfold codeW at h
  split at h
  · exact codeF_op h
  · split at h
    · exact codeF_op h
    · cases h
/-- the three sized calls, that find nothing; then code -/
structure CodeC (word : List UInt8) (w : World) : Prop where
  s1 : SizedC word ⟨#[108, 100, 120]⟩ w false
  s2 : SizedC word ⟨#[115, 116, 120]⟩ w false
  s3 : SizedC word ⟨#[115, 116]⟩ w false
  c : ∀ W, Fr No w W → Calls Tryz.prog 105 #[.string (bA word)] W fun e w' => e = .returned (codeV (codeW word)) ∧ Fr No W w'

set_option maxRecDepth 100000 in
set_option maxHeartbeats 2000000 in
theorem build_unknown (word : List UInt8) (ho : Other (bA word)) (xv : Value) (w : World) (hC : CodeC word w) (hc : codeW word = none) : Calls Tryz.prog 75 #[.string (bA word), xv] w (BuildTo w (some ([], -1))) := by
  obtain ⟨s1, s2, s3, c⟩ := hC
  rw [hc] at c
  have HS1 := Lib.hid s1
  have HS2 := Lib.hid s2
  have HS3 := Lib.hid s3
  have HC := Lib.hid c
  clear s1 s2 s3 c hc
  obtain ⟨q1, q2, q3, q4, q5, q6, q7⟩ := ho
  unfold SizedC at *
  generalize sizedX _ = S1 at HS1
  generalize sizedX _ = S2 at HS2
  generalize sizedX _ = S3 at HS3
  unfold codeV at HC
  generalize bA word = Bw at *
  have HF0 := Lib.hid (Fr.refl No w)
  go_enter Tryz.func75, Tryz.ntmps75
  go_wp2_with (first | (go_at_call 104; first | ((with_reducible refine (HS1.out _ HF0.out).mono ?_); rintro e w1 ⟨rfl, hf1⟩; have HF1 := Lib.hid ((HF0.out.trans hf1).alloc (.cells #[.int .u8 S1.1, .int .u8 S1.2.1, .int .u8 S1.2.2] 158)); clear hf1) | ((with_reducible refine (HS2.out _ HF1.out).mono ?_); rintro e w2 ⟨rfl, hf2⟩; have HF2 := Lib.hid ((HF1.out.trans hf2).alloc (.cells #[.int .u8 S2.1, .int .u8 S2.2.1, .int .u8 S2.2.2] 158)); clear hf2) | ((with_reducible refine (HS3.out _ HF2.out).mono ?_); rintro e w3 ⟨rfl, hf3⟩; have HF3 := Lib.hid ((HF2.out.trans hf3).alloc (.cells #[.int .u8 S3.1, .int .u8 S3.2.1, .int .u8 S3.2.2] 158)); clear hf3)) | (go_at_call 105; (with_reducible refine (HC.out _ HF3.out).mono ?_); rintro e w4 ⟨rfl, hf4⟩; have HF4 := Lib.hid (HF3.out.trans hf4); clear hf4))
  go_returns
  exact ⟨_, rfl, .inl ⟨rfl, _, _, rfl⟩, HF4.out⟩
set_option maxRecDepth 100000 in
set_option maxHeartbeats 2000000 in
theorem build_c0 (word : List UInt8) (ho : Other (bA word)) (x : List Mv) (xv : Value) (b : Nat) (w : World) (hX : XsAt w xv b x) (hC : CodeC word w) (op : Nat) (j : Bool) (hc : codeW word = some (op, j)) (hd : ag dstG x 0 = none) : Calls Tryz.prog 75 #[.string (bA word), xv] w (BuildTo w (codeO op j x)) := by
  rw [show codeO op j x = none by unfold codeO; rw [hd]; rfl]
  obtain ⟨s1, s2, s3, c⟩ := hC
  rw [hc] at c
  obtain ⟨hop, hor⟩ := codeW_op hc
  have HS1 := Lib.hid s1
  have HS2 := Lib.hid s2
  have HS3 := Lib.hid s3
  have HC := Lib.hid c
  clear s1 s2 s3 c hc
  obtain ⟨q1, q2, q3, q4, q5, q6, q7⟩ := ho
  unfold SizedC at *
  generalize sizedX _ = S1 at HS1
  generalize sizedX _ = S2 at HS2
  generalize sizedX _ = S3 at HS3
  unfold codeV at HC
  dsimp only at HC
  generalize bA word = Bw at *
  have HF0 := Lib.hid (Fr.refl No w)
  clear hor
  cases hx0 : x[0]? with
  | none =>
    obtain ⟨f, hix, hv⟩ := idx_die hX 0 (by decide) hx0
    have hix0 : ∀ W, (Instr.indexAt 107 xv (.int .i64 0)).run Tryz.prog W = .halt (.panic (f W)) W.drew := hix
    have HV := Lib.hid hv
    clear hv hX hx0 hix hd
    go_enter Tryz.func75, Tryz.ntmps75
    go_wp2_with (first | (go_at_call 104; first | ((with_reducible refine (HS1.out _ HF0.out).mono ?_); rintro e w1 ⟨rfl, hf1⟩; have HF1 := Lib.hid ((HF0.out.trans hf1).alloc (.cells #[.int .u8 S1.1, .int .u8 S1.2.1, .int .u8 S1.2.2] 158)); clear hf1) | ((with_reducible refine (HS2.out _ HF1.out).mono ?_); rintro e w2 ⟨rfl, hf2⟩; have HF2 := Lib.hid ((HF1.out.trans hf2).alloc (.cells #[.int .u8 S2.1, .int .u8 S2.2.1, .int .u8 S2.2.2] 158)); clear hf2) | ((with_reducible refine (HS3.out _ HF2.out).mono ?_); rintro e w3 ⟨rfl, hf3⟩; have HF3 := Lib.hid ((HF2.out.trans hf3).alloc (.cells #[.int .u8 S3.1, .int .u8 S3.2.1, .int .u8 S3.2.2] 158)); clear hf3)) | (go_at_call 105; (with_reducible refine (HC.out _ HF3.out).mono ?_); rintro e w4 ⟨rfl, hf4⟩; have HF4 := Lib.hid (HF3.out.trans hf4); clear hf4))
    exact ⟨rfl, build_dies rfl (HV.out _) HF4.out.drew⟩
  | some m0 =>
    obtain ⟨hix0, hok0, HC0⟩ := hX.idx hx0
    have hix0' : ∀ W, (Instr.indexAt 107 xv (.int .i64 0)).run Tryz.prog W = .ok (.pointer (some ⟨b, 0, none⟩)) W := hix0
    rw [ag_some hx0] at hd
    have HD := dst_c.none hok0 hd
    clear hix0 hX hx0 hd hok0
    generalize m0.v = mv0 at *
    go_enter Tryz.func75, Tryz.ntmps75
    go_wp2_with (first | (go_at_call 104; first | ((with_reducible refine (HS1.out _ HF0.out).mono ?_); rintro e w1 ⟨rfl, hf1⟩; have HF1 := Lib.hid ((HF0.out.trans hf1).alloc (.cells #[.int .u8 S1.1, .int .u8 S1.2.1, .int .u8 S1.2.2] 158)); clear hf1) | ((with_reducible refine (HS2.out _ HF1.out).mono ?_); rintro e w2 ⟨rfl, hf2⟩; have HF2 := Lib.hid ((HF1.out.trans hf2).alloc (.cells #[.int .u8 S2.1, .int .u8 S2.2.1, .int .u8 S2.2.2] 158)); clear hf2) | ((with_reducible refine (HS3.out _ HF2.out).mono ?_); rintro e w3 ⟨rfl, hf3⟩; have HF3 := Lib.hid ((HF2.out.trans hf3).alloc (.cells #[.int .u8 S3.1, .int .u8 S3.2.1, .int .u8 S3.2.2] 158)); clear hf3)) | (go_at_call 105; (with_reducible refine (HC.out _ HF3.out).mono ?_); rintro e w4 ⟨rfl, hf4⟩; have HF4 := Lib.hid (HF3.out.trans hf4); have hc0 := HC0.out _ HF4.out; clear hf4) | (go_at_call 101; (with_reducible refine (HD.out _).mono ?_); rintro e w5 ⟨v1, rfl, hv1⟩; have HV := Lib.hid hv1; clear hv1))
    exact ⟨rfl, build_dies rfl HV.out.1 (HF4.out.trans HV.out.2)⟩
set_option maxRecDepth 100000 in
set_option maxHeartbeats 2000000 in
theorem build_cneg (word : List UInt8) (ho : Other (bA word)) (x : List Mv) (xv : Value) (b : Nat) (w : World) (hX : XsAt w xv b x) (hC : CodeC word w) (op : Nat) (j : Bool) (hc : codeW word = some (op, j)) (d : Nat) (hd : ag dstG x 0 = some (d : Int)) (hj : j = false) (hn : op / 16 = 8) : Calls Tryz.prog 75 #[.string (bA word), xv] w (BuildTo w (some ([⟨op, d, 0, 0, 0⟩], 1))) := by
  obtain ⟨s1, s2, s3, c⟩ := hC
  rw [hc] at c
  obtain ⟨hop, hor⟩ := codeW_op hc
  have HS1 := Lib.hid s1
  have HS2 := Lib.hid s2
  have HS3 := Lib.hid s3
  have HC := Lib.hid c
  clear s1 s2 s3 c hc
  obtain ⟨q1, q2, q3, q4, q5, q6, q7⟩ := ho
  unfold SizedC at *
  generalize sizedX _ = S1 at HS1
  generalize sizedX _ = S2 at HS2
  generalize sizedX _ = S3 at HS3
  unfold codeV at HC
  dsimp only at HC
  generalize bA word = Bw at *
  have HF0 := Lib.hid (Fr.refl No w)
  obtain ⟨m0, hx0, hd⟩ := Option.bind_eq_some_iff.1 hd
  obtain ⟨hix0, hok0, HC0⟩ := hX.idx hx0
  have hix0' : ∀ W, (Instr.indexAt 107 xv (.int .i64 0)).run Tryz.prog W = .ok (.pointer (some ⟨b, 0, none⟩)) W := hix0
  have HD := dst_c.some hok0 hd
  clear hix0 hx0 hd hok0
  generalize m0.v = mv0 at *
  have f240 := and240 op hop
  subst hj
  have f1 : (bits BinOp.and IntKind.u8 (op : Int) 240 == 128) = true := by rw [f240]; unfold codeN; rw [hn]; rfl
  clear f240 hn hor hX hop
  go_enter Tryz.func75, Tryz.ntmps75
  go_wp2_with (first | (go_at_call 104; first | ((with_reducible refine (HS1.out _ HF0.out).mono ?_); rintro e w1 ⟨rfl, hf1⟩; have HF1 := Lib.hid ((HF0.out.trans hf1).alloc (.cells #[.int .u8 S1.1, .int .u8 S1.2.1, .int .u8 S1.2.2] 158)); clear hf1) | ((with_reducible refine (HS2.out _ HF1.out).mono ?_); rintro e w2 ⟨rfl, hf2⟩; have HF2 := Lib.hid ((HF1.out.trans hf2).alloc (.cells #[.int .u8 S2.1, .int .u8 S2.2.1, .int .u8 S2.2.2] 158)); clear hf2) | ((with_reducible refine (HS3.out _ HF2.out).mono ?_); rintro e w3 ⟨rfl, hf3⟩; have HF3 := Lib.hid ((HF2.out.trans hf3).alloc (.cells #[.int .u8 S3.1, .int .u8 S3.2.1, .int .u8 S3.2.2] 158)); clear hf3)) | (go_at_call 105; (with_reducible refine (HC.out _ HF3.out).mono ?_); rintro e w4 ⟨rfl, hf4⟩; have HF4 := Lib.hid (HF3.out.trans hf4); have hc0 := HC0.out _ HF4.out; clear hf4) | (go_at_call 101; (with_reducible refine (HD.out _).mono ?_); rintro e w5 ⟨rfl, hf5⟩; have HF5 := Lib.hid (HF4.out.trans hf5); clear hf5))
  go_returns
  exact ⟨_, rfl, insAt_newb _ _ (heap_alloc_size _ _) _ _ _ _ _ rfl rfl, (HF5.out.alloc _).alloc _⟩
/-! ### printed by mkcode.py -/
set_option maxRecDepth 100000 in
set_option maxHeartbeats 4000000 in
theorem build_cAf (word : List UInt8) (ho : Other (bA word)) (x : List Mv) (xv : Value) (b : Nat) (w : World) (hX : XsAt w xv b x) (hC : CodeC word w) (op : Nat) (hc : codeW word = some (op, false)) (d : Nat) (hd : ag dstG x 0 = some (d : Int)) (hn : op / 16 ≠ 8) (hx1 : x[1]? = none) : Calls Tryz.prog 75 #[.string (bA word), xv] w (BuildTo w (none)) := by
  obtain ⟨s1, s2, s3, c⟩ := hC
  rw [hc] at c
  obtain ⟨hop, hor⟩ := codeW_op hc
  have HS1 := Lib.hid s1
  have HS2 := Lib.hid s2
  have HS3 := Lib.hid s3
  have HC := Lib.hid c
  clear s1 s2 s3 c hc
  obtain ⟨q1, q2, q3, q4, q5, q6, q7⟩ := ho
  unfold SizedC at *
  generalize sizedX _ = S1 at HS1
  generalize sizedX _ = S2 at HS2
  generalize sizedX _ = S3 at HS3
  unfold codeV at HC
  dsimp only at HC
  generalize bA word = Bw at *
  have HF0 := Lib.hid (Fr.refl No w)
  obtain ⟨m0, hx0, hd⟩ := Option.bind_eq_some_iff.1 hd
  obtain ⟨hix0, hok0, HC0⟩ := hX.idx hx0
  have hix0' : ∀ W, (Instr.indexAt 107 xv (.int .i64 0)).run Tryz.prog W = .ok (.pointer (some ⟨b, 0, none⟩)) W := hix0
  have HD := dst_c.some hok0 hd
  clear hix0 hx0 hd hok0
  generalize m0.v = mv0 at *
  have f240 := and240 op hop
  have f1 : (bits BinOp.and IntKind.u8 (op : Int) 240 == 128) = false := by
    rw [f240]
    unfold codeN
    simp
    omega
  obtain ⟨f, hix, hv⟩ := idx_die hX 1 (by decide) hx1
  have hixd : ∀ W, (Instr.indexAt 107 xv (.int .i64 1)).run Tryz.prog W = .halt (.panic (f W)) W.drew := hix
  have HV := Lib.hid hv
  clear f240 hn hor hX hop hv hx1 hix
  go_enter Tryz.func75, Tryz.ntmps75
  go_wp2_with (first | (go_at_call 104; first | ((with_reducible refine (HS1.out _ HF0.out).mono ?_); rintro e w1 ⟨rfl, hf1⟩; have HF1 := Lib.hid ((HF0.out.trans hf1).alloc (.cells #[.int .u8 S1.1, .int .u8 S1.2.1, .int .u8 S1.2.2] 158)); clear hf1) | ((with_reducible refine (HS2.out _ HF1.out).mono ?_); rintro e w2 ⟨rfl, hf2⟩; have HF2 := Lib.hid ((HF1.out.trans hf2).alloc (.cells #[.int .u8 S2.1, .int .u8 S2.2.1, .int .u8 S2.2.2] 158)); clear hf2) | ((with_reducible refine (HS3.out _ HF2.out).mono ?_); rintro e w3 ⟨rfl, hf3⟩; have HF3 := Lib.hid ((HF2.out.trans hf3).alloc (.cells #[.int .u8 S3.1, .int .u8 S3.2.1, .int .u8 S3.2.2] 158)); clear hf3)) | (go_at_call 105; (with_reducible refine (HC.out _ HF3.out).mono ?_); rintro e w4 ⟨rfl, hf4⟩; have HF4 := Lib.hid (HF3.out.trans hf4); have hc0 := HC0.out _ HF4.out; clear hf4) | (go_at_call 101; (with_reducible refine (HD.out _).mono ?_); rintro e w5 ⟨rfl, hf5⟩; have HF5 := Lib.hid ((HF4.out.trans hf5).alloc (.cells #[.int .u8 op, .int .u8 d, .int .u8 0, .int .i16 0, .int .i32 0] 51)); have hsz5 : w.heap.size ≤ w5.heap.size := (HF4.out.trans hf5).size; have HB5 := Lib.hid (insBox_new w5 op d 0 0 0 51); clear hf5))
  exact ⟨rfl, build_dies rfl (HV.out _) HF5.out.drew⟩
set_option maxRecDepth 100000 in
set_option maxHeartbeats 4000000 in
theorem build_cBf (word : List UInt8) (ho : Other (bA word)) (x : List Mv) (xv : Value) (b : Nat) (w : World) (hX : XsAt w xv b x) (hC : CodeC word w) (op : Nat) (hc : codeW word = some (op, false)) (d : Nat) (hd : ag dstG x 0 = some (d : Int)) (hn : op / 16 ≠ 8) (m1 : Mv) (hx1 : x[1]? = some m1) (he : eitherO op d m1 = none) : Calls Tryz.prog 75 #[.string (bA word), xv] w (BuildTo w (none)) := by
  obtain ⟨s1, s2, s3, c⟩ := hC
  rw [hc] at c
  obtain ⟨hop, hor⟩ := codeW_op hc
  have HS1 := Lib.hid s1
  have HS2 := Lib.hid s2
  have HS3 := Lib.hid s3
  have HC := Lib.hid c
  clear s1 s2 s3 c hc
  obtain ⟨q1, q2, q3, q4, q5, q6, q7⟩ := ho
  unfold SizedC at *
  generalize sizedX _ = S1 at HS1
  generalize sizedX _ = S2 at HS2
  generalize sizedX _ = S3 at HS3
  unfold codeV at HC
  dsimp only at HC
  generalize bA word = Bw at *
  have HF0 := Lib.hid (Fr.refl No w)
  obtain ⟨m0, hx0, hd⟩ := Option.bind_eq_some_iff.1 hd
  obtain ⟨hix0, hok0, HC0⟩ := hX.idx hx0
  have hix0' : ∀ W, (Instr.indexAt 107 xv (.int .i64 0)).run Tryz.prog W = .ok (.pointer (some ⟨b, 0, none⟩)) W := hix0
  have HD := dst_c.some hok0 hd
  clear hix0 hx0 hd hok0
  generalize m0.v = mv0 at *
  have f240 := and240 op hop
  have f1 : (bits BinOp.and IntKind.u8 (op : Int) 240 == 128) = false := by
    rw [f240]
    unfold codeN
    simp
    omega
  obtain ⟨hix1, hok1, HC1⟩ := hX.idx hx1
  have hix1' : ∀ W, (Instr.indexAt 107 xv (.int .i64 1)).run Tryz.prog W = .ok (.pointer (some ⟨b, 1, none⟩)) W := hix1
  have HE : Hid (∀ W b', Calls Tryz.prog 106 #[.pointer (some ⟨b', 0, none⟩), m1.v] W (Died W)) := fun W b' => either_none hok1 he b' W
  clear f240 hn hor hX hop hx1 hix1 hok1 he
  generalize m1.v = mv1 at *
  go_enter Tryz.func75, Tryz.ntmps75
  go_wp2_with (first | (go_at_call 104; first | ((with_reducible refine (HS1.out _ HF0.out).mono ?_); rintro e w1 ⟨rfl, hf1⟩; have HF1 := Lib.hid ((HF0.out.trans hf1).alloc (.cells #[.int .u8 S1.1, .int .u8 S1.2.1, .int .u8 S1.2.2] 158)); clear hf1) | ((with_reducible refine (HS2.out _ HF1.out).mono ?_); rintro e w2 ⟨rfl, hf2⟩; have HF2 := Lib.hid ((HF1.out.trans hf2).alloc (.cells #[.int .u8 S2.1, .int .u8 S2.2.1, .int .u8 S2.2.2] 158)); clear hf2) | ((with_reducible refine (HS3.out _ HF2.out).mono ?_); rintro e w3 ⟨rfl, hf3⟩; have HF3 := Lib.hid ((HF2.out.trans hf3).alloc (.cells #[.int .u8 S3.1, .int .u8 S3.2.1, .int .u8 S3.2.2] 158)); clear hf3)) | (go_at_call 105; (with_reducible refine (HC.out _ HF3.out).mono ?_); rintro e w4 ⟨rfl, hf4⟩; have HF4 := Lib.hid (HF3.out.trans hf4); have hc0 := HC0.out _ HF4.out; clear hf4) | (go_at_call 101; (with_reducible refine (HD.out _).mono ?_); rintro e w5 ⟨rfl, hf5⟩; have HF5 := Lib.hid ((HF4.out.trans hf5).alloc (.cells #[.int .u8 op, .int .u8 d, .int .u8 0, .int .i16 0, .int .i32 0] 51)); have hsz5 : w.heap.size ≤ w5.heap.size := (HF4.out.trans hf5).size; have HB5 := Lib.hid (insBox_new w5 op d 0 0 0 51); have hc1 := HC1.out _ HF5.out; clear hf5) | (go_at_call 106; (with_reducible refine (HE.out _ _).mono ?_); rintro e w6 ⟨v1, rfl, hv1⟩; have HV := Lib.hid hv1; clear hv1))
  exact ⟨rfl, build_dies rfl HV.out.1 (HF5.out.trans HV.out.2)⟩
set_option maxRecDepth 100000 in
set_option maxHeartbeats 4000000 in
theorem build_cAt (word : List UInt8) (ho : Other (bA word)) (x : List Mv) (xv : Value) (b : Nat) (w : World) (hX : XsAt w xv b x) (hC : CodeC word w) (op : Nat) (hc : codeW word = some (op, true)) (d : Nat) (hd : ag dstG x 0 = some (d : Int)) (hx1 : x[1]? = none) : Calls Tryz.prog 75 #[.string (bA word), xv] w (BuildTo w (none)) := by
  obtain ⟨s1, s2, s3, c⟩ := hC
  rw [hc] at c
  obtain ⟨hop, hor⟩ := codeW_op hc
  have HS1 := Lib.hid s1
  have HS2 := Lib.hid s2
  have HS3 := Lib.hid s3
  have HC := Lib.hid c
  clear s1 s2 s3 c hc
  obtain ⟨q1, q2, q3, q4, q5, q6, q7⟩ := ho
  unfold SizedC at *
  generalize sizedX _ = S1 at HS1
  generalize sizedX _ = S2 at HS2
  generalize sizedX _ = S3 at HS3
  unfold codeV at HC
  dsimp only at HC
  generalize bA word = Bw at *
  have HF0 := Lib.hid (Fr.refl No w)
  obtain ⟨m0, hx0, hd⟩ := Option.bind_eq_some_iff.1 hd
  obtain ⟨hix0, hok0, HC0⟩ := hX.idx hx0
  have hix0' : ∀ W, (Instr.indexAt 107 xv (.int .i64 0)).run Tryz.prog W = .ok (.pointer (some ⟨b, 0, none⟩)) W := hix0
  have HD := dst_c.some hok0 hd
  clear hix0 hx0 hd hok0
  generalize m0.v = mv0 at *
  have f240 := and240 op hop
  obtain ⟨f, hix, hv⟩ := idx_die hX 1 (by decide) hx1
  have hixd : ∀ W, (Instr.indexAt 107 xv (.int .i64 1)).run Tryz.prog W = .halt (.panic (f W)) W.drew := hix
  have HV := Lib.hid hv
  clear f240 hor hX hop hv hx1 hix
  go_enter Tryz.func75, Tryz.ntmps75
  go_wp2_with (first | (go_at_call 104; first | ((with_reducible refine (HS1.out _ HF0.out).mono ?_); rintro e w1 ⟨rfl, hf1⟩; have HF1 := Lib.hid ((HF0.out.trans hf1).alloc (.cells #[.int .u8 S1.1, .int .u8 S1.2.1, .int .u8 S1.2.2] 158)); clear hf1) | ((with_reducible refine (HS2.out _ HF1.out).mono ?_); rintro e w2 ⟨rfl, hf2⟩; have HF2 := Lib.hid ((HF1.out.trans hf2).alloc (.cells #[.int .u8 S2.1, .int .u8 S2.2.1, .int .u8 S2.2.2] 158)); clear hf2) | ((with_reducible refine (HS3.out _ HF2.out).mono ?_); rintro e w3 ⟨rfl, hf3⟩; have HF3 := Lib.hid ((HF2.out.trans hf3).alloc (.cells #[.int .u8 S3.1, .int .u8 S3.2.1, .int .u8 S3.2.2] 158)); clear hf3)) | (go_at_call 105; (with_reducible refine (HC.out _ HF3.out).mono ?_); rintro e w4 ⟨rfl, hf4⟩; have HF4 := Lib.hid (HF3.out.trans hf4); have hc0 := HC0.out _ HF4.out; clear hf4) | (go_at_call 101; (with_reducible refine (HD.out _).mono ?_); rintro e w5 ⟨rfl, hf5⟩; have HF5 := Lib.hid ((HF4.out.trans hf5).alloc (.cells #[.int .u8 op, .int .u8 d, .int .u8 0, .int .i16 0, .int .i32 0] 51)); have hsz5 : w.heap.size ≤ w5.heap.size := (HF4.out.trans hf5).size; have HB5 := Lib.hid (insBox_new w5 op d 0 0 0 51); clear hf5))
  exact ⟨rfl, build_dies rfl (HV.out _) HF5.out.drew⟩
set_option maxRecDepth 100000 in
set_option maxHeartbeats 4000000 in
theorem build_cBt (word : List UInt8) (ho : Other (bA word)) (x : List Mv) (xv : Value) (b : Nat) (w : World) (hX : XsAt w xv b x) (hC : CodeC word w) (op : Nat) (hc : codeW word = some (op, true)) (d : Nat) (hd : ag dstG x 0 = some (d : Int)) (m1 : Mv) (hx1 : x[1]? = some m1) (he : eitherO op d m1 = none) : Calls Tryz.prog 75 #[.string (bA word), xv] w (BuildTo w (none)) := by
  obtain ⟨s1, s2, s3, c⟩ := hC
  rw [hc] at c
  obtain ⟨hop, hor⟩ := codeW_op hc
  have HS1 := Lib.hid s1
  have HS2 := Lib.hid s2
  have HS3 := Lib.hid s3
  have HC := Lib.hid c
  clear s1 s2 s3 c hc
  obtain ⟨q1, q2, q3, q4, q5, q6, q7⟩ := ho
  unfold SizedC at *
  generalize sizedX _ = S1 at HS1
  generalize sizedX _ = S2 at HS2
  generalize sizedX _ = S3 at HS3
  unfold codeV at HC
  dsimp only at HC
  generalize bA word = Bw at *
  have HF0 := Lib.hid (Fr.refl No w)
  obtain ⟨m0, hx0, hd⟩ := Option.bind_eq_some_iff.1 hd
  obtain ⟨hix0, hok0, HC0⟩ := hX.idx hx0
  have hix0' : ∀ W, (Instr.indexAt 107 xv (.int .i64 0)).run Tryz.prog W = .ok (.pointer (some ⟨b, 0, none⟩)) W := hix0
  have HD := dst_c.some hok0 hd
  clear hix0 hx0 hd hok0
  generalize m0.v = mv0 at *
  have f240 := and240 op hop
  obtain ⟨hix1, hok1, HC1⟩ := hX.idx hx1
  have hix1' : ∀ W, (Instr.indexAt 107 xv (.int .i64 1)).run Tryz.prog W = .ok (.pointer (some ⟨b, 1, none⟩)) W := hix1
  have HE : Hid (∀ W b', Calls Tryz.prog 106 #[.pointer (some ⟨b', 0, none⟩), m1.v] W (Died W)) := fun W b' => either_none hok1 he b' W
  clear f240 hor hX hop hx1 hix1 hok1 he
  generalize m1.v = mv1 at *
  go_enter Tryz.func75, Tryz.ntmps75
  go_wp2_with (first | (go_at_call 104; first | ((with_reducible refine (HS1.out _ HF0.out).mono ?_); rintro e w1 ⟨rfl, hf1⟩; have HF1 := Lib.hid ((HF0.out.trans hf1).alloc (.cells #[.int .u8 S1.1, .int .u8 S1.2.1, .int .u8 S1.2.2] 158)); clear hf1) | ((with_reducible refine (HS2.out _ HF1.out).mono ?_); rintro e w2 ⟨rfl, hf2⟩; have HF2 := Lib.hid ((HF1.out.trans hf2).alloc (.cells #[.int .u8 S2.1, .int .u8 S2.2.1, .int .u8 S2.2.2] 158)); clear hf2) | ((with_reducible refine (HS3.out _ HF2.out).mono ?_); rintro e w3 ⟨rfl, hf3⟩; have HF3 := Lib.hid ((HF2.out.trans hf3).alloc (.cells #[.int .u8 S3.1, .int .u8 S3.2.1, .int .u8 S3.2.2] 158)); clear hf3)) | (go_at_call 105; (with_reducible refine (HC.out _ HF3.out).mono ?_); rintro e w4 ⟨rfl, hf4⟩; have HF4 := Lib.hid (HF3.out.trans hf4); have hc0 := HC0.out _ HF4.out; clear hf4) | (go_at_call 101; (with_reducible refine (HD.out _).mono ?_); rintro e w5 ⟨rfl, hf5⟩; have HF5 := Lib.hid ((HF4.out.trans hf5).alloc (.cells #[.int .u8 op, .int .u8 d, .int .u8 0, .int .i16 0, .int .i32 0] 51)); have hsz5 : w.heap.size ≤ w5.heap.size := (HF4.out.trans hf5).size; have HB5 := Lib.hid (insBox_new w5 op d 0 0 0 51); have hc1 := HC1.out _ HF5.out; clear hf5) | (go_at_call 106; (with_reducible refine (HE.out _ _).mono ?_); rintro e w6 ⟨v1, rfl, hv1⟩; have HV := Lib.hid hv1; clear hv1))
  exact ⟨rfl, build_dies rfl HV.out.1 (HF5.out.trans HV.out.2)⟩
set_option maxRecDepth 100000 in
set_option maxHeartbeats 4000000 in
theorem build_cCf (word : List UInt8) (ho : Other (bA word)) (x : List Mv) (xv : Value) (b : Nat) (w : World) (hX : XsAt w xv b x) (hC : CodeC word w) (op : Nat) (hc : codeW word = some (op, false)) (d : Nat) (hd : ag dstG x 0 = some (d : Int)) (hn : op / 16 ≠ 8) (m1 : Mv) (hx1 : x[1]? = some m1) (i : Ins) (he : eitherO op d m1 = some i) : Calls Tryz.prog 75 #[.string (bA word), xv] w (BuildTo w (some ([i], 2))) := by
  obtain ⟨s1, s2, s3, c⟩ := hC
  rw [hc] at c
  obtain ⟨hop, hor⟩ := codeW_op hc
  have HS1 := Lib.hid s1
  have HS2 := Lib.hid s2
  have HS3 := Lib.hid s3
  have HC := Lib.hid c
  clear s1 s2 s3 c hc
  obtain ⟨q1, q2, q3, q4, q5, q6, q7⟩ := ho
  unfold SizedC at *
  generalize sizedX _ = S1 at HS1
  generalize sizedX _ = S2 at HS2
  generalize sizedX _ = S3 at HS3
  unfold codeV at HC
  dsimp only at HC
  generalize bA word = Bw at *
  have HF0 := Lib.hid (Fr.refl No w)
  obtain ⟨m0, hx0, hd⟩ := Option.bind_eq_some_iff.1 hd
  obtain ⟨hix0, hok0, HC0⟩ := hX.idx hx0
  have hix0' : ∀ W, (Instr.indexAt 107 xv (.int .i64 0)).run Tryz.prog W = .ok (.pointer (some ⟨b, 0, none⟩)) W := hix0
  have HD := dst_c.some hok0 hd
  clear hix0 hx0 hd hok0
  generalize m0.v = mv0 at *
  have f240 := and240 op hop
  have f1 : (bits BinOp.and IntKind.u8 (op : Int) 240 == 128) = false := by
    rw [f240]
    unfold codeN
    simp
    omega
  obtain ⟨hix1, hok1, HC1⟩ := hX.idx hx1
  have hix1' : ∀ W, (Instr.indexAt 107 xv (.int .i64 1)).run Tryz.prog W = .ok (.pointer (some ⟨b, 1, none⟩)) W := hix1
  have HE : Hid (∀ W b', InsBox W b' op d 0 0 0 → Calls Tryz.prog 106 #[.pointer (some ⟨b', 0, none⟩), m1.v] W (EitherTo b' i.op i.dst i.src i.off i.imm W)) := fun W b' h => either_some he hor b' W h
  clear f240 hn hor hX hop hx1 hix1 hok1 he
  generalize m1.v = mv1 at *
  go_enter Tryz.func75, Tryz.ntmps75
  go_wp2_with (first | (go_at_call 104; first | ((with_reducible refine (HS1.out _ HF0.out).mono ?_); rintro e w1 ⟨rfl, hf1⟩; have HF1 := Lib.hid ((HF0.out.trans hf1).alloc (.cells #[.int .u8 S1.1, .int .u8 S1.2.1, .int .u8 S1.2.2] 158)); clear hf1) | ((with_reducible refine (HS2.out _ HF1.out).mono ?_); rintro e w2 ⟨rfl, hf2⟩; have HF2 := Lib.hid ((HF1.out.trans hf2).alloc (.cells #[.int .u8 S2.1, .int .u8 S2.2.1, .int .u8 S2.2.2] 158)); clear hf2) | ((with_reducible refine (HS3.out _ HF2.out).mono ?_); rintro e w3 ⟨rfl, hf3⟩; have HF3 := Lib.hid ((HF2.out.trans hf3).alloc (.cells #[.int .u8 S3.1, .int .u8 S3.2.1, .int .u8 S3.2.2] 158)); clear hf3)) | (go_at_call 105; (with_reducible refine (HC.out _ HF3.out).mono ?_); rintro e w4 ⟨rfl, hf4⟩; have HF4 := Lib.hid (HF3.out.trans hf4); have hc0 := HC0.out _ HF4.out; clear hf4) | (go_at_call 101; (with_reducible refine (HD.out _).mono ?_); rintro e w5 ⟨rfl, hf5⟩; have HF5 := Lib.hid ((HF4.out.trans hf5).alloc (.cells #[.int .u8 op, .int .u8 d, .int .u8 0, .int .i16 0, .int .i32 0] 51)); have hsz5 : w.heap.size ≤ w5.heap.size := (HF4.out.trans hf5).size; have HB5 := Lib.hid (insBox_new w5 op d 0 0 0 51); have hc1 := HC1.out _ HF5.out; clear hf5) | (go_at_call 106; (with_reducible refine (HE.out _ _ HB5.out).mono ?_); rintro e w6 ⟨rfl, hb6, hf6⟩; have HF6 := Lib.hid (HF5.out.ownb hf6 hsz5); have HB6 := Lib.hid hb6; obtain ⟨c0, c1, c2, c3, c4, z0, z2, z4, z3⟩ := hb6; clear hf6))
  go_returns
  exact ⟨_, rfl, insAt_newb _ _ rfl _ _ _ _ _ rfl rfl, HF6.out.alloc _⟩
set_option maxRecDepth 100000 in
set_option maxHeartbeats 4000000 in
theorem build_cD0 (word : List UInt8) (ho : Other (bA word)) (x : List Mv) (xv : Value) (b : Nat) (w : World) (hX : XsAt w xv b x) (hC : CodeC word w) (op : Nat) (hc : codeW word = some (op, true)) (d : Nat) (hd : ag dstG x 0 = some (d : Int)) (m1 : Mv) (hx1 : x[1]? = some m1) (i : Ins) (he : eitherO op d m1 = some i) (hx2 : x[2]? = none) : Calls Tryz.prog 75 #[.string (bA word), xv] w (BuildTo w (none)) := by
  obtain ⟨s1, s2, s3, c⟩ := hC
  rw [hc] at c
  obtain ⟨hop, hor⟩ := codeW_op hc
  have HS1 := Lib.hid s1
  have HS2 := Lib.hid s2
  have HS3 := Lib.hid s3
  have HC := Lib.hid c
  clear s1 s2 s3 c hc
  obtain ⟨q1, q2, q3, q4, q5, q6, q7⟩ := ho
  unfold SizedC at *
  generalize sizedX _ = S1 at HS1
  generalize sizedX _ = S2 at HS2
  generalize sizedX _ = S3 at HS3
  unfold codeV at HC
  dsimp only at HC
  generalize bA word = Bw at *
  have HF0 := Lib.hid (Fr.refl No w)
  obtain ⟨m0, hx0, hd⟩ := Option.bind_eq_some_iff.1 hd
  obtain ⟨hix0, hok0, HC0⟩ := hX.idx hx0
  have hix0' : ∀ W, (Instr.indexAt 107 xv (.int .i64 0)).run Tryz.prog W = .ok (.pointer (some ⟨b, 0, none⟩)) W := hix0
  have HD := dst_c.some hok0 hd
  clear hix0 hx0 hd hok0
  generalize m0.v = mv0 at *
  have f240 := and240 op hop
  obtain ⟨hix1, hok1, HC1⟩ := hX.idx hx1
  have hix1' : ∀ W, (Instr.indexAt 107 xv (.int .i64 1)).run Tryz.prog W = .ok (.pointer (some ⟨b, 1, none⟩)) W := hix1
  have HE : Hid (∀ W b', InsBox W b' op d 0 0 0 → Calls Tryz.prog 106 #[.pointer (some ⟨b', 0, none⟩), m1.v] W (EitherTo b' i.op i.dst i.src i.off i.imm W)) := fun W b' h => either_some he hor b' W h
  obtain ⟨f, hix, hv⟩ := idx_die hX 2 (by decide) hx2
  have hixd : ∀ W, (Instr.indexAt 107 xv (.int .i64 2)).run Tryz.prog W = .halt (.panic (f W)) W.drew := hix
  have HV := Lib.hid hv
  clear f240 hor hX hop hx1 hix1 hok1 he hv hx2 hix
  generalize m1.v = mv1 at *
  go_enter Tryz.func75, Tryz.ntmps75
  go_wp2_with (first | (go_at_call 104; first | ((with_reducible refine (HS1.out _ HF0.out).mono ?_); rintro e w1 ⟨rfl, hf1⟩; have HF1 := Lib.hid ((HF0.out.trans hf1).alloc (.cells #[.int .u8 S1.1, .int .u8 S1.2.1, .int .u8 S1.2.2] 158)); clear hf1) | ((with_reducible refine (HS2.out _ HF1.out).mono ?_); rintro e w2 ⟨rfl, hf2⟩; have HF2 := Lib.hid ((HF1.out.trans hf2).alloc (.cells #[.int .u8 S2.1, .int .u8 S2.2.1, .int .u8 S2.2.2] 158)); clear hf2) | ((with_reducible refine (HS3.out _ HF2.out).mono ?_); rintro e w3 ⟨rfl, hf3⟩; have HF3 := Lib.hid ((HF2.out.trans hf3).alloc (.cells #[.int .u8 S3.1, .int .u8 S3.2.1, .int .u8 S3.2.2] 158)); clear hf3)) | (go_at_call 105; (with_reducible refine (HC.out _ HF3.out).mono ?_); rintro e w4 ⟨rfl, hf4⟩; have HF4 := Lib.hid (HF3.out.trans hf4); have hc0 := HC0.out _ HF4.out; clear hf4) | (go_at_call 101; (with_reducible refine (HD.out _).mono ?_); rintro e w5 ⟨rfl, hf5⟩; have HF5 := Lib.hid ((HF4.out.trans hf5).alloc (.cells #[.int .u8 op, .int .u8 d, .int .u8 0, .int .i16 0, .int .i32 0] 51)); have hsz5 : w.heap.size ≤ w5.heap.size := (HF4.out.trans hf5).size; have HB5 := Lib.hid (insBox_new w5 op d 0 0 0 51); have hc1 := HC1.out _ HF5.out; clear hf5) | (go_at_call 106; (with_reducible refine (HE.out _ _ HB5.out).mono ?_); rintro e w6 ⟨rfl, hb6, hf6⟩; have HF6 := Lib.hid (HF5.out.ownb hf6 hsz5); have HB6 := Lib.hid hb6; obtain ⟨c0, c1, c2, c3, c4, z0, z2, z4, z3⟩ := hb6; clear hf6))
  exact ⟨rfl, build_dies rfl (HV.out _) HF6.out.drew⟩
set_option maxRecDepth 100000 in
set_option maxHeartbeats 4000000 in
theorem build_cD1 (word : List UInt8) (ho : Other (bA word)) (x : List Mv) (xv : Value) (b : Nat) (w : World) (hX : XsAt w xv b x) (hC : CodeC word w) (op : Nat) (hc : codeW word = some (op, true)) (d : Nat) (hd : ag dstG x 0 = some (d : Int)) (m1 : Mv) (hx1 : x[1]? = some m1) (i : Ins) (he : eitherO op d m1 = some i) (m2 : Mv) (hx2 : x[2]? = some m2) (h2 : shortG m2 = none) : Calls Tryz.prog 75 #[.string (bA word), xv] w (BuildTo w (none)) := by
  obtain ⟨s1, s2, s3, c⟩ := hC
  rw [hc] at c
  obtain ⟨hop, hor⟩ := codeW_op hc
  have HS1 := Lib.hid s1
  have HS2 := Lib.hid s2
  have HS3 := Lib.hid s3
  have HC := Lib.hid c
  clear s1 s2 s3 c hc
  obtain ⟨q1, q2, q3, q4, q5, q6, q7⟩ := ho
  unfold SizedC at *
  generalize sizedX _ = S1 at HS1
  generalize sizedX _ = S2 at HS2
  generalize sizedX _ = S3 at HS3
  unfold codeV at HC
  dsimp only at HC
  generalize bA word = Bw at *
  have HF0 := Lib.hid (Fr.refl No w)
  obtain ⟨m0, hx0, hd⟩ := Option.bind_eq_some_iff.1 hd
  obtain ⟨hix0, hok0, HC0⟩ := hX.idx hx0
  have hix0' : ∀ W, (Instr.indexAt 107 xv (.int .i64 0)).run Tryz.prog W = .ok (.pointer (some ⟨b, 0, none⟩)) W := hix0
  have HD := dst_c.some hok0 hd
  clear hix0 hx0 hd hok0
  generalize m0.v = mv0 at *
  have f240 := and240 op hop
  obtain ⟨hix1, hok1, HC1⟩ := hX.idx hx1
  have hix1' : ∀ W, (Instr.indexAt 107 xv (.int .i64 1)).run Tryz.prog W = .ok (.pointer (some ⟨b, 1, none⟩)) W := hix1
  have HE : Hid (∀ W b', InsBox W b' op d 0 0 0 → Calls Tryz.prog 106 #[.pointer (some ⟨b', 0, none⟩), m1.v] W (EitherTo b' i.op i.dst i.src i.off i.imm W)) := fun W b' h => either_some he hor b' W h
  obtain ⟨hix2, hok2, HC2⟩ := hX.idx hx2
  have hix2' : ∀ W, (Instr.indexAt 107 xv (.int .i64 2)).run Tryz.prog W = .ok (.pointer (some ⟨b, 2, none⟩)) W := hix2
  have HS := short_c.none hok2 h2
  clear f240 hor hX hop hx1 hix1 hok1 he hx2 hix2 hok2 h2
  generalize m1.v = mv1 at *
  generalize m2.v = mv2 at *
  go_enter Tryz.func75, Tryz.ntmps75
  go_wp2_with (first | (go_at_call 104; first | ((with_reducible refine (HS1.out _ HF0.out).mono ?_); rintro e w1 ⟨rfl, hf1⟩; have HF1 := Lib.hid ((HF0.out.trans hf1).alloc (.cells #[.int .u8 S1.1, .int .u8 S1.2.1, .int .u8 S1.2.2] 158)); clear hf1) | ((with_reducible refine (HS2.out _ HF1.out).mono ?_); rintro e w2 ⟨rfl, hf2⟩; have HF2 := Lib.hid ((HF1.out.trans hf2).alloc (.cells #[.int .u8 S2.1, .int .u8 S2.2.1, .int .u8 S2.2.2] 158)); clear hf2) | ((with_reducible refine (HS3.out _ HF2.out).mono ?_); rintro e w3 ⟨rfl, hf3⟩; have HF3 := Lib.hid ((HF2.out.trans hf3).alloc (.cells #[.int .u8 S3.1, .int .u8 S3.2.1, .int .u8 S3.2.2] 158)); clear hf3)) | (go_at_call 105; (with_reducible refine (HC.out _ HF3.out).mono ?_); rintro e w4 ⟨rfl, hf4⟩; have HF4 := Lib.hid (HF3.out.trans hf4); have hc0 := HC0.out _ HF4.out; clear hf4) | (go_at_call 101; (with_reducible refine (HD.out _).mono ?_); rintro e w5 ⟨rfl, hf5⟩; have HF5 := Lib.hid ((HF4.out.trans hf5).alloc (.cells #[.int .u8 op, .int .u8 d, .int .u8 0, .int .i16 0, .int .i32 0] 51)); have hsz5 : w.heap.size ≤ w5.heap.size := (HF4.out.trans hf5).size; have HB5 := Lib.hid (insBox_new w5 op d 0 0 0 51); have hc1 := HC1.out _ HF5.out; clear hf5) | (go_at_call 106; (with_reducible refine (HE.out _ _ HB5.out).mono ?_); rintro e w6 ⟨rfl, hb6, hf6⟩; have HF6 := Lib.hid (HF5.out.ownb hf6 hsz5); have HB6 := Lib.hid hb6; obtain ⟨c0, c1, c2, c3, c4, z0, z2, z4, z3⟩ := hb6; have hc2 := HC2.out _ HF6.out; clear hf6) | (go_at_call 99; (with_reducible refine (HS.out _).mono ?_); rintro e w7 ⟨v1, rfl, hv1⟩; have HV := Lib.hid hv1; clear hv1))
  exact ⟨rfl, build_dies rfl HV.out.1 (HF6.out.trans HV.out.2)⟩
set_option maxRecDepth 100000 in
set_option maxHeartbeats 4000000 in
theorem build_cD2 (word : List UInt8) (ho : Other (bA word)) (x : List Mv) (xv : Value) (b : Nat) (w : World) (hX : XsAt w xv b x) (hC : CodeC word w) (op : Nat) (hc : codeW word = some (op, true)) (d : Nat) (hd : ag dstG x 0 = some (d : Int)) (m1 : Mv) (hx1 : x[1]? = some m1) (i : Ins) (he : eitherO op d m1 = some i) (m2 : Mv) (hx2 : x[2]? = some m2) (o : Int) (h2 : shortG m2 = some o) : Calls Tryz.prog 75 #[.string (bA word), xv] w (BuildTo w (some ([{ i with off := o }], 3))) := by
  obtain ⟨s1, s2, s3, c⟩ := hC
  rw [hc] at c
  obtain ⟨hop, hor⟩ := codeW_op hc
  have HS1 := Lib.hid s1
  have HS2 := Lib.hid s2
  have HS3 := Lib.hid s3
  have HC := Lib.hid c
  clear s1 s2 s3 c hc
  obtain ⟨q1, q2, q3, q4, q5, q6, q7⟩ := ho
  unfold SizedC at *
  generalize sizedX _ = S1 at HS1
  generalize sizedX _ = S2 at HS2
  generalize sizedX _ = S3 at HS3
  unfold codeV at HC
  dsimp only at HC
  generalize bA word = Bw at *
  have HF0 := Lib.hid (Fr.refl No w)
  obtain ⟨m0, hx0, hd⟩ := Option.bind_eq_some_iff.1 hd
  obtain ⟨hix0, hok0, HC0⟩ := hX.idx hx0
  have hix0' : ∀ W, (Instr.indexAt 107 xv (.int .i64 0)).run Tryz.prog W = .ok (.pointer (some ⟨b, 0, none⟩)) W := hix0
  have HD := dst_c.some hok0 hd
  clear hix0 hx0 hd hok0
  generalize m0.v = mv0 at *
  have f240 := and240 op hop
  obtain ⟨hix1, hok1, HC1⟩ := hX.idx hx1
  have hix1' : ∀ W, (Instr.indexAt 107 xv (.int .i64 1)).run Tryz.prog W = .ok (.pointer (some ⟨b, 1, none⟩)) W := hix1
  have HE : Hid (∀ W b', InsBox W b' op d 0 0 0 → Calls Tryz.prog 106 #[.pointer (some ⟨b', 0, none⟩), m1.v] W (EitherTo b' i.op i.dst i.src i.off i.imm W)) := fun W b' h => either_some he hor b' W h
  obtain ⟨hix2, hok2, HC2⟩ := hX.idx hx2
  have hix2' : ∀ W, (Instr.indexAt 107 xv (.int .i64 2)).run Tryz.prog W = .ok (.pointer (some ⟨b, 2, none⟩)) W := hix2
  have HS := short_c.some hok2 h2
  clear f240 hor hX hop hx1 hix1 hok1 he hx2 hix2 hok2 h2
  generalize m1.v = mv1 at *
  generalize m2.v = mv2 at *
  go_enter Tryz.func75, Tryz.ntmps75
  go_wp2_with (first | (go_at_call 104; first | ((with_reducible refine (HS1.out _ HF0.out).mono ?_); rintro e w1 ⟨rfl, hf1⟩; have HF1 := Lib.hid ((HF0.out.trans hf1).alloc (.cells #[.int .u8 S1.1, .int .u8 S1.2.1, .int .u8 S1.2.2] 158)); clear hf1) | ((with_reducible refine (HS2.out _ HF1.out).mono ?_); rintro e w2 ⟨rfl, hf2⟩; have HF2 := Lib.hid ((HF1.out.trans hf2).alloc (.cells #[.int .u8 S2.1, .int .u8 S2.2.1, .int .u8 S2.2.2] 158)); clear hf2) | ((with_reducible refine (HS3.out _ HF2.out).mono ?_); rintro e w3 ⟨rfl, hf3⟩; have HF3 := Lib.hid ((HF2.out.trans hf3).alloc (.cells #[.int .u8 S3.1, .int .u8 S3.2.1, .int .u8 S3.2.2] 158)); clear hf3)) | (go_at_call 105; (with_reducible refine (HC.out _ HF3.out).mono ?_); rintro e w4 ⟨rfl, hf4⟩; have HF4 := Lib.hid (HF3.out.trans hf4); have hc0 := HC0.out _ HF4.out; clear hf4) | (go_at_call 101; (with_reducible refine (HD.out _).mono ?_); rintro e w5 ⟨rfl, hf5⟩; have HF5 := Lib.hid ((HF4.out.trans hf5).alloc (.cells #[.int .u8 op, .int .u8 d, .int .u8 0, .int .i16 0, .int .i32 0] 51)); have hsz5 : w.heap.size ≤ w5.heap.size := (HF4.out.trans hf5).size; have HB5 := Lib.hid (insBox_new w5 op d 0 0 0 51); have hc1 := HC1.out _ HF5.out; clear hf5) | (go_at_call 106; (with_reducible refine (HE.out _ _ HB5.out).mono ?_); rintro e w6 ⟨rfl, hb6, hf6⟩; have HF6 := Lib.hid (HF5.out.ownb hf6 hsz5); have HB6 := Lib.hid hb6; obtain ⟨c0, c1, c2, c3, c4, z0, z2, z4, z3⟩ := hb6; have hc2 := HC2.out _ HF6.out; clear hf6) | (go_at_call 99; (with_reducible refine (HS.out _).mono ?_); rintro e w7 ⟨rfl, hf7⟩; have HF7 := Lib.hid (HF6.out.trans hf7); have HB7 := Lib.hid ((HB6.out.fr hf7).setOff o); have HZ7 := Lib.hid (HB6.out.fr hf7); obtain ⟨y0, y1, y2, y3, y4, u0, u2, u4, u3⟩ := HB6.out.fr hf7; clear hf7))
  go_returns
  exact ⟨_, rfl, insAt_newb _ _ (heap_setCell_size _ _ _) _ _ _ _ _ rfl rfl, (HF7.out.setCell (.inl hsz5) _).alloc _⟩
end Go.Proofs.YtakcdecljfmckaaGreatDoor
