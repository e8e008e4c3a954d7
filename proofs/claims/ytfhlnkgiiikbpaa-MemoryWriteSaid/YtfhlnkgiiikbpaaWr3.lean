/- firewalllaw07.MemoryWrite: the walk. -/
import Derived.Test.YtfhlnkgiiikbpaaWr1
import Derived.Test.YtfhlnkgiiikbpaaWr2
import Derived.Test.YtfhlnkgiiikbpaaCopy2
import Derived.Test.YtfhlnkgiiikbpaaRgn
import Derived.Deep.DeepCutAuto
import Derived.Deep.RegionWith
import Derived.Deep.RegionHeld3
namespace Go.Proofs.Ytfhlnkgiiikbpaa
open Go.RowKit

theorem and3 (N : Int) : ∃ j : Nat, j < 4 ∧ bits .and .i64 N 3 = j := by
  unfold bits
  simp only [BitVec.toNat_and]
  rw [show (BitVec.ofInt IntKind.i64.bits 3).toNat = 2 ^ 2 - 1 by decide, Nat.and_two_pow_sub_one_eq_mod]
  exact ⟨_, Nat.mod_lt _ (by decide), IntWalk.i64_in _ (by omega)⟩

theorem shl_j (j : Nat) (h : j < 4) : ∃ n : Nat, sizeOk n = true ∧ 1 ≤ n ∧ n ≤ 8 ∧ wrap64 (2 ^ min j 64) = n := by
  have : j = 0 ∨ j = 1 ∨ j = 2 ∨ j = 3 := by omega
  rcases this with rfl | rfl | rfl | rfl
  · exact ⟨1, rfl, by decide, by decide, (IntWalk.wrap64_in _ ⟨by decide, by decide⟩).trans (by decide)⟩
  · exact ⟨2, rfl, by decide, by decide, (IntWalk.wrap64_in _ ⟨by decide, by decide⟩).trans (by decide)⟩
  · exact ⟨4, rfl, by decide, by decide, (IntWalk.wrap64_in _ ⟨by decide, by decide⟩).trans (by decide)⟩
  · exact ⟨8, rfl, by decide, by decide, (IntWalk.wrap64_in _ ⟨by decide, by decide⟩).trans (by decide)⟩

/-- the memory, its copy, and the box of the act -/
structure StC (w : World) (bx b c V : Nat) (m mc : List Reg) (S T : Nat → Prop) (wr : World) : Prop where
  cell : wr.cell? ⟨bx, 2, none⟩ = some (.int .u64 V)
  mem : MemAt wr b m S
  cop : MemAt wr c mc T
  fr : Fr (From w) w wr
  own : ∀ k, S k → From w k ∧ k ≠ bx
  apart : ∀ k, T k → ¬ S k

theorem StC.to {w : World} {bx b c V : Nat} {m mc : List Reg} {S T : Nat → Prop} {wr w' : World} (h : StC w bx b c V m mc S T wr) (hf : Fr No wr w') : StC w bx b c V m mc S T w' :=
  ⟨hf.cell h.cell id, h.mem.fr hf (fun _ _ => id), h.cop.fr hf (fun _ _ => id), h.fr.trans hf.any, h.own, h.apart⟩

theorem StC.write {w : World} {bx b c V : Nat} {m m' mc : List Reg} {S T : Nat → Prop} {wr w' : World} (h : StC w bx b c V m mc S T wr) (hf : Fr S wr w') (hm : MemAt w' b m' S) : StC w bx b c V m' mc S T w' :=
  ⟨hf.cell h.cell (fun hk => (h.own _ hk).2 rfl), hm, h.cop.fr hf h.apart, h.fr.trans (hf.mono fun k _ hk => (h.own k hk).1), h.own, h.apart⟩

/-- the calls of MemoryWrite, each with what it comes to -/
structure WCalls (w : World) (D E B : List UInt8) (L base V n k R bx : Nat) : Prop where
  new : ∀ W cap, W.cell? ⟨bx, 2, none⟩ = some (.int .u64 V) → Fr No w W → w.heap.size ≤ bx →
    Calls Try.prog 8 #[.slice (some ⟨W.heap.size, 0, none⟩) 2 cap] (W.alloc (.cells #[.int .u64 base, .string ⟨D.toArray⟩, .bool true, .int .u64 ((base : Int) + L), .string ⟨D.toArray⟩, .bool false] 26)) fun e w1 =>
      ∃ b, e = .returned (.tuple #[.pointer (some ⟨b, 0, none⟩), .int .i64 0]) ∧ Hid (∀ w1', w1' = w1 → Calls Try.prog 15 #[.pointer (some ⟨b, 0, none⟩)] w1' fun e w2 => ∃ c S T, e = .returned (.pointer (some ⟨c, 0, none⟩)) ∧ Hid (StC w bx b c V (wreg base D) (wreg base D) S T w2)) ∧ w1.cell? ⟨bx, 2, none⟩ = some (.int .u64 V)
  write : ∀ b c S T W, Hid (StC w bx b c V (wreg base D) (wreg base D) S T W) → Calls Try.prog 13 #[.pointer (some ⟨b, 0, none⟩), .int .u64 ((base : Int) + k), .int .i64 n, .int .u64 V] W fun e w' =>
    e = .returned (.int .i64 0) ∧ Hid (StC w bx b c V (wreg2 base D k n V) (wreg base D) S T w')
  read : ∀ b c S T W, Hid (StC w bx b c V (wreg2 base D k n V) (wreg base D) S T W) → Calls Try.prog 12 #[.pointer (some ⟨b, 0, none⟩), .int .u64 ((base : Int) + k), .int .i64 n] W fun e w' =>
    e = .returned (.tuple #[.int .u64 R, .int .i64 0]) ∧ Hid (StC w bx b c V (wreg2 base D k n V) (wreg base D) S T w')
  text : ∀ b c S T W, Hid (StC w bx b c V (wreg2 base D k n V) (wreg base D) S T W) → Calls Try.prog 14 #[.pointer (some ⟨b, 0, none⟩), .int .u64 base, .int .i64 L] W fun e w' =>
    e = .returned (.tuple #[.string ⟨E.toArray⟩, .int .i64 0]) ∧ Hid (StC w bx b c V (wreg2 base D k n V) (wreg base D) S T w')
  text2 : ∀ b c S T W, Hid (StC w bx b c V (wreg2 base D k n V) (wreg base D) S T W) → Calls Try.prog 14 #[.pointer (some ⟨b, 0, none⟩), .int .u64 ((base : Int) + L), .int .i64 L] W fun e w' =>
    e = .returned (.tuple #[.string ⟨D.toArray⟩, .int .i64 0]) ∧ Hid (StC w bx b c V (wreg2 base D k n V) (wreg base D) S T w')
  ctext : ∀ b c S T W, Hid (StC w bx b c V (wreg2 base D k n V) (wreg base D) S T W) → Calls Try.prog 14 #[.pointer (some ⟨c, 0, none⟩), .int .u64 base, .int .i64 L] W fun e w' =>
    e = .returned (.tuple #[.string ⟨D.toArray⟩, .int .i64 0]) ∧ Hid (StC w bx b c V (wreg2 base D k n V) (wreg base D) S T w')

/-- the calls of its last line -/
structure WEnd (w7 : World) (B : List UInt8) (V n R bx : Nat) : Prop where
  low : ∀ W, Calls Try.prog 16 #[.int .u64 V, .int .i64 (8 * (n : Int))] W fun e w' => e = .returned (.int .u64 R) ∧ W = w'
  bytes : ∀ W, W.cell? ⟨bx, 2, none⟩ = some (.int .u64 V) → Hid (Fr No w7 W) → Calls Try.prog 17 #[.int .u64 V, .int .i64 n] W fun e w' => e = .returned (.string ⟨B.toArray⟩) ∧ Hid (Fr No w7 w') ∧ w'.cell? ⟨bx, 2, none⟩ = some (.int .u64 V)
  laid : ∀ W, W.cell? ⟨bx, 2, none⟩ = some (.int .u64 V) → Hid (Fr No w7 W) → Calls Try.prog 9 #[] W fun e w' => e = .returned (.bool true) ∧ Hid (Fr No w7 w') ∧ w'.cell? ⟨bx, 2, none⟩ = some (.int .u64 V)

theorem WCalls.make (w : World) (D E B : List UInt8) (L base V n k R bx : Nat) (hR : V % 256 ^ n = R) (hB : leBytes n V = B) (hE : wlaid D k n V = E) (hL : D.length = L) (h1 : 8 ≤ L) (h2 : L ≤ 300) (hn : sizeOk n = true) (hk : k + n ≤ L) (hbase : base < 4294967296) (hV : V < 2 ^ 64) : WCalls w D E B L base V n k R bx where
  new := fun W cap hc hf hbx => by
    subst hL
    have wf := wreg_wf base D D (by omega) (by omega) h2 (by omega) rfl
    refine (new_is (RegsAt.new W (wreg base D) cap wf.typed) (by simp [wreg]) (List.Perm.refl _) wf).mono ?_
    rintro e w1 ⟨b, rfl, hf1, hm⟩
    have hfa : Fr No W w1 := ((Fr.refl No W).alloc _).trans hf1
    refine ⟨b, rfl, fun w1' hw => ?_, hfa.cell hc id⟩
    subst hw
    refine (copy_any hm (by simp [wreg]) (by intro r hr; simp [wreg] at hr; rcases hr with rfl | rfl <;> (simp; omega))).mono ?_
    rintro e w2 ⟨c, rfl, hf2, hm2⟩
    have hfw := hf.trans hfa
    have hbW : bx < W.heap.size := World.block_lt_of_cell? W _ hc
    refine ⟨c, _, _, rfl, (hfa.trans hf2).cell hc id, hm.fr hf2 (fun _ _ => id), hm2, (hfw.trans hf2).any, fun k hk => ⟨?_, ?_⟩, fun k hk hk2 => ?_⟩
    · have := hk.1; have := hf.size; simp at *; unfold From; omega
    · have := hk.1; simp at *; omega
    · have := hk.1; have := hk2.2; omega
  write := fun b c S T W h => by
    subst hL
    refine (write_any h.out.mem _ _ V (by omega) (by omega) hV).mono ?_
    rintro e w' ⟨rfl, hf, hm⟩
    rw [w_write _ _ _ _ _ hn hk] at hm ⊢
    exact ⟨rfl, h.out.write hf hm⟩
  read := fun b c S T W h => by
    subst hL
    refine (read_any h.out.mem _ _ (by omega) (by omega)).mono ?_
    rintro e w' ⟨rfl, hf⟩
    rw [w_read _ _ _ _ _ hn hk, hR]
    exact ⟨rfl, h.out.to hf⟩
  text := fun b c S T W h => by
    subst hL
    refine (text_any h.out.mem _ _ (by omega) (by omega) (by omega)).mono ?_
    rintro e w' ⟨rfl, hf⟩
    have := w_text base D (wlaid D k n V) (by omega) (wlaid_length D k n V hk)
    unfold wreg2 at *
    rw [this]
    exact ⟨by rw [hE], h.out.to hf⟩
  text2 := fun b c S T W h => by
    subst hL
    refine (text_any h.out.mem _ _ (by omega) (by omega) (by omega)).mono ?_
    rintro e w' ⟨rfl, hf⟩
    have := w_text2 base D (wlaid D k n V) (by omega) (wlaid_length D k n V hk)
    unfold wreg2 at *
    rw [this]
    exact ⟨rfl, h.out.to hf⟩
  ctext := fun b c S T W h => by
    subst hL
    refine (text_any h.out.cop _ _ (by omega) (by omega) (by omega)).mono ?_
    rintro e w' ⟨rfl, hf⟩
    have := w_text base D D (by omega) rfl
    unfold wreg at *
    rw [this]
    exact ⟨rfl, h.out.to hf⟩

theorem WEnd.make (w7 : World) (B : List UInt8) (V n R bx : Nat) (hR : V % 256 ^ n = R) (hB : leBytes n V = B) (hn : sizeOk n = true) (hV : V < 2 ^ 64) : WEnd w7 B V n R bx where
  low := fun W => by
    rw [← hR]
    have := low_bytes V n W hV (by have := (sizeOk_iff (n : Int)).1 hn; omega)
    simpa using this
  bytes := fun W hc hf => by
    rw [← hB]
    exact (bytes_any V n W hV (by have := (sizeOk_iff (n : Int)).1 hn; omega)).mono fun _ _ ⟨he, hb⟩ => ⟨he, hf.out.trans (Fr.of_below hb), (Fr.of_below (S := No) hb).cell hc id⟩
  laid := fun W hc hf => (laid_any W).mono fun _ _ ⟨he, hb⟩ => ⟨he, hf.out.trans hb, hb.cell hc id⟩

theorem ext_take (D : List UInt8) (k : Nat) : (⟨D.toArray⟩ : ByteArray).extract 0 k = ⟨(D.take k).toArray⟩ := by
  apply ByteArray.ext; simp
theorem ext_drop (D : List UInt8) (j L : Nat) (h : D.length = L) : (⟨D.toArray⟩ : ByteArray).extract j L = ⟨(D.drop j).toArray⟩ := by
  subst h
  apply ByteArray.ext; apply Array.ext'; simp
  rw [List.take_of_length_le (by simp)]
theorem bapp (a b : List UInt8) : ((⟨a.toArray⟩ : ByteArray) ++ (⟨b.toArray⟩ : ByteArray)) = ⟨(a ++ b).toArray⟩ := by
  apply ByteArray.ext; simp

set_option maxRecDepth 100000 in
set_option maxHeartbeats 4000000 in
theorem mwrite_walk (D E B : List UInt8) (L base addr V n k j R : Nat) (kind N : Int) (w : World) (hL : D.length = L) (h1 : 8 ≤ L) (h2 : L ≤ 300) (e4 : IntKind.u64.wrap (base : Int) = base)
    (hb : bits .and .i64 N 3 = j) (hs : wrap64 (2 ^ min j 64) = n) (hn : sizeOk n = true) (hn1 : 1 ≤ n) (hn8 : n ≤ 8)
    (e6 : (addr : Int) % ((L : Int) - n + 1) = k) (hk : k + n ≤ L) (hbase : base < 4294967296) (hV : V < 2 ^ 64) (hR : V % 256 ^ n = R) (hB : leBytes n V = B) (hE : wlaid D k n V = E) :
    Calls Try.prog 5 #[.string ⟨D.toArray⟩, .int .u32 base, .agg #[.int .u8 kind, .int .u64 addr, .int .u64 V, .int .i64 N]] w fun e w' => e = .returned (.bool true) ∧ Fr No w w' := by
  have HC := Lib.hid (WCalls.make w D E B L base V n k R w.heap.size hR hB hE hL h1 h2 hn hk hbase hV)
  have HD := Lib.hid hL
  have HZ : Hid (∀ w7, WEnd w7 B V n R w.heap.size) := fun w7 => WEnd.make w7 B V n R w.heap.size hR hB hn hV
  have HE : E = D.take k ++ B ++ D.drop (k + n) := by rw [← hE, ← hB]; rfl
  have hBl : B.length = n := by rw [← hB]; simp
  obtain ⟨D1, hD1⟩ : ∃ D1, D1 = D.take k ++ B := ⟨_, rfl⟩
  have ha1 : ∀ W, (Op.stringOp .add ((⟨D.toArray⟩ : ByteArray).extract 0 k) ⟨B.toArray⟩).run Try.prog W = .ok (.string ⟨D1.toArray⟩) W := fun W => by
    rw [ext_take, run_string_add_sum, bapp, hD1]
    simp [ByteArray.size]; omega
  have ha2 : ∀ W, (Op.stringOp .add ⟨D1.toArray⟩ ((⟨D.toArray⟩ : ByteArray).extract ((k : Int) + n).toNat L)).run Try.prog W = .ok (.string ⟨E.toArray⟩) W := fun W => by
    rw [show ((k : Int) + n).toNat = k + n by omega, ext_drop _ _ _ hL, run_string_add_sum, bapp, hD1, HE]
    simp [ByteArray.size, hD1]; omega
  clear HE hBl hD1
  clear hR hB hE
  have HK := Lib.hid hn
  have sz : (⟨D.toArray⟩ : ByteArray).size = L := hL
  have e7 : IntKind.i64.wrap (k : Int) = k := IntWalk.i64_in _ (by omega)
  have HB := Lib.hid hbase
  have e8 : IntKind.u64.wrap ((base : Int) + L) = base + L := IntWalk.u64_in _ (by omega)
  have e9 : IntKind.u64.wrap ((base : Int) + k) = base + k := IntWalk.u64_in _ (by omega)
  have HV := Lib.hid hV
  clear hL hn hbase hV
  go_enter Try.func5, Try.ntmps5
  go_upto_region 4 with fail
  rw [hs]
  go_upto_region 5 with fail
  have HF := Lib.hid ((Fr.refl No w).alloc (.cells #[.int .u8 kind, .int .u64 addr, .int .u64 V, .int .i64 N] 44))
  have c2 : (w.alloc (.cells #[.int .u8 kind, .int .u64 addr, .int .u64 V, .int .i64 N] 44)).cell? ⟨w.heap.size, 2, none⟩ = some (.int .u64 V) := by rw [World.cell?_alloc_new]; rfl
  generalize w.alloc (.cells #[.int .u8 kind, .int .u64 addr, .int .u64 V, .int .i64 N] 44) = W1 at *
  go_upto_region 7 with (first
    | (go_at_call 8; refine (HC.out.new _ _ c2 HF.out (Nat.le_refl _)).mono ?_; rintro e w1 ⟨b, rfl, HCp, cc⟩)
    | (go_at_call 15; refine (HCp.out _ rfl).mono ?_; rintro e w2 ⟨c, S, T, rfl, HS⟩))
  have c3 := HS.out.cell
  clear c2 cc HCp
  go_upto_region 12 with (first
    | (go_at_call 13; (with_reducible refine (HC.out.write _ _ _ _ _ HS).mono ?_); rintro e w3 ⟨rfl, HS3⟩)
    | (go_at_call 12; (with_reducible refine (HC.out.read _ _ _ _ _ HS3).mono ?_); rintro e w4 ⟨rfl, HS4⟩)
    | (go_at_call 14; (with_reducible refine (HC.out.text _ _ _ _ _ HS4).mono ?_); rintro e w5 ⟨rfl, HS5⟩)
    | (go_at_call 14; (with_reducible refine (HC.out.ctext _ _ _ _ _ HS5).mono ?_); rintro e w6 ⟨rfl, HS6⟩)
    | (go_at_call 14; (with_reducible refine (HC.out.text2 _ _ _ _ _ HS6).mono ?_); rintro e w7 ⟨rfl, HS7⟩))
  have c7 := HS7.out.cell
  clear c3 HS HS3 HS4 HS5 HS6
  have e10 : IntKind.i64.wrap (8 * (n : Int)) = 8 * n := IntWalk.i64_in _ (by omega)
  have e11 : IntKind.i64.wrap ((k : Int) + n) = k + n := IntWalk.i64_in _ (by omega)
  have b1 : (0 : Int) ≤ (k : Int) := by omega
  have b2 : (k : Int) ≤ (L : Int) := by omega
  have b3 : (0 : Int) ≤ (k : Int) + n := by omega
  have b4 : (k : Int) + n ≤ (L : Int) := by omega
  have HZ7 := HZ.out w7
  have HZ8 : Hid (WEnd w7 B V n R w.heap.size) := HZ7
  clear HZ HZ7
  have hf7 : Hid (Fr No w7 w7.drew) := (Fr.refl _ _).drew
  go_region_held3 (fun W => W.cell? ⟨w.heap.size, 2, none⟩ = some (.int .u64 V)) (first | assumption | go_keep) (first
    | (go_at_call 16; (with_reducible refine (HZ8.out.low _).mono ?_); rintro e w8 ⟨rfl, rfl⟩)
    | (go_at_call 17; (with_reducible refine (HZ8.out.bytes _ (by assumption) (by assumption)).mono ?_); rintro e w9 ⟨rfl, hf9, hc9⟩)
    | (go_at_call 9; (with_reducible refine (HZ8.out.laid _ (by assumption) (by assumption)).mono ?_); rintro e w10 ⟨rfl, hf10, hc10⟩))
  go_wp2_with fail
  go_ret
  exact ⟨rfl, (HS7.out.fr.trans hf10.out.any).ours⟩

set_option maxRecDepth 100000 in
set_option maxHeartbeats 400000 in
theorem mwrite_short (s : ByteArray) (base c0 c1 c2 c3 : Value) (L : Nat) (w : World) (sz : s.size = L) (h : L < 8) : Calls Try.prog 5 #[.string s, base, .agg #[c0, c1, c2, c3]] w fun e w' => e = .returned (.bool true) ∧ Fr No w w' := by
  have h1 : (L : Int) < 8 := by omega
  go_enter Try.func5, Try.ntmps5
  go_wp2_with (go_at_call 9; refine (laid_any _).mono ?_; rintro e w1 ⟨rfl, hf⟩)
  go_ret
  exact ⟨rfl, ((Fr.refl No w).alloc _).trans hf⟩

set_option maxRecDepth 100000 in
set_option maxHeartbeats 400000 in
theorem mwrite_long (s : ByteArray) (base c0 c1 c2 c3 : Value) (L : Nat) (w : World) (sz : s.size = L) (h : 300 < L) : Calls Try.prog 5 #[.string s, base, .agg #[c0, c1, c2, c3]] w fun e w' => e = .returned (.bool true) ∧ Fr No w w' := by
  have h1 : ¬ (L : Int) < 8 := by omega
  have h2 : 300 < (L : Int) := by omega
  go_enter Try.func5, Try.ntmps5
  go_wp2_with (go_at_call 9; refine (laid_any _).mono ?_; rintro e w1 ⟨rfl, hf⟩)
  go_ret
  exact ⟨rfl, ((Fr.refl No w).alloc _).trans hf⟩

end Go.Proofs.Ytfhlnkgiiikbpaa
