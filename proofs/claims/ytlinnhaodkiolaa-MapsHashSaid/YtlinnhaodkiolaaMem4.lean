/- memory: Read, Text, Write. -/
import Derived.Test.YtlinnhaodkiolaaMem3
namespace Go.Proofs.Ytlinnhaodkiolaa
open Go.RowKit

theorem str_nil (w : World) : (convert 43 9 (.slice none 0 0)).run Try.prog w = .ok (.string ⟨#[]⟩) w := by
  rw [run_convert_bytes_string w 43 9 5 none 0 0 Try.underlying43 Try.underlying5 Try.underlying9]
  rfl

theorem str_at {w : World} {g f : Nat} {bs : List UInt8} (h : CellsAt w g f (u8s bs)) (cap : Nat) : (convert 43 9 (.slice (some ⟨g, f, none⟩) bs.length cap)).run Try.prog w = .ok (.string ⟨bs.toArray⟩) w :=
  run_str_of_bytes _ 43 9 5 Try.underlying43 Try.underlying5 Try.underlying9 g f cap bs bs.length rfl h

set_option maxHeartbeats 400000 in
theorem text_none (p : Value) (addr n : Int) (w : World) (hnone : Calls Try.prog 28 #[p] w fun e w' => e = .returned (.bool true) ∧ w = w') :
    Calls Try.prog 13 #[p, .int .u64 addr, .int .i64 n] w fun e w' => e = .returned (.tuple #[.string ⟨#[]⟩, .int .i64 1]) ∧ w = w' := by
  have HN := Lib.hid hnone; clear hnone
  go_enter Try.func13, Try.ntmps13
  go_wp2_with (go_at_call 28; refine HN.out.mono ?_; rintro e w' ⟨rfl, rfl⟩)
  go_ret2
  exact ⟨rfl, rfl⟩

set_option maxHeartbeats 400000 in
theorem text_neg (b : Nat) (addr n : Int) (w : World) (h : w.cell? ⟨b, 0, none⟩ = some (.bool true)) (hn : n < 0) :
    Calls Try.prog 13 #[.pointer (some ⟨b, 0, none⟩), .int .u64 addr, .int .i64 n] w fun e w' => e = .returned (.tuple #[.string ⟨#[]⟩, .int .i64 2]) ∧ w = w' := by
  have HN := Lib.hid (none_made b w h)
  go_enter Try.func13, Try.ntmps13
  go_wp2_with (go_at_call 28; refine HN.out.mono ?_; rintro e w' ⟨rfl, rfl⟩)
  go_ret2
  exact ⟨rfl, rfl⟩

set_option maxHeartbeats 400000 in
theorem text_zero (b : Nat) (addr : Int) (w : World) (h : w.cell? ⟨b, 0, none⟩ = some (.bool true)) :
    Calls Try.prog 13 #[.pointer (some ⟨b, 0, none⟩), .int .u64 addr, .int .i64 0] w fun e w' => e = .returned (.tuple #[.string ⟨#[]⟩, .int .i64 0]) ∧ w = w' := by
  have HN := Lib.hid (none_made b w h)
  go_enter Try.func13, Try.ntmps13
  go_wp2_with (go_at_call 28; refine HN.out.mono ?_; rintro e w' ⟨rfl, rfl⟩)
  go_ret2
  exact ⟨rfl, rfl⟩

set_option maxHeartbeats 400000 in
theorem text_off (b : Nat) (addr n : Int) (w : World) (h : w.cell? ⟨b, 0, none⟩ = some (.bool true)) (hn : 1 ≤ n)
    (hat : Calls Try.prog 29 #[.pointer (some ⟨b, 0, none⟩), .int .u64 addr, .int .i64 n] w fun e w' => e = .returned (.tuple #[.slice none 0 0, .bool false]) ∧ Fr No w w') :
    Calls Try.prog 13 #[.pointer (some ⟨b, 0, none⟩), .int .u64 addr, .int .i64 n] w fun e w' => e = .returned (.tuple #[.string ⟨#[]⟩, .int .i64 70]) ∧ Fr No w w' := by
  have HN := Lib.hid (none_made b w h)
  have HA := Lib.hid hat
  clear hat
  have kn := slice_nil_eq
  have h0 : (n == 0) = false := by rw [beq_eq_false_iff_ne]; omega
  have h0' : ¬ n < 0 := by omega
  go_enter Try.func13, Try.ntmps13
  go_wp2_with (first | (go_at_call 28; refine HN.out.mono ?_; rintro e w' ⟨rfl, rfl⟩) | (go_at_call 29; refine HA.out.mono ?_; rintro e w' ⟨rfl, hf⟩))
  go_ret2
  exact ⟨rfl, hf⟩

set_option maxHeartbeats 400000 in
theorem text_at (b g f k : Nat) (free : Bool) (addr n : Int) (bs : List UInt8) (w : World) (h : w.cell? ⟨b, 0, none⟩ = some (.bool true)) (hn : 1 ≤ n) (hk : bs.length = k) (hc : CellsAt w g f (u8s bs))
    (hat : Calls Try.prog 29 #[.pointer (some ⟨b, 0, none⟩), .int .u64 addr, .int .i64 n] w fun e w' => e = .returned (.tuple #[.slice (some ⟨g, f, none⟩) k k, .bool free]) ∧ Fr No w w') :
    Calls Try.prog 13 #[.pointer (some ⟨b, 0, none⟩), .int .u64 addr, .int .i64 n] w fun e w' => e = .returned (.tuple #[.string ⟨bs.toArray⟩, .int .i64 0]) ∧ Fr No w w' := by
  have HN := Lib.hid (none_made b w h)
  have HA := Lib.hid hat
  clear hat
  have kn := fun w => slice_nil_ne w ⟨g, f, none⟩ k k
  have h0 : (n == 0) = false := by rw [beq_eq_false_iff_ne]; omega
  have h0' : ¬ n < 0 := by omega
  generalize hS : (⟨bs.toArray⟩ : ByteArray) = S
  have hcv : ∀ W, Fr No w W → (convert 43 9 (.slice (some ⟨g, f, none⟩) k k)).run Try.prog W = .ok (.string S) W := fun W hf => by
    rw [← hS, ← hk]; exact str_at (hf.cells hc id) _
  have HV := Lib.hid hcv
  clear hcv hS hc hk
  go_enter Try.func13, Try.ntmps13
  go_wp2_with (go_at_call 28; refine HN.out.mono ?_; rintro e w' ⟨rfl, rfl⟩)
  refine HA.out.mono ?_
  rintro e w1 ⟨rfl, hf⟩
  have k1 := HV.out w1 hf
  go_wp2_with fail
  go_ret2
  exact ⟨rfl, hf⟩


set_option maxHeartbeats 400000 in
theorem write_err (p : Value) (addr n v : Int) (err : Int) (free : Bool) (w : World) (he : (err != 0) = true)
    (hnum : Calls Try.prog 41 #[p, .int .u64 addr, .int .i64 n] w fun e w' => e = .returned (.tuple #[.slice none 0 0, .bool free, .int .i64 err]) ∧ Fr No w w') :
    Calls Try.prog 26 #[p, .int .u64 addr, .int .i64 n, .int .u64 v] w fun e w' => e = .returned (.int .i64 err) ∧ Fr No w w' := by
  have HN := Lib.hid hnum; clear hnum
  go_enter Try.func26, Try.ntmps26
  go_wp2_with (go_at_call 41; refine HN.out.mono ?_; rintro e w1 ⟨rfl, hf⟩)
  go_ret
  exact ⟨rfl, hf⟩

set_option maxHeartbeats 400000 in
theorem write_right (p : Value) (addr n v : Int) (g f k : Nat) (w : World)
    (hnum : Calls Try.prog 41 #[p, .int .u64 addr, .int .i64 n] w fun e w' => e = .returned (.tuple #[.slice (some ⟨g, f, none⟩) k k, .bool false, .int .i64 0]) ∧ Fr No w w') :
    Calls Try.prog 26 #[p, .int .u64 addr, .int .i64 n, .int .u64 v] w fun e w' => e = .returned (.int .i64 71) ∧ Fr No w w' := by
  have HN := Lib.hid hnum; clear hnum
  go_enter Try.func26, Try.ntmps26
  go_wp2_with (go_at_call 41; refine HN.out.mono ?_; rintro e w1 ⟨rfl, hf⟩)
  go_ret
  exact ⟨rfl, hf⟩

theorem copy_bytes (w : World) (ty : TypeId) (g f k : Nat) (bs : List UInt8) (hk : bs.length = k) (hc : ∀ j, j < k → (w.cell? ⟨g, f + j, none⟩).isSome = true) (ho : ∀ j, j < k → w.frozen? ⟨g, f + j, none⟩ = false) :
    (Builtin.copy_ #[43, 9] ty #[.slice (some ⟨g, f, none⟩) k k, .string ⟨bs.toArray⟩]).run Try.prog w = .ok (goInt k) (w.setCells g f (u8s bs)) :=
  run_copy_str w 43 9 ty 5 g f k bs k hk Try.underlying43 (by
    obtain ⟨i0, hi, hz0, hz1, hz2⟩ := info_parts Try.info_u8
    rw [hi]; simp [hz1]) hc ho

set_option maxHeartbeats 400000 in
theorem write_ok (p : Value) (addr : Int) (v : Nat) (g f k : Nat) (w : World) (hv : v < 2 ^ 64) (hk : k ≤ 8) (hg : g < w.heap.size) (hc : ∀ j, j < k → (w.cell? ⟨g, f + j, none⟩).isSome = true) (ho : ∀ j, j < k → w.frozen? ⟨g, f + j, none⟩ = false)
    (hnum : Calls Try.prog 41 #[p, .int .u64 addr, .int .i64 k] w fun e w' => e = .returned (.tuple #[.slice (some ⟨g, f, none⟩) k k, .bool true, .int .i64 0]) ∧ Fr No w w') :
    Calls Try.prog 26 #[p, .int .u64 addr, .int .i64 k, .int .u64 v] w fun e w' => e = .returned (.int .i64 0) ∧ ∃ w1, Fr No w w1 ∧ w' = w1.setCells g f (u8s (leBytes k v)) := by
  have HN := Lib.hid hnum
  have HV := Lib.hid hv
  have HC : Hid _ := hc
  have HO : Hid _ := ho
  clear hnum hv hc ho
  generalize hS : (⟨(leBytes k v).toArray⟩ : ByteArray) = S
  have HS := Lib.hid hS
  clear hS
  have HB : Hid (∀ W, Calls Try.prog 9 #[.int .u64 v, .int .i64 k] W fun e w' => e = .returned (.string S) ∧ Fr No W w') := fun W =>
    (bytes_any v k W HV.out hk).mono fun e w' ⟨he, hb⟩ => ⟨by rw [he, HS.out], Fr.of_below hb⟩
  go_enter Try.func26, Try.ntmps26
  go_wp2_with (go_at_call 41; refine HN.out.mono ?_; rintro e w1 ⟨rfl, hf⟩)
  refine (HB.out _).mono ?_
  rintro e w2 ⟨rfl, hf2⟩
  have hcp : ∀ ty, (Builtin.copy_ #[43, 9] ty #[.slice (some ⟨g, f, none⟩) k k, .string S]).run Try.prog w2 = .ok (goInt k) (w2.setCells g f (u8s (leBytes k v))) := fun ty => by
    rw [← HS.out]
    have hfr := hf.trans hf2
    refine copy_bytes w2 ty g f k _ (by simp) (fun j hj => ?_) (fun j hj => ?_)
    · rw [World.cell?_of_block (w := w) (hfr.block g hg id)]; exact HC.out j hj
    · rw [World.frozen?_of_block (w := w) (hfr.block g hg id)]; exact HO.out j hj
  go_wp2_with fail
  go_ret
  exact ⟨rfl, w2, hf.trans hf2, rfl⟩

end Go.Proofs.Ytlinnhaodkiolaa
