/- memory: none, number, Read, Text. -/
import Derived.Test.YtlinnhaodkiolaaMem2
namespace Go.Proofs.Ytlinnhaodkiolaa
open Go.RowKit

set_option maxHeartbeats 400000 in
theorem none_made (b : Nat) (w : World) (h : w.cell? ⟨b, 0, none⟩ = some (.bool true)) :
    Calls Try.prog 28 #[.pointer (some ⟨b, 0, none⟩)] w fun e w' => e = .returned (.bool false) ∧ w = w' := by
  go_enter Try.func28, Try.ntmps28
  go_wp2
  go_ret
  exact ⟨rfl, rfl⟩

set_option maxHeartbeats 400000 in
theorem none_unmade (b : Nat) (w : World) (h : w.cell? ⟨b, 0, none⟩ = some (.bool false)) :
    Calls Try.prog 28 #[.pointer (some ⟨b, 0, none⟩)] w fun e w' => e = .returned (.bool true) ∧ w = w' := by
  go_enter Try.func28, Try.ntmps28
  go_wp2
  go_ret
  exact ⟨rfl, rfl⟩

set_option maxHeartbeats 400000 in
theorem none_nil (w : World) :
    Calls Try.prog 28 #[.pointer none] w fun e w' => e = .returned (.bool true) ∧ w = w' := by
  go_enter Try.func28, Try.ntmps28
  go_wp2
  go_ret
  exact ⟨rfl, rfl⟩

set_option maxHeartbeats 400000 in
theorem number_none (p : Value) (addr n : Int) (w : World) (hnone : Calls Try.prog 28 #[p] w fun e w' => e = .returned (.bool true) ∧ w = w') :
    Calls Try.prog 41 #[p, .int .u64 addr, .int .i64 n] w fun e w' => e = .returned (.tuple #[.slice none 0 0, .bool false, .int .i64 1]) ∧ w = w' := by
  have HN := Lib.hid hnone; clear hnone
  go_enter Try.func41, Try.ntmps41
  go_wp2_with (go_at_call 28; refine HN.out.mono ?_; rintro e w' ⟨rfl, rfl⟩)
  go_ret3
  exact ⟨rfl, rfl⟩

set_option maxHeartbeats 400000 in
theorem number_bad (b : Nat) (addr n : Int) (w : World) (h : w.cell? ⟨b, 0, none⟩ = some (.bool true)) (h1 : (n != 1) = true) (h2 : (n != 2) = true) (h4 : (n != 4) = true) (h8 : (n != 8) = true) :
    Calls Try.prog 41 #[.pointer (some ⟨b, 0, none⟩), .int .u64 addr, .int .i64 n] w fun e w' => e = .returned (.tuple #[.slice none 0 0, .bool false, .int .i64 2]) ∧ w = w' := by
  have HN := Lib.hid (none_made b w h)
  go_enter Try.func41, Try.ntmps41
  go_wp2_with (go_at_call 28; refine HN.out.mono ?_; rintro e w' ⟨rfl, rfl⟩)
  go_ret3
  exact ⟨rfl, rfl⟩

theorem slice_nil_ne (w : World) (a : Addr) (n c : Nat) : (binOp .eql 43 (.slice (some a) n c) (.slice none 0 0)).run Try.prog w = .ok (.bool false) w := Lib.run_eql_slice_nil w 43 5 (some a) n c 0 0 Try.underlying43
theorem slice_nil_eq (w : World) : (binOp .eql 43 (.slice none 0 0) (.slice none 0 0)).run Try.prog w = .ok (.bool true) w := Lib.run_eql_slice_nil w 43 5 none 0 0 0 0 Try.underlying43

set_option maxHeartbeats 400000 in
theorem number_at (b g f k : Nat) (free : Bool) (addr n : Int) (w : World) (h : w.cell? ⟨b, 0, none⟩ = some (.bool true)) (hn : n = 1 ∨ n = 2 ∨ n = 4 ∨ n = 8)
    (hat : Calls Try.prog 29 #[.pointer (some ⟨b, 0, none⟩), .int .u64 addr, .int .i64 n] w fun e w' => e = .returned (.tuple #[.slice (some ⟨g, f, none⟩) k k, .bool free]) ∧ Fr No w w') :
    Calls Try.prog 41 #[.pointer (some ⟨b, 0, none⟩), .int .u64 addr, .int .i64 n] w fun e w' => e = .returned (.tuple #[.slice (some ⟨g, f, none⟩) k k, .bool free, .int .i64 0]) ∧ Fr No w w' := by
  have HN := Lib.hid (none_made b w h)
  have HA := Lib.hid hat
  clear hat
  have kn := fun w => slice_nil_ne w ⟨g, f, none⟩ k k
  rcases hn with rfl | rfl | rfl | rfl
  all_goals
    go_enter Try.func41, Try.ntmps41
    go_wp2_with (first | (go_at_call 28; refine HN.out.mono ?_; rintro e w' ⟨rfl, rfl⟩) | (go_at_call 29; refine HA.out.mono ?_; rintro e w' ⟨rfl, hf⟩))
    go_ret3
    exact ⟨rfl, hf⟩

set_option maxHeartbeats 400000 in
theorem number_off (b : Nat) (addr n : Int) (w : World) (h : w.cell? ⟨b, 0, none⟩ = some (.bool true)) (hn : n = 1 ∨ n = 2 ∨ n = 4 ∨ n = 8)
    (hat : Calls Try.prog 29 #[.pointer (some ⟨b, 0, none⟩), .int .u64 addr, .int .i64 n] w fun e w' => e = .returned (.tuple #[.slice none 0 0, .bool false]) ∧ Fr No w w') :
    Calls Try.prog 41 #[.pointer (some ⟨b, 0, none⟩), .int .u64 addr, .int .i64 n] w fun e w' => e = .returned (.tuple #[.slice none 0 0, .bool false, .int .i64 70]) ∧ Fr No w w' := by
  have HN := Lib.hid (none_made b w h)
  have HA := Lib.hid hat
  clear hat
  have kn := slice_nil_eq
  rcases hn with rfl | rfl | rfl | rfl
  all_goals
    go_enter Try.func41, Try.ntmps41
    go_wp2_with (first | (go_at_call 28; refine HN.out.mono ?_; rintro e w' ⟨rfl, rfl⟩) | (go_at_call 29; refine HA.out.mono ?_; rintro e w' ⟨rfl, hf⟩))
    go_ret3
    exact ⟨rfl, hf⟩


/-- what 'number' returns -/
def NumPost (l : List HReg) (addr n : Int) (e : Ending) : Prop :=
  if sizeOk n then
    match spot (l.map (·.r)) addr n with
    | none => e = .returned (.tuple #[.slice none 0 0, .bool false, .int .i64 70])
    | some i => ∃ x, l[i]? = some x ∧ e = .returned (.tuple #[.slice (some ⟨x.g, (addr - x.r.base).toNat, none⟩) n.toNat n.toNat, .bool x.r.free, .int .i64 0])
  else e = .returned (.tuple #[.slice none 0 0, .bool false, .int .i64 2])

theorem sizeOk_iff (n : Int) : sizeOk n = true ↔ n = 1 ∨ n = 2 ∨ n = 4 ∨ n = 8 := by
  simp [sizeOk, or_assoc]

theorem number_any {S : Nat → Prop} {w : World} {b : Nat} {v : Value} {l : List HReg} (h : MemL w b v l S) (addr n : Int) (ha : 0 ≤ addr) (h64 : addr ≤ 18446744073709551615) :
    Calls Try.prog 41 #[.pointer (some ⟨b, 0, none⟩), .int .u64 addr, .int .i64 n] w fun e w' => NumPost l addr n e ∧ Fr No w w' := by
  by_cases hs : sizeOk n = true
  · have hn := (sizeOk_iff n).1 hs
    have hat := at_any h addr n ha h64 (by omega) (by omega)
    cases hsp : spot (l.map (·.r)) addr n with
    | none =>
      refine (number_off b addr n w h.made hn (hat.mono ?_)).mono ?_
      · rintro e w' ⟨hp, hf⟩
        unfold AtPost at hp
        rw [hsp] at hp
        exact ⟨hp, hf⟩
      · rintro e w' ⟨rfl, hf⟩
        exact ⟨by unfold NumPost; rw [if_pos hs, hsp], hf⟩
    | some i =>
      have hi : i < l.length := by simpa using spot_lt hsp
      refine (number_at b l[i].g (addr - l[i].r.base).toNat n.toNat l[i].r.free addr n w h.made hn (hat.mono ?_)).mono ?_
      · rintro e w' ⟨hp, hf⟩
        unfold AtPost at hp
        rw [hsp] at hp
        obtain ⟨x, hx, rfl⟩ := hp
        rw [List.getElem?_eq_getElem hi] at hx
        obtain rfl := Option.some.inj hx
        exact ⟨rfl, hf⟩
      · rintro e w' ⟨rfl, hf⟩
        exact ⟨by unfold NumPost; rw [if_pos hs, hsp]; exact ⟨l[i], List.getElem?_eq_getElem hi, rfl⟩, hf⟩
  · have hn : ¬ (n = 1 ∨ n = 2 ∨ n = 4 ∨ n = 8) := fun hh => hs ((sizeOk_iff n).2 hh)
    refine (number_bad b addr n w h.made (by rw [bne_iff_ne]; omega) (by rw [bne_iff_ne]; omega) (by rw [bne_iff_ne]; omega) (by rw [bne_iff_ne]; omega)).mono ?_
    rintro e w' ⟨rfl, rfl⟩
    exact ⟨by unfold NumPost; rw [if_neg hs], Fr.refl _ _⟩

end Go.Proofs.Ytlinnhaodkiolaa
