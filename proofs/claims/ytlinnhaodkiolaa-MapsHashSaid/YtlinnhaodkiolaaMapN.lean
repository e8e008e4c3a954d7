/- maps: Delete. -/
import Derived.Test.YtlinnhaodkiolaaMapM
namespace Go.Proofs.Ytlinnhaodkiolaa
open Go.RowKit

set_option maxHeartbeats 400000 in
theorem delete_bad (p : Value) (i : Int) (K : ByteArray) (w : World) (hh : Calls Try.prog 24 #[p, .int .i64 i, .string K] w fun e w' => e = .returned (.bool false) ∧ w = w') :
    Calls Try.prog 10 #[p, .int .i64 i, .string K] w fun e w' => e = .returned (.int .i64 (-22)) ∧ w = w' := by
  have HH := Lib.hid hh
  clear hh
  go_enter Try.func10, Try.ntmps10
  go_wp2_with (go_at_call 24; (with_reducible refine (HH.out).mono ?_); rintro e w' ⟨rfl, rfl⟩)
  go_ret
  exact ⟨rfl, rfl⟩

theorem assert_arr (m : Int) (w : World) : (Instr.typeAssert (.iface 96 (.int .i64 m)) 77 74 true).run Try.prog w = .ok (.tuple #[.slice none 0 0, .bool false]) w := by kernel_rfl
theorem assert_hash (a : Option Addr) (n c : Nat) (w : World) : (Instr.typeAssert (.iface 74 (.slice a n c)) 77 74 true).run Try.prog w = .ok (.tuple #[.slice a n c, .bool true]) w := by kernel_rfl

set_option maxHeartbeats 400000 in
theorem delete_arr (b i n ct gt : Nat) (m : Int) (K : ByteArray) (w : World) (hi : i < n) (h2 : w.cell? ⟨b, 2, none⟩ = some (.slice (some ⟨gt, 0, none⟩) n ct)) (hc : w.cell? ⟨gt, i, none⟩ = some (.iface 96 (.int .i64 m)))
    (hh : Calls Try.prog 24 #[.pointer (some ⟨b, 0, none⟩), .int .i64 i, .string K] w fun e w' => e = .returned (.bool true) ∧ w = w') :
    Calls Try.prog 10 #[.pointer (some ⟨b, 0, none⟩), .int .i64 i, .string K] w fun e w' => e = .returned (.int .i64 (-22)) ∧ w = w' := by
  have b1 : (0 : Int) ≤ (i : Int) := by omega
  have b2 : (i : Int) < (n : Int) := by omega
  have hA := assert_arr m
  have HH := Lib.hid hh
  clear hh
  go_enter Try.func10, Try.ntmps10
  go_wp2_with (go_at_call 24; (with_reducible refine (HH.out).mono ?_); rintro e w' ⟨rfl, rfl⟩)
  go_ret
  exact ⟨rfl, rfl⟩

set_option maxHeartbeats 400000 in
theorem delete_off (b i n ct gt : Nat) (a : Option Addr) (hn hc2 : Nat) (K : ByteArray) (w : World) (hi : i < n) (h2 : w.cell? ⟨b, 2, none⟩ = some (.slice (some ⟨gt, 0, none⟩) n ct)) (hc : w.cell? ⟨gt, i, none⟩ = some (.iface 74 (.slice a hn hc2)))
    (hh : Calls Try.prog 24 #[.pointer (some ⟨b, 0, none⟩), .int .i64 i, .string K] w fun e w' => e = .returned (.bool true) ∧ w = w')
    (hf : Calls Try.prog 25 #[.slice a hn hc2, .string K] w fun e w' => e = .returned (.int .i64 (-1)) ∧ w = w') :
    Calls Try.prog 10 #[.pointer (some ⟨b, 0, none⟩), .int .i64 i, .string K] w fun e w' => e = .returned (.int .i64 (-2)) ∧ w = w' := by
  have b1 : (0 : Int) ≤ (i : Int) := by omega
  have b2 : (i : Int) < (n : Int) := by omega
  have hA := assert_hash a hn hc2
  have HH := Lib.hid hh
  have HF := Lib.hid hf
  clear hh hf
  go_enter Try.func10, Try.ntmps10
  go_wp2_with (first | (go_at_call 24; (with_reducible refine (HH.out).mono ?_); rintro e w' ⟨rfl, rfl⟩) | (go_at_call 25; (with_reducible refine (HF.out).mono ?_); rintro e w' ⟨rfl, rfl⟩))
  go_ret
  exact ⟨rfl, rfl⟩

set_option maxHeartbeats 400000 in
theorem delete_hit (b i n ct gt h p hn hc2 : Nat) (old : Value) (K : ByteArray) (w : World) (hi : i < n) (hp : p < hn) (h2 : w.cell? ⟨b, 2, none⟩ = some (.slice (some ⟨gt, 0, none⟩) n ct)) (hc : w.cell? ⟨gt, i, none⟩ = some (.iface 74 (.slice (some ⟨h, 0, none⟩) hn hc2)))
    (hold : w.cell? ⟨h, p, none⟩ = some old) (hfree : w.frozen? ⟨h, p, none⟩ = false)
    (hh : Calls Try.prog 24 #[.pointer (some ⟨b, 0, none⟩), .int .i64 i, .string K] w fun e w' => e = .returned (.bool true) ∧ w = w')
    (hf : Calls Try.prog 25 #[.slice (some ⟨h, 0, none⟩) hn hc2, .string K] w fun e w' => e = .returned (.int .i64 p) ∧ w = w') :
    Calls Try.prog 10 #[.pointer (some ⟨b, 0, none⟩), .int .i64 i, .string K] w fun e w' => e = .returned (.int .i64 0) ∧ w' = w.setCell ⟨h, p, none⟩ (.string ⟨#[]⟩) := by
  have b1 : (0 : Int) ≤ (i : Int) := by omega
  have b2 : (i : Int) < (n : Int) := by omega
  have b3 : (0 : Int) ≤ (p : Int) := by omega
  have b4 : (p : Int) < (hn : Int) := by omega
  have hA := assert_hash (some ⟨h, 0, none⟩) hn hc2
  have HH := Lib.hid hh
  have HF := Lib.hid hf
  clear hh hf
  go_enter Try.func10, Try.ntmps10
  go_wp2_with (first | (go_at_call 24; (with_reducible refine (HH.out).mono ?_); rintro e w' ⟨rfl, rfl⟩) | (go_at_call 25; (with_reducible refine (HF.out).mono ?_); rintro e w' ⟨rfl, rfl⟩))
  go_ret
  exact ⟨rfl, rfl⟩

theorem delete_any {A H : Nat → Prop} {w : World} {b mb : Nat} {S : List Tab} (h : MapsAt w b mb S A H) (i : Int) (key : List UInt8) :
    Calls Try.prog 10 #[.pointer (some ⟨b, 0, none⟩), .int .i64 i, .string ⟨key.toArray⟩] w fun e w' =>
      e = .returned (.int .i64 (mdelete S i key).2) ∧ Fr H w w' ∧ MapsAt w' b mb (mdelete S i key).1 A H := by
  have hh := has_any h i key
  have hmaps := h
  have same : Fr H w w ∧ MapsAt w b mb S A H := ⟨Fr.refl _ _, h⟩
  obtain ⟨l, hS, h⟩ := h
  unfold mdelete
  cases hmh : mhas S i key with
  | none =>
    rw [hmh] at hh
    exact (delete_bad _ i _ w hh).mono fun e w' ⟨he, hw⟩ => ⟨he, hw ▸ same⟩
  | some t =>
    rw [hmh] at hh
    obtain ⟨k, rfl, hk, hkl⟩ := mhas_some hmh
    have hk0 := hk
    rw [← hS, List.getElem?_map] at hk
    obtain ⟨x, hx, rfl⟩ := Option.map_eq_some_iff.1 hk
    have hxm := List.mem_of_getElem? hx
    have ok := h.ok x hxm
    obtain ⟨gl, cl, gt, ct, c1, c2, hi, _, _, d0, d1, d2, d3, d4⟩ := h.at hx
    rcases ok.kinds with h1 | h2
    · simp only [h1, if_true]
      unfold HTab.cell at d4
      rw [if_pos h1] at d4
      exact (delete_arr b k l.length ct gt _ _ w hi c2 d4 hh).mono fun e w' ⟨he, hw⟩ => ⟨he, hw ▸ same⟩
    · have hn1 : ¬ x.t.d.kind = 1 := by omega
      simp only [if_neg hn1, Int.toNat_natCast]
      unfold HTab.cell at d4
      rw [if_neg hn1] at d4
      obtain ⟨here, hH⟩ := h.here x hxm h2
      have hf := hfind_any here (by have := ok.bounds; omega) key
      cases hfi : x.t.find key with
      | none =>
        rw [hfi] at hf
        exact (delete_off b k l.length ct gt _ _ _ _ w hi c2 d4 hh hf).mono fun e w' ⟨he, hw⟩ => ⟨he, hw ▸ same⟩
      | some p =>
        rw [hfi] at hf
        obtain ⟨hp, hpk⟩ := find_some hfi
        have c := here.keys p (.string ⟨key.toArray⟩) (by rw [strs_get, hpk]; rfl)
        have o := here.opened p hp
        rw [Nat.zero_add] at c o
        obtain ⟨g1, g2⟩ := h.lay hx h2 hp (key := []) (.inl rfl)
        have hSt : (l.set k (x.lay p [])).map (·.t) = S.set k (x.t.lay p []) := by rw [List.map_set, hS]; rfl
        exact (delete_hit b k l.length ct gt x.h p _ _ _ _ w hi hp c2 d4 c o hh hf).mono fun e w' ⟨he, hw⟩ => ⟨he, by rw [hw]; exact ⟨g2, _, hSt, g1⟩⟩

end Go.Proofs.Ytlinnhaodkiolaa
