/- memory.New: of no regions; and of any. -/
import Derived.Test.YtlinnhaodkiolaaNew3
namespace Go.Proofs.Ytlinnhaodkiolaa
open Go.RowKit Go.Shelf Go.Lib Go.Sort

set_option maxHeartbeats 400000 in
theorem insertion_none (fv : Value) (w : World) :
    Calls Try.prog 58 #[.slice none 0 0, .int .i64 0, .int .i64 0, fv] w fun e w' => e = .returned (.tuple #[]) ∧ w = w' := by
  go_enter Try.func58, Try.ntmps58
  go_wp2_with fail
  refine wp_loop_rounds 1 ?_
  rw [rounds_succ]
  go_wp2_with fail
  go_end0
  exact ⟨rfl, rfl⟩

set_option maxRecDepth 100000 in
set_option maxHeartbeats 400000 in
theorem pdq_none (lim : Int) (fv : Value) (w : World) :
    Calls Try.prog 44 #[.slice none 0 0, .int .i64 0, .int .i64 0, .int .i64 lim, fv] w fun e w' => e = .returned (.tuple #[]) ∧ w = w' := by
  go_enter Try.func44, Try.ntmps44
  go_wp2_with fail
  refine wp_loop_rounds 1 ?_
  rw [rounds_succ]
  go_wp2_with (go_at_call 58; refine (insertion_none _ _).mono ?_; rintro e w' ⟨rfl, rfl⟩)
  (try simp only [Exit.inBlock, Exit.then]); refine bodyPost_ret (results_none rfl _ _ _) rfl ?_
  exact ⟨rfl, rfl⟩

set_option maxHeartbeats 400000 in
theorem sort_none (fv : Value) (w : World) :
    Calls Try.prog 30 #[.slice none 0 0, fv] w fun e w' => e = .returned (.tuple #[]) ∧ w = w' := by
  have hl := hlen_reg 0
  go_enter Try.func30, Try.ntmps30
  go_wp2_with (first | (go_at_call 45; refine (hl _ (by omega)).mono ?_; rintro e w' ⟨⟨lim, rfl⟩, rfl⟩) | (go_at_call 44; refine (pdq_none _ _ _).mono ?_; rintro e w' ⟨rfl, rfl⟩))
  go_end0
  exact ⟨rfl, rfl⟩

theorem new_none_mem (w w1 : World) (h : Fr No (w.alloc (.cells #[.bool true, .slice none 0 0] 64)) w1) : MemAt w1 w.heap.size [] (Made w w1) := by
  have h0 : (w.alloc (.cells #[.bool true, .slice none 0 0] 64)).cell? ⟨w.heap.size, 0, none⟩ = some (.bool true) := by rw [World.cell?_alloc_new]; rfl
  have h1 : (w.alloc (.cells #[.bool true, .slice none 0 0] 64)).cell? ⟨w.heap.size, 1, none⟩ = some (.slice none 0 0) := by rw [World.cell?_alloc_new]; rfl
  refine ⟨.slice none 0 0, [], rfl, ⟨by simp, by simp, by simp⟩, h.cell h0 id, h.cell h1 id, .inl ⟨rfl, rfl⟩, by simp, by simp, by simp, by simp, by simp [Value.ownBlock], by simp [Value.ownBlock], ?_⟩
  have := h.size
  simp at this
  exact ⟨Nat.le_refl _, by omega⟩

set_option maxHeartbeats 1000000 in
theorem new_empty (a : Option Addr) (c : Nat) (w : World) : Calls Try.prog 17 #[.slice a 0 c] w (NewPost [] w) := by
  go_enter Try.func17, Try.ntmps17
  go_wp2_with fail
  refine wp_loop_rounds 1 ?_
  rw [rounds_succ]
  go_wp2_with (go_at_call 30; refine (sort_none _ _).mono ?_; rintro e w' ⟨rfl, rfl⟩)
  refine wp_loop_rounds 1 ?_
  rw [rounds_succ]
  go_wp2_with fail
  go_ret2
  exact ⟨(Fr.refl _ _).alloc _, .inl ⟨[], _, List.Perm.refl _, ⟨by simp, by simp, by simp⟩, rfl, new_none_mem w _ (Fr.refl _ _)⟩⟩

theorem new_any (rs : List Reg) (v : Value) (w : World) (h : RegsAt w v rs) (h12 : rs.length ≤ 12) : Calls Try.prog 17 #[v] w (NewPost rs w) := by
  obtain ⟨hty, ⟨rfl, a, c, rfl⟩ | ⟨g, off, cap, rfl, hc⟩⟩ := h
  · exact new_empty a c w
  · rcases Nat.eq_zero_or_pos rs.length with h0 | h0
    · obtain rfl : rs = [] := List.eq_nil_of_length_eq_zero h0
      exact new_empty _ _ w
    · exact new_walk g off rs.length cap rs w rfl h0 h12 hc hty

end Go.Proofs.Ytlinnhaodkiolaa
