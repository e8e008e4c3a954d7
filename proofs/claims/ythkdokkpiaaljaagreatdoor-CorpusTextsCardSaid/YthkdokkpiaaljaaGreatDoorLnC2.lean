/- corpus: array, hash, entry. -/
import Derived.Test.YthkdokkpiaaljaaGreatDoorLnC1
set_option linter.all false
set_option linter.unusedVariables false
set_option linter.unusedSimpArgs false
namespace Go.Proofs.YthkdokkpiaaljaaGreatDoor
open Go.RowKit

theorem alloc_len (w : World) (o : Obj) : (w.alloc o).heap.size = w.heap.size + 1 := by first | (simp; done) | (simp only [World.alloc_eq]; simp; done) | exact Array.size_push _
theorem at_new1 (w : World) (o : Obj) (vs : List Value) (t : TypeId) : CellsAt ((w.alloc o).alloc (.cells vs.toArray t)) (w.heap.size + 1) 0 vs := by
  have := CellsAt.new (w.alloc o) vs t
  rwa [alloc_len] at this
set_option maxRecDepth 100000 in
set_option maxHeartbeats 1000000 in
theorem carray_any (a b : Int) (w : World) : Calls Tryz.prog 42 #[.int .i64 a, .int .i64 b] w fun e w' => ∃ g, e = .returned (.agg #[.slice (some ⟨g, 0, none⟩) 1 1, .int .i64 0]) ∧ Fr No w w' := by
  go_enter Tryz.func42, Tryz.ntmps42
  go_wp2_with fail
  refine bodyPost_ret (v := .agg #[.slice (some ⟨w.heap.size + 1, 0, none⟩) 1 1, .int .i64 0]) (by simp [results, Tryz.results42, go_sem]) rfl ?_
  exact ⟨_, rfl, ((Fr.refl _ _).alloc _).alloc _⟩
set_option maxRecDepth 100000 in
set_option maxHeartbeats 1000000 in
theorem chash_any (a b c : Int) (w : World) : Calls Tryz.prog 44 #[.int .i64 a, .int .i64 b, .int .i64 c] w fun e w' => ∃ g, e = .returned (.agg #[.slice (some ⟨g, 0, none⟩) 1 1, .int .i64 0]) ∧ Fr No w w' ∧ w.heap.size ≤ g ∧ w'.cell? ⟨g, 0, none⟩ = some (.int .i64 2) := by
  go_enter Tryz.func44, Tryz.ntmps44
  go_wp2_with fail
  refine bodyPost_ret (v := .agg #[.slice (some ⟨w.heap.size + 1, 0, none⟩) 1 1, .int .i64 0]) (by simp [results, Tryz.results44, go_sem]) rfl ?_
  refine ⟨_, rfl, ((Fr.refl _ _).alloc _).alloc _, by omega, ?_⟩
  exact at_new1 w _ [.int .i64 2, .int .i64 a, .int .i64 b, .int .i64 c] _ 0 _ rfl
set_option maxRecDepth 100000 in
set_option maxHeartbeats 1000000 in
theorem centry_any (a b : ByteArray) (w : World) : Calls Tryz.prog 43 #[.string a, .string b] w fun e w' => ∃ g, e = .returned (.agg #[.string ⟨#[]⟩, .int .u64 0, .slice (some ⟨g, 0, none⟩) 1 1, .slice none 0 0]) ∧ Fr No w w' := by
  go_enter Tryz.func43, Tryz.ntmps43
  go_wp2_with fail
  refine bodyPost_ret (v := .agg #[.string ⟨#[]⟩, .int .u64 0, .slice (some ⟨w.heap.size + 1 + 1, 0, none⟩) 1 1, .slice none 0 0]) (by simp [results, Tryz.results43, go_sem]) rfl ?_
  exact ⟨_, rfl, (((Fr.refl _ _).alloc _).alloc _).alloc _⟩
end Go.Proofs.YthkdokkpiaaljaaGreatDoor
