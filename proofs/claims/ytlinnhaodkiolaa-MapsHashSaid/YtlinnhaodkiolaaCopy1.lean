/- slices.Clone of bytes, and of a memory's regions. -/
import Derived.Test.YtlinnhaodkiolaaRgn
import Derived.Test.YtlinnhaodkiolaaNew3
namespace Go.Proofs.Ytlinnhaodkiolaa
open Go.RowKit

/-- what a call of slices.Clone comes to -/
def ClonePost (n : Nat) (vs : List Value) (w : World) (size : Nat) (e : Ending) (w' : World) : Prop :=
  ∃ gg cap, e = .returned (.slice (some ⟨gg, 0, none⟩) n cap) ∧ w.heap.size ≤ gg ∧ gg < w'.heap.size ∧ CellsAt w' gg 0 vs ∧ Open w' gg 0 (n * size) ∧ n ≤ cap ∧ Fr No w w'

theorem clone_post {n size : Nat} {vs : List Value} {t : TypeId} {w w1 : World} {v : Value} {g cap : Nat} {o : Obj} (hown : w1.ownsRow w.heap.size t size (.slice (some ⟨g, 0, none⟩) n cap) n vs) (hgrow : (w.alloc o).grownBy w1 (some w.heap.size)) (hlt : g < w1.heap.size) :
    ClonePost n vs w size (.returned (.slice (some ⟨g, 0, none⟩) n cap)) w1 := by
  rcases hown.2 with ⟨h, _⟩ | ⟨g', cap', cur, hv, hb, hg, hnc, _, hsz, hx⟩
  · cases h
  · cases hv
    refine ⟨g, cap, rfl, hb, hlt, fun j u hj => ?_, fun j hj => ?_, hnc, ⟨hgrow.os, hgrow.tape, hgrow.output, by have := hgrow.size; simp at this; omega, fun b hb _ => ?_⟩⟩
    · rw [Nat.zero_add, cell_of_row w1 g j cur t _ hg]
      rw [← hx, List.getElem?_take] at hj
      split at hj
      · simpa using hj
      · cases hj
    · rw [Nat.zero_add]
      simp [World.frozen?, hg]
    · rw [hgrow.block b (by simp; omega) (by simp; omega), Below.heap_alloc _ _ _ hb]

theorem slice_nil_ne_reg (w : World) (a : Addr) (n c : Nat) : (binOp .eql 62 (.slice (some a) n c) (.slice none 0 0)).run Try.prog w = .ok (.bool false) w := Lib.run_eql_slice_nil w 62 90 (some a) n c 0 0 Try.underlying62
theorem slice_nil_eq_reg (w : World) : (binOp .eql 62 (.slice none 0 0) (.slice none 0 0)).run Try.prog w = .ok (.bool true) w := Lib.run_eql_slice_nil w 62 90 none 0 0 0 0 Try.underlying62

set_option maxHeartbeats 1000000 in
theorem clone_bytes (g n c : Nat) (data : List UInt8) (w : World) (hn : data.length = n) (h1 : 1 ≤ n) (hm : n ≤ 140737488355328) (hc : CellsAt w g 0 (u8s data)) :
    Calls Try.prog 37 #[.slice (some ⟨g, 0, none⟩) n c] w (ClonePost n (u8s data) w 1) := by
  have HC := Lib.hid hc
  have HL := Lib.hid hn
  clear hc hn
  have kn := fun w => slice_nil_ne w ⟨g, 0, none⟩ n c
  obtain ⟨i0, hi, hz0, hz1, hz2⟩ := info_parts Try.info_u8
  have hown : (w.alloc (.cells #[] 5)).ownsRow w.heap.size 5 1 (.slice (some ⟨w.heap.size, 0, none⟩) 0 0) 0 [] := World.ownsRow_made w #[] 0 (Nat.le_refl _) (by unfold maxLen; omega) rfl
  have hnews : ∀ j u, (u8s data)[j]? = some u → (w.alloc (.cells #[] 5)).cell? ((⟨g, 0, none⟩ : Addr).add j) = some u := fun j u hj => by
    rw [addr_add]; exact ((Fr.refl No w).alloc _).cell (HC.out j u hj) id
  have hlen : (u8s data).length = n * 1 := by rw [u8s_length, HL.out, Nat.mul_one]
  have hone := u8s_one data
  generalize u8s data = vs at *
  go_enter Try.func37, Try.ntmps37
  go_wp2_with (at_builtin; refine wpList_append_lies _ rfl _ _ 43 rfl w.heap.size 5 i0 _ 1 1 Try.underlying43 hi hz0 hz1 hz2 rfl (by decide) _ 0 [] rfl hown ⟨g, 0, none⟩ n c vs rfl hlen hnews hone (by omega) (by unfold maxLen; omega) (by omega) (by simp) _ rfl ?_; intro gg cap2 w1 hown2 hgrow hat hlt2)
  go_ret
  rw [Nat.zero_add, List.nil_append] at hown2
  have := clone_post (v := .slice none 0 0) hown2 hgrow hlt2
  simpa using this

theorem Try.info_memreg : (Try.prog.info? 90).map (fun i => (i.zero, i.size, i.bytes)) = some (some (.agg #[.int .u64 0, .slice none 0 0, .bool false]), 3, 40) := Try.info_reg

theorem flat_one (l : List HReg) : ∀ v ∈ flat l, v.oneCell' = true := by
  intro v hv
  obtain ⟨x, _, hx⟩ := List.mem_flatMap.1 hv
  simp [HReg.cells] at hx
  rcases hx with rfl | rfl | rfl <;> simp [Value.oneCell']

set_option maxHeartbeats 1000000 in
theorem clone_regs (g n c : Nat) (l : List HReg) (w : World) (hn : l.length = n) (h1 : 1 ≤ n) (hm : n ≤ 1000000) (hc : CellsAt w g 0 (flat l)) :
    Calls Try.prog 36 #[.slice (some ⟨g, 0, none⟩) n c] w (ClonePost n (flat l) w 3) := by
  have HC := Lib.hid hc
  have HL := Lib.hid hn
  clear hc hn
  have kn := fun w => slice_nil_ne_reg w ⟨g, 0, none⟩ n c
  obtain ⟨i0, hi, hz0, hz1, hz2⟩ := info_parts Try.info_reg
  have hown : (w.alloc (.cells #[] 90)).ownsRow w.heap.size 90 3 (.slice (some ⟨w.heap.size, 0, none⟩) 0 0) 0 [] := World.ownsRow_made w #[] 0 (Nat.le_refl _) (by unfold maxLen; omega) rfl
  have hnews : ∀ j u, (flat l)[j]? = some u → (w.alloc (.cells #[] 90)).cell? ((⟨g, 0, none⟩ : Addr).add j) = some u := fun j u hj => by
    rw [addr_add]; exact ((Fr.refl No w).alloc _).cell (HC.out j u hj) id
  have hlen : (flat l).length = n * 3 := by rw [flat_length, HL.out]
  have hone := flat_one l
  generalize flat l = vs at *
  go_enter Try.func36, Try.ntmps36
  go_wp2_with (at_builtin; refine wpList_append_lies _ rfl _ _ 62 rfl w.heap.size 90 i0 _ 3 40 Try.underlying62 hi hz0 hz1 hz2 rfl (by decide) _ 0 [] rfl hown ⟨g, 0, none⟩ n c vs rfl hlen hnews hone (by omega) (by unfold maxLen; omega) (by omega) (by simp) _ rfl ?_; intro gg cap2 w1 hown2 hgrow hat hlt2)
  go_ret
  rw [Nat.zero_add, List.nil_append] at hown2
  have := clone_post (v := .slice none 0 0) hown2 hgrow hlt2
  simpa using this

set_option maxHeartbeats 400000 in
theorem clone_nil (w : World) : Calls Try.prog 36 #[.slice none 0 0] w fun e w' => e = .returned (.slice none 0 0) ∧ w = w' := by
  have kn := slice_nil_eq_reg
  go_enter Try.func36, Try.ntmps36
  go_wp2_with fail
  go_ret
  exact ⟨rfl, rfl⟩

end Go.Proofs.Ytlinnhaodkiolaa
