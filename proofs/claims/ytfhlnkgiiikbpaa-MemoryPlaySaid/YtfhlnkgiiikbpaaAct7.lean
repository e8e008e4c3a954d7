/- An act of chapter 7, opened: its four numbers. -/
import Derived.Test.YtfhlnkgiiikbpaaRows
import Derived.Test.YtfhlnkgiiikbpaaBase
import Derived.ProofKit
import Derived.OpenShut
namespace Go.Proofs.Ytfhlnkgiiikbpaa
open Go.ChangeShapes Go.WideShapes Go.ChangeAt Go.RowKit

theorem Try.cells_act : Try.prog.cellsOf 44 = 4 := by kernel_rfl
theorem Try.cells_u8 : Try.prog.cellsOf 5 = 1 := by kernel_rfl
theorem Try.cells_u64 : Try.prog.cellsOf 23 = 1 := by kernel_rfl
theorem Try.cells_int : Try.prog.cellsOf 3 = 1 := by kernel_rfl

theorem open_act {H : Type} {enc : TypeId × Value → H} {r : Reach} {base b0 : Nat} {spare : Nat → Bool} {held : Bool} {w : World} {v : Value} {d : DataW H} {p : List MemPlace}
    (hv : Value.okWide Try.prog w r b0 44 v) (h : DataW.Trod enc Try.prog w base spare held 44 v d p) :
    ∃ (k a V : Nat) (n : Int), v = .agg #[.int .u8 k, .int .u64 a, .int .u64 V, .int .i64 n] ∧ k < 256 ∧ a < 2 ^ 64 ∧ V < 2 ^ 64 ∧ -9223372036854775808 ≤ n ∧ n ≤ 9223372036854775807 := by
  unfold Value.okWide at hv
  rw [Try.underlying44] at hv
  obtain ⟨cs, rfl, hsz, _⟩ := hv
  rw [Try.cells_act] at hsz
  obtain ⟨c0, c1, c2, c3, rfl⟩ : ∃ a b c d, cs = #[a, b, c, d] := by
    match cs, hsz with
    | ⟨[a, b, c, d]⟩, _ => exact ⟨a, b, c, d, rfl⟩
  obtain ⟨fuel, hf⟩ := h
  obtain ⟨xs, m, rfl, hx, hl, hn, hall⟩ := DataW.trod_struct Try.underlying44 hf
  have h0 := hall 0 _ rfl
  have h1 := hall 1 _ rfl
  have h2 := hall 2 _ rfl
  have h3 := hall 3 _ rfl
  simp only [List.getElem_toArray, List.getElem_cons_zero, List.getElem_cons_succ, Try.cells_u8, Try.cells_u64, Try.cells_int, Value.cells, List.drop_zero, List.take_succ_cons, List.take_zero, List.drop_succ_cons] at h0 h1 h2 h3
  have hn4 : xs.length = 4 := hn
  have e0 : xs[0]? = some xs[0] := List.getElem?_eq_getElem (by omega)
  have e1 : xs[1]? = some xs[1] := List.getElem?_eq_getElem (by omega)
  have e2 : xs[2]? = some xs[2] := List.getElem?_eq_getElem (by omega)
  have e3 : xs[3]? = some xs[3] := List.getElem?_eq_getElem (by omega)
  rw [e0] at h0
  rw [e1] at h1
  rw [e2] at h2
  rw [e3] at h3
  obtain ⟨a, ea, _, wa⟩ := DataW.trod_int Try.underlying5 h0
  obtain ⟨b, eb, _, wb⟩ := DataW.trod_int Try.underlying23 h1
  obtain ⟨c, ec, _, wc⟩ := DataW.trod_int Try.underlying23 h2
  obtain ⟨d, ed, _, wd⟩ := DataW.trod_int Try.underlying3 h3
  have ba := bounds_u8 wa
  have bb := bounds_u64 wb
  have bc := bounds_u64 wc
  have bd := bounds_i64 wd
  simp at ea eb ec ed
  subst ea eb ec ed
  obtain ⟨a, rfl⟩ := Int.eq_ofNat_of_zero_le (show 0 ≤ a by omega)
  obtain ⟨b, rfl⟩ := Int.eq_ofNat_of_zero_le (show 0 ≤ b by omega)
  obtain ⟨c, rfl⟩ := Int.eq_ofNat_of_zero_le (show 0 ≤ c by omega)
  exact ⟨a, b, c, d, rfl, by omega, by omega, by omega, by omega, by omega⟩

end Go.Proofs.Ytfhlnkgiiikbpaa
