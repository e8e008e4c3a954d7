/- Arguments of chapter 8 that are structs, opened. -/
import Derived.Test.YtlinnhaodkiolaaRows
import Derived.Test.YtlinnhaodkiolaaBase
import Derived.ProofKit
import Derived.OpenShut
namespace Go.Proofs.Ytlinnhaodkiolaa
open Go.ChangeShapes Go.WideShapes Go.ChangeAt Go.RowKit

theorem Try.cells_actm : Try.prog.cellsOf 47 = 4 := by kernel_rfl
theorem Try.cells_actm_uint8 : Try.prog.cellsOf 5 = 1 := by kernel_rfl
theorem Try.cells_actm_int : Try.prog.cellsOf 3 = 1 := by kernel_rfl
theorem Try.cells_actm_string : Try.prog.cellsOf 9 = 1 := by kernel_rfl

set_option maxRecDepth 100000 in
theorem open_actm {H : Type} {enc : TypeId × Value → H} {r : Reach} {base b0 : Nat} {spare : Nat → Bool} {held : Bool} {w : World} {v : Value} {d : DataW H} {p : List MemPlace}
    (hv : Value.okWide Try.prog w r b0 47 v) (h : DataW.Trod enc Try.prog w base spare held 47 v d p) :
    ∃ (yk : Nat) (ym : Int) (yK : ByteArray) (yV : ByteArray), v = .agg #[.int .u8 yk, .int .i64 ym, .string yK, .string yV] ∧ yk < 256 ∧ -9223372036854775808 ≤ ym ∧ ym ≤ 9223372036854775807 ∧ yK.size ≤ maxLen ∧ yV.size ≤ maxLen := by
  unfold Value.okWide at hv
  rw [Try.underlying47] at hv
  obtain ⟨cs, rfl, hsz, _⟩ := hv
  rw [Try.cells_actm] at hsz
  obtain ⟨c0, c1, c2, c3, rfl⟩ : ∃ a0 a1 a2 a3, cs = #[a0, a1, a2, a3] := by
    match cs, hsz with
    | ⟨[a0, a1, a2, a3]⟩, _ => exact ⟨a0, a1, a2, a3, rfl⟩
  obtain ⟨fuel, hf⟩ := h
  obtain ⟨xs, m, rfl, hx, hl, hn, hall⟩ := DataW.trod_struct Try.underlying47 hf
  have h0 := hall 0 _ rfl
  have h1 := hall 1 _ rfl
  have h2 := hall 2 _ rfl
  have h3 := hall 3 _ rfl
  simp only [List.getElem_toArray, List.getElem_cons_zero, List.getElem_cons_succ, Try.cells_actm_uint8, Try.cells_actm_int, Try.cells_actm_string, Value.cells, List.drop_zero, List.take_succ_cons, List.take_zero, List.drop_succ_cons] at h0 h1 h2 h3
  have hnn : xs.length = 4 := hn
  have e0 : xs[0]? = some xs[0] := List.getElem?_eq_getElem (by omega)
  rw [e0] at h0
  have e1 : xs[1]? = some xs[1] := List.getElem?_eq_getElem (by omega)
  rw [e1] at h1
  have e2 : xs[2]? = some xs[2] := List.getElem?_eq_getElem (by omega)
  rw [e2] at h2
  have e3 : xs[3]? = some xs[3] := List.getElem?_eq_getElem (by omega)
  rw [e3] at h3
  obtain ⟨x0, ea0, _, wa0⟩ := DataW.trod_int Try.underlying5 h0
  have ba0 := bounds_u8 wa0
  obtain ⟨x1, ea1, _, wa1⟩ := DataW.trod_int Try.underlying3 h1
  have ba1 := bounds_i64 wa1
  obtain ⟨x2, ea2, _, wa2⟩ := DataW.trod_string Try.underlying9 h2
  obtain ⟨x3, ea3, _, wa3⟩ := DataW.trod_string Try.underlying9 h3
  simp at ea0 ea1 ea2 ea3
  subst ea0 ea1 ea2 ea3
  obtain ⟨x0, rfl⟩ := Int.eq_ofNat_of_zero_le (show 0 ≤ x0 by omega)
  exact ⟨x0, x1, x2, x3, rfl, by omega, by omega, by omega, wa2, wa3⟩

theorem Try.cells_mapd : Try.prog.cellsOf 49 = 4 := by kernel_rfl
theorem Try.cells_mapd_int : Try.prog.cellsOf 3 = 1 := by kernel_rfl

set_option maxRecDepth 100000 in
theorem open_mapd {H : Type} {enc : TypeId × Value → H} {r : Reach} {base b0 : Nat} {spare : Nat → Bool} {held : Bool} {w : World} {v : Value} {d : DataW H} {p : List MemPlace}
    (hv : Value.okWide Try.prog w r b0 49 v) (h : DataW.Trod enc Try.prog w base spare held 49 v d p) :
    ∃ (yk : Int) (ye : Int) (yv : Int) (ym : Int), v = .agg #[.int .i64 yk, .int .i64 ye, .int .i64 yv, .int .i64 ym] ∧ -9223372036854775808 ≤ yk ∧ yk ≤ 9223372036854775807 ∧ -9223372036854775808 ≤ ye ∧ ye ≤ 9223372036854775807 ∧ -9223372036854775808 ≤ yv ∧ yv ≤ 9223372036854775807 ∧ -9223372036854775808 ≤ ym ∧ ym ≤ 9223372036854775807 := by
  unfold Value.okWide at hv
  rw [Try.underlying49] at hv
  obtain ⟨cs, rfl, hsz, _⟩ := hv
  rw [Try.cells_mapd] at hsz
  obtain ⟨c0, c1, c2, c3, rfl⟩ : ∃ a0 a1 a2 a3, cs = #[a0, a1, a2, a3] := by
    match cs, hsz with
    | ⟨[a0, a1, a2, a3]⟩, _ => exact ⟨a0, a1, a2, a3, rfl⟩
  obtain ⟨fuel, hf⟩ := h
  obtain ⟨xs, m, rfl, hx, hl, hn, hall⟩ := DataW.trod_struct Try.underlying49 hf
  have h0 := hall 0 _ rfl
  have h1 := hall 1 _ rfl
  have h2 := hall 2 _ rfl
  have h3 := hall 3 _ rfl
  simp only [List.getElem_toArray, List.getElem_cons_zero, List.getElem_cons_succ, Try.cells_mapd_int, Value.cells, List.drop_zero, List.take_succ_cons, List.take_zero, List.drop_succ_cons] at h0 h1 h2 h3
  have hnn : xs.length = 4 := hn
  have e0 : xs[0]? = some xs[0] := List.getElem?_eq_getElem (by omega)
  rw [e0] at h0
  have e1 : xs[1]? = some xs[1] := List.getElem?_eq_getElem (by omega)
  rw [e1] at h1
  have e2 : xs[2]? = some xs[2] := List.getElem?_eq_getElem (by omega)
  rw [e2] at h2
  have e3 : xs[3]? = some xs[3] := List.getElem?_eq_getElem (by omega)
  rw [e3] at h3
  obtain ⟨x0, ea0, _, wa0⟩ := DataW.trod_int Try.underlying3 h0
  have ba0 := bounds_i64 wa0
  obtain ⟨x1, ea1, _, wa1⟩ := DataW.trod_int Try.underlying3 h1
  have ba1 := bounds_i64 wa1
  obtain ⟨x2, ea2, _, wa2⟩ := DataW.trod_int Try.underlying3 h2
  have ba2 := bounds_i64 wa2
  obtain ⟨x3, ea3, _, wa3⟩ := DataW.trod_int Try.underlying3 h3
  have ba3 := bounds_i64 wa3
  simp at ea0 ea1 ea2 ea3
  subst ea0 ea1 ea2 ea3
  exact ⟨x0, x1, x2, x3, rfl, by omega, by omega, by omega, by omega, by omega, by omega, by omega, by omega⟩

end Go.Proofs.Ytlinnhaodkiolaa
