/- A program as an argument, opened. -/
import Derived.Test.YtakcdecljfmckaaGreatDoorCore12
import Derived.Test.YtakcdecljfmckaaGreatDoorCore9
import Derived.Test.YtakcdecljfmckaaGreatDoorCore4
import Derived.OpenShut
import Derived.Deep.Slices
import Derived.ProofKit
set_option linter.all false
set_option linter.unusedVariables false
set_option linter.unusedSimpArgs false
namespace Go.Proofs.YtakcdecljfmckaaGreatDoor
open Go.ChangeShapes Go.WideShapes Go.ChangeAt Go.RowKit Go.Deep

theorem Tryz.cells_ins : Tryz.prog.cellsOf 51 = 5 := by kernel_rfl
theorem Tryz.cells_i8 : Tryz.prog.cellsOf 5 = 1 := by kernel_rfl
theorem Tryz.cells_i16 : Tryz.prog.cellsOf 49 = 1 := by kernel_rfl
theorem Tryz.cells_i32 : Tryz.prog.cellsOf 21 = 1 := by kernel_rfl

theorem open_ins {H : Type} {enc : TypeId × Value → H} {base : Nat} {spare : Nat → Bool} {held : Bool} {w : World} {v : Value} {d : DataW H} {p : List MemPlace}
    (hv1 : v.cells.toList = [v]) (h : DataW.Trod enc Tryz.prog w base spare held 22 v d p) :
    ∃ l : List Ins, InsAt w v l ∧ SrcAt w v l.length (iflat l) ∧ (∀ i ∈ l, i.ok) ∧ l.length ≤ maxLen := by
  obtain ⟨fuel, hf⟩ := h
  rw [hv1] at hf
  rcases open_slice Tryz.underlying22 hf with ⟨h0, _⟩ | ⟨a, len, cap, m, n, D, Pl, h0, hb, hl, hm, hmm, hx, hi⟩
  · simp at h0
    subst h0
    exact ⟨[], .inl ⟨rfl, _, _, rfl⟩, .inl ⟨rfl, rfl, rfl⟩, by simp, by simp⟩
  · simp at h0
    subst h0
    have hlm : len ≤ m := by rw [hmm]; split <;> omega
    obtain ⟨l, h1, h2, h3⟩ := rows_open (w := w) (a := a) 5 Ins.cells Ins.ok (fun x => rfl) len (fun i hil => by
      obtain ⟨cs', hc, ht⟩ := hi i (by omega)
      rw [Tryz.cells_ins] at hc
      obtain ⟨_, hcl, hat⟩ := World.cells?_some hc
      obtain ⟨c0, c1, c2, c3, c4, rfl⟩ : ∃ a b c d e, cs' = [a, b, c, d, e] := by
        match cs', hcl with
        | [a, b, c, d, e], _ => exact ⟨a, b, c, d, e, rfl⟩
      obtain ⟨xs, m', _, hx', hl', hn', hall⟩ := DataW.trod_struct Tryz.underlying51 ht
      have h0 := hall 0 _ rfl
      have h1 := hall 1 _ rfl
      have h2 := hall 2 _ rfl
      have h3 := hall 3 _ rfl
      have h4 := hall 4 _ rfl
      simp only [List.getElem_toArray, List.getElem_cons_zero, List.getElem_cons_succ, Tryz.cells_i8, Tryz.cells_i16, Tryz.cells_i32, Value.cells, List.drop_zero, List.take_succ_cons, List.take_zero, List.drop_succ_cons] at h0 h1 h2 h3 h4
      have hn5 : xs.length = 5 := hn'
      have e0 : xs[0]? = some xs[0] := List.getElem?_eq_getElem (by omega)
      have e1 : xs[1]? = some xs[1] := List.getElem?_eq_getElem (by omega)
      have e2 : xs[2]? = some xs[2] := List.getElem?_eq_getElem (by omega)
      have e3 : xs[3]? = some xs[3] := List.getElem?_eq_getElem (by omega)
      have e4 : xs[4]? = some xs[4] := List.getElem?_eq_getElem (by omega)
      rw [e0] at h0
      rw [e1] at h1
      rw [e2] at h2
      rw [e3] at h3
      rw [e4] at h4
      obtain ⟨x0, ea, _, wa⟩ := DataW.trod_int Tryz.underlying5 h0
      obtain ⟨x1, eb, _, wb⟩ := DataW.trod_int Tryz.underlying5 h1
      obtain ⟨x2, ec, _, wc⟩ := DataW.trod_int Tryz.underlying5 h2
      obtain ⟨x3, ed, _, wd⟩ := DataW.trod_int Tryz.underlying49 h3
      obtain ⟨x4, ee, _, we⟩ := DataW.trod_int Tryz.underlying21 h4
      have ba := bounds_u8 wa
      have bb := bounds_u8 wb
      have bc := bounds_u8 wc
      have bd := bounds_i16 wd
      have be := bounds_i32 we
      simp at ea eb ec ed ee
      subst ea eb ec ed ee
      obtain ⟨x0, rfl⟩ := Int.eq_ofNat_of_zero_le (show 0 ≤ x0 by omega)
      obtain ⟨x1, rfl⟩ := Int.eq_ofNat_of_zero_le (show 0 ≤ x1 by omega)
      obtain ⟨x2, rfl⟩ := Int.eq_ofNat_of_zero_le (show 0 ≤ x2 by omega)
      refine ⟨⟨x0, x1, x2, x3, x4⟩, ⟨by show x0 < _; omega, by show x1 < _; omega, by show x2 < _; omega, ⟨by show _ ≤ x3; omega, by show x3 < _; omega⟩, ⟨by show _ ≤ x4; omega, by show x4 < _; omega⟩⟩, fun c u hcu => ?_⟩
      have hcc := hat c (by have := (List.getElem?_eq_some_iff.1 hcu).1; simpa [Ins.cells] using this)
      rw [Deep.add_add] at hcc
      rw [hcc, ← hcu]
      rfl)
    rcases Nat.eq_zero_or_pos len with h0 | h0
    · subst h0
      have : l = [] := List.eq_nil_of_length_eq_zero h1
      subst this
      exact ⟨[], .inl ⟨rfl, _, _, rfl⟩, .inr ⟨_, _, rfl, fun j u hj => by simp [iflat] at hj⟩, by simp, by simp⟩
    · have h00 : (iflat l)[0]? = some (l[0].cells[0]'(by simp [Ins.cells])) := by
        have := iflat_get l 0 0 (by omega) (by omega)
        simpa using this
      obtain ⟨b, off, spot⟩ := a
      have hspot : spot = none := by simpa [Addr.add] using World.cell?_spot (h3 0 _ h00)
      subst hspot
      exact ⟨l, .inr ⟨b, off, cap, by rw [h1], fun j u hj => by rw [← addr_add]; exact h3 j u hj⟩, .inr ⟨_, _, by rw [h1], fun j u hj => h3 j u hj⟩, h2, by rw [h1]; omega⟩
end Go.Proofs.YtakcdecljfmckaaGreatDoor
