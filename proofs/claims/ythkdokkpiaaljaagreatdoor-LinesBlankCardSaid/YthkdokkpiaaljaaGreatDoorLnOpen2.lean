/- A slice of bytes as an argument, opened. -/
import Derived.Test.YthkdokkpiaaljaaGreatDoorCore39
import Derived.Test.YthkdokkpiaaljaaGreatDoorLnQ4
set_option linter.all false
set_option linter.unusedVariables false
set_option linter.unusedSimpArgs false
namespace Go.Proofs.YthkdokkpiaaljaaGreatDoor
open Go.ChangeShapes Go.WideShapes Go.ChangeAt Go.RowKit Go.Deep

theorem byte_ofI {n : Int} (h0 : 0 ≤ n) (h1 : n < 256) : ∃ b : UInt8, n = (b.toNat : Int) := ⟨UInt8.ofNat n.toNat, by simp; omega⟩
set_option maxRecDepth 100000 in
theorem open_u8s {H : Type} {enc : TypeId × Value → H} {base : Nat} {spare : Nat → Bool} {held : Bool} {w : World} {v : Value} {d : DataW H} {p : List MemPlace}
    (hv1 : v.cells.toList = [v]) (h : DataW.Trod enc Tryz.prog w base spare held 31 v d p) : ∃ L, U8At w v L := by
  obtain ⟨fuel, hf⟩ := h
  rw [hv1] at hf
  rcases open_slice Tryz.underlying31 hf with ⟨h0, _⟩ | ⟨a, len, cap, m, n, D, Pl, h0, hb, hl, hm, hmm, hx, hi⟩
  · simp at h0
    subst h0
    exact ⟨[], _, _, rfl, fun h => absurd h (by simp)⟩
  · simp at h0
    subst h0
    have hlm : len ≤ m := by rw [hmm]; split <;> omega
    obtain ⟨l, h1, _, h3⟩ := rows_open (w := w) (a := a) 1 (fun x : UInt8 => [Value.int .u8 x.toNat]) (fun _ => True) (fun x => rfl) len (fun i hil => by
      obtain ⟨cs', hc, ht⟩ := hi i (by omega)
      rw [Tryz.cells_i8] at hc
      obtain ⟨_, hcl, hat⟩ := World.cells?_some hc
      obtain ⟨c0, rfl⟩ : ∃ a, cs' = [a] := by
        match cs', hcl with
        | [a], _ => exact ⟨a, rfl⟩
      obtain ⟨x0, ea, _, wa⟩ := DataW.trod_int Tryz.underlying5 ht
      have ba := bounds_u8 wa
      simp at ea
      subst ea
      obtain ⟨b, rfl⟩ := byte_ofI (n := x0) (by omega) (by omega)
      refine ⟨b, trivial, fun c u hcu => ?_⟩
      have hcc := hat c (by have := (List.getElem?_eq_some_iff.1 hcu).1; simpa using this)
      rw [Deep.add_add] at hcc
      rw [hcc, ← hcu])
    have hfl : l.flatMap (fun x : UInt8 => [Value.int .u8 x.toNat]) = u8s l := by
      unfold u8s
      rw [List.map_eq_flatMap]
    rw [hfl] at h3
    refine ⟨l, some a, cap, by rw [h1], fun h0 => ?_⟩
    have h00 : (u8s l)[0]? = some (.int .u8 (l[0].toNat)) := by simp [u8s, h0]
    obtain ⟨b, off, spot⟩ := a
    have hspot : spot = none := by simpa [Addr.add] using World.cell?_spot (h3 0 _ h00)
    subst hspot
    exact ⟨b, off, rfl, fun j u hj => by rw [← addr_add]; exact h3 j u hj⟩
end Go.Proofs.YthkdokkpiaaljaaGreatDoor
