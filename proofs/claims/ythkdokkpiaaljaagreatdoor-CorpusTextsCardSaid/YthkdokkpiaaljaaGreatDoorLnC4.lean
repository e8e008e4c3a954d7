/- firewalllaw28.first, and what is plain of CorpusTexts. -/
import Derived.Test.YthkdokkpiaaljaaGreatDoorLnC3
import Derived.Test.YthkdokkpiaaljaaGreatDoorCore34
import Derived.Test.YthkdokkpiaaljaaGreatDoorCore19
set_option linter.all false
set_option linter.unusedVariables false
set_option linter.unusedSimpArgs false
namespace Go.Proofs.YthkdokkpiaaljaaGreatDoor
open Go.RowKit

theorem bA_same (C d : List UInt8) : ((bA C).toList == d) = (C == d) := by rw [show bA C = (⟨C.toArray⟩ : ByteArray) from rfl, Lib.toList_data]
/-- Each text is as Show has it. -/
theorem texts_show : (cTexts.all fun T => (readS T).2.1 == 0 && (readS T).2.2 == 0 && showL (readS T).1 == T && decide (T.length ≤ 1000)) = true := by decide +kernel
theorem texts_len : cTexts.length = 13 ∧ cNames.length = 13 := by decide +kernel
theorem names_unlike : (List.range 13).all (fun i => (List.range 13).all fun j => (cNames.getD i [] == cNames.getD j []) == (i == j)) = true := by decide +kernel
theorem text_at (k : Nat) (hk : k < 13) : ∃ N T p, cNames[k]? = some N ∧ cTexts[k]? = some T ∧ readS T = (p, 0, 0) ∧ showL p = T ∧ T.length ≤ 1000 ∧ (∀ i ∈ p, i.ok) ∧ p.length ≤ 64 ∧ N.length ≤ 100 := by
  obtain ⟨l1, l2⟩ := texts_len
  have h := texts_show
  rw [List.all_eq_true] at h
  have ht : cTexts[k]? = some cTexts[k] := List.getElem?_eq_getElem (by omega)
  have hn : cNames[k]? = some cNames[k] := List.getElem?_eq_getElem (by omega)
  have := h _ (List.mem_of_getElem? ht)
  simp only [Bool.and_eq_true, beq_iff_eq, decide_eq_true_eq] at this
  obtain ⟨⟨⟨h1, h2⟩, h3⟩, h4⟩ := this
  have hN : (cNames.all fun N => decide (N.length ≤ 100)) = true := by decide +kernel
  rw [List.all_eq_true] at hN
  have hN := of_decide_eq_true (hN _ (List.mem_of_getElem? hn))
  rcases readS_ok cTexts[k] (by omega) with ⟨l, e, hl, ho⟩ | ⟨a, b, e, ha, _⟩
  · rw [e] at h3
    exact ⟨_, _, l, hn, ht, e, h3, h4, ho, hl, hN⟩
  · rw [e] at h1
    dsimp only at h1
    omega
theorem unlike (i j : Nat) (hi : i < 13) (hj : j < 13) (N M : List UInt8) (hN : cNames[i]? = some N) (hM : cNames[j]? = some M) : (N == M) = (i == j) := by
  have h := names_unlike
  rw [List.all_eq_true] at h
  have h := h i (List.mem_range.mpr hi)
  rw [List.all_eq_true] at h
  have h := h j (List.mem_range.mpr hj)
  rw [List.getD_eq_getElem?_getD, List.getD_eq_getElem?_getD, hN, hM] at h
  simpa using h

set_option maxRecDepth 100000 in
set_option maxHeartbeats 4000000 in
theorem first_any (w : World) : Calls Tryz.prog 17 #[] w fun e w' => e = .returned (.bool true) ∧ Fr No w w' := by
  have HA := Lib.hid (call_any w)
  obtain ⟨B0, hB0⟩ : ∃ B, bA [97, 110, 115, 119, 101, 114] = B := ⟨_, rfl⟩
  obtain ⟨B1, hB1⟩ : ∃ B, bA (linesT cL0) = B := ⟨_, rfl⟩
  obtain ⟨B2, hB2⟩ : ∃ B, bA [117, 112, 100, 97, 116, 101] = B := ⟨_, rfl⟩
  have q0 : (B0.toList == ([97, 110, 115, 119, 101, 114] : List UInt8)) = true := by rw [← hB0, bA_same]; rfl
  have q1 : (B1.toList == ([109, 111, 118, 54, 52, 32, 114, 48, 32, 52, 50, 10, 101, 120, 105, 116, 10] : List UInt8)) = true := by rw [← hB1, bA_same]; decide +kernel
  have q2 : (B2.toList == ([117, 112, 100, 97, 116, 101] : List UInt8)) = true := by rw [← hB2, bA_same]; rfl
  have H0 := Lib.hid hB0
  have H1 := Lib.hid hB1
  have H2 := Lib.hid hB2
  clear hB0 hB1 hB2
  go_enter Tryz.func17, Tryz.ntmps17
  go_wp2_with (go_at_call 16; (with_reducible refine HA.out.mono ?_); rintro e w1 ⟨g, gm, rfl, -, -, -, hf, hall⟩; have HF := Lib.hid hf; clear hf; obtain ⟨a, a42, a110, a2⟩ := hall; obtain ⟨_, _, _, _, _, _, _, e0, _⟩ := a 0 _ _ rfl rfl; obtain ⟨_, _, _, _, _, _, _, e12, _⟩ := a 12 _ _ rfl rfl; have c0 : w1.cell? ⟨g, 0, none⟩ = some (.string B0) := H0.out ▸ e0 0 _ rfl; have c1 : w1.cell? ⟨g, 1, none⟩ = some (.string B1) := H1.out ▸ e0 1 _ rfl; have c2 : w1.cell? ⟨g, 108, none⟩ = some (.string B2) := H2.out ▸ e12 0 _ rfl; clear a e0 e12)
  go_ret
  exact ⟨rfl, HF.out⟩
end Go.Proofs.YthkdokkpiaaljaaGreatDoor
