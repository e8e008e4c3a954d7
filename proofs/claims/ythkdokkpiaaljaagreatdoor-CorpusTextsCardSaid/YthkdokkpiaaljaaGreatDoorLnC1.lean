/- corpus.lines: a text of lines. -/
import Derived.Test.YthkdokkpiaaljaaGreatDoorCore34
import Derived.Test.YthkdokkpiaaljaaGreatDoorCore7
set_option linter.all false
set_option linter.unusedVariables false
set_option linter.unusedSimpArgs false
namespace Go.Proofs.YthkdokkpiaaljaaGreatDoor
open Go.RowKit

theorem addL2 (X Y : List UInt8) (hx : X.length ≤ 200000) (hy : Y.length ≤ 200000) (W : World) : (Op.stringOp .add (bA X) (bA Y)).run Tryz.prog W = .ok (.string (bA (X ++ Y))) W := by
  rw [← bA_app]
  exact addB _ _ (by rw [bA_size]; exact hx) (by rw [bA_size]; exact hy) W
theorem linesT_len : ∀ (ts : List (List UInt8)), (∀ t ∈ ts, t.length ≤ 100) → (linesT ts).length ≤ 101 * ts.length
  | [], _ => by simp [linesT]
  | t :: ts, h => by
    have ih := linesT_len ts (fun x hx => h x (List.mem_cons_of_mem _ hx))
    have h1 := h t (by simp)
    have : linesT (t :: ts) = t ++ 10 :: linesT ts := by simp [linesT]
    rw [this]
    simp only [List.length_append, List.length_cons]
    omega
theorem linesT_take {ts : List (List UInt8)} {k : Nat} {t : List UInt8} (h : ts[k]? = some t) : linesT (ts.take (k + 1)) = linesT (ts.take k) ++ (t ++ [10]) := by
  rw [List.take_add_one, h]
  simp [linesT]
set_option maxRecDepth 100000 in
set_option maxHeartbeats 1000000 in
theorem clines_any (ts : List (List UInt8)) (g n : Nat) (w : World) (hc : CellsAt w g 0 (strs ts)) (hn : ts.length = n) (h20 : n ≤ 20) (hl : ∀ t ∈ ts, t.length ≤ 100) : Calls Tryz.prog 41 #[.slice (some ⟨g, 0, none⟩) n n] w fun e w' => e = .returned (.string (bA (linesT ts))) ∧ w = w' := by
  have HC := Lib.hid hc
  have HN := Lib.hid hn
  have HL := Lib.hid hl
  clear hc hn hl
  go_enter Tryz.func41, Tryz.ntmps41
  go_wp2_with fail
  go_loopw [3, 5, 8] (fun s3 s5 s8 wr => ∃ k : Nat, k ≤ n ∧ s8 = .int .i64 k ∧ s3 = .string (bA (linesT (ts.take k))) ∧ w = wr) (fun _ _ s8 _ => n - (intOf s8).toNat)
  case atStart => exact ⟨0, Nat.zero_le _, rfl, rfl, rfl⟩
  case round =>
    obtain ⟨k, hk, rfl, rfl, rfl⟩ := hrel
    by_cases hlt : k < n
    · obtain ⟨t, ht⟩ : ∃ t, ts[k]? = some t := ⟨_, List.getElem?_eq_getElem (by rw [HN.out]; exact hlt)⟩
      have hcell : w.cell? ⟨g, k, none⟩ = some (.string (bA t)) := by
        have := HC.out k (.string (bA t)) (by simp [strs, ht])
        rwa [Nat.zero_add] at this
      have htl := HL.out t (List.mem_of_getElem? ht)
      have hTl : (linesT (ts.take k)).length ≤ 10000 := by
        have := linesT_len (ts.take k) (fun x hx => HL.out x (List.mem_of_mem_take hx))
        have h2 : (ts.take k).length ≤ k := List.length_take_le _ _
        omega
      have HT := linesT_take ht
      have a1 := addL2 t [10] (by omega) (by simp)
      obtain ⟨Y, hY⟩ : ∃ Y, t ++ [10] = Y := ⟨_, rfl⟩
      rw [hY] at a1 HT
      have hYl : Y.length ≤ 200 := by rw [← hY]; simp; omega
      have a2 := addL2 (linesT (ts.take k)) Y (by omega) (by omega)
      rw [← HT] at a2
      have e10 : bA [10] = ⟨#[10]⟩ := rfl
      rw [e10] at a1
      have HLT := Lib.hid hlt
      obtain ⟨T2, hT2⟩ : ∃ T2, linesT (ts.take (k + 1)) = T2 := ⟨_, rfl⟩
      rw [hT2] at a2
      have HT2 := Lib.hid hT2
      clear hT2
      clear ht hY HT e10 hlt
      go_wp2_with fail
      go_roundw
      case rel => exact ⟨k + 1, HLT.out, by go_num, by rw [HT2.out], by first | rfl | trivial⟩
      case measure => have := HLT.out; simp [intOf] <;> omega
    · obtain rfl : k = n := by omega
      have HE : Hid (linesT (ts.take k) = linesT ts) := by rw [List.take_of_length_le (by rw [HN.out]; exact Nat.le_refl _)]; exact Lib.hid rfl
      rw [HE.out]
      clear hlt
      go_wp2_with fail
      go_ret
      exact ⟨rfl, rfl⟩
end Go.Proofs.YthkdokkpiaaljaaGreatDoor
