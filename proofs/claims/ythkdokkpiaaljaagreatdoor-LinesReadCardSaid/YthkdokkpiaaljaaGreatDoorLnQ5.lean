/- firewalllaw03.LinesRead, walked. -/
import Derived.Test.YthkdokkpiaaljaaGreatDoorLnU3
import Derived.Test.YthkdokkpiaaljaaGreatDoorLinesReadOwn3
set_option linter.all false
set_option linter.unusedVariables false
set_option linter.unusedSimpArgs false
namespace Go.Proofs.YthkdokkpiaaljaaGreatDoor
open Go.RowKit

theorem readS_few (s : List UInt8) : (readS s).1.length ≤ 64 := by
  by_cases h : s.length ≤ 4000
  · rcases readS_ok s h with ⟨l, hr, h64, _⟩ | ⟨k, e, hr, _⟩
    · rw [hr]; exact h64
    · rw [hr]; simp
  · unfold readS
    rw [if_pos (by omega)]
    simp
set_option maxRecDepth 100000 in
set_option maxHeartbeats 1000000 in
theorem linesRead_long (B : ByteArray) (w : World) (hn : 5000 < B.size) (hT : LT w) : Calls Tryz.prog 4 #[.string B] w (Truly w) := by
  have HS := Lib.hid (spoken_any w hT)
  have h1 : (5000 : Int) < (B.size : Int) := by omega
  clear hn hT
  go_enter Tryz.func4, Tryz.ntmps4
  go_wp2_with (go_at_call 10; (with_reducible refine HS.out.mono ?_); rintro e w1 ⟨rfl, hf1⟩)
  go_ret
  exact ⟨rfl, hf1⟩
set_option maxRecDepth 100000 in
set_option maxHeartbeats 1000000 in
theorem linesRead_walk (s : List UInt8) (w : World) (hn : s.length ≤ 5000) (hT : LT w) : Calls Tryz.prog 4 #[.string (bA s)] w (Truly w) := by
  have HSP : Hid (∀ W, Fr No w W → Calls Tryz.prog 10 #[] W fun e w' => e = .returned (.bool true) ∧ Fr No W w') := fun W hf => spoken_any W (hT.fr hf)
  have hfew := readS_few s
  obtain ⟨⟨l, k, er⟩, hr⟩ : ∃ r, readS s = r := ⟨_, rfl⟩
  have HRD : Hid (Calls Tryz.prog 14 #[.string (bA s)] w (ReadTo w (l, k, er))) := by
    have := lread_any s (by omega) w hT
    rw [hr] at this
    exact this
  have HRR : Hid (∀ W, Calls Tryz.prog 15 #[.string (bA s)] W (ReadTo W (l, k, er))) := fun W => by
    have := refread_any s W
    rw [hr] at this
    exact this
  rw [hr] at hfew
  have HSM : Hid (∀ W m v, InsAt W m l → InsAt W v l → Calls Tryz.prog 13 #[m, v] W fun e w' => e = .returned (.bool true) ∧ Fr No W w') := fun W m v hm hv => isame_true m v l W hm hv (by have : l.length ≤ 64 := hfew; omega)
  have h1 : ¬ (5000 : Int) < ((bA s).size : Int) := by rw [bA_size]; omega
  have qk : ((k : Int) == (k : Int)) = true := beq_self_eq_true _
  have qe : (er == er) = true := beq_self_eq_true _
  clear hr hn hT hfew
  generalize bA s = B at *
  go_enter Tryz.func4, Tryz.ntmps4
  go_wp2_with (first
    | (go_at_call 14; (with_reducible refine HRD.out.mono ?_); rintro e w1 ⟨m, rfl, hm, hf1⟩; obtain ⟨ma, mc, rfl⟩ := hm.form; have HM1 := Lib.hid hm; have HF1 := Lib.hid hf1; clear hm hf1)
    | (go_at_call 15; (with_reducible refine (HRR.out _).mono ?_); rintro e w2 ⟨m2, rfl, hm2, hf2⟩; obtain ⟨m2a, m2c, rfl⟩ := hm2.form; have HN2 := Lib.hid hm2; have HM2 := Lib.hid (HM1.out.fr hf2); have HF2 := Lib.hid (HF1.out.trans hf2); clear hm2 hf2)
    | (go_at_call 13; (with_reducible refine (HSM.out _ _ _ HM2.out HN2.out).mono ?_); rintro e w3 ⟨rfl, hf3⟩; have HF3 := Lib.hid (HF2.out.trans hf3); clear hf3)
    | (go_at_call 10; (with_reducible refine (HSP.out _ HF3.out).mono ?_); rintro e w4 ⟨rfl, hf4⟩; have HF4 := Lib.hid (HF3.out.trans hf4); clear hf4))
  go_ret
  exact ⟨rfl, HF4.out⟩
theorem linesRead_any (s : ByteArray) (w : World) (hT : LT w) : Calls Tryz.prog 4 #[.string s] w (Truly w) := by
  by_cases hn : s.size ≤ 5000
  · have hs : s = bA s.data.toList := by apply ByteArray.ext; simp [bA]
    have hl : s.data.toList.length ≤ 5000 := by rw [Array.length_toList]; exact hn
    rw [hs]
    exact linesRead_walk _ w hl hT
  · exact linesRead_long s w (by omega) hT
end Go.Proofs.YthkdokkpiaaljaaGreatDoor
