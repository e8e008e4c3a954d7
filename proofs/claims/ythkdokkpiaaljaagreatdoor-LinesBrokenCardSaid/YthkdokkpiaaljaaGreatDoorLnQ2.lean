/- firewalllaw03.LinesAgain, LinesBroken, walked. -/
import Derived.Test.YthkdokkpiaaljaaGreatDoorLnQ1
set_option linter.all false
set_option linter.unusedVariables false
set_option linter.unusedSimpArgs false
namespace Go.Proofs.YthkdokkpiaaljaaGreatDoor
open Go.RowKit

set_option maxRecDepth 100000 in
set_option maxHeartbeats 1000000 in
theorem lagain_long (B : ByteArray) (w : World) (hn : 4000 < B.size) (hT : LT w) : Calls Tryz.prog 6 #[.string B] w (Truly w) := by
  have HS := Lib.hid (spoken_any w hT)
  have h1 : (4000 : Int) < (B.size : Int) := by omega
  clear hn hT
  go_enter Tryz.func6, Tryz.ntmps6
  go_wp2_with (go_at_call 10; (with_reducible refine HS.out.mono ?_); rintro e w1 ⟨rfl, hf1⟩)
  go_ret
  exact ⟨rfl, hf1⟩
set_option maxRecDepth 100000 in
set_option maxHeartbeats 1000000 in
theorem lagain_bad (s : List UInt8) (w : World) (hn : s.length ≤ 4000) (hT : LT w) (k : Nat) (er : Int) (hr : readS s = ([], k, er)) (hk : 1 ≤ k) (he : er = 10 ∨ er = 3) : Calls Tryz.prog 6 #[.string (bA s)] w (Truly w) := by
  have HSP : Hid (∀ W, Fr No w W → Calls Tryz.prog 10 #[] W fun e w' => e = .returned (.bool true) ∧ Fr No W w') := fun W hf => spoken_any W (hT.fr hf)
  have HRD : Hid (Calls Tryz.prog 14 #[.string (bA s)] w (ReadTo w ([], k, er))) := by
    have := lread_any s (by omega) w hT
    rw [hr] at this
    exact this
  have h1 : ¬ (4000 : Int) < ((bA s).size : Int) := by rw [bA_size]; omega
  have h4 : 0 < k := by omega
  clear hr hn hk hT
  generalize bA s = B at *
  rcases he with rfl | rfl
  · go_enter Tryz.func6, Tryz.ntmps6
    go_wp2_with (first
      | (go_at_call 14; (with_reducible refine HRD.out.mono ?_); rintro e w1 ⟨m, rfl, hm, hf1⟩; obtain ⟨ma, mc, rfl⟩ := hm.form; have HF1 := Lib.hid hf1; clear hm hf1)
      | (go_at_call 10; (with_reducible refine (HSP.out _ HF1.out).mono ?_); rintro e w2 ⟨rfl, hf2⟩; have HF2 := Lib.hid (HF1.out.trans hf2); clear hf2))
    go_ret
    exact ⟨rfl, HF2.out⟩
  · go_enter Tryz.func6, Tryz.ntmps6
    go_wp2_with (first
      | (go_at_call 14; (with_reducible refine HRD.out.mono ?_); rintro e w1 ⟨m, rfl, hm, hf1⟩; obtain ⟨ma, mc, rfl⟩ := hm.form; have HF1 := Lib.hid hf1; clear hm hf1)
      | (go_at_call 10; (with_reducible refine (HSP.out _ HF1.out).mono ?_); rintro e w2 ⟨rfl, hf2⟩; have HF2 := Lib.hid (HF1.out.trans hf2); clear hf2))
    go_ret
    exact ⟨rfl, HF2.out⟩
set_option maxRecDepth 100000 in
set_option maxHeartbeats 1000000 in
theorem lagain_good (s : List UInt8) (w : World) (hn : s.length ≤ 4000) (hT : LT w) (l : List Ins) (hr : readS s = (l, 0, 0)) (hl : l.length ≤ 64) (hok : ∀ i ∈ l, i.ok) : Calls Tryz.prog 6 #[.string (bA s)] w (Truly w) := by
  have HSP : Hid (∀ W, Fr No w W → Calls Tryz.prog 10 #[] W fun e w' => e = .returned (.bool true) ∧ Fr No W w') := fun W hf => spoken_any W (hT.fr hf)
  have HRD : Hid (Calls Tryz.prog 14 #[.string (bA s)] w (ReadTo w (l, 0, 0))) := by
    have := lread_any s (by omega) w hT
    rw [hr] at this
    exact this
  have hsz := show_size l hok
  have hq := show_read l hok hl
  have HSH : Hid (∀ W m, Fr No w W → InsAt W m l → Calls Tryz.prog 11 #[m] W fun e w' => e = .returned (.string (bA (showL l))) ∧ Fr No W w') := fun W m hf hm => lshow_any m l W hm hok (by omega) (hT.fr hf)
  have HR2 : Hid (∀ W, Fr No w W → Calls Tryz.prog 14 #[.string (bA (showL l))] W (ReadTo W (l, 0, 0))) := fun W hf => by
    have := lread_any (showL l) (by omega) W (hT.fr hf)
    rw [hq] at this
    exact this
  have HSM : Hid (∀ W m v, InsAt W m l → InsAt W v l → Calls Tryz.prog 13 #[m, v] W fun e w' => e = .returned (.bool true) ∧ Fr No W w') := fun W m v hm hv => isame_true m v l W hm hv (by omega)
  have h1 : ¬ (4000 : Int) < ((bA s).size : Int) := by rw [bA_size]; omega
  clear hr hn hl hT hok hsz hq
  generalize bA s = B at *
  generalize bA (showL l) = T at *
  go_enter Tryz.func6, Tryz.ntmps6
  go_wp2_with (first
    | (go_at_call 14; (with_reducible refine HRD.out.mono ?_); rintro e w1 ⟨m, rfl, hm, hf1⟩; obtain ⟨ma, mc, rfl⟩ := hm.form; have HM1 := Lib.hid hm; have HF1 := Lib.hid hf1; clear hm hf1)
    | (go_at_call 11; (with_reducible refine (HSH.out _ _ HF1.out HM1.out).mono ?_); rintro e w2 ⟨rfl, hf2⟩; have HM2 := Lib.hid (HM1.out.fr hf2); have HF2 := Lib.hid (HF1.out.trans hf2); clear hf2)
    | (go_at_call 14; (with_reducible refine (HR2.out _ HF2.out).mono ?_); rintro e w3 ⟨m3, rfl, hm3, hf3⟩; obtain ⟨m3a, m3c, rfl⟩ := hm3.form; have HN3 := Lib.hid hm3; have HM3 := Lib.hid (HM2.out.fr hf3); have HF3 := Lib.hid (HF2.out.trans hf3); clear hm3 hf3)
    | (go_at_call 13; (with_reducible refine (HSM.out _ _ _ HN3.out HM3.out).mono ?_); rintro e w4 ⟨rfl, hf4⟩; have HN4 := Lib.hid (HN3.out.fr hf4); have HF4 := Lib.hid (HF3.out.trans hf4); clear hf4)
    | (go_at_call 11; (with_reducible refine (HSH.out _ _ HF4.out HN4.out).mono ?_); rintro e w5 ⟨rfl, hf5⟩; have HF5 := Lib.hid (HF4.out.trans hf5); clear hf5)
    | (go_at_call 10; (with_reducible refine (HSP.out _ HF5.out).mono ?_); rintro e w6 ⟨rfl, hf6⟩; have HF6 := Lib.hid (HF5.out.trans hf6); clear hf6))
  go_ret
  exact ⟨rfl, HF6.out⟩
theorem linesAgain_any (s : ByteArray) (w : World) (hT : LT w) : Calls Tryz.prog 6 #[.string s] w (Truly w) := by
  by_cases hn : s.size ≤ 4000
  · have hs : s = bA s.data.toList := by apply ByteArray.ext; simp [bA]
    have hl : s.data.toList.length ≤ 4000 := by rw [Array.length_toList]; exact hn
    rw [hs]
    rcases readS_ok s.data.toList hl with ⟨l, hr, h64, hok⟩ | ⟨k, e, hr, hk, he⟩
    · exact lagain_good _ w hl hT l hr h64 hok
    · exact lagain_bad _ w hl hT k e hr hk he
  · exact lagain_long s w (by omega) hT
end Go.Proofs.YthkdokkpiaaljaaGreatDoor
