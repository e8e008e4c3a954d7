/- firewalllaw03.LinesShow, LinesBack, LinesAgain, walked. -/
import Derived.Test.YthkdokkpiaaljaaGreatDoorCore34
import Derived.Test.YthkdokkpiaaljaaGreatDoorCore38
import Derived.Test.YthkdokkpiaaljaaGreatDoorCore39
import Derived.Test.YthkdokkpiaaljaaGreatDoorCore7
import Derived.Test.YthkdokkpiaaljaaGreatDoorCore19
set_option linter.all false
set_option linter.unusedVariables false
set_option linter.unusedSimpArgs false
namespace Go.Proofs.YthkdokkpiaaljaaGreatDoor
open Go.RowKit

def Truly (w : World) (e : Ending) (w' : World) : Prop := e = .returned (.bool true) ∧ Fr No w w'

set_option maxRecDepth 100000 in
set_option maxHeartbeats 1000000 in
theorem lshow_long (v : Value) (l : List Ins) (w : World) (h : InsAt w v l) (hn : 300 < l.length) (hT : LT w) : Calls Tryz.prog 3 #[v] w (Truly w) := by
  have HS := Lib.hid (spoken_any w hT)
  obtain ⟨a, c, rfl⟩ := h.form
  have h1 : (300 : Int) < (l.length : Int) := by omega
  clear h hn hT
  generalize l.length = n at *
  go_enter Tryz.func3, Tryz.ntmps3
  go_wp2_with (go_at_call 10; (with_reducible refine HS.out.mono ?_); rintro e w1 ⟨rfl, hf1⟩)
  go_ret
  exact ⟨rfl, hf1⟩

set_option maxRecDepth 100000 in
set_option maxHeartbeats 1000000 in
theorem lshow_walk (v : Value) (l : List Ins) (w : World) (h : InsAt w v l) (hsrc : SrcAt w v l.length (iflat l)) (hok : ∀ i ∈ l, i.ok) (hn : l.length ≤ 300) (hT : LT w) : Calls Tryz.prog 3 #[v] w (Truly w) := by
  have HSP : Hid (∀ W, Fr No w W → Calls Tryz.prog 10 #[] W fun e w' => e = .returned (.bool true) ∧ Fr No W w') := fun W hf => spoken_any W (hT.fr hf)
  have HSH : Hid (∀ W m, Fr No w W → InsAt W m l → Calls Tryz.prog 11 #[m] W fun e w' => e = .returned (.string (bA (showL l))) ∧ Fr No W w') := fun W m hf hm => lshow_any m l W hm hok (by omega) (hT.fr hf)
  have HRS : Hid (∀ W, Fr No w W → Calls Tryz.prog 12 #[v] W fun e w' => e = .returned (.string (bA (showL l))) ∧ Fr No W w') := fun W hf => refshow_any v l W (h.fr hf) hok (by omega)
  have HSM : Hid (∀ W m, Fr No w W → InsAt W m l → Calls Tryz.prog 13 #[m, v] W fun e w' => e = .returned (.bool true) ∧ Fr No W w') := fun W m hf hm => isame_true m v l W hm (h.fr hf) (by omega)
  obtain ⟨i0, hi0, hz0, hz1, hz2⟩ := info_parts Tryz.infoL_ins
  have HSRC := Lib.hid hsrc
  obtain ⟨a, c, rfl⟩ := h.form
  have h1 : ¬ (300 : Int) < (l.length : Int) := by omega
  obtain ⟨n, hln⟩ : ∃ n, l.length = n := ⟨_, rfl⟩
  have HN := Lib.hid hln
  rw [hln] at hn h1 HSRC HRS HSM ⊢
  clear h hT hsrc hok hln
  go_enter Tryz.func3, Tryz.ntmps3
  go_wp2_with (first
    | (at_builtin; refine wpList_append_src rfl _ _ 22 rfl w.heap.size 51 i0 _ 5 12 Tryz.underlying22 hi0 hz0 hz1 hz2 rfl (by decide) (.slice none 0 0) 0 [] rfl (Gath.start w _ _).own _ n (iflat l) rfl HSRC.out (by rw [iflat_len, HN.out]) iflat_one (by unfold maxLen; omega) (by omega) (Nat.le_refl _) ?_; intro v' w5 own5 fr5; rw [Nat.zero_add] at own5; have HG5 : Hid (Gath w 51 5 n (iflat l) v' w5) := (by have := (Gath.start w 51 5).stepm (m := n) (news := iflat l) (by simpa using own5) fr5; exact Lib.hid (by simpa using this)); have HI5 : Hid (InsAt w5 v' l) := (by refine Gath.ins (w := w) (t := 51) ?_; rw [HN.out]; exact HG5.out); have HF5 := Lib.hid HG5.out.fr; obtain ⟨a5, c5, rfl⟩ := ownL_form own5; clear own5 fr5)
    | (go_at_call 11; (with_reducible refine (HSH.out _ _ HF5.out HI5.out).mono ?_); rintro e w6 ⟨rfl, hf6⟩; have HI6 := Lib.hid (HI5.out.fr hf6); have HF6 := Lib.hid (HF5.out.trans hf6); clear hf6)
    | (go_at_call 12; (with_reducible refine (HRS.out _ HF6.out).mono ?_); rintro e w7 ⟨rfl, hf7⟩; have HI7 := Lib.hid (HI6.out.fr hf7); have HF7 := Lib.hid (HF6.out.trans hf7); clear hf7)
    | (go_at_call 13; (with_reducible refine (HSM.out _ _ HF7.out HI7.out).mono ?_); rintro e w8 ⟨rfl, hf8⟩; have HF8 := Lib.hid (HF7.out.trans hf8); clear hf8)
    | (go_at_call 10; (with_reducible refine (HSP.out _ HF8.out).mono ?_); rintro e w9 ⟨rfl, hf9⟩; have HF9 := Lib.hid (HF8.out.trans hf9); clear hf9))
  go_ret
  exact ⟨rfl, HF9.out⟩
theorem linesShow_any (v : Value) (l : List Ins) (w : World) (h : InsAt w v l) (hsrc : SrcAt w v l.length (iflat l)) (hok : ∀ i ∈ l, i.ok) (hT : LT w) : Calls Tryz.prog 3 #[v] w (Truly w) := by
  by_cases hn : l.length ≤ 300
  · exact lshow_walk v l w h hsrc hok hn hT
  · exact lshow_long v l w h (by omega) hT

set_option maxRecDepth 100000 in
set_option maxHeartbeats 1000000 in
theorem lback_long (v : Value) (l : List Ins) (w : World) (h : InsAt w v l) (hn : 70 < l.length) (hT : LT w) : Calls Tryz.prog 5 #[v] w (Truly w) := by
  have HS := Lib.hid (spoken_any w hT)
  obtain ⟨a, c, rfl⟩ := h.form
  have h1 : (70 : Int) < (l.length : Int) := by omega
  clear h hn hT
  generalize l.length = n at *
  go_enter Tryz.func5, Tryz.ntmps5
  go_wp2_with (go_at_call 10; (with_reducible refine HS.out.mono ?_); rintro e w1 ⟨rfl, hf1⟩)
  go_ret
  exact ⟨rfl, hf1⟩

set_option maxRecDepth 100000 in
set_option maxHeartbeats 1000000 in
theorem lback_many (v : Value) (l : List Ins) (w : World) (h : InsAt w v l) (hok : ∀ i ∈ l, i.ok) (hn : 64 < l.length) (hn2 : l.length ≤ 70) (hT : LT w) : Calls Tryz.prog 5 #[v] w (Truly w) := by
  have HSP : Hid (∀ W, Fr No w W → Calls Tryz.prog 10 #[] W fun e w' => e = .returned (.bool true) ∧ Fr No W w') := fun W hf => spoken_any W (hT.fr hf)
  have hsz := show_size l hok
  have HSH : Hid (Calls Tryz.prog 11 #[v] w fun e w' => e = .returned (.string (bA (showL l))) ∧ Fr No w w') := lshow_any v l w h hok (by omega) hT
  obtain ⟨q, hq, hq1, hq2⟩ := show_long l hok hn hn2
  have HRD : Hid (∀ W, Fr No w W → Calls Tryz.prog 14 #[.string (bA (showL l))] W (ReadTo W ([], q, 3))) := fun W hf => by
    have := lread_any (showL l) (by omega) W (hT.fr hf)
    rw [hq] at this
    exact this
  obtain ⟨a, c, rfl⟩ := h.form
  have h1 : ¬ (70 : Int) < (l.length : Int) := by omega
  have h2 : (64 : Int) < (l.length : Int) := by omega
  have h3 : ((bA (showL l)).size : Int) ≤ 4000 := by rw [bA_size]; omega
  have h4 : 0 < q := by omega
  have h5 : (q : Int) ≤ 65 := by omega
  clear h hT hok hsz hn hn2 hq hq1 hq2
  generalize bA (showL l) = B at *
  generalize l.length = n at *
  go_enter Tryz.func5, Tryz.ntmps5
  go_wp2_with (first
    | (go_at_call 11; (with_reducible refine HSH.out.mono ?_); rintro e w1 ⟨rfl, hf1⟩; have HF1 := Lib.hid hf1; clear hf1)
    | (go_at_call 14; (with_reducible refine (HRD.out _ HF1.out).mono ?_); rintro e w2 ⟨m, rfl, hm, hf2⟩; obtain ⟨ma, mc, rfl⟩ := hm.form; have HF2 := Lib.hid (HF1.out.trans hf2); clear hm hf2)
    | (go_at_call 10; (with_reducible refine (HSP.out _ HF2.out).mono ?_); rintro e w3 ⟨rfl, hf3⟩; have HF3 := Lib.hid (HF2.out.trans hf3); clear hf3))
  go_ret
  exact ⟨rfl, HF3.out⟩

set_option maxRecDepth 100000 in
set_option maxHeartbeats 1000000 in
theorem lback_few (v : Value) (l : List Ins) (w : World) (h : InsAt w v l) (hok : ∀ i ∈ l, i.ok) (hn : l.length ≤ 64) (hT : LT w) : Calls Tryz.prog 5 #[v] w (Truly w) := by
  have HSP : Hid (∀ W, Fr No w W → Calls Tryz.prog 10 #[] W fun e w' => e = .returned (.bool true) ∧ Fr No W w') := fun W hf => spoken_any W (hT.fr hf)
  have hsz := show_size l hok
  have HSH : Hid (Calls Tryz.prog 11 #[v] w fun e w' => e = .returned (.string (bA (showL l))) ∧ Fr No w w') := lshow_any v l w h hok (by omega) hT
  have hq := show_read l hok hn
  have HRD : Hid (∀ W, Fr No w W → Calls Tryz.prog 14 #[.string (bA (showL l))] W (ReadTo W (l, 0, 0))) := fun W hf => by
    have := lread_any (showL l) (by omega) W (hT.fr hf)
    rw [hq] at this
    exact this
  have HSM : Hid (∀ W m, Fr No w W → InsAt W m l → Calls Tryz.prog 13 #[m, v] W fun e w' => e = .returned (.bool true) ∧ Fr No W w') := fun W m hf hm => isame_true m v l W hm (h.fr hf) (by omega)
  obtain ⟨a, c, rfl⟩ := h.form
  have h1 : ¬ (70 : Int) < (l.length : Int) := by omega
  have h2 : ¬ (64 : Int) < (l.length : Int) := by omega
  clear h hT hok hsz hn hq
  generalize bA (showL l) = B at *
  go_enter Tryz.func5, Tryz.ntmps5
  go_wp2_with (first
    | (go_at_call 11; (with_reducible refine HSH.out.mono ?_); rintro e w1 ⟨rfl, hf1⟩; have HF1 := Lib.hid hf1; clear hf1)
    | (go_at_call 14; (with_reducible refine (HRD.out _ HF1.out).mono ?_); rintro e w2 ⟨m, rfl, hm, hf2⟩; obtain ⟨ma, mc, rfl⟩ := hm.form; have HM := Lib.hid hm; have HF2 := Lib.hid (HF1.out.trans hf2); clear hm hf2)
    | (go_at_call 13; (with_reducible refine (HSM.out _ _ HF2.out HM.out).mono ?_); rintro e w3 ⟨rfl, hf3⟩; have HF3 := Lib.hid (HF2.out.trans hf3); clear hf3)
    | (go_at_call 10; (with_reducible refine (HSP.out _ HF3.out).mono ?_); rintro e w4 ⟨rfl, hf4⟩; have HF4 := Lib.hid (HF3.out.trans hf4); clear hf4))
  go_ret
  exact ⟨rfl, HF4.out⟩
theorem linesBack_any (v : Value) (l : List Ins) (w : World) (h : InsAt w v l) (hok : ∀ i ∈ l, i.ok) (hT : LT w) : Calls Tryz.prog 5 #[v] w (Truly w) := by
  by_cases hn : l.length ≤ 64
  · exact lback_few v l w h hok hn hT
  by_cases hn2 : l.length ≤ 70
  · exact lback_many v l w h hok (by omega) hn2 hT
  · exact lback_long v l w h (by omega) hT
end Go.Proofs.YthkdokkpiaaljaaGreatDoor
