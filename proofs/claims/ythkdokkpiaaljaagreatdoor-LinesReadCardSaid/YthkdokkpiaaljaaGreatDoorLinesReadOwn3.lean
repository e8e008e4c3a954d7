/- firewalllaw03.LinesShow, LinesBack, LinesAgain, walked. firewalllaw03.LinesAgain, LinesBroken, walked. firewalllaw03.LinesBroken, walked. -/
import Derived.Test.YthkdokkpiaaljaaGreatDoorCore34
import Derived.Test.YthkdokkpiaaljaaGreatDoorCore38
import Derived.Test.YthkdokkpiaaljaaGreatDoorCore39
import Derived.Test.YthkdokkpiaaljaaGreatDoorCore7
import Derived.Test.YthkdokkpiaaljaaGreatDoorCore19
set_option linter.all false
set_option linter.unusedVariables false
set_option linter.unusedSimpArgs false
namespace Go.Proofs.YthkdokkpiaaljaaGreatDoor
open Go.RowKit

def Truly (w : World) (e : Ending) (w' : World) : Prop := e = .returned (.bool true) ∧ Fr No w w'

set_option maxRecDepth 100000 in
set_option maxHeartbeats 1000000 in
theorem lshow_long (v : Value) (l : List Ins) (w : World) (h : InsAt w v l) (hn : 300 < l.length) (hT : LT w) : Calls Tryz.prog 3 #[v] w (Truly w) := by
  have HS := Lib.hid (spoken_any w hT)
  obtain ⟨a, c, rfl⟩ := h.form
  have h1 : (300 : Int) < (l.length : Int) := by omega
  clear h hn hT
  generalize l.length = n at *
  go_enter Tryz.func3, Tryz.ntmps3
  go_wp2_with (go_at_call 10; (with_reducible refine HS.out.mono ?_); rintro e w1 ⟨rfl, hf1⟩)
  go_ret
  exact ⟨rfl, hf1⟩

set_option maxRecDepth 100000 in
set_option maxHeartbeats 1000000 in
theorem lshow_walk (v : Value) (l : List Ins) (w : World) (h : InsAt w v l) (hsrc : SrcAt w v l.length (iflat l)) (hok : ∀ i ∈ l, i.ok) (hn : l.length ≤ 300) (hT : LT w) : Calls Tryz.prog 3 #[v] w (Truly w) := by
  have HSP : Hid (∀ W, Fr No w W → Calls Tryz.prog 10 #[] W fun e w' => e = .returned (.bool true) ∧ Fr No W w') := fun W hf => spoken_any W (hT.fr hf)
  have HSH : Hid (∀ W m, Fr No w W → InsAt W m l → Calls Tryz.prog 11 #[m] W fun e w' => e = .returned (.string (bA (showL l))) ∧ Fr No W w') := fun W m hf hm => lshow_any m l W hm hok (by omega) (hT.fr hf)
  have HRS : Hid (∀ W, Fr No w W → Calls Tryz.prog 12 #[v] W fun e w' => e = .returned (.string (bA (showL l))) ∧ Fr No W w') := fun W hf => refshow_any v l W (h.fr hf) hok (by omega)
  have HSM : Hid (∀ W m, Fr No w W → InsAt W m l → Calls Tryz.prog 13 #[m, v] W fun e w' => e = .returned (.bool true) ∧ Fr No W w') := fun W m hf hm => isame_true m v l W hm (h.fr hf) (by omega)
  obtain ⟨i0, hi0, hz0, hz1, hz2⟩ := info_parts Tryz.infoL_ins
  have HSRC := Lib.hid hsrc
  obtain ⟨a, c, rfl⟩ := h.form
  have h1 : ¬ (300 : Int) < (l.length : Int) := by omega
  obtain ⟨n, hln⟩ : ∃ n, l.length = n := ⟨_, rfl⟩
  have HN := Lib.hid hln
  rw [hln] at hn h1 HSRC HRS HSM ⊢
  clear h hT hsrc hok hln
  go_enter Tryz.func3, Tryz.ntmps3
  go_wp2_with (first
    | (at_builtin; refine wpList_append_src rfl _ _ 22 rfl w.heap.size 51 i0 _ 5 12 Tryz.underlying22 hi0 hz0 hz1 hz2 rfl (by decide) (.slice none 0 0) 0 [] rfl (Gath.start w _ _).own _ n (iflat l) rfl HSRC.out (by rw [iflat_len, HN.out]) iflat_one (by unfold maxLen; omega) (by omega) (Nat.le_refl _) ?_; intro v' w5 own5 fr5; rw [Nat.zero_add] at own5; have HG5 : Hid (Gath w 51 5 n (iflat l) v' w5) := (by have := (Gath.start w 51 5).stepm (m := n) (news := iflat l) (by simpa using own5) fr5; exact Lib.hid (by simpa using this)); have HI5 : Hid (InsAt w5 v' l) := (by refine Gath.ins (w := w) (t := 51) ?_; rw [HN.out]; exact HG5.out); have HF5 := Lib.hid HG5.out.fr; obtain ⟨a5, c5, rfl⟩ := ownL_form own5; clear own5 fr5)
    | (go_at_call 11; (with_reducible refine (HSH.out _ _ HF5.out HI5.out).mono ?_); rintro e w6 ⟨rfl, hf6⟩; have HI6 := Lib.hid (HI5.out.fr hf6); have HF6 := Lib.hid (HF5.out.trans hf6); clear hf6)
    | (go_at_call 12; (with_reducible refine (HRS.out _ HF6.out).mono ?_); rintro e w7 ⟨rfl, hf7⟩; have HI7 := Lib.hid (HI6.out.fr hf7); have HF7 := Lib.hid (HF6.out.trans hf7); clear hf7)
    | (go_at_call 13; (with_reducible refine (HSM.out _ _ HF7.out HI7.out).mono ?_); rintro e w8 ⟨rfl, hf8⟩; have HF8 := Lib.hid (HF7.out.trans hf8); clear hf8)
    | (go_at_call 10; (with_reducible refine (HSP.out _ HF8.out).mono ?_); rintro e w9 ⟨rfl, hf9⟩; have HF9 := Lib.hid (HF8.out.trans hf9); clear hf9))
  go_ret
  exact ⟨rfl, HF9.out⟩
theorem linesShow_any (v : Value) (l : List Ins) (w : World) (h : InsAt w v l) (hsrc : SrcAt w v l.length (iflat l)) (hok : ∀ i ∈ l, i.ok) (hT : LT w) : Calls Tryz.prog 3 #[v] w (Truly w) := by
  by_cases hn : l.length ≤ 300
  · exact lshow_walk v l w h hsrc hok hn hT
  · exact lshow_long v l w h (by omega) hT

set_option maxRecDepth 100000 in
set_option maxHeartbeats 1000000 in
theorem lback_long (v : Value) (l : List Ins) (w : World) (h : InsAt w v l) (hn : 70 < l.length) (hT : LT w) : Calls Tryz.prog 5 #[v] w (Truly w) := by
  have HS := Lib.hid (spoken_any w hT)
  obtain ⟨a, c, rfl⟩ := h.form
  have h1 : (70 : Int) < (l.length : Int) := by omega
  clear h hn hT
  generalize l.length = n at *
  go_enter Tryz.func5, Tryz.ntmps5
  go_wp2_with (go_at_call 10; (with_reducible refine HS.out.mono ?_); rintro e w1 ⟨rfl, hf1⟩)
  go_ret
  exact ⟨rfl, hf1⟩

set_option maxRecDepth 100000 in
set_option maxHeartbeats 1000000 in
theorem lback_many (v : Value) (l : List Ins) (w : World) (h : InsAt w v l) (hok : ∀ i ∈ l, i.ok) (hn : 64 < l.length) (hn2 : l.length ≤ 70) (hT : LT w) : Calls Tryz.prog 5 #[v] w (Truly w) := by
  have HSP : Hid (∀ W, Fr No w W → Calls Tryz.prog 10 #[] W fun e w' => e = .returned (.bool true) ∧ Fr No W w') := fun W hf => spoken_any W (hT.fr hf)
  have hsz := show_size l hok
  have HSH : Hid (Calls Tryz.prog 11 #[v] w fun e w' => e = .returned (.string (bA (showL l))) ∧ Fr No w w') := lshow_any v l w h hok (by omega) hT
  obtain ⟨q, hq, hq1, hq2⟩ := show_long l hok hn hn2
  have HRD : Hid (∀ W, Fr No w W → Calls Tryz.prog 14 #[.string (bA (showL l))] W (ReadTo W ([], q, 3))) := fun W hf => by
    have := lread_any (showL l) (by omega) W (hT.fr hf)
    rw [hq] at this
    exact this
  obtain ⟨a, c, rfl⟩ := h.form
  have h1 : ¬ (70 : Int) < (l.length : Int) := by omega
  have h2 : (64 : Int) < (l.length : Int) := by omega
  have h3 : ((bA (showL l)).size : Int) ≤ 4000 := by rw [bA_size]; omega
  have h4 : 0 < q := by omega
  have h5 : (q : Int) ≤ 65 := by omega
  clear h hT hok hsz hn hn2 hq hq1 hq2
  generalize bA (showL l) = B at *
  generalize l.length = n at *
  go_enter Tryz.func5, Tryz.ntmps5
  go_wp2_with (first
    | (go_at_call 11; (with_reducible refine HSH.out.mono ?_); rintro e w1 ⟨rfl, hf1⟩; have HF1 := Lib.hid hf1; clear hf1)
    | (go_at_call 14; (with_reducible refine (HRD.out _ HF1.out).mono ?_); rintro e w2 ⟨m, rfl, hm, hf2⟩; obtain ⟨ma, mc, rfl⟩ := hm.form; have HF2 := Lib.hid (HF1.out.trans hf2); clear hm hf2)
    | (go_at_call 10; (with_reducible refine (HSP.out _ HF2.out).mono ?_); rintro e w3 ⟨rfl, hf3⟩; have HF3 := Lib.hid (HF2.out.trans hf3); clear hf3))
  go_ret
  exact ⟨rfl, HF3.out⟩

set_option maxRecDepth 100000 in
set_option maxHeartbeats 1000000 in
theorem lback_few (v : Value) (l : List Ins) (w : World) (h : InsAt w v l) (hok : ∀ i ∈ l, i.ok) (hn : l.length ≤ 64) (hT : LT w) : Calls Tryz.prog 5 #[v] w (Truly w) := by
  have HSP : Hid (∀ W, Fr No w W → Calls Tryz.prog 10 #[] W fun e w' => e = .returned (.bool true) ∧ Fr No W w') := fun W hf => spoken_any W (hT.fr hf)
  have hsz := show_size l hok
  have HSH : Hid (Calls Tryz.prog 11 #[v] w fun e w' => e = .returned (.string (bA (showL l))) ∧ Fr No w w') := lshow_any v l w h hok (by omega) hT
  have hq := show_read l hok hn
  have HRD : Hid (∀ W, Fr No w W → Calls Tryz.prog 14 #[.string (bA (showL l))] W (ReadTo W (l, 0, 0))) := fun W hf => by
    have := lread_any (showL l) (by omega) W (hT.fr hf)
    rw [hq] at this
    exact this
  have HSM : Hid (∀ W m, Fr No w W → InsAt W m l → Calls Tryz.prog 13 #[m, v] W fun e w' => e = .returned (.bool true) ∧ Fr No W w') := fun W m hf hm => isame_true m v l W hm (h.fr hf) (by omega)
  obtain ⟨a, c, rfl⟩ := h.form
  have h1 : ¬ (70 : Int) < (l.length : Int) := by omega
  have h2 : ¬ (64 : Int) < (l.length : Int) := by omega
  clear h hT hok hsz hn hq
  generalize bA (showL l) = B at *
  go_enter Tryz.func5, Tryz.ntmps5
  go_wp2_with (first
    | (go_at_call 11; (with_reducible refine HSH.out.mono ?_); rintro e w1 ⟨rfl, hf1⟩; have HF1 := Lib.hid hf1; clear hf1)
    | (go_at_call 14; (with_reducible refine (HRD.out _ HF1.out).mono ?_); rintro e w2 ⟨m, rfl, hm, hf2⟩; obtain ⟨ma, mc, rfl⟩ := hm.form; have HM := Lib.hid hm; have HF2 := Lib.hid (HF1.out.trans hf2); clear hm hf2)
    | (go_at_call 13; (with_reducible refine (HSM.out _ _ HF2.out HM.out).mono ?_); rintro e w3 ⟨rfl, hf3⟩; have HF3 := Lib.hid (HF2.out.trans hf3); clear hf3)
    | (go_at_call 10; (with_reducible refine (HSP.out _ HF3.out).mono ?_); rintro e w4 ⟨rfl, hf4⟩; have HF4 := Lib.hid (HF3.out.trans hf4); clear hf4))
  go_ret
  exact ⟨rfl, HF4.out⟩
theorem linesBack_any (v : Value) (l : List Ins) (w : World) (h : InsAt w v l) (hok : ∀ i ∈ l, i.ok) (hT : LT w) : Calls Tryz.prog 5 #[v] w (Truly w) := by
  by_cases hn : l.length ≤ 64
  · exact lback_few v l w h hok hn hT
  by_cases hn2 : l.length ≤ 70
  · exact lback_many v l w h hok (by omega) hn2 hT
  · exact lback_long v l w h (by omega) hT
end Go.Proofs.YthkdokkpiaaljaaGreatDoor

namespace Go.Proofs.YthkdokkpiaaljaaGreatDoor
open Go.RowKit

set_option maxRecDepth 100000 in
set_option maxHeartbeats 1000000 in
theorem lagain_long (B : ByteArray) (w : World) (hn : 4000 < B.size) (hT : LT w) : Calls Tryz.prog 6 #[.string B] w (Truly w) := by
  have HS := Lib.hid (spoken_any w hT)
  have h1 : (4000 : Int) < (B.size : Int) := by omega
  clear hn hT
  go_enter Tryz.func6, Tryz.ntmps6
  go_wp2_with (go_at_call 10; (with_reducible refine HS.out.mono ?_); rintro e w1 ⟨rfl, hf1⟩)
  go_ret
  exact ⟨rfl, hf1⟩
set_option maxRecDepth 100000 in
set_option maxHeartbeats 1000000 in
theorem lagain_bad (s : List UInt8) (w : World) (hn : s.length ≤ 4000) (hT : LT w) (k : Nat) (er : Int) (hr : readS s = ([], k, er)) (hk : 1 ≤ k) (he : er = 10 ∨ er = 3) : Calls Tryz.prog 6 #[.string (bA s)] w (Truly w) := by
  have HSP : Hid (∀ W, Fr No w W → Calls Tryz.prog 10 #[] W fun e w' => e = .returned (.bool true) ∧ Fr No W w') := fun W hf => spoken_any W (hT.fr hf)
  have HRD : Hid (Calls Tryz.prog 14 #[.string (bA s)] w (ReadTo w ([], k, er))) := by
    have := lread_any s (by omega) w hT
    rw [hr] at this
    exact this
  have h1 : ¬ (4000 : Int) < ((bA s).size : Int) := by rw [bA_size]; omega
  have h4 : 0 < k := by omega
  clear hr hn hk hT
  generalize bA s = B at *
  rcases he with rfl | rfl
  · go_enter Tryz.func6, Tryz.ntmps6
    go_wp2_with (first
      | (go_at_call 14; (with_reducible refine HRD.out.mono ?_); rintro e w1 ⟨m, rfl, hm, hf1⟩; obtain ⟨ma, mc, rfl⟩ := hm.form; have HF1 := Lib.hid hf1; clear hm hf1)
      | (go_at_call 10; (with_reducible refine (HSP.out _ HF1.out).mono ?_); rintro e w2 ⟨rfl, hf2⟩; have HF2 := Lib.hid (HF1.out.trans hf2); clear hf2))
    go_ret
    exact ⟨rfl, HF2.out⟩
  · go_enter Tryz.func6, Tryz.ntmps6
    go_wp2_with (first
      | (go_at_call 14; (with_reducible refine HRD.out.mono ?_); rintro e w1 ⟨m, rfl, hm, hf1⟩; obtain ⟨ma, mc, rfl⟩ := hm.form; have HF1 := Lib.hid hf1; clear hm hf1)
      | (go_at_call 10; (with_reducible refine (HSP.out _ HF1.out).mono ?_); rintro e w2 ⟨rfl, hf2⟩; have HF2 := Lib.hid (HF1.out.trans hf2); clear hf2))
    go_ret
    exact ⟨rfl, HF2.out⟩
set_option maxRecDepth 100000 in
set_option maxHeartbeats 1000000 in
theorem lagain_good (s : List UInt8) (w : World) (hn : s.length ≤ 4000) (hT : LT w) (l : List Ins) (hr : readS s = (l, 0, 0)) (hl : l.length ≤ 64) (hok : ∀ i ∈ l, i.ok) : Calls Tryz.prog 6 #[.string (bA s)] w (Truly w) := by
  have HSP : Hid (∀ W, Fr No w W → Calls Tryz.prog 10 #[] W fun e w' => e = .returned (.bool true) ∧ Fr No W w') := fun W hf => spoken_any W (hT.fr hf)
  have HRD : Hid (Calls Tryz.prog 14 #[.string (bA s)] w (ReadTo w (l, 0, 0))) := by
    have := lread_any s (by omega) w hT
    rw [hr] at this
    exact this
  have hsz := show_size l hok
  have hq := show_read l hok hl
  have HSH : Hid (∀ W m, Fr No w W → InsAt W m l → Calls Tryz.prog 11 #[m] W fun e w' => e = .returned (.string (bA (showL l))) ∧ Fr No W w') := fun W m hf hm => lshow_any m l W hm hok (by omega) (hT.fr hf)
  have HR2 : Hid (∀ W, Fr No w W → Calls Tryz.prog 14 #[.string (bA (showL l))] W (ReadTo W (l, 0, 0))) := fun W hf => by
    have := lread_any (showL l) (by omega) W (hT.fr hf)
    rw [hq] at this
    exact this
  have HSM : Hid (∀ W m v, InsAt W m l → InsAt W v l → Calls Tryz.prog 13 #[m, v] W fun e w' => e = .returned (.bool true) ∧ Fr No W w') := fun W m v hm hv => isame_true m v l W hm hv (by omega)
  have h1 : ¬ (4000 : Int) < ((bA s).size : Int) := by rw [bA_size]; omega
  clear hr hn hl hT hok hsz hq
  generalize bA s = B at *
  generalize bA (showL l) = T at *
  go_enter Tryz.func6, Tryz.ntmps6
  go_wp2_with (first
    | (go_at_call 14; (with_reducible refine HRD.out.mono ?_); rintro e w1 ⟨m, rfl, hm, hf1⟩; obtain ⟨ma, mc, rfl⟩ := hm.form; have HM1 := Lib.hid hm; have HF1 := Lib.hid hf1; clear hm hf1)
    | (go_at_call 11; (with_reducible refine (HSH.out _ _ HF1.out HM1.out).mono ?_); rintro e w2 ⟨rfl, hf2⟩; have HM2 := Lib.hid (HM1.out.fr hf2); have HF2 := Lib.hid (HF1.out.trans hf2); clear hf2)
    | (go_at_call 14; (with_reducible refine (HR2.out _ HF2.out).mono ?_); rintro e w3 ⟨m3, rfl, hm3, hf3⟩; obtain ⟨m3a, m3c, rfl⟩ := hm3.form; have HN3 := Lib.hid hm3; have HM3 := Lib.hid (HM2.out.fr hf3); have HF3 := Lib.hid (HF2.out.trans hf3); clear hm3 hf3)
    | (go_at_call 13; (with_reducible refine (HSM.out _ _ _ HN3.out HM3.out).mono ?_); rintro e w4 ⟨rfl, hf4⟩; have HN4 := Lib.hid (HN3.out.fr hf4); have HF4 := Lib.hid (HF3.out.trans hf4); clear hf4)
    | (go_at_call 11; (with_reducible refine (HSH.out _ _ HF4.out HN4.out).mono ?_); rintro e w5 ⟨rfl, hf5⟩; have HF5 := Lib.hid (HF4.out.trans hf5); clear hf5)
    | (go_at_call 10; (with_reducible refine (HSP.out _ HF5.out).mono ?_); rintro e w6 ⟨rfl, hf6⟩; have HF6 := Lib.hid (HF5.out.trans hf6); clear hf6))
  go_ret
  exact ⟨rfl, HF6.out⟩
theorem linesAgain_any (s : ByteArray) (w : World) (hT : LT w) : Calls Tryz.prog 6 #[.string s] w (Truly w) := by
  by_cases hn : s.size ≤ 4000
  · have hs : s = bA s.data.toList := by apply ByteArray.ext; simp [bA]
    have hl : s.data.toList.length ≤ 4000 := by rw [Array.length_toList]; exact hn
    rw [hs]
    rcases readS_ok s.data.toList hl with ⟨l, hr, h64, hok⟩ | ⟨k, e, hr, hk, he⟩
    · exact lagain_good _ w hl hT l hr h64 hok
    · exact lagain_bad _ w hl hT k e hr hk he
  · exact lagain_long s w (by omega) hT
end Go.Proofs.YthkdokkpiaaljaaGreatDoor

namespace Go.Proofs.YthkdokkpiaaljaaGreatDoor
open Go.RowKit

theorem or128 : ∀ c : Nat, c < 256 → (decide (128 ≤ (bits BinOp.or IntKind.u8 (c : Int) 128).toNat) && decide ((bits BinOp.or IntKind.u8 (c : Int) 128).toNat < 256) && decide (bits BinOp.or IntKind.u8 (c : Int) 128 = ((bits BinOp.or IntKind.u8 (c : Int) 128).toNat : Int))) = true := by decide +kernel

set_option maxRecDepth 100000 in
set_option maxHeartbeats 1000000 in
theorem lbroken_long (v x y : Value) (l : List Ins) (w : World) (h : InsAt w v l) (hn : 20 < l.length) (hT : LT w) : Calls Tryz.prog 8 #[v, x, y] w (Truly w) := by
  have HS := Lib.hid (spoken_any w hT)
  obtain ⟨a, c, rfl⟩ := h.form
  have h1 : (20 : Int) < (l.length : Int) := by omega
  clear h hn hT
  generalize l.length = n at *
  go_enter Tryz.func8, Tryz.ntmps8
  go_wp2_with (go_at_call 10; (with_reducible refine HS.out.mono ?_); rintro e w1 ⟨rfl, hf1⟩)
  go_ret
  exact ⟨rfl, hf1⟩

set_option maxRecDepth 100000 in
set_option maxHeartbeats 2000000 in
theorem lbroken_walk (v : Value) (c : Nat) (z : Bool) (l : List Ins) (w : World) (h : InsAt w v l) (hok : ∀ i ∈ l, i.ok) (hc : c < 256) (hn : l.length ≤ 20) (hT : LT w) : Calls Tryz.prog 8 #[v, .int .u8 c, .bool z] w (Truly w) := by
  have HSP : Hid (∀ W, Fr No w W → Calls Tryz.prog 10 #[] W fun e w' => e = .returned (.bool true) ∧ Fr No W w') := fun W hf => spoken_any W (hT.fr hf)
  have hsz := show_size l hok
  have HSH : Hid (Calls Tryz.prog 11 #[v] w fun e w' => e = .returned (.string (bA (showL l))) ∧ Fr No w w') := lshow_any v l w h hok (by omega) hT
  obtain ⟨x, hx⟩ : ∃ x, (bits BinOp.or IntKind.u8 (c : Int) 128).toNat = x := ⟨_, rfl⟩
  have hor := or128 c hc
  rw [hx] at hor
  simp only [Bool.and_eq_true, decide_eq_true_eq] at hor
  obtain ⟨⟨hx1, hx2⟩, hbits⟩ := hor
  obtain ⟨bad, hbad⟩ : ∃ bad, (if z then [59, UInt8.ofNat x] else [UInt8.ofNat x]) = bad := ⟨_, rfl⟩
  have h128 : 128 ≤ UInt8.ofNat x := by rw [UInt8.le_iff_toNat_le]; simp; omega
  have hne10 : UInt8.ofNat x ≠ 10 := by intro e; rw [e] at h128; exact absurd h128 (by decide)
  have hbr : readS (showL l ++ (bad ++ 10 :: [101, 120, 105, 116, 10])) = ([], (showL l).count 10 + 1, 10) := by
    refine broken l hok hn bad [101, 120, 105, 116, 10] ?_ ?_ ?_
    · subst hbad
      cases z
      · exact slots_high _ h128
      · exact slots_high2 _ h128
    · subst hbad
      cases z
      · simpa using hne10.symm
      · simp only [if_true, List.mem_cons, List.not_mem_nil, or_false, not_or]
        exact ⟨by decide, hne10.symm⟩
    · subst hbad
      cases z <;> simp
  obtain ⟨many, hmany⟩ : ∃ many, (showL l).count 10 = many := ⟨_, rfl⟩
  rw [hmany] at hbr
  obtain ⟨S, hS⟩ : ∃ S, showL l = S := ⟨_, rfl⟩
  rw [hS] at hbr HSH hmany hsz
  have hS820 : S.length ≤ 820 := by omega
  have HRD : Hid (∀ W, Fr No w W → Calls Tryz.prog 14 #[.string (bA (S ++ (bad ++ 10 :: [101, 120, 105, 116, 10])))] W (ReadTo W ([], many + 1, 10))) := fun W hf => by
    have := lread_any (S ++ (bad ++ 10 :: [101, 120, 105, 116, 10])) (by subst hbad; cases z <;> simp <;> omega) W (hT.fr hf)
    rw [hbr] at this
    exact this
  have HMA := Lib.hid hmany
  have hm820 : many ≤ 820 := by rw [← hmany]; exact Nat.le_trans List.count_le_length hS820
  have HAL : Hid (∀ o W, Fr No w W → Fr No w (W.alloc o)) := fun o W h => h.alloc o
  have hcv := fun W => one_str W x hx2
  obtain ⟨a, ca, rfl⟩ := h.form
  have h1 : ¬ (20 : Int) < (l.length : Int) := by omega
  have sB : (bA S).size ≤ 1000 := by rw [bA_size]; omega
  have sX : (⟨#[UInt8.ofNat x]⟩ : ByteArray).size ≤ 1000 := by show 1 ≤ 1000; omega
  have ad1 := addB (⟨#[59]⟩ : ByteArray) (⟨#[UInt8.ofNat x]⟩ : ByteArray) (by decide) (by omega)
  have e1 : (⟨#[59]⟩ : ByteArray) ++ (⟨#[UInt8.ofNat x]⟩ : ByteArray) = bA [59, UInt8.ofNat x] := rfl
  rw [e1] at ad1
  have ad2 := addB (bA S) (bA bad) (by omega) (by rw [bA_size]; subst hbad; cases z <;> simp)
  rw [bA_app] at ad2
  have ad3 := addB (bA (S ++ bad)) (⟨#[10, 101, 120, 105, 116, 10]⟩ : ByteArray) (by rw [bA_size]; subst hbad; cases z <;> simp <;> omega) (by decide)
  have e3 : bA (S ++ bad) ++ (⟨#[10, 101, 120, 105, 116, 10]⟩ : ByteArray) = bA (S ++ (bad ++ 10 :: [101, 120, 105, 116, 10])) := by
    show bA (S ++ bad) ++ bA [10, 101, 120, 105, 116, 10] = _
    rw [bA_app, List.append_assoc]
  rw [e3] at ad3
  have fm : IntKind.i64.wrap ((many : Int) + 1) = ((many + 1 : Nat) : Int) := by rw [IntWalk.i64_in _ (by omega)]; omega
  have hsb : ((bA S).size : Int) = (S.length : Int) := by rw [bA_size]
  clear h hT hok hsz hn hbr hx hx1 hx2 h128 hne10 hS hc e1 e3 hmany
  cases z with
  | false =>
    have hbad : [UInt8.ofNat x] = bad := hbad
    subst hbad
    have eb : (⟨#[UInt8.ofNat x]⟩ : ByteArray) = bA [UInt8.ofNat x] := rfl
    rw [eb] at hcv
    have HS1 : Hid (S.length ≤ 820) := hS820
    have HFR : Hid (∀ o W, Fr No W (W.alloc o)) := fun o W => (Fr.refl _ _).alloc o
    generalize bA (S ++ ([UInt8.ofNat x] ++ 10 :: [101, 120, 105, 116, 10])) = T at *
    generalize bA (S ++ [UInt8.ofNat x]) = T2 at *
    generalize bA [UInt8.ofNat x] = T1 at *
    clear eb ad1 sX hS820
    go_enter Tryz.func8, Tryz.ntmps8
    go_wp2_with (go_at_call 11; (with_reducible refine HSH.out.mono ?_); rintro e w1 ⟨rfl, hf1⟩; have HF1 := Lib.hid hf1; clear hf1)
    go_loopw [8, 9] (fun s8 s9 wr => ∃ (k m : Nat), k ≤ S.length ∧ s9 = .int .i64 k ∧ s8 = .int .i64 m ∧ m ≤ k ∧ Hid ((S.take k).count 10 = m) ∧ w1 = wr) (fun _ s9 _ => S.length - (intOf s9).toNat)
    case atStart => exact ⟨0, 0, Nat.zero_le _, rfl, rfl, Nat.le_refl _, Lib.hid (by simp), rfl⟩
    case round =>
      obtain ⟨k, m, hk, rfl, rfl, hmk, HM, rfl⟩ := hrel
      have h820 := HS1.out
      by_cases hlt : k < S.length
      · have p1 : (k : Int) < ((bA S).size : Int) := by omega
        have p2 : k < (bA S).size := by omega
        obtain ⟨ch, hch⟩ : ∃ ch, S[k] = ch := ⟨_, rfl⟩
        have hB : ((bA S)[k]'p2).toNat = ch.toNat := by subst hch; rfl
        have e10 : ((ch.toNat : Int) == 10) = decide (ch = 10) := by
          have := eq8 ch 10 (by omega)
          rw [show (10 : UInt8) = UInt8.ofNat 10 from rfl]
          rw [Bool.eq_iff_iff, beq_iff_eq, decide_eq_true_eq, this]
          omega
        have HT1 : Hid ((S.take (k + 1)).count 10 = m + if ch = 10 then 1 else 0) := by
          rw [List.take_add_one, List.getElem?_eq_getElem hlt, show S[k]'hlt = ch from hch, Option.toList_some, List.count_append, HM.out]
          by_cases h : ch = 10
          · subst h; exact Lib.hid rfl
          · rw [if_neg h, List.count_singleton]; rw [if_neg (by simpa using h)]; exact Lib.hid rfl
        have HLT := Lib.hid hlt
        clear hch hlt
        generalize ch.toNat = zc at *
        by_cases h10 : ch = 10
        · rw [if_pos h10] at HT1
          have q10 : ((zc : Int) == 10) = true := by rw [e10]; simpa using h10
          clear e10 h10
          go_wp2_with fail
          go_roundw
          case rel => exact ⟨k + 1, m + 1, HLT.out, by go_num, by go_num, by omega, HT1, by first | rfl | trivial⟩
          case measure => have := HLT.out; simp [intOf] <;> omega
        · rw [if_neg h10] at HT1
          have q10 : ((zc : Int) == 10) = false := by rw [e10]; simpa using h10
          clear e10 h10
          go_wp2_with fail
          go_roundw
          case rel => exact ⟨k + 1, m, HLT.out, by go_num, rfl, by omega, HT1, by first | rfl | trivial⟩
          case measure => have := HLT.out; simp [intOf] <;> omega
      · obtain rfl : k = S.length := by omega
        obtain rfl : many = m := by rw [← HM.out, ← HMA.out, List.take_length]
        have p1 : ¬ (S.length : Int) < ((bA S).size : Int) := by omega
        have q3 : ((many : Int) + 1 == (many : Int) + 1) = true := beq_self_eq_true _
        clear hlt
        go_wp2_with (first
          | (go_at_call 14; (with_reducible refine (HRD.out _ (HF1.out.trans (HFR.out _ _))).mono ?_); rintro e w2 ⟨m2, rfl, hm2, hf2⟩; obtain ⟨ma, mc, rfl⟩ := hm2.form; have HF2 := Lib.hid ((HF1.out.trans (HFR.out _ _)).trans hf2); clear hm2 hf2)
          | (go_at_call 10; (with_reducible refine (HSP.out _ HF2.out).mono ?_); rintro e w3 ⟨rfl, hf3⟩; have HF3 := Lib.hid (HF2.out.trans hf3); clear hf3))
        go_ret
        exact ⟨rfl, HF3.out⟩
  | true =>
    have hbad : [59, UInt8.ofNat x] = bad := hbad
    subst hbad
    have HS1 : Hid (S.length ≤ 820) := hS820
    have HFR : Hid (∀ o W, Fr No W (W.alloc o)) := fun o W => (Fr.refl _ _).alloc o
    generalize bA (S ++ ([59, UInt8.ofNat x] ++ 10 :: [101, 120, 105, 116, 10])) = T at *
    generalize bA (S ++ [59, UInt8.ofNat x]) = T2 at *
    generalize bA [59, UInt8.ofNat x] = T1 at *
    clear sX hS820
    go_enter Tryz.func8, Tryz.ntmps8
    go_wp2_with (go_at_call 11; (with_reducible refine HSH.out.mono ?_); rintro e w1 ⟨rfl, hf1⟩; have HF1 := Lib.hid hf1; clear hf1)
    go_loopw [8, 9] (fun s8 s9 wr => ∃ (k m : Nat), k ≤ S.length ∧ s9 = .int .i64 k ∧ s8 = .int .i64 m ∧ m ≤ k ∧ Hid ((S.take k).count 10 = m) ∧ w1 = wr) (fun _ s9 _ => S.length - (intOf s9).toNat)
    case atStart => exact ⟨0, 0, Nat.zero_le _, rfl, rfl, Nat.le_refl _, Lib.hid (by simp), rfl⟩
    case round =>
      obtain ⟨k, m, hk, rfl, rfl, hmk, HM, rfl⟩ := hrel
      have h820 := HS1.out
      by_cases hlt : k < S.length
      · have p1 : (k : Int) < ((bA S).size : Int) := by omega
        have p2 : k < (bA S).size := by omega
        obtain ⟨ch, hch⟩ : ∃ ch, S[k] = ch := ⟨_, rfl⟩
        have hB : ((bA S)[k]'p2).toNat = ch.toNat := by subst hch; rfl
        have e10 : ((ch.toNat : Int) == 10) = decide (ch = 10) := by
          have := eq8 ch 10 (by omega)
          rw [show (10 : UInt8) = UInt8.ofNat 10 from rfl]
          rw [Bool.eq_iff_iff, beq_iff_eq, decide_eq_true_eq, this]
          omega
        have HT1 : Hid ((S.take (k + 1)).count 10 = m + if ch = 10 then 1 else 0) := by
          rw [List.take_add_one, List.getElem?_eq_getElem hlt, show S[k]'hlt = ch from hch, Option.toList_some, List.count_append, HM.out]
          by_cases h : ch = 10
          · subst h; exact Lib.hid rfl
          · rw [if_neg h, List.count_singleton]; rw [if_neg (by simpa using h)]; exact Lib.hid rfl
        have HLT := Lib.hid hlt
        clear hch hlt
        generalize ch.toNat = zc at *
        by_cases h10 : ch = 10
        · rw [if_pos h10] at HT1
          have q10 : ((zc : Int) == 10) = true := by rw [e10]; simpa using h10
          clear e10 h10
          go_wp2_with fail
          go_roundw
          case rel => exact ⟨k + 1, m + 1, HLT.out, by go_num, by go_num, by omega, HT1, by first | rfl | trivial⟩
          case measure => have := HLT.out; simp [intOf] <;> omega
        · rw [if_neg h10] at HT1
          have q10 : ((zc : Int) == 10) = false := by rw [e10]; simpa using h10
          clear e10 h10
          go_wp2_with fail
          go_roundw
          case rel => exact ⟨k + 1, m, HLT.out, by go_num, rfl, by omega, HT1, by first | rfl | trivial⟩
          case measure => have := HLT.out; simp [intOf] <;> omega
      · obtain rfl : k = S.length := by omega
        obtain rfl : many = m := by rw [← HM.out, ← HMA.out, List.take_length]
        have p1 : ¬ (S.length : Int) < ((bA S).size : Int) := by omega
        have q3 : ((many : Int) + 1 == (many : Int) + 1) = true := beq_self_eq_true _
        clear hlt
        go_wp2_with (first
          | (go_at_call 14; (with_reducible refine (HRD.out _ (HF1.out.trans (HFR.out _ _))).mono ?_); rintro e w2 ⟨m2, rfl, hm2, hf2⟩; obtain ⟨ma, mc, rfl⟩ := hm2.form; have HF2 := Lib.hid ((HF1.out.trans (HFR.out _ _)).trans hf2); clear hm2 hf2)
          | (go_at_call 10; (with_reducible refine (HSP.out _ HF2.out).mono ?_); rintro e w3 ⟨rfl, hf3⟩; have HF3 := Lib.hid (HF2.out.trans hf3); clear hf3))
        go_ret
        exact ⟨rfl, HF3.out⟩
theorem linesBroken_any (v : Value) (c : Nat) (z : Bool) (l : List Ins) (w : World) (h : InsAt w v l) (hok : ∀ i ∈ l, i.ok) (hc : c < 256) (hT : LT w) : Calls Tryz.prog 8 #[v, .int .u8 c, .bool z] w (Truly w) := by
  by_cases hn : l.length ≤ 20
  · exact lbroken_walk v c z l w h hok hc hn hT
  · exact lbroken_long v _ _ l w h (by omega) hT
end Go.Proofs.YthkdokkpiaaljaaGreatDoor
