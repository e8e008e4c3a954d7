/- firewallref03.words: a line's words. firewallref03.parse: a word's number. firewallref03.field: a word as a field. -/
import Derived.Test.YthkdokkpiaaljaaGreatDoorLnX1
import Derived.Test.YthkdokkpiaaljaaGreatDoorCore29
import Derived.Test.YthkdokkpiaaljaaGreatDoorCore27
set_option linter.all false
set_option linter.unusedVariables false
set_option linter.unusedSimpArgs false
namespace Go.Proofs.YthkdokkpiaaljaaGreatDoor
open Go.RowKit

theorem WF1_stuck {s : List UInt8} {over : Bool} {word : List UInt8} {acc : List (List UInt8)} (h0 : s ≠ []) (hc : charN s = 0) : WF1 s over word acc = none := by
  obtain ⟨m, hm⟩ : ∃ m, s.length = m + 1 := ⟨s.length - 1, by have := List.length_pos_iff.2 h0; omega⟩
  unfold WF1
  rw [hm]
  unfold wordsF
  rw [if_neg h0, if_pos hc]
def WdSt (s : List UInt8) (pos : Nat) (over : Bool) (word : List UInt8) (acc : List (List UInt8)) : Prop := pos ≤ s.length ∧ word.length ≤ pos ∧ acc.length ≤ pos ∧ WF1 (s.drop pos) over word acc = wordsL s
theorem WdSt.start (s : List UInt8) : WdSt s 0 false [] [] := ⟨Nat.zero_le _, Nat.le_refl _, Nat.le_refl _, rfl⟩
theorem charN_drop {s : List UInt8} {pos : Nat} (h : pos ≤ s.length) : pos + charN (s.drop pos) ≤ s.length := by
  have := charN_le (s.drop pos)
  rw [List.length_drop] at this
  omega
theorem WdSt.none {s : List UInt8} {pos : Nat} {over : Bool} {word : List UInt8} {acc : List (List UInt8)} (h : WdSt s pos over word acc) (hp : pos < s.length) (hc : charN (s.drop pos) = 0) : wordsL s = none := by
  rw [← h.2.2.2]
  exact WF1_stuck (fun e => by have := congrArg List.length e; simp at this; omega) hc
theorem WdSt.stop {s : List UInt8} {pos n : Nat} {over : Bool} {word C : List UInt8} {acc : List (List UInt8)} (h : WdSt s pos over word acc) (hn : charN (s.drop pos) = n) (h0 : n ≠ 0) (hC : (s.drop pos).take n = C) (hs : (over || C == [59] || blankB C) = true) : WdSt s (pos + n) (over || C == [59]) [] (pushW word acc) := by
  have hl := charN_drop h.1
  have e := h.2.2.2
  rw [WF1_char n _ _ _ _ hn h0, hC, if_pos hs, List.drop_drop] at e
  refine ⟨by omega, by simp, ?_, e⟩
  have := h.2.2.1
  unfold pushW
  split
  · omega
  · simp; omega
theorem WdSt.go {s : List UInt8} {pos n : Nat} {over : Bool} {word C : List UInt8} {acc : List (List UInt8)} (h : WdSt s pos over word acc) (hn : charN (s.drop pos) = n) (h0 : n ≠ 0) (hC : (s.drop pos).take n = C) (hs : (over || C == [59] || blankB C) = false) : WdSt s (pos + n) false (word ++ C) acc := by
  have hl := charN_drop h.1
  have e := h.2.2.2
  rw [WF1_char n _ _ _ _ hn h0, hC, hs, if_neg (by simp), List.drop_drop] at e
  refine ⟨by omega, ?_, by have := h.2.2.1; omega, e⟩
  have := h.2.1
  have : C.length ≤ n := by rw [← hC, List.length_take]; omega
  simp only [List.length_append]
  omega
theorem WdSt.done {s : List UInt8} {over : Bool} {word : List UInt8} {acc : List (List UInt8)} (h : WdSt s s.length over word acc) : wordsL s = some (pushW word acc) := by
  rw [← h.2.2.2, List.drop_of_length_le (Nat.le_refl _)]
  rfl
theorem refchar_any (s : List UInt8) (a : Nat) (ha : a < s.length) (hs : s.length ≤ 100000) (w : World) : Calls Tryz.prog 73 #[.string (bA s), .int .i64 a] w fun e w' => e = .returned (.int .i64 ((charN (s.drop a) : Nat) : Int)) ∧ w = w' := by
  rw [← char_chr s a ha]
  exact char_any (bA s) a (by rw [bA_size]; exact ha) (by rw [bA_size]; exact hs) w

theorem bA_beq (C d : List UInt8) : ((bA C).toList == d) = (C == d) := by rw [show bA C = (⟨C.toArray⟩ : ByteArray) from rfl, Lib.toList_data]
/-- what words hands back -/
def WordsTo (w : World) (r : Option (List (List UInt8))) (e : Ending) (w' : World) : Prop :=
  match r with
  | none => e = .returned (.tuple #[.slice none 0 0, .bool false]) ∧ Fr No w w'
  | some l => ∃ v, e = .returned (.tuple #[v, .bool true]) ∧ StrsAt w' v l ∧ Fr No w w'
theorem WordsTo.no {w : World} {r : Option (List (List UInt8))} {e : Ending} {w' : World} (h : r = none) (he : e = .returned (.tuple #[.slice none 0 0, .bool false])) (hf : Fr No w w') : WordsTo w r e w' := by subst h; exact ⟨he, hf⟩
theorem WordsTo.yes {w : World} {r : Option (List (List UInt8))} {l : List (List UInt8)} {e : Ending} {w' : World} {v : Value} (h : r = some l) (he : e = .returned (.tuple #[v, .bool true])) (hv : StrsAt w' v l) (hf : Fr No w w') : WordsTo w r e w' := by subst h; exact ⟨v, he, hv, hf⟩

set_option maxRecDepth 100000 in
set_option maxHeartbeats 4000000 in
theorem refwords_any (s : List UInt8) (hs : s.length ≤ 100000) (w : World) : Calls Tryz.prog 39 #[.string (bA s)] w (WordsTo w (wordsL s)) := by
  have HCH : Hid (∀ (a : Nat) W, a < s.length → Calls Tryz.prog 73 #[.string (bA s), .int .i64 a] W fun e w' => e = .returned (.int .i64 ((charN (s.drop a) : Nat) : Int)) ∧ W = w') := fun a W ha => refchar_any s a ha hs W
  have hsz : (bA s).size = s.length := bA_size s
  have HSS := Lib.hid hsz
  have HLS := Lib.hid hs
  obtain ⟨i0, hi0, hz0, hz1, hz2⟩ := info_parts Tryz.infoL_str
  have hsl : ((bA s).size : Int) ≤ 100000 := by rw [hsz]; omega
  clear hs
  go_enter Tryz.func39, Tryz.ntmps39
  go_wp2_with fail
  go_loopw [4, 5, 6, 7, 8, 9] (fun s4 s5 s6 s7 s8 s9 wr => ∃ (pos : Nat) (over : Bool) (word : List UInt8) (acc : List (List UInt8)), s5 = .string (bA word) ∧ s6 = .bool over ∧ s7 = .int .i64 pos ∧ Hid (WdSt s pos over word acc) ∧ Hid (Gath w 9 1 acc.length (strs acc) s4 wr)) (fun _ _ _ s7 _ _ _ => s.length - (intOf s7).toNat)
  case atStart => exact ⟨0, false, [], [], rfl, rfl, rfl, WdSt.start s, Gath.start _ _ _⟩
  case round =>
    obtain ⟨pos, over, word, acc, rfl, rfl, rfl, HST, HGA⟩ := hrel
    obtain ⟨va, vc, rfl⟩ := ownL_form HGA.out.own
    have hple := HST.out.1
    have hwl := HST.out.2.1
    have hal := HST.out.2.2.1
    have hls := HLS.out
    have sW : (bA word).size ≤ 100000 := by rw [bA_size]; omega
    by_cases hp : pos < s.length
    · have hp1 : (pos : Int) < ((bA s).size : Int) := by omega
      have HC := Lib.hid (fun W => HCH.out pos W hp)
      have hn : ∃ n, charN (s.drop pos) = n := ⟨_, rfl⟩
      obtain ⟨n, hn⟩ := hn
      have HN := Lib.hid hn
      rw [hn] at HC
      have hle := charN_drop hple
      rw [hn] at hle
      by_cases h0 : n = 0
      · subst h0
        have HW := Lib.hid (HST.out.none hp HN.out)
        clear hn hp hwl hal hls hle
        go_wp2_with (go_at_call 73; (with_reducible refine (HC.out _).mono ?_); rintro e w1 ⟨rfl, rfl⟩)
        go_ret2
        exact WordsTo.no HW.out rfl HGA.out.fr
      · have q0 : ((n : Int) == 0) = false := by rw [beq_eq_false_iff_ne]; omega
        have hb1 : (pos : Int) + (n : Int) ≤ ((bA s).size : Int) := by omega
        have f1 : IntKind.i64.wrap ((pos : Int) + (n : Int)) = ((pos + n : Nat) : Int) := by rw [← Int.natCast_add]; exact IntWalk.i64_in _ (by omega)
        obtain ⟨C, hC⟩ : ∃ C, (s.drop pos).take n = C := ⟨_, rfl⟩
        have hX : (bA s).extract pos (pos + n) = bA C := by rw [← hC, extract_bA, Nat.add_sub_cancel_left]
        have hC2 : C.length ≤ n := by rw [← hC, List.length_take]; omega
        obtain ⟨X, hXX⟩ : ∃ X, (bA s).extract pos (pos + n) = X := ⟨_, rfl⟩
        have hXC : X = bA C := by rw [← hXX, hX]
        have sC : X.size ≤ 100000 := by rw [hXC, bA_size]; omega
        have add := addB (bA word) X (by omega) (by omega)
        have q59 : (X.toList == ([59] : List UInt8)) = (C == [59]) := by rw [hXC]; exact bA_beq C _
        have q9 : (X.toList == ([9] : List UInt8)) = (C == [9]) := by rw [hXC]; exact bA_beq C _
        have q13 : (X.toList == ([13] : List UInt8)) = (C == [13]) := by rw [hXC]; exact bA_beq C _
        have q32 : (X.toList == ([32] : List UInt8)) = (C == [32]) := by rw [hXC]; exact bA_beq C _
        have q160 : (X.toList == ([194, 160] : List UInt8)) = (C == [194, 160]) := by rw [hXC]; exact bA_beq C _
        have q8195 : (X.toList == ([226, 128, 131] : List UInt8)) = (C == [226, 128, 131]) := by rw [hXC]; exact bA_beq C _
        obtain ⟨bw, hbw⟩ : ∃ bw, word.isEmpty = bw := ⟨_, rfl⟩
        have qw : (!(bA word).toList.isEmpty) = !bw := by rw [show bA word = (⟨word.toArray⟩ : ByteArray) from rfl, Lib.toList_data, hbw]
        have HSTOP : Hid ((over || C == [59] || blankB C) = true → WdSt s (pos + n) (over || C == [59]) [] (pushW word acc)) := HST.out.stop hn h0 hC
        have HGO : Hid ((over || C == [59] || blankB C) = false → WdSt s (pos + n) false (word ++ C) acc) := HST.out.go hn h0 hC
        have HXC := Lib.hid hXC
        have HBW := Lib.hid hbw
        have hle2 : pos + n ≤ 100000 := by omega
        have hpn : s.length - (pos + n) < s.length - pos := by omega
        unfold blankB at HSTOP HGO
        clear hX hC hn hp hple hwl hls hle hC2 hXC hbw HN HST
        obtain ⟨b59, e59⟩ : ∃ b, (C == [59]) = b := ⟨_, rfl⟩
        obtain ⟨b9, e9⟩ : ∃ b, (C == [9]) = b := ⟨_, rfl⟩
        obtain ⟨b13, e13⟩ : ∃ b, (C == [13]) = b := ⟨_, rfl⟩
        obtain ⟨b32, e32⟩ : ∃ b, (C == [32]) = b := ⟨_, rfl⟩
        obtain ⟨b160, e160⟩ : ∃ b, (C == [194, 160]) = b := ⟨_, rfl⟩
        obtain ⟨b8195, e8195⟩ : ∃ b, (C == [226, 128, 131]) = b := ⟨_, rfl⟩
        rw [e59, e9, e13, e32, e160, e8195] at HSTOP HGO
        rw [e59] at q59
        rw [e9] at q9
        rw [e13] at q13
        rw [e32] at q32
        rw [e160] at q160
        rw [e8195] at q8195
        clear e59 e9 e13 e32 e160 e8195
        have HGT : Hid (∀ W, Fr No wr W → Gath w 9 1 acc.length (strs acc) (.slice va acc.length vc) W) := fun W h => HGA.out.to h
        go_wp2_with (first
          | (go_at_call 73; (with_reducible refine (HC.out _).mono ?_); rintro e w1 ⟨rfl, rfl⟩)
          | (at_builtin; refine wpList_append_src rfl _ _ 58 rfl w.heap.size 9 i0 _ 1 16 Tryz.underlying58 hi0 hz0 hz1 hz2 rfl (by decide) (.slice va acc.length vc) acc.length (strs acc) rfl (HGT.out _ ((Fr.refl _ _).alloc _)).own _ 1 [.string (bA word)] rfl (src_new _ [.string (bA word)] 9) rfl (by simp [Value.oneCell']) (by unfold maxLen; omega) (by omega) (HGT.out _ ((Fr.refl _ _).alloc _)).fr.size ?_; intro v' w2 own2 fr2; have HG2 := Lib.hid ((HGT.out _ ((Fr.refl _ _).alloc _)).step own2 fr2); clear own2 fr2))
        all_goals clear q59 q9 q13 q32 q160 q8195 qw f1
        all_goals (cases bw <;> (try (exfalso; contradiction)))
        all_goals subst_vars
        all_goals first
          | (refine ⟨⟨pos + n, _, [], acc ++ [word], rfl, rfl, ?_, (by have h := HSTOP.out rfl; unfold pushW at h; rw [if_neg (fun e => by have := HBW.out; rw [e] at this; cases this)] at h; exact Lib.hid h), (by rw [strs_snoc, List.length_append]; exact HG2)⟩, ?_⟩
             · rw [← Int.natCast_add]
             · show s.length - ((pos : Int) + (n : Int)).toNat < s.length - (pos : Int).toNat
               omega)
          | (refine ⟨⟨pos + n, _, [], acc, rfl, rfl, ?_, (by have h := HSTOP.out rfl; unfold pushW at h; rw [if_pos (List.isEmpty_iff.1 HBW.out)] at h; exact Lib.hid h), HGA⟩, ?_⟩
             · rw [← Int.natCast_add]
             · show s.length - ((pos : Int) + (n : Int)).toNat < s.length - (pos : Int).toNat
               omega)
          | (refine ⟨⟨pos + n, _, word ++ C, acc, ?_, rfl, ?_, Lib.hid (HGO.out rfl), HGA⟩, ?_⟩
             · rw [HXC.out, bA_app]
             · rw [← Int.natCast_add]
             · show s.length - ((pos : Int) + (n : Int)).toNat < s.length - (pos : Int).toNat
               omega)
    · obtain rfl : pos = s.length := by omega
      have HW := Lib.hid HST.out.done
      have hp1 : ¬ ((s.length : Int) < ((bA s).size : Int)) := by rw [HSS.out]; omega
      obtain ⟨bw, hbw⟩ : ∃ bw, word.isEmpty = bw := ⟨_, rfl⟩
      have qw : (!(bA word).toList.isEmpty) = !bw := by rw [show bA word = (⟨word.toArray⟩ : ByteArray) from rfl, Lib.toList_data, hbw]
      have HBW := Lib.hid hbw
      have HGT : Hid (∀ W, Fr No wr W → Gath w 9 1 acc.length (strs acc) (.slice va acc.length vc) W) := fun W h => HGA.out.to h
      clear hbw hp
      cases bw with
      | false =>
        go_wp2_with (at_builtin; refine wpList_append_src rfl _ _ 58 rfl w.heap.size 9 i0 _ 1 16 Tryz.underlying58 hi0 hz0 hz1 hz2 rfl (by decide) (.slice va acc.length vc) acc.length (strs acc) rfl (HGT.out _ ((Fr.refl _ _).alloc _)).own _ 1 [.string (bA word)] rfl (src_new _ [.string (bA word)] 9) rfl (by simp [Value.oneCell']) (by unfold maxLen; omega) (by omega) (HGT.out _ ((Fr.refl _ _).alloc _)).fr.size ?_; intro v' w2 own2 fr2; have HG2 := Lib.hid ((HGT.out _ ((Fr.refl _ _).alloc _)).step own2 fr2); clear own2 fr2)
        go_ret2
        have h := HW.out
        unfold pushW at h
        rw [if_neg (fun e => by have := HBW.out; rw [e] at this; cases this)] at h
        refine WordsTo.yes h rfl ?_ HG2.out.fr
        refine Gath.words (w := w) (t := 9) ?_
        rw [strs_snoc, List.length_append]
        exact HG2.out
      | true =>
        go_wp2_with fail
        go_ret2
        have h := HW.out
        unfold pushW at h
        rw [if_pos (List.isEmpty_iff.1 HBW.out)] at h
        exact WordsTo.yes h rfl HGA.out.words HGA.out.fr
end Go.Proofs.YthkdokkpiaaljaaGreatDoor

namespace Go.Proofs.YthkdokkpiaaljaaGreatDoor
open Go.RowKit

/-- what parse hands back -/
def parseR (s : List UInt8) (lo hi : Nat) : Int × Bool := match numW s with
  | none => (0, false)
  | some (true, n) => (IntKind.u64.wrap (0 - (n : Int)), decide (n ≤ lo))
  | some (false, n) => ((n : Int), decide (n ≤ hi))
theorem digV_cons (c : UInt8) (t : List UInt8) (n : Nat) : digV (c :: t) n = if c < 48 ∨ 57 < c then none else if (18446744073709551615 - (c.toNat - 48)) / 10 < n then none else digV t (n * 10 + (c.toNat - 48)) := rfl
def DgSt (T : List UInt8) (k n : Nat) : Prop := n ≤ 18446744073709551615 ∧ digV (T.drop k) n = digV T 0
theorem DgSt.start (T : List UInt8) : DgSt T 0 0 := ⟨by decide, rfl⟩
theorem DgSt.bad {T : List UInt8} {k n : Nat} (h : DgSt T k n) (hk : k < T.length) (hc : T[k] < 48 ∨ 57 < T[k]) : digV T 0 = none := by
  rw [← h.2, List.drop_eq_getElem_cons hk, digV_cons, if_pos hc]
theorem DgSt.over {T : List UInt8} {k n : Nat} (h : DgSt T k n) (hk : k < T.length) (hc : ¬ (T[k] < 48 ∨ 57 < T[k])) (ho : (18446744073709551615 - (T[k].toNat - 48)) / 10 < n) : digV T 0 = none := by
  rw [← h.2, List.drop_eq_getElem_cons hk, digV_cons, if_neg hc, if_pos ho]
theorem DgSt.step {T : List UInt8} {k n : Nat} (h : DgSt T k n) (hk : k < T.length) (hc : ¬ (T[k] < 48 ∨ 57 < T[k])) (ho : ¬ (18446744073709551615 - (T[k].toNat - 48)) / 10 < n) : DgSt T (k + 1) (n * 10 + (T[k].toNat - 48)) := by
  refine ⟨?_, ?_⟩
  · have h1 : ¬ 57 < T[k] := fun e => hc (.inr e)
    have : T[k].toNat ≤ 57 := by
      rw [UInt8.lt_iff_toNat_lt] at h1
      have e : (57 : UInt8).toNat = 57 := rfl
      omega
    omega
  · rw [← h.2, List.drop_eq_getElem_cons hk, digV_cons, if_neg hc, if_neg ho]
theorem DgSt.done {T : List UInt8} {n : Nat} (h : DgSt T T.length n) : digV T 0 = some n := by
  rw [← h.2, List.drop_of_length_le (Nat.le_refl _)]; rfl

def isM3 (s : List UInt8) : Bool := decide (3 < s.length) && s.take 3 == [226, 136, 146]
def isPM (s : List UInt8) : Bool := decide (1 < s.length) && (s.head? == some 45 || s.head? == some 43)
theorem numW_cases (s : List UInt8) : numW s = if isM3 s = true then (digL (s.drop 3)).map (true, ·) else if isPM s = true then (digL (s.drop 1)).map (s.head? == some 45, ·) else (digL s).map (false, ·) := by
  unfold numW isM3 isPM
  simp only [Bool.and_eq_true, decide_eq_true_eq, beq_iff_eq, Bool.or_eq_true]
  by_cases h1 : 3 < s.length ∧ s.take 3 = [226, 136, 146]
  · rw [if_pos h1, if_pos h1]
  rw [if_neg h1, if_neg h1]
  by_cases h2 : 1 < s.length ∧ s.head? = some 45
  · rw [if_pos h2, if_pos ⟨h2.1, .inl h2.2⟩, h2.2]; rfl
  rw [if_neg h2]
  by_cases h3 : 1 < s.length ∧ s.head? = some 43
  · rw [if_pos h3, if_pos ⟨h3.1, .inr h3.2⟩, h3.2]; rfl
  rw [if_neg h3, if_neg]
  rintro ⟨a, b | b⟩
  · exact h2 ⟨a, b⟩
  · exact h3 ⟨a, b⟩

set_option maxRecDepth 100000 in
set_option maxHeartbeats 4000000 in
theorem refparse_any (s : List UInt8) (hs : s.length ≤ 100000) (least most : Int) (lo hi : Nat) (hlo : lo ≤ 9223372036854775807) (hhi : hi ≤ 18446744073709551615) (e1 : least = -(lo : Int)) (e2 : most = hi) (w : World) :
    Calls Tryz.prog 76 #[.string (bA s), .int .i64 least, .int .u64 most] w fun e w' => e = .returned (.tuple #[.int .u64 (parseR s lo hi).1, .bool (parseR s lo hi).2]) ∧ w = w' := by
  subst e1 e2
  have hsz : (bA s).size = s.length := bA_size s
  have hsl : ((bA s).size : Int) ≤ 100000 := by rw [hsz]; omega
  have HSZ := Lib.hid hsz
  have HHI := Lib.hid hhi
  have HLO := Lib.hid hlo
  have fneg : IntKind.i64.wrap (-(-(lo : Int))) = lo := by rw [Int.neg_neg]; exact IntWalk.i64_in _ (by omega)
  have fconv : IntKind.u64.wrap (lo : Int) = lo := IntWalk.u64_in _ (by omega)
  have fw : wrap64 (lo : Int) = lo := IntWalk.wrap64_in _ (by omega)
  clear hhi hlo hs
  go_enter Tryz.func76, Tryz.ntmps76
  go_upto_region 2 with fail
  go_cut [20] from 13 to 19 (fun s20 wx => s20 = .bool (isM3 s) ∧ w = wx)
  case first =>
    by_cases h3 : 3 < s.length
    · have p3 : (3 : Int) < ((bA s).size : Int) := by omega
      have q3 : (((bA s).extract 0 3).toList == ([226, 136, 146] : List UInt8)) = (s.take 3 == [226, 136, 146]) := by rw [extract_bA, bA_beq]; rfl
      have HX : Hid ((s.take 3 == [226, 136, 146]) = isM3 s) := by unfold isM3; rw [decide_eq_true h3]; exact Lib.hid rfl
      have p4 : (3 : Int) ≤ ((bA s).size : Int) := by omega
      clear h3 hsz
      generalize (s.take 3 == [226, 136, 146]) = b at *
      go_wp2_with fail
      go_meet
      exact ⟨by rw [← HX.out], rfl⟩
    · have p3 : ¬ (3 : Int) < ((bA s).size : Int) := by omega
      have HX : Hid (false = isM3 s) := by unfold isM3; rw [decide_eq_false h3]; exact Lib.hid rfl
      clear h3 hsz
      go_wp2_with fail
      go_meet
      exact ⟨by rw [← HX.out], rfl⟩
  case rest =>
    obtain ⟨rfl, rfl⟩ := hcut
    cases hm3 : isM3 s with
    | true =>
      have h3 : 3 < s.length := by
        unfold isM3 at hm3
        simp only [Bool.and_eq_true, decide_eq_true_eq] at hm3
        exact hm3.1
      have p3 : (3 : Int) ≤ ((bA s).size : Int) := by omega
      have HNW : Hid (numW s = (digL (s.drop 3)).map (true, ·)) := by rw [numW_cases, if_pos hm3]; exact Lib.hid rfl
      obtain ⟨T, hT⟩ : ∃ T, s.drop 3 = T := ⟨_, rfl⟩
      obtain ⟨B, hB⟩ : ∃ B, (bA s).extract 3 (bA s).size = B := ⟨_, rfl⟩
      have hBT : B = bA T := by rw [← hB, extract_bA, HSZ.out, ← hT, List.take_of_length_le (by simp)]
      have hTL : T.length ≤ 100000 := by rw [← hT, List.length_drop]; omega
      rw [hT] at HNW
      have HBT := Lib.hid hBT
      clear hT h3 hm3 hsz hBT
      go_upto_region 8 with fail
      have HT0 : Hid (T.length ≤ 100000) := by exact Lib.hid hTL
      have hbs : (B.size : Int) = T.length := by rw [HBT.out, bA_size]
      obtain ⟨n0, hn0⟩ : ∃ n0, T.length = n0 := ⟨_, rfl⟩
      have HN0 := Lib.hid hn0
      rw [hn0] at hbs
      have hn1 : n0 ≤ 100000 := by have := HT0.out; omega
      by_cases hT : n0 = 0
      · subst hT
        have HE : Hid (parseR s lo hi = (0, false)) := by
          have : T = [] := List.eq_nil_of_length_eq_zero HN0.out
          unfold parseR
          rw [HNW.out, this]
          exact Lib.hid rfl
        have q : (B.toList == ([] : List UInt8)) = true := by rw [HBT.out, bA_beq, List.eq_nil_of_length_eq_zero HN0.out]; rfl
        have q2 : B.toList.isEmpty = true := by rw [HBT.out, show bA T = (⟨T.toArray⟩ : ByteArray) from rfl, Lib.toList_data, List.eq_nil_of_length_eq_zero HN0.out]; rfl
        clear hn0
        go_wp2_with fail
        go_ret2
        rw [HE.out]
        exact ⟨rfl, rfl⟩
      · have q : (B.toList == ([] : List UInt8)) = false := by rw [HBT.out, bA_beq]; rw [beq_eq_false_iff_ne]; rintro rfl; exact hT hn0.symm
        have q2 : B.toList.isEmpty = false := by rw [HBT.out, show bA T = (⟨T.toArray⟩ : ByteArray) from rfl, Lib.toList_data]; cases T; exact absurd hn0.symm hT; rfl
        have HNE : Hid (T ≠ []) := fun e => hT (by rw [← hn0, e]; rfl)
        clear hn0
        go_wp2_with fail
        go_loopw [9, 10, 11, 12] (fun s9 s10 s11 s12 wr => ∃ (k n : Nat), k ≤ n0 ∧ s9 = .int .u64 n ∧ s10 = .int .i64 k ∧ Hid (DgSt T k n) ∧ w = wr) (fun _ s10 _ _ _ => n0 - (intOf s10).toNat)
        case atStart => exact ⟨0, 0, Nat.zero_le _, rfl, rfl, DgSt.start T, rfl⟩
        case round =>
          obtain ⟨k, n, hk, rfl, rfl, HD, rfl⟩ := hrel
          have hn64 := HD.out.1
          by_cases hlt : k < n0
          · have hkT : k < T.length := by rw [HN0.out]; exact hlt
            have hk2 : k < B.size := by omega
            have hk3 : (k : Int) < (B.size : Int) := by omega
            obtain ⟨c, hc⟩ : ∃ c, T[k] = c := ⟨_, rfl⟩
            have hB : (B[k]'hk2).toNat = c.toNat := by subst hc; congr 1; have := HBT.out; subst this; rfl
            have hc256 := c.toNat_lt
            have HBAD : Hid ((c < 48 ∨ 57 < c) → digV T 0 = none) := Lib.hid (fun h => HD.out.bad hkT (by rw [hc]; exact h))
            have HOV : Hid (¬ (c < 48 ∨ 57 < c) → (18446744073709551615 - (c.toNat - 48)) / 10 < n → digV T 0 = none) := Lib.hid (fun h h2 => HD.out.over hkT (by rw [hc]; exact h) (by rw [hc]; exact h2))
            have HST : Hid (¬ (c < 48 ∨ 57 < c) → ¬ (18446744073709551615 - (c.toNat - 48)) / 10 < n → DgSt T (k + 1) (n * 10 + (c.toNat - 48))) := Lib.hid (fun h h2 => by have := HD.out.step hkT (by rw [hc]; exact h) (by rw [hc]; exact h2); rw [hc] at this; exact this)
            have e48 : c < 48 ↔ c.toNat < 48 := UInt8.lt_iff_toNat_lt
            have e57 : 57 < c ↔ 57 < c.toNat := UInt8.lt_iff_toNat_lt
            rw [e48, e57] at HBAD HOV HST
            have HZ : Hid (digV T 0 = none → parseR s lo hi = (0, false)) := Lib.hid (fun h => by
              unfold parseR
              rw [HNW.out]
              unfold digL
              rw [if_neg HNE.out, h]
              rfl)
            clear e48 e57 hc hkT
            generalize c.toNat = z at *
            by_cases hz : z < 48 ∨ 57 < z
            · have HE := Lib.hid (HZ.out (HBAD.out hz))
              have hz1 : (z : Int) < 48 ∨ 57 < (z : Int) := by omega
              clear hz
              by_cases hz2 : (z : Int) < 48
              · go_wp2_with fail
                go_ret2
                rw [HE.out]
                exact ⟨rfl, rfl⟩
              · have hz3 : 57 < (z : Int) := by omega
                clear hz1
                go_wp2_with fail
                go_ret2
                rw [HE.out]
                exact ⟨rfl, rfl⟩
            · have z1 : ¬ (z : Int) < 48 := by omega
              have z2 : ¬ 57 < (z : Int) := by omega
              have g1 : IntKind.u8.wrap ((z : Int) - 48) = ((z - 48 : Nat) : Int) := by rw [IntWalk.u8_in _ (by omega)]; omega
              have g2 : IntKind.u64.wrap ((z - 48 : Nat) : Int) = ((z - 48 : Nat) : Int) := IntWalk.u64_in _ (by omega)
              have g3 : IntKind.u64.wrap (18446744073709551615 - ((z - 48 : Nat) : Int)) = ((18446744073709551615 - (z - 48) : Nat) : Int) := by rw [IntWalk.u64_in _ (by omega)]; omega
              obtain ⟨d, hd⟩ : ∃ d, z - 48 = d := ⟨_, rfl⟩
              have hd9 : d ≤ 9 := by omega
              rw [hd] at g1 g2 g3 HOV HST
              have HD9 := Lib.hid hd9
              clear hd hz hd9
              go_upto_region 19 with fail
              · rename_i ho
                have HE := Lib.hid (HZ.out (HOV.out (by omega) (by omega)))
                go_wp2_with fail
                go_ret2
                rw [HE.out]
                exact ⟨rfl, rfl⟩
              · rename_i ho _ _
                have HN2 : Hid (DgSt T (k + 1) (n * 10 + d)) := HST.out (by omega) (by have := ho; omega)
                have h64 := HN2.out.1
                refine ⟨⟨k + 1, by omega, n * 10 + d, ?_, rfl, HN2⟩, ?_⟩
                · rw [IntWalk.u64_in _ (by omega)]; omega
                · show n0 - ((k : Int) + 1).toNat < n0 - (k : Int).toNat
                  omega
          · obtain rfl : k = n0 := by omega
            have HE : Hid (digV T 0 = some n) := by
              have h := HD.out
              rw [← HN0.out] at h
              exact Lib.hid h.done
            have HP : Hid (parseR s lo hi = (IntKind.u64.wrap (0 - (n : Int)), decide (n ≤ lo))) := by
              unfold parseR
              rw [HNW.out]
              unfold digL
              rw [if_neg HNE.out, HE.out]
              exact Lib.hid rfl
            have hk1 : ¬ (k : Int) < (k : Int) := by omega
            have d1 : decide ((n : Int) ≤ (lo : Int)) = decide (n ≤ lo) := by rw [decide_eq_decide]; omega
            have d2 : decide ((n : Int) ≤ (hi : Int)) = decide (n ≤ hi) := by rw [decide_eq_decide]; omega
            clear hlt
            go_wp2_with fail
            all_goals go_ret2
            all_goals rw [HP.out]
            all_goals refine ⟨?_, rfl⟩
            all_goals (first | (show Ending.returned (.tuple #[.int .u64 (IntKind.u64.wrap (-(n : Int))), .bool (decide ((n : Int) ≤ (lo : Int)))]) = _; rw [d1, ← Int.zero_sub]) | (show Ending.returned (.tuple #[.int .u64 (IntKind.u64.wrap (-(n : Int))), .bool (decide (n ≤ lo))]) = _; rw [← Int.zero_sub]))
    | false =>
      have HM3 := Lib.hid hm3
      clear hm3
      go_upto_region 5 with fail
      go_cut [35] from 23 to 34 (fun s35 wx => s35 = .bool (isPM s) ∧ w = wx)
      case first =>
        by_cases h1 : 1 < s.length
        · obtain ⟨c, t, rfl⟩ : ∃ c t, s = c :: t := by cases s with | nil => simp at h1 | cons c t => exact ⟨c, t, rfl⟩
          have p1 : (1 : Int) < ((bA (c :: t)).size : Int) := by omega
          have p0 : 0 < (bA (c :: t)).size := by omega
          have hb : ((bA (c :: t))[0]'p0).toNat = c.toNat := rfl
          have HX : Hid (isPM (c :: t) = ((c.toNat : Int) == 45 || (c.toNat : Int) == 43)) := by
            unfold isPM
            rw [decide_eq_true h1, Bool.true_and]
            have e1 : ((c :: t).head? == some 45) = ((c.toNat : Int) == 45) := by
              rw [Bool.eq_iff_iff, beq_iff_eq, beq_iff_eq, List.head?_cons, Option.some.injEq]
              have := eq8 c 45 (by omega)
              rw [show (45 : UInt8) = UInt8.ofNat 45 from rfl, this]; omega
            have e2 : ((c :: t).head? == some 43) = ((c.toNat : Int) == 43) := by
              rw [Bool.eq_iff_iff, beq_iff_eq, beq_iff_eq, List.head?_cons, Option.some.injEq]
              have := eq8 c 43 (by omega)
              rw [show (43 : UInt8) = UInt8.ofNat 43 from rfl, this]; omega
            rw [e1, e2]
            exact Lib.hid rfl
          have hc256 := c.toNat_lt
          generalize c.toNat = z at *
          clear h1 hsz
          obtain ⟨x, hx⟩ : ∃ x : Int, (z : Int) = x := ⟨_, rfl⟩
          rw [hx] at HX
          by_cases h45 : x = 45
          · subst h45
            go_wp2_with fail
            all_goals go_meet
            all_goals exact ⟨by rw [HX.out]; rfl, rfl⟩
          · have q45 : (x == 45) = false := beq_eq_false_iff_ne.2 h45
            go_wp2_with fail
            all_goals go_meet
            all_goals exact ⟨by rw [HX.out, q45]; rfl, rfl⟩
        · have p1 : ¬ (1 : Int) < ((bA s).size : Int) := by omega
          have HX : Hid (false = isPM s) := by unfold isPM; rw [decide_eq_false h1]; exact Lib.hid rfl
          clear h1 hsz
          go_wp2_with fail
          go_meet
          exact ⟨by rw [← HX.out], rfl⟩
      case rest =>
        obtain ⟨rfl, rfl⟩ := hcut
        cases hpm : isPM s with
        | true =>
          have h1 : 1 < s.length := by
            unfold isPM at hpm
            simp only [Bool.and_eq_true, decide_eq_true_eq] at hpm
            exact hpm.1
          have p3 : (1 : Int) ≤ ((bA s).size : Int) := by omega
          have p1 : (0 : Int) < ((bA s).size : Int) := by omega
          have p0 : 0 < (bA s).size := by omega
          have HNW : Hid (numW s = (digL (s.drop 1)).map (s.head? == some 45, ·)) := by rw [numW_cases, HM3.out, if_neg (by simp), if_pos hpm]; exact Lib.hid rfl
          obtain ⟨T, hT⟩ : ∃ T, s.drop 1 = T := ⟨_, rfl⟩
          obtain ⟨B, hB⟩ : ∃ B, (bA s).extract 1 (bA s).size = B := ⟨_, rfl⟩
          have hBT : B = bA T := by rw [← hB, extract_bA, HSZ.out, ← hT, List.take_of_length_le (by simp)]
          have hTL : T.length ≤ 100000 := by rw [← hT, List.length_drop]; omega
          rw [hT] at HNW
          have HBT := Lib.hid hBT
          obtain ⟨mB, hmB⟩ : ∃ mB, (s.head? == some 45) = mB := ⟨_, rfl⟩
          have hq : ((((bA s)[0]'p0).toNat : Int) == 45) = mB := by
            rw [← hmB]
            obtain ⟨c, t, rfl⟩ : ∃ c t, s = c :: t := by cases s with | nil => simp at h1 | cons c t => exact ⟨c, t, rfl⟩
            show ((c.toNat : Int) == 45) = _
            rw [Bool.eq_iff_iff, beq_iff_eq, beq_iff_eq, List.head?_cons, Option.some.injEq]
            have := eq8 c 45 (by omega)
            rw [show (45 : UInt8) = UInt8.ofNat 45 from rfl, this]; omega
          rw [hmB] at HNW
          clear hT h1 hpm hsz hBT hmB
          cases mB with
          | true =>
            go_upto_region 8 with fail
            have HT0 : Hid (T.length ≤ 100000) := by exact Lib.hid hTL
            have hbs : (B.size : Int) = T.length := by rw [HBT.out, bA_size]
            obtain ⟨n0, hn0⟩ : ∃ n0, T.length = n0 := ⟨_, rfl⟩
            have HN0 := Lib.hid hn0
            rw [hn0] at hbs
            have hn1 : n0 ≤ 100000 := by have := HT0.out; omega
            by_cases hT : n0 = 0
            · subst hT
              have HE : Hid (parseR s lo hi = (0, false)) := by
                have : T = [] := List.eq_nil_of_length_eq_zero HN0.out
                unfold parseR
                rw [HNW.out, this]
                exact Lib.hid rfl
              have q : (B.toList == ([] : List UInt8)) = true := by rw [HBT.out, bA_beq, List.eq_nil_of_length_eq_zero HN0.out]; rfl
              have q2 : B.toList.isEmpty = true := by rw [HBT.out, show bA T = (⟨T.toArray⟩ : ByteArray) from rfl, Lib.toList_data, List.eq_nil_of_length_eq_zero HN0.out]; rfl
              clear hn0
              go_wp2_with fail
              go_ret2
              rw [HE.out]
              exact ⟨rfl, rfl⟩
            · have q : (B.toList == ([] : List UInt8)) = false := by rw [HBT.out, bA_beq]; rw [beq_eq_false_iff_ne]; rintro rfl; exact hT hn0.symm
              have q2 : B.toList.isEmpty = false := by rw [HBT.out, show bA T = (⟨T.toArray⟩ : ByteArray) from rfl, Lib.toList_data]; cases T; exact absurd hn0.symm hT; rfl
              have HNE : Hid (T ≠ []) := fun e => hT (by rw [← hn0, e]; rfl)
              clear hn0
              go_wp2_with fail
              go_loopw [9, 10, 11, 12] (fun s9 s10 s11 s12 wr => ∃ (k n : Nat), k ≤ n0 ∧ s9 = .int .u64 n ∧ s10 = .int .i64 k ∧ Hid (DgSt T k n) ∧ w = wr) (fun _ s10 _ _ _ => n0 - (intOf s10).toNat)
              case atStart => exact ⟨0, 0, Nat.zero_le _, rfl, rfl, DgSt.start T, rfl⟩
              case round =>
                obtain ⟨k, n, hk, rfl, rfl, HD, rfl⟩ := hrel
                have hn64 := HD.out.1
                by_cases hlt : k < n0
                · have hkT : k < T.length := by rw [HN0.out]; exact hlt
                  have hk2 : k < B.size := by omega
                  have hk3 : (k : Int) < (B.size : Int) := by omega
                  obtain ⟨c, hc⟩ : ∃ c, T[k] = c := ⟨_, rfl⟩
                  have hB : (B[k]'hk2).toNat = c.toNat := by subst hc; congr 1; have := HBT.out; subst this; rfl
                  have hc256 := c.toNat_lt
                  have HBAD : Hid ((c < 48 ∨ 57 < c) → digV T 0 = none) := Lib.hid (fun h => HD.out.bad hkT (by rw [hc]; exact h))
                  have HOV : Hid (¬ (c < 48 ∨ 57 < c) → (18446744073709551615 - (c.toNat - 48)) / 10 < n → digV T 0 = none) := Lib.hid (fun h h2 => HD.out.over hkT (by rw [hc]; exact h) (by rw [hc]; exact h2))
                  have HST : Hid (¬ (c < 48 ∨ 57 < c) → ¬ (18446744073709551615 - (c.toNat - 48)) / 10 < n → DgSt T (k + 1) (n * 10 + (c.toNat - 48))) := Lib.hid (fun h h2 => by have := HD.out.step hkT (by rw [hc]; exact h) (by rw [hc]; exact h2); rw [hc] at this; exact this)
                  have e48 : c < 48 ↔ c.toNat < 48 := UInt8.lt_iff_toNat_lt
                  have e57 : 57 < c ↔ 57 < c.toNat := UInt8.lt_iff_toNat_lt
                  rw [e48, e57] at HBAD HOV HST
                  have HZ : Hid (digV T 0 = none → parseR s lo hi = (0, false)) := Lib.hid (fun h => by
                    unfold parseR
                    rw [HNW.out]
                    unfold digL
                    rw [if_neg HNE.out, h]
                    rfl)
                  clear e48 e57 hc hkT
                  generalize c.toNat = z at *
                  by_cases hz : z < 48 ∨ 57 < z
                  · have HE := Lib.hid (HZ.out (HBAD.out hz))
                    have hz1 : (z : Int) < 48 ∨ 57 < (z : Int) := by omega
                    clear hz
                    by_cases hz2 : (z : Int) < 48
                    · go_wp2_with fail
                      go_ret2
                      rw [HE.out]
                      exact ⟨rfl, rfl⟩
                    · have hz3 : 57 < (z : Int) := by omega
                      clear hz1
                      go_wp2_with fail
                      go_ret2
                      rw [HE.out]
                      exact ⟨rfl, rfl⟩
                  · have z1 : ¬ (z : Int) < 48 := by omega
                    have z2 : ¬ 57 < (z : Int) := by omega
                    have g1 : IntKind.u8.wrap ((z : Int) - 48) = ((z - 48 : Nat) : Int) := by rw [IntWalk.u8_in _ (by omega)]; omega
                    have g2 : IntKind.u64.wrap ((z - 48 : Nat) : Int) = ((z - 48 : Nat) : Int) := IntWalk.u64_in _ (by omega)
                    have g3 : IntKind.u64.wrap (18446744073709551615 - ((z - 48 : Nat) : Int)) = ((18446744073709551615 - (z - 48) : Nat) : Int) := by rw [IntWalk.u64_in _ (by omega)]; omega
                    obtain ⟨d, hd⟩ : ∃ d, z - 48 = d := ⟨_, rfl⟩
                    have hd9 : d ≤ 9 := by omega
                    rw [hd] at g1 g2 g3 HOV HST
                    have HD9 := Lib.hid hd9
                    clear hd hz hd9
                    go_upto_region 19 with fail
                    · rename_i ho
                      have HE := Lib.hid (HZ.out (HOV.out (by omega) (by omega)))
                      go_wp2_with fail
                      go_ret2
                      rw [HE.out]
                      exact ⟨rfl, rfl⟩
                    · rename_i ho _ _
                      have HN2 : Hid (DgSt T (k + 1) (n * 10 + d)) := HST.out (by omega) (by have := ho; omega)
                      have h64 := HN2.out.1
                      refine ⟨⟨k + 1, by omega, n * 10 + d, ?_, rfl, HN2⟩, ?_⟩
                      · rw [IntWalk.u64_in _ (by omega)]; omega
                      · show n0 - ((k : Int) + 1).toNat < n0 - (k : Int).toNat
                        omega
                · obtain rfl : k = n0 := by omega
                  have HE : Hid (digV T 0 = some n) := by
                    have h := HD.out
                    rw [← HN0.out] at h
                    exact Lib.hid h.done
                  have HP : Hid (parseR s lo hi = (IntKind.u64.wrap (0 - (n : Int)), decide (n ≤ lo))) := by
                    unfold parseR
                    rw [HNW.out]
                    unfold digL
                    rw [if_neg HNE.out, HE.out]
                    exact Lib.hid rfl
                  have hk1 : ¬ (k : Int) < (k : Int) := by omega
                  have d1 : decide ((n : Int) ≤ (lo : Int)) = decide (n ≤ lo) := by rw [decide_eq_decide]; omega
                  have d2 : decide ((n : Int) ≤ (hi : Int)) = decide (n ≤ hi) := by rw [decide_eq_decide]; omega
                  clear hlt
                  go_wp2_with fail
                  all_goals go_ret2
                  all_goals rw [HP.out]
                  all_goals refine ⟨?_, rfl⟩
                  all_goals (first | (show Ending.returned (.tuple #[.int .u64 (IntKind.u64.wrap (-(n : Int))), .bool (decide ((n : Int) ≤ (lo : Int)))]) = _; rw [d1, ← Int.zero_sub]) | (show Ending.returned (.tuple #[.int .u64 (IntKind.u64.wrap (-(n : Int))), .bool (decide (n ≤ lo))]) = _; rw [← Int.zero_sub]))
          | false =>
            go_upto_region 8 with fail
            have HT0 : Hid (T.length ≤ 100000) := by exact Lib.hid hTL
            have hbs : (B.size : Int) = T.length := by rw [HBT.out, bA_size]
            obtain ⟨n0, hn0⟩ : ∃ n0, T.length = n0 := ⟨_, rfl⟩
            have HN0 := Lib.hid hn0
            rw [hn0] at hbs
            have hn1 : n0 ≤ 100000 := by have := HT0.out; omega
            by_cases hT : n0 = 0
            · subst hT
              have HE : Hid (parseR s lo hi = (0, false)) := by
                have : T = [] := List.eq_nil_of_length_eq_zero HN0.out
                unfold parseR
                rw [HNW.out, this]
                exact Lib.hid rfl
              have q : (B.toList == ([] : List UInt8)) = true := by rw [HBT.out, bA_beq, List.eq_nil_of_length_eq_zero HN0.out]; rfl
              have q2 : B.toList.isEmpty = true := by rw [HBT.out, show bA T = (⟨T.toArray⟩ : ByteArray) from rfl, Lib.toList_data, List.eq_nil_of_length_eq_zero HN0.out]; rfl
              clear hn0
              go_wp2_with fail
              go_ret2
              rw [HE.out]
              exact ⟨rfl, rfl⟩
            · have q : (B.toList == ([] : List UInt8)) = false := by rw [HBT.out, bA_beq]; rw [beq_eq_false_iff_ne]; rintro rfl; exact hT hn0.symm
              have q2 : B.toList.isEmpty = false := by rw [HBT.out, show bA T = (⟨T.toArray⟩ : ByteArray) from rfl, Lib.toList_data]; cases T; exact absurd hn0.symm hT; rfl
              have HNE : Hid (T ≠ []) := fun e => hT (by rw [← hn0, e]; rfl)
              clear hn0
              go_wp2_with fail
              go_loopw [9, 10, 11, 12] (fun s9 s10 s11 s12 wr => ∃ (k n : Nat), k ≤ n0 ∧ s9 = .int .u64 n ∧ s10 = .int .i64 k ∧ Hid (DgSt T k n) ∧ w = wr) (fun _ s10 _ _ _ => n0 - (intOf s10).toNat)
              case atStart => exact ⟨0, 0, Nat.zero_le _, rfl, rfl, DgSt.start T, rfl⟩
              case round =>
                obtain ⟨k, n, hk, rfl, rfl, HD, rfl⟩ := hrel
                have hn64 := HD.out.1
                by_cases hlt : k < n0
                · have hkT : k < T.length := by rw [HN0.out]; exact hlt
                  have hk2 : k < B.size := by omega
                  have hk3 : (k : Int) < (B.size : Int) := by omega
                  obtain ⟨c, hc⟩ : ∃ c, T[k] = c := ⟨_, rfl⟩
                  have hB : (B[k]'hk2).toNat = c.toNat := by subst hc; congr 1; have := HBT.out; subst this; rfl
                  have hc256 := c.toNat_lt
                  have HBAD : Hid ((c < 48 ∨ 57 < c) → digV T 0 = none) := Lib.hid (fun h => HD.out.bad hkT (by rw [hc]; exact h))
                  have HOV : Hid (¬ (c < 48 ∨ 57 < c) → (18446744073709551615 - (c.toNat - 48)) / 10 < n → digV T 0 = none) := Lib.hid (fun h h2 => HD.out.over hkT (by rw [hc]; exact h) (by rw [hc]; exact h2))
                  have HST : Hid (¬ (c < 48 ∨ 57 < c) → ¬ (18446744073709551615 - (c.toNat - 48)) / 10 < n → DgSt T (k + 1) (n * 10 + (c.toNat - 48))) := Lib.hid (fun h h2 => by have := HD.out.step hkT (by rw [hc]; exact h) (by rw [hc]; exact h2); rw [hc] at this; exact this)
                  have e48 : c < 48 ↔ c.toNat < 48 := UInt8.lt_iff_toNat_lt
                  have e57 : 57 < c ↔ 57 < c.toNat := UInt8.lt_iff_toNat_lt
                  rw [e48, e57] at HBAD HOV HST
                  have HZ : Hid (digV T 0 = none → parseR s lo hi = (0, false)) := Lib.hid (fun h => by
                    unfold parseR
                    rw [HNW.out]
                    unfold digL
                    rw [if_neg HNE.out, h]
                    rfl)
                  clear e48 e57 hc hkT
                  generalize c.toNat = z at *
                  by_cases hz : z < 48 ∨ 57 < z
                  · have HE := Lib.hid (HZ.out (HBAD.out hz))
                    have hz1 : (z : Int) < 48 ∨ 57 < (z : Int) := by omega
                    clear hz
                    by_cases hz2 : (z : Int) < 48
                    · go_wp2_with fail
                      go_ret2
                      rw [HE.out]
                      exact ⟨rfl, rfl⟩
                    · have hz3 : 57 < (z : Int) := by omega
                      clear hz1
                      go_wp2_with fail
                      go_ret2
                      rw [HE.out]
                      exact ⟨rfl, rfl⟩
                  · have z1 : ¬ (z : Int) < 48 := by omega
                    have z2 : ¬ 57 < (z : Int) := by omega
                    have g1 : IntKind.u8.wrap ((z : Int) - 48) = ((z - 48 : Nat) : Int) := by rw [IntWalk.u8_in _ (by omega)]; omega
                    have g2 : IntKind.u64.wrap ((z - 48 : Nat) : Int) = ((z - 48 : Nat) : Int) := IntWalk.u64_in _ (by omega)
                    have g3 : IntKind.u64.wrap (18446744073709551615 - ((z - 48 : Nat) : Int)) = ((18446744073709551615 - (z - 48) : Nat) : Int) := by rw [IntWalk.u64_in _ (by omega)]; omega
                    obtain ⟨d, hd⟩ : ∃ d, z - 48 = d := ⟨_, rfl⟩
                    have hd9 : d ≤ 9 := by omega
                    rw [hd] at g1 g2 g3 HOV HST
                    have HD9 := Lib.hid hd9
                    clear hd hz hd9
                    go_upto_region 19 with fail
                    · rename_i ho
                      have HE := Lib.hid (HZ.out (HOV.out (by omega) (by omega)))
                      go_wp2_with fail
                      go_ret2
                      rw [HE.out]
                      exact ⟨rfl, rfl⟩
                    · rename_i ho _ _
                      have HN2 : Hid (DgSt T (k + 1) (n * 10 + d)) := HST.out (by omega) (by have := ho; omega)
                      have h64 := HN2.out.1
                      refine ⟨⟨k + 1, by omega, n * 10 + d, ?_, rfl, HN2⟩, ?_⟩
                      · rw [IntWalk.u64_in _ (by omega)]; omega
                      · show n0 - ((k : Int) + 1).toNat < n0 - (k : Int).toNat
                        omega
                · obtain rfl : k = n0 := by omega
                  have HE : Hid (digV T 0 = some n) := by
                    have h := HD.out
                    rw [← HN0.out] at h
                    exact Lib.hid h.done
                  have HP : Hid (parseR s lo hi = ((n : Int), decide (n ≤ hi))) := by
                    unfold parseR
                    rw [HNW.out]
                    unfold digL
                    rw [if_neg HNE.out, HE.out]
                    exact Lib.hid rfl
                  have hk1 : ¬ (k : Int) < (k : Int) := by omega
                  have d1 : decide ((n : Int) ≤ (lo : Int)) = decide (n ≤ lo) := by rw [decide_eq_decide]; omega
                  have d2 : decide ((n : Int) ≤ (hi : Int)) = decide (n ≤ hi) := by rw [decide_eq_decide]; omega
                  clear hlt
                  go_wp2_with fail
                  all_goals go_ret2
                  all_goals rw [HP.out]
                  all_goals refine ⟨?_, rfl⟩
                  all_goals (first | (show Ending.returned (.tuple #[.int .u64 (n : Int), .bool (decide ((n : Int) ≤ (hi : Int)))]) = _; rw [d2]) | exact rfl)
        | false =>
          have HNW : Hid (numW s = (digL s).map (false, ·)) := by rw [numW_cases, HM3.out, hpm, if_neg (by simp), if_neg (by simp)]; exact Lib.hid rfl
          obtain ⟨T, hT⟩ : ∃ T, s = T := ⟨_, rfl⟩
          obtain ⟨B, hB⟩ : ∃ B, bA s = B := ⟨_, rfl⟩
          have hBT : B = bA T := by rw [← hB, ← hT]
          have hTL : T.length ≤ 100000 := by rw [← hT]; omega
          have HNW : Hid (numW s = (digL T).map (false, ·)) := by rw [← hT]; exact HNW
          rw [hB] at *
          have HBT := Lib.hid hBT
          have HP2 : Hid (s = T) := Lib.hid hT
          clear hpm hBT hT hsz hB
          go_upto_region 8 with fail
          have HT0 : Hid (T.length ≤ 100000) := by exact Lib.hid hTL
          have hbs : (B.size : Int) = T.length := by rw [HBT.out, bA_size]
          obtain ⟨n0, hn0⟩ : ∃ n0, T.length = n0 := ⟨_, rfl⟩
          have HN0 := Lib.hid hn0
          rw [hn0] at hbs
          have hn1 : n0 ≤ 100000 := by have := HT0.out; omega
          by_cases hT : n0 = 0
          · subst hT
            have HE : Hid (parseR s lo hi = (0, false)) := by
              have : T = [] := List.eq_nil_of_length_eq_zero HN0.out
              unfold parseR
              rw [HNW.out, this]
              exact Lib.hid rfl
            have q : (B.toList == ([] : List UInt8)) = true := by rw [HBT.out, bA_beq, List.eq_nil_of_length_eq_zero HN0.out]; rfl
            have q2 : B.toList.isEmpty = true := by rw [HBT.out, show bA T = (⟨T.toArray⟩ : ByteArray) from rfl, Lib.toList_data, List.eq_nil_of_length_eq_zero HN0.out]; rfl
            clear hn0
            go_wp2_with fail
            go_ret2
            rw [HE.out]
            exact ⟨rfl, rfl⟩
          · have q : (B.toList == ([] : List UInt8)) = false := by rw [HBT.out, bA_beq]; rw [beq_eq_false_iff_ne]; rintro rfl; exact hT hn0.symm
            have q2 : B.toList.isEmpty = false := by rw [HBT.out, show bA T = (⟨T.toArray⟩ : ByteArray) from rfl, Lib.toList_data]; cases T; exact absurd hn0.symm hT; rfl
            have HNE : Hid (T ≠ []) := fun e => hT (by rw [← hn0, e]; rfl)
            clear hn0
            go_wp2_with fail
            go_loopw [9, 10, 11, 12] (fun s9 s10 s11 s12 wr => ∃ (k n : Nat), k ≤ n0 ∧ s9 = .int .u64 n ∧ s10 = .int .i64 k ∧ Hid (DgSt T k n) ∧ w = wr) (fun _ s10 _ _ _ => n0 - (intOf s10).toNat)
            case atStart => exact ⟨0, 0, Nat.zero_le _, rfl, rfl, DgSt.start T, rfl⟩
            case round =>
              obtain ⟨k, n, hk, rfl, rfl, HD, rfl⟩ := hrel
              have hn64 := HD.out.1
              by_cases hlt : k < n0
              · have hkT : k < T.length := by rw [HN0.out]; exact hlt
                have hk2 : k < B.size := by omega
                have hk3 : (k : Int) < (B.size : Int) := by omega
                obtain ⟨c, hc⟩ : ∃ c, T[k] = c := ⟨_, rfl⟩
                have hB : (B[k]'hk2).toNat = c.toNat := by subst hc; congr 1; have := HBT.out; subst this; rfl
                have hc256 := c.toNat_lt
                have HBAD : Hid ((c < 48 ∨ 57 < c) → digV T 0 = none) := Lib.hid (fun h => HD.out.bad hkT (by rw [hc]; exact h))
                have HOV : Hid (¬ (c < 48 ∨ 57 < c) → (18446744073709551615 - (c.toNat - 48)) / 10 < n → digV T 0 = none) := Lib.hid (fun h h2 => HD.out.over hkT (by rw [hc]; exact h) (by rw [hc]; exact h2))
                have HST : Hid (¬ (c < 48 ∨ 57 < c) → ¬ (18446744073709551615 - (c.toNat - 48)) / 10 < n → DgSt T (k + 1) (n * 10 + (c.toNat - 48))) := Lib.hid (fun h h2 => by have := HD.out.step hkT (by rw [hc]; exact h) (by rw [hc]; exact h2); rw [hc] at this; exact this)
                have e48 : c < 48 ↔ c.toNat < 48 := UInt8.lt_iff_toNat_lt
                have e57 : 57 < c ↔ 57 < c.toNat := UInt8.lt_iff_toNat_lt
                rw [e48, e57] at HBAD HOV HST
                have HZ : Hid (digV T 0 = none → parseR s lo hi = (0, false)) := Lib.hid (fun h => by
                  unfold parseR
                  rw [HNW.out]
                  unfold digL
                  rw [if_neg HNE.out, h]
                  rfl)
                clear e48 e57 hc hkT
                generalize c.toNat = z at *
                by_cases hz : z < 48 ∨ 57 < z
                · have HE := Lib.hid (HZ.out (HBAD.out hz))
                  have hz1 : (z : Int) < 48 ∨ 57 < (z : Int) := by omega
                  clear hz
                  by_cases hz2 : (z : Int) < 48
                  · go_wp2_with fail
                    go_ret2
                    rw [HE.out]
                    exact ⟨rfl, rfl⟩
                  · have hz3 : 57 < (z : Int) := by omega
                    clear hz1
                    go_wp2_with fail
                    go_ret2
                    rw [HE.out]
                    exact ⟨rfl, rfl⟩
                · have z1 : ¬ (z : Int) < 48 := by omega
                  have z2 : ¬ 57 < (z : Int) := by omega
                  have g1 : IntKind.u8.wrap ((z : Int) - 48) = ((z - 48 : Nat) : Int) := by rw [IntWalk.u8_in _ (by omega)]; omega
                  have g2 : IntKind.u64.wrap ((z - 48 : Nat) : Int) = ((z - 48 : Nat) : Int) := IntWalk.u64_in _ (by omega)
                  have g3 : IntKind.u64.wrap (18446744073709551615 - ((z - 48 : Nat) : Int)) = ((18446744073709551615 - (z - 48) : Nat) : Int) := by rw [IntWalk.u64_in _ (by omega)]; omega
                  obtain ⟨d, hd⟩ : ∃ d, z - 48 = d := ⟨_, rfl⟩
                  have hd9 : d ≤ 9 := by omega
                  rw [hd] at g1 g2 g3 HOV HST
                  have HD9 := Lib.hid hd9
                  clear hd hz hd9
                  go_upto_region 19 with fail
                  · rename_i ho
                    have HE := Lib.hid (HZ.out (HOV.out (by omega) (by omega)))
                    go_wp2_with fail
                    go_ret2
                    rw [HE.out]
                    exact ⟨rfl, rfl⟩
                  · rename_i ho _ _
                    have HN2 : Hid (DgSt T (k + 1) (n * 10 + d)) := HST.out (by omega) (by have := ho; omega)
                    have h64 := HN2.out.1
                    refine ⟨⟨k + 1, by omega, n * 10 + d, ?_, rfl, HN2⟩, ?_⟩
                    · rw [IntWalk.u64_in _ (by omega)]; omega
                    · show n0 - ((k : Int) + 1).toNat < n0 - (k : Int).toNat
                      omega
              · obtain rfl : k = n0 := by omega
                have HE : Hid (digV T 0 = some n) := by
                  have h := HD.out
                  rw [← HN0.out] at h
                  exact Lib.hid h.done
                have HP : Hid (parseR s lo hi = ((n : Int), decide (n ≤ hi))) := by
                  unfold parseR
                  rw [HNW.out]
                  unfold digL
                  rw [if_neg HNE.out, HE.out]
                  exact Lib.hid rfl
                have hk1 : ¬ (k : Int) < (k : Int) := by omega
                have d1 : decide ((n : Int) ≤ (lo : Int)) = decide (n ≤ lo) := by rw [decide_eq_decide]; omega
                have d2 : decide ((n : Int) ≤ (hi : Int)) = decide (n ≤ hi) := by rw [decide_eq_decide]; omega
                clear hlt
                go_wp2_with fail
                all_goals go_ret2
                all_goals rw [HP.out]
                all_goals refine ⟨?_, rfl⟩
                all_goals (first | (show Ending.returned (.tuple #[.int .u64 (n : Int), .bool (decide ((n : Int) ≤ (hi : Int)))]) = _; rw [d2]) | exact rfl)
end Go.Proofs.YthkdokkpiaaljaaGreatDoor

namespace Go.Proofs.YthkdokkpiaaljaaGreatDoor
open Go.RowKit

def FieldAt (w : World) (o d s f m : Int) (z : Bool) (e : Ending) (w' : World) : Prop := e = .returned (.tuple #[.agg #[.int .u8 o, .int .u8 d, .int .u8 s, .int .i16 f, .int .i32 m], .bool z]) ∧ Fr No w w'

/-- a slot's own block, that may be written anywhere -/
structure Bx (w : World) (b : Nat) (o d s f m : Int) : Prop where
  c0 : w.cell? ⟨b, 0, none⟩ = some (.int .u8 o)
  c1 : w.cell? ⟨b, 1, none⟩ = some (.int .u8 d)
  c2 : w.cell? ⟨b, 2, none⟩ = some (.int .u8 s)
  c3 : w.cell? ⟨b, 3, none⟩ = some (.int .i16 f)
  c4 : w.cell? ⟨b, 4, none⟩ = some (.int .i32 m)
  z0 : w.frozen? ⟨b, 0, none⟩ = false
  z1 : w.frozen? ⟨b, 1, none⟩ = false
  z2 : w.frozen? ⟨b, 2, none⟩ = false
  z3 : w.frozen? ⟨b, 3, none⟩ = false
  z4 : w.frozen? ⟨b, 4, none⟩ = false
theorem Bx.fr {w w' : World} {b : Nat} {o d s f m : Int} (h : Bx w b o d s f m) (hf : Fr No w w') : Bx w' b o d s f m :=
  ⟨hf.cell h.c0 id, hf.cell h.c1 id, hf.cell h.c2 id, hf.cell h.c3 id, hf.cell h.c4 id, (hf.frozen h.c0 id).trans h.z0, (hf.frozen h.c1 id).trans h.z1, (hf.frozen h.c2 id).trans h.z2, (hf.frozen h.c3 id).trans h.z3, (hf.frozen h.c4 id).trans h.z4⟩
theorem bx_new (w : World) (o d s f m : Int) (t : TypeId) : Bx (w.alloc (.cells #[.int .u8 o, .int .u8 d, .int .u8 s, .int .i16 f, .int .i32 m] t)) w.heap.size o d s f m := by
  have hc := CellsAt.new w [.int .u8 o, .int .u8 d, .int .u8 s, .int .i16 f, .int .i32 m] t
  exact ⟨hc 0 _ rfl, hc 1 _ rfl, hc 2 _ rfl, hc 3 _ rfl, hc 4 _ rfl, by simp, by simp, by simp, by simp, by simp⟩
theorem Bx.set0 {w : World} {b : Nat} {o d s f m : Int} (h : Bx w b o d s f m) (x : Int) : Bx (w.setCell ⟨b, 0, none⟩ (.int .u8 x)) b x d s f m :=
  ⟨World.cell?_setCell_same _ _ _ h.c0, (World.cell?_setCell_other _ _ _ _ (by simp)).trans h.c1, (World.cell?_setCell_other _ _ _ _ (by simp)).trans h.c2, (World.cell?_setCell_other _ _ _ _ (by simp)).trans h.c3, (World.cell?_setCell_other _ _ _ _ (by simp)).trans h.c4, by simpa using h.z0, by simpa using h.z1, by simpa using h.z2, by simpa using h.z3, by simpa using h.z4⟩
theorem Bx.set1 {w : World} {b : Nat} {o d s f m : Int} (h : Bx w b o d s f m) (x : Int) : Bx (w.setCell ⟨b, 1, none⟩ (.int .u8 x)) b o x s f m :=
  ⟨(World.cell?_setCell_other _ _ _ _ (by simp)).trans h.c0, World.cell?_setCell_same _ _ _ h.c1, (World.cell?_setCell_other _ _ _ _ (by simp)).trans h.c2, (World.cell?_setCell_other _ _ _ _ (by simp)).trans h.c3, (World.cell?_setCell_other _ _ _ _ (by simp)).trans h.c4, by simpa using h.z0, by simpa using h.z1, by simpa using h.z2, by simpa using h.z3, by simpa using h.z4⟩
theorem Bx.set2 {w : World} {b : Nat} {o d s f m : Int} (h : Bx w b o d s f m) (x : Int) : Bx (w.setCell ⟨b, 2, none⟩ (.int .u8 x)) b o d x f m :=
  ⟨(World.cell?_setCell_other _ _ _ _ (by simp)).trans h.c0, (World.cell?_setCell_other _ _ _ _ (by simp)).trans h.c1, World.cell?_setCell_same _ _ _ h.c2, (World.cell?_setCell_other _ _ _ _ (by simp)).trans h.c3, (World.cell?_setCell_other _ _ _ _ (by simp)).trans h.c4, by simpa using h.z0, by simpa using h.z1, by simpa using h.z2, by simpa using h.z3, by simpa using h.z4⟩
theorem Bx.set3 {w : World} {b : Nat} {o d s f m : Int} (h : Bx w b o d s f m) (x : Int) : Bx (w.setCell ⟨b, 3, none⟩ (.int .i16 x)) b o d s x m :=
  ⟨(World.cell?_setCell_other _ _ _ _ (by simp)).trans h.c0, (World.cell?_setCell_other _ _ _ _ (by simp)).trans h.c1, (World.cell?_setCell_other _ _ _ _ (by simp)).trans h.c2, World.cell?_setCell_same _ _ _ h.c3, (World.cell?_setCell_other _ _ _ _ (by simp)).trans h.c4, by simpa using h.z0, by simpa using h.z1, by simpa using h.z2, by simpa using h.z3, by simpa using h.z4⟩
theorem Bx.set4 {w : World} {b : Nat} {o d s f m : Int} (h : Bx w b o d s f m) (x : Int) : Bx (w.setCell ⟨b, 4, none⟩ (.int .i32 x)) b o d s f x :=
  ⟨(World.cell?_setCell_other _ _ _ _ (by simp)).trans h.c0, (World.cell?_setCell_other _ _ _ _ (by simp)).trans h.c1, (World.cell?_setCell_other _ _ _ _ (by simp)).trans h.c2, (World.cell?_setCell_other _ _ _ _ (by simp)).trans h.c3, World.cell?_setCell_same _ _ _ h.c4, by simpa using h.z0, by simpa using h.z1, by simpa using h.z2, by simpa using h.z3, by simpa using h.z4⟩
theorem Bx.other {w : World} {b c : Nat} {o d s f m : Int} (h : Bx w c o d s f m) (hne : b ≠ c) (k : Nat) (v : Value) : Bx (w.setCell ⟨b, k, none⟩ v) c o d s f m :=
  ⟨(World.cell?_setCell_other _ _ _ _ (by simp [hne])).trans h.c0, (World.cell?_setCell_other _ _ _ _ (by simp [hne])).trans h.c1, (World.cell?_setCell_other _ _ _ _ (by simp [hne])).trans h.c2, (World.cell?_setCell_other _ _ _ _ (by simp [hne])).trans h.c3, (World.cell?_setCell_other _ _ _ _ (by simp [hne])).trans h.c4, by simpa using h.z0, by simpa using h.z1, by simpa using h.z2, by simpa using h.z3, by simpa using h.z4⟩
theorem Bx.put {w : World} {c : Nat} {o d s f m : Int} (h : Bx w c o d s f m) (o' d' s' f' m' : Int) : Bx (((((w.setCell ⟨c, 0, none⟩ (.int .u8 o')).setCell ⟨c, 1, none⟩ (.int .u8 d')).setCell ⟨c, 2, none⟩ (.int .u8 s')).setCell ⟨c, 3, none⟩ (.int .i16 f')).setCell ⟨c, 4, none⟩ (.int .i32 m')) c o' d' s' f' m' :=
  ((((h.set0 o').set1 d').set2 s').set3 f').set4 m'
theorem Fr.late {w W : World} (h : Fr No w W) {b : Nat} (hb : w.heap.size ≤ b) (o : Nat) (v : Value) : Fr No w (W.setCell ⟨b, o, none⟩ v) := (h.any.setCell (p := ⟨b, o, none⟩) (.inr hb) v : Fr (From w) w _).ours
theorem two_new (w : World) (o d s f m : Int) : ∃ W0 b c, W0 = (w.alloc (.cells #[.int .u8 o, .int .u8 d, .int .u8 s, .int .i16 f, .int .i32 m] 51)).alloc (.cells #[.int .u8 0, .int .u8 0, .int .u8 0, .int .i16 0, .int .i32 0] 51) ∧ w.heap.size = b ∧ w.heap.size + 1 = c ∧ Hid (Fr No w W0) ∧ Hid (Bx W0 b o d s f m) ∧ Hid (Bx W0 c 0 0 0 0 0) := by
  refine ⟨_, _, _, rfl, rfl, rfl, ((Fr.refl _ _).alloc _).alloc _, (bx_new w o d s f m _).fr ((Fr.refl _ _).alloc _), ?_⟩
  have := bx_new (w.alloc (.cells #[.int .u8 o, .int .u8 d, .int .u8 s, .int .i16 f, .int .i32 m] 51)) 0 0 0 0 0 51
  exact Lib.hid (by simpa using this)

set_option maxRecDepth 100000 in
set_option maxHeartbeats 1000000 in
theorem field_d (o d s f m : Int) (u : List UInt8) (hu : u.length ≤ 100000) (w : World) : Calls Tryz.prog 100 #[.agg #[.int .u8 o, .int .u8 d, .int .u8 s, .int .i16 f, .int .i32 m], .int .u8 100, .string (bA u)] w (FieldAt w o (regR u).1 s f m (regR u).2) := by
  have HR : Hid (∀ W, Calls Tryz.prog 75 #[.string (bA u)] W fun e w' => e = .returned (.tuple #[.int .u8 (regR u).1, .bool (regR u).2]) ∧ Fr No W w') := fun W => register_any u W
  have HP1 : Hid (∀ W, Calls Tryz.prog 76 #[.string (bA u), .int .i64 (-32768), .int .u64 32767] W fun e w' => e = .returned (.tuple #[.int .u64 (parseR u 32768 32767).1, .bool (parseR u 32768 32767).2]) ∧ W = w') := fun W => refparse_any u hu (-32768) 32767 32768 32767 (by decide) (by decide) rfl rfl W
  have HP2 : Hid (∀ W, Calls Tryz.prog 76 #[.string (bA u), .int .i64 (-2147483648), .int .u64 2147483647] W fun e w' => e = .returned (.tuple #[.int .u64 (parseR u 2147483648 2147483647).1, .bool (parseR u 2147483648 2147483647).2]) ∧ W = w') := fun W => refparse_any u hu (-2147483648) 2147483647 2147483648 2147483647 (by decide) (by decide) rfl rfl W
  clear hu
  generalize regR u = rg at *
  generalize parseR u 32768 32767 = p1 at *
  generalize parseR u 2147483648 2147483647 = p2 at *
  generalize bA u = B at *
  obtain ⟨r, rb⟩ := rg
  obtain ⟨n1, t1⟩ := p1
  obtain ⟨n2, t2⟩ := p2
  dsimp only at *
  go_enter Tryz.func100, Tryz.ntmps100
  go_upto_region 1 with fail
  obtain ⟨W0, b, c, hW0, hb, hc, HF0, HB0, HB1⟩ := two_new w o d s f m
  rw [← hW0, hc, hb]
  have hbc : b ≠ c := by omega
  have hcb : c ≠ b := by omega
  have HBC : Hid (w.heap.size ≤ b ∧ w.heap.size ≤ c) := Lib.hid ⟨by omega, by omega⟩
  clear hb hc hW0
  go_wp2_with (first
    | (go_at_call 75; (with_reducible refine (HR.out _).mono ?_); rintro e w1 ⟨rfl, hf1⟩; have HF1 := Lib.hid (HF0.out.trans hf1); obtain ⟨c0, c1, c2, c3, c4, z0, z1, z2, z3, z4⟩ := HB0.out.fr hf1; obtain ⟨r0, r1, r2, r3, r4, y0, y1, y2, y3, y4⟩ := HB1.out.fr hf1; clear hf1)
    | (go_at_call 76; (with_reducible refine (HP1.out _).mono ?_); rintro e w2 ⟨rfl, rfl⟩)
    | (go_at_call 76; (with_reducible refine (HP2.out _).mono ?_); rintro e w3 ⟨rfl, rfl⟩))
  have HR0 := Bx.mk r0 r1 r2 r3 r4 y0 y1 y2 y3 y4
  clear c0 c1 c2 c3 c4 z0 z1 z2 z3 z4 r0 r1 r2 r3 r4 y0 y1 y2 y3 y4
  obtain ⟨W6, hW6⟩ : ∃ W6, W6 = ((((((w1.setCell ⟨b, 1, none⟩ (.int .u8 (r : Int))).setCell ⟨c, 0, none⟩ (.int .u8 o)).setCell ⟨c, 1, none⟩ (.int .u8 r)).setCell ⟨c, 2, none⟩ (.int .u8 s)).setCell ⟨c, 3, none⟩ (.int .i16 f)).setCell ⟨c, 4, none⟩ (.int .i32 m)) := ⟨_, rfl⟩
  have HB6 : Bx W6 c o r s f m := by rw [hW6]; exact (HR0.other hbc 1 (.int .u8 (r : Int))).put o r s f m
  have HF6 : Fr No w W6 := by
    rw [hW6]
    exact (Fr.late (Fr.late (Fr.late (Fr.late (Fr.late (Fr.late HF1.out HBC.out.1 1 (.int .u8 (r : Int))) HBC.out.2 0 (.int .u8 o)) HBC.out.2 1 (.int .u8 r)) HBC.out.2 2 (.int .u8 s)) HBC.out.2 3 (.int .i16 f)) HBC.out.2 4 (.int .i32 m))
  refine Eq.mp (congrArg (fun W => bodyPost Tryz.prog Tryz.f100 _ Exit.ret _ W) hW6) ?_
  clear hW6
  obtain ⟨g0, g1, g2, g3, g4, _, _, _, _, _⟩ := HB6
  refine bodyPost_ret (v := .tuple #[.agg #[.int .u8 o, .int .u8 r, .int .u8 s, .int .i16 f, .int .i32 m], .bool rb]) (by simp [results, Tryz.results100, go_sem, g0, g1, g2, g3, g4]) rfl ?_
  exact ⟨rfl, HF6⟩
set_option maxRecDepth 100000 in
set_option maxHeartbeats 1000000 in
theorem field_s (o d s f m : Int) (u : List UInt8) (hu : u.length ≤ 100000) (w : World) : Calls Tryz.prog 100 #[.agg #[.int .u8 o, .int .u8 d, .int .u8 s, .int .i16 f, .int .i32 m], .int .u8 115, .string (bA u)] w (FieldAt w o d (regR u).1 f m (regR u).2) := by
  have HR : Hid (∀ W, Calls Tryz.prog 75 #[.string (bA u)] W fun e w' => e = .returned (.tuple #[.int .u8 (regR u).1, .bool (regR u).2]) ∧ Fr No W w') := fun W => register_any u W
  have HP1 : Hid (∀ W, Calls Tryz.prog 76 #[.string (bA u), .int .i64 (-32768), .int .u64 32767] W fun e w' => e = .returned (.tuple #[.int .u64 (parseR u 32768 32767).1, .bool (parseR u 32768 32767).2]) ∧ W = w') := fun W => refparse_any u hu (-32768) 32767 32768 32767 (by decide) (by decide) rfl rfl W
  have HP2 : Hid (∀ W, Calls Tryz.prog 76 #[.string (bA u), .int .i64 (-2147483648), .int .u64 2147483647] W fun e w' => e = .returned (.tuple #[.int .u64 (parseR u 2147483648 2147483647).1, .bool (parseR u 2147483648 2147483647).2]) ∧ W = w') := fun W => refparse_any u hu (-2147483648) 2147483647 2147483648 2147483647 (by decide) (by decide) rfl rfl W
  clear hu
  generalize regR u = rg at *
  generalize parseR u 32768 32767 = p1 at *
  generalize parseR u 2147483648 2147483647 = p2 at *
  generalize bA u = B at *
  obtain ⟨r, rb⟩ := rg
  obtain ⟨n1, t1⟩ := p1
  obtain ⟨n2, t2⟩ := p2
  dsimp only at *
  go_enter Tryz.func100, Tryz.ntmps100
  go_upto_region 1 with fail
  obtain ⟨W0, b, c, hW0, hb, hc, HF0, HB0, HB1⟩ := two_new w o d s f m
  rw [← hW0, hc, hb]
  have hbc : b ≠ c := by omega
  have hcb : c ≠ b := by omega
  have HBC : Hid (w.heap.size ≤ b ∧ w.heap.size ≤ c) := Lib.hid ⟨by omega, by omega⟩
  clear hb hc hW0
  go_wp2_with (first
    | (go_at_call 75; (with_reducible refine (HR.out _).mono ?_); rintro e w1 ⟨rfl, hf1⟩; have HF1 := Lib.hid (HF0.out.trans hf1); obtain ⟨c0, c1, c2, c3, c4, z0, z1, z2, z3, z4⟩ := HB0.out.fr hf1; obtain ⟨r0, r1, r2, r3, r4, y0, y1, y2, y3, y4⟩ := HB1.out.fr hf1; clear hf1)
    | (go_at_call 76; (with_reducible refine (HP1.out _).mono ?_); rintro e w2 ⟨rfl, rfl⟩)
    | (go_at_call 76; (with_reducible refine (HP2.out _).mono ?_); rintro e w3 ⟨rfl, rfl⟩))
  have HR0 := Bx.mk r0 r1 r2 r3 r4 y0 y1 y2 y3 y4
  clear c0 c1 c2 c3 c4 z0 z1 z2 z3 z4 r0 r1 r2 r3 r4 y0 y1 y2 y3 y4
  obtain ⟨W6, hW6⟩ : ∃ W6, W6 = ((((((w1.setCell ⟨b, 2, none⟩ (.int .u8 (r : Int))).setCell ⟨c, 0, none⟩ (.int .u8 o)).setCell ⟨c, 1, none⟩ (.int .u8 d)).setCell ⟨c, 2, none⟩ (.int .u8 r)).setCell ⟨c, 3, none⟩ (.int .i16 f)).setCell ⟨c, 4, none⟩ (.int .i32 m)) := ⟨_, rfl⟩
  have HB6 : Bx W6 c o d r f m := by rw [hW6]; exact (HR0.other hbc 2 (.int .u8 (r : Int))).put o d r f m
  have HF6 : Fr No w W6 := by
    rw [hW6]
    exact (Fr.late (Fr.late (Fr.late (Fr.late (Fr.late (Fr.late HF1.out HBC.out.1 2 (.int .u8 (r : Int))) HBC.out.2 0 (.int .u8 o)) HBC.out.2 1 (.int .u8 d)) HBC.out.2 2 (.int .u8 r)) HBC.out.2 3 (.int .i16 f)) HBC.out.2 4 (.int .i32 m))
  refine Eq.mp (congrArg (fun W => bodyPost Tryz.prog Tryz.f100 _ Exit.ret _ W) hW6) ?_
  clear hW6
  obtain ⟨g0, g1, g2, g3, g4, _, _, _, _, _⟩ := HB6
  refine bodyPost_ret (v := .tuple #[.agg #[.int .u8 o, .int .u8 d, .int .u8 r, .int .i16 f, .int .i32 m], .bool rb]) (by simp [results, Tryz.results100, go_sem, g0, g1, g2, g3, g4]) rfl ?_
  exact ⟨rfl, HF6⟩
set_option maxRecDepth 100000 in
set_option maxHeartbeats 1000000 in
theorem field_o (o d s f m : Int) (u : List UInt8) (hu : u.length ≤ 100000) (w : World) : Calls Tryz.prog 100 #[.agg #[.int .u8 o, .int .u8 d, .int .u8 s, .int .i16 f, .int .i32 m], .int .u8 111, .string (bA u)] w (FieldAt w o d s (IntKind.i16.wrap (parseR u 32768 32767).1) m (parseR u 32768 32767).2) := by
  have HR : Hid (∀ W, Calls Tryz.prog 75 #[.string (bA u)] W fun e w' => e = .returned (.tuple #[.int .u8 (regR u).1, .bool (regR u).2]) ∧ Fr No W w') := fun W => register_any u W
  have HP1 : Hid (∀ W, Calls Tryz.prog 76 #[.string (bA u), .int .i64 (-32768), .int .u64 32767] W fun e w' => e = .returned (.tuple #[.int .u64 (parseR u 32768 32767).1, .bool (parseR u 32768 32767).2]) ∧ W = w') := fun W => refparse_any u hu (-32768) 32767 32768 32767 (by decide) (by decide) rfl rfl W
  have HP2 : Hid (∀ W, Calls Tryz.prog 76 #[.string (bA u), .int .i64 (-2147483648), .int .u64 2147483647] W fun e w' => e = .returned (.tuple #[.int .u64 (parseR u 2147483648 2147483647).1, .bool (parseR u 2147483648 2147483647).2]) ∧ W = w') := fun W => refparse_any u hu (-2147483648) 2147483647 2147483648 2147483647 (by decide) (by decide) rfl rfl W
  clear hu
  generalize regR u = rg at *
  generalize parseR u 32768 32767 = p1 at *
  generalize parseR u 2147483648 2147483647 = p2 at *
  generalize bA u = B at *
  obtain ⟨r, rb⟩ := rg
  obtain ⟨n1, t1⟩ := p1
  obtain ⟨n2, t2⟩ := p2
  dsimp only at *
  go_enter Tryz.func100, Tryz.ntmps100
  go_upto_region 1 with fail
  obtain ⟨W0, b, c, hW0, hb, hc, HF0, HB0, HB1⟩ := two_new w o d s f m
  rw [← hW0, hc, hb]
  have hbc : b ≠ c := by omega
  have hcb : c ≠ b := by omega
  have HBC : Hid (w.heap.size ≤ b ∧ w.heap.size ≤ c) := Lib.hid ⟨by omega, by omega⟩
  clear hb hc hW0
  go_wp2_with (first
    | (go_at_call 75; (with_reducible refine (HR.out _).mono ?_); rintro e w1 ⟨rfl, hf1⟩; have HF1 := Lib.hid (HF0.out.trans hf1); obtain ⟨c0, c1, c2, c3, c4, z0, z1, z2, z3, z4⟩ := HB0.out.fr hf1; obtain ⟨r0, r1, r2, r3, r4, y0, y1, y2, y3, y4⟩ := HB1.out.fr hf1; clear hf1)
    | (go_at_call 76; (with_reducible refine (HP1.out _).mono ?_); rintro e w2 ⟨rfl, rfl⟩)
    | (go_at_call 76; (with_reducible refine (HP2.out _).mono ?_); rintro e w3 ⟨rfl, rfl⟩))
  have HR0 := Bx.mk r0 r1 r2 r3 r4 y0 y1 y2 y3 y4
  clear c0 c1 c2 c3 c4 z0 z1 z2 z3 z4 r0 r1 r2 r3 r4 y0 y1 y2 y3 y4
  obtain ⟨W6, hW6⟩ : ∃ W6, W6 = ((((((w1.setCell ⟨b, 3, none⟩ (.int .i16 (IntKind.i16.wrap n1))).setCell ⟨c, 0, none⟩ (.int .u8 o)).setCell ⟨c, 1, none⟩ (.int .u8 d)).setCell ⟨c, 2, none⟩ (.int .u8 s)).setCell ⟨c, 3, none⟩ (.int .i16 (IntKind.i16.wrap n1))).setCell ⟨c, 4, none⟩ (.int .i32 m)) := ⟨_, rfl⟩
  have HB6 : Bx W6 c o d s (IntKind.i16.wrap n1) m := by rw [hW6]; exact (HR0.other hbc 3 (.int .i16 (IntKind.i16.wrap n1))).put o d s (IntKind.i16.wrap n1) m
  have HF6 : Fr No w W6 := by
    rw [hW6]
    exact (Fr.late (Fr.late (Fr.late (Fr.late (Fr.late (Fr.late HF1.out HBC.out.1 3 (.int .i16 (IntKind.i16.wrap n1))) HBC.out.2 0 (.int .u8 o)) HBC.out.2 1 (.int .u8 d)) HBC.out.2 2 (.int .u8 s)) HBC.out.2 3 (.int .i16 (IntKind.i16.wrap n1))) HBC.out.2 4 (.int .i32 m))
  refine Eq.mp (congrArg (fun W => bodyPost Tryz.prog Tryz.f100 _ Exit.ret _ W) hW6) ?_
  clear hW6
  obtain ⟨g0, g1, g2, g3, g4, _, _, _, _, _⟩ := HB6
  refine bodyPost_ret (v := .tuple #[.agg #[.int .u8 o, .int .u8 d, .int .u8 s, .int .i16 (IntKind.i16.wrap n1), .int .i32 m], .bool t1]) (by simp [results, Tryz.results100, go_sem, g0, g1, g2, g3, g4]) rfl ?_
  exact ⟨rfl, HF6⟩
set_option maxRecDepth 100000 in
set_option maxHeartbeats 1000000 in
theorem field_v (o d s f m : Int) (u : List UInt8) (hu : u.length ≤ 100000) (w : World) : Calls Tryz.prog 100 #[.agg #[.int .u8 o, .int .u8 d, .int .u8 s, .int .i16 f, .int .i32 m], .int .u8 118, .string (bA u)] w (FieldAt w o d s f (wrap32 (parseR u 2147483648 2147483647).1) (parseR u 2147483648 2147483647).2) := by
  have HR : Hid (∀ W, Calls Tryz.prog 75 #[.string (bA u)] W fun e w' => e = .returned (.tuple #[.int .u8 (regR u).1, .bool (regR u).2]) ∧ Fr No W w') := fun W => register_any u W
  have HP1 : Hid (∀ W, Calls Tryz.prog 76 #[.string (bA u), .int .i64 (-32768), .int .u64 32767] W fun e w' => e = .returned (.tuple #[.int .u64 (parseR u 32768 32767).1, .bool (parseR u 32768 32767).2]) ∧ W = w') := fun W => refparse_any u hu (-32768) 32767 32768 32767 (by decide) (by decide) rfl rfl W
  have HP2 : Hid (∀ W, Calls Tryz.prog 76 #[.string (bA u), .int .i64 (-2147483648), .int .u64 2147483647] W fun e w' => e = .returned (.tuple #[.int .u64 (parseR u 2147483648 2147483647).1, .bool (parseR u 2147483648 2147483647).2]) ∧ W = w') := fun W => refparse_any u hu (-2147483648) 2147483647 2147483648 2147483647 (by decide) (by decide) rfl rfl W
  clear hu
  generalize regR u = rg at *
  generalize parseR u 32768 32767 = p1 at *
  generalize parseR u 2147483648 2147483647 = p2 at *
  generalize bA u = B at *
  obtain ⟨r, rb⟩ := rg
  obtain ⟨n1, t1⟩ := p1
  obtain ⟨n2, t2⟩ := p2
  dsimp only at *
  go_enter Tryz.func100, Tryz.ntmps100
  go_upto_region 1 with fail
  obtain ⟨W0, b, c, hW0, hb, hc, HF0, HB0, HB1⟩ := two_new w o d s f m
  rw [← hW0, hc, hb]
  have hbc : b ≠ c := by omega
  have hcb : c ≠ b := by omega
  have HBC : Hid (w.heap.size ≤ b ∧ w.heap.size ≤ c) := Lib.hid ⟨by omega, by omega⟩
  clear hb hc hW0
  go_wp2_with (first
    | (go_at_call 75; (with_reducible refine (HR.out _).mono ?_); rintro e w1 ⟨rfl, hf1⟩; have HF1 := Lib.hid (HF0.out.trans hf1); obtain ⟨c0, c1, c2, c3, c4, z0, z1, z2, z3, z4⟩ := HB0.out.fr hf1; obtain ⟨r0, r1, r2, r3, r4, y0, y1, y2, y3, y4⟩ := HB1.out.fr hf1; clear hf1)
    | (go_at_call 76; (with_reducible refine (HP1.out _).mono ?_); rintro e w2 ⟨rfl, rfl⟩)
    | (go_at_call 76; (with_reducible refine (HP2.out _).mono ?_); rintro e w3 ⟨rfl, rfl⟩))
  have HR0 := Bx.mk r0 r1 r2 r3 r4 y0 y1 y2 y3 y4
  clear c0 c1 c2 c3 c4 z0 z1 z2 z3 z4 r0 r1 r2 r3 r4 y0 y1 y2 y3 y4
  obtain ⟨W6, hW6⟩ : ∃ W6, W6 = ((((((w1.setCell ⟨b, 4, none⟩ (.int .i32 (wrap32 n2))).setCell ⟨c, 0, none⟩ (.int .u8 o)).setCell ⟨c, 1, none⟩ (.int .u8 d)).setCell ⟨c, 2, none⟩ (.int .u8 s)).setCell ⟨c, 3, none⟩ (.int .i16 f)).setCell ⟨c, 4, none⟩ (.int .i32 (wrap32 n2))) := ⟨_, rfl⟩
  have HB6 : Bx W6 c o d s f (wrap32 n2) := by rw [hW6]; exact (HR0.other hbc 4 (.int .i32 (wrap32 n2))).put o d s f (wrap32 n2)
  have HF6 : Fr No w W6 := by
    rw [hW6]
    exact (Fr.late (Fr.late (Fr.late (Fr.late (Fr.late (Fr.late HF1.out HBC.out.1 4 (.int .i32 (wrap32 n2))) HBC.out.2 0 (.int .u8 o)) HBC.out.2 1 (.int .u8 d)) HBC.out.2 2 (.int .u8 s)) HBC.out.2 3 (.int .i16 f)) HBC.out.2 4 (.int .i32 (wrap32 n2)))
  refine Eq.mp (congrArg (fun W => bodyPost Tryz.prog Tryz.f100 _ Exit.ret _ W) hW6) ?_
  clear hW6
  obtain ⟨g0, g1, g2, g3, g4, _, _, _, _, _⟩ := HB6
  refine bodyPost_ret (v := .tuple #[.agg #[.int .u8 o, .int .u8 d, .int .u8 s, .int .i16 f, .int .i32 (wrap32 n2)], .bool t2]) (by simp [results, Tryz.results100, go_sem, g0, g1, g2, g3, g4]) rfl ?_
  exact ⟨rfl, HF6⟩
set_option maxRecDepth 100000 in
set_option maxHeartbeats 1000000 in
theorem field_er (o d s f m : Int) (u : List UInt8) (hu : u.length ≤ 100000) (ho : IntKind.u8.wrap (o + 8) = o + 8) (hr : (regR u).2 = true) (w : World) : Calls Tryz.prog 100 #[.agg #[.int .u8 o, .int .u8 d, .int .u8 s, .int .i16 f, .int .i32 m], .int .u8 101, .string (bA u)] w (FieldAt w (o + 8) d (regR u).1 f m true) := by
  have HR : Hid (∀ W, Calls Tryz.prog 75 #[.string (bA u)] W fun e w' => e = .returned (.tuple #[.int .u8 (regR u).1, .bool (regR u).2]) ∧ Fr No W w') := fun W => register_any u W
  have HP1 : Hid (∀ W, Calls Tryz.prog 76 #[.string (bA u), .int .i64 (-32768), .int .u64 32767] W fun e w' => e = .returned (.tuple #[.int .u64 (parseR u 32768 32767).1, .bool (parseR u 32768 32767).2]) ∧ W = w') := fun W => refparse_any u hu (-32768) 32767 32768 32767 (by decide) (by decide) rfl rfl W
  have HP2 : Hid (∀ W, Calls Tryz.prog 76 #[.string (bA u), .int .i64 (-2147483648), .int .u64 2147483647] W fun e w' => e = .returned (.tuple #[.int .u64 (parseR u 2147483648 2147483647).1, .bool (parseR u 2147483648 2147483647).2]) ∧ W = w') := fun W => refparse_any u hu (-2147483648) 2147483647 2147483648 2147483647 (by decide) (by decide) rfl rfl W
  clear hu
  generalize regR u = rg at *
  generalize parseR u 32768 32767 = p1 at *
  generalize parseR u 2147483648 2147483647 = p2 at *
  generalize bA u = B at *
  obtain ⟨r, rb⟩ := rg
  obtain ⟨n1, t1⟩ := p1
  obtain ⟨n2, t2⟩ := p2
  dsimp only at *
  subst hr
  go_enter Tryz.func100, Tryz.ntmps100
  go_upto_region 1 with fail
  obtain ⟨W0, b, c, hW0, hb, hc, HF0, HB0, HB1⟩ := two_new w o d s f m
  rw [← hW0, hc, hb]
  have hbc : b ≠ c := by omega
  have hcb : c ≠ b := by omega
  have HBC : Hid (w.heap.size ≤ b ∧ w.heap.size ≤ c) := Lib.hid ⟨by omega, by omega⟩
  clear hb hc hW0
  go_wp2_with (first
    | (go_at_call 75; (with_reducible refine (HR.out _).mono ?_); rintro e w1 ⟨rfl, hf1⟩; have HF1 := Lib.hid (HF0.out.trans hf1); obtain ⟨c0, c1, c2, c3, c4, z0, z1, z2, z3, z4⟩ := HB0.out.fr hf1; obtain ⟨r0, r1, r2, r3, r4, y0, y1, y2, y3, y4⟩ := HB1.out.fr hf1; clear hf1)
    | (go_at_call 76; (with_reducible refine (HP1.out _).mono ?_); rintro e w2 ⟨rfl, rfl⟩)
    | (go_at_call 76; (with_reducible refine (HP2.out _).mono ?_); rintro e w3 ⟨rfl, rfl⟩))
  have HR0 := Bx.mk r0 r1 r2 r3 r4 y0 y1 y2 y3 y4
  clear c0 c1 c2 c3 c4 z0 z1 z2 z3 z4 r0 r1 r2 r3 r4 y0 y1 y2 y3 y4
  obtain ⟨W6, hW6⟩ : ∃ W6, W6 = (((((((w1.setCell ⟨b, 2, none⟩ (.int .u8 (r : Int))).setCell ⟨b, 0, none⟩ (.int .u8 (o + 8))).setCell ⟨c, 0, none⟩ (.int .u8 (o + 8))).setCell ⟨c, 1, none⟩ (.int .u8 d)).setCell ⟨c, 2, none⟩ (.int .u8 r)).setCell ⟨c, 3, none⟩ (.int .i16 f)).setCell ⟨c, 4, none⟩ (.int .i32 m)) := ⟨_, rfl⟩
  have HB6 : Bx W6 c (o + 8) d r f m := by rw [hW6]; exact ((HR0.other hbc 2 (.int .u8 (r : Int))).other hbc 0 (.int .u8 (o + 8))).put (o + 8) d r f m
  have HF6 : Fr No w W6 := by
    rw [hW6]
    exact (Fr.late (Fr.late (Fr.late (Fr.late (Fr.late (Fr.late (Fr.late HF1.out HBC.out.1 2 (.int .u8 (r : Int))) HBC.out.1 0 (.int .u8 (o + 8))) HBC.out.2 0 (.int .u8 (o + 8))) HBC.out.2 1 (.int .u8 d)) HBC.out.2 2 (.int .u8 r)) HBC.out.2 3 (.int .i16 f)) HBC.out.2 4 (.int .i32 m))
  refine Eq.mp (congrArg (fun W => bodyPost Tryz.prog Tryz.f100 _ Exit.ret _ W) hW6) ?_
  clear hW6
  obtain ⟨g0, g1, g2, g3, g4, _, _, _, _, _⟩ := HB6
  refine bodyPost_ret (v := .tuple #[.agg #[.int .u8 (o + 8), .int .u8 d, .int .u8 r, .int .i16 f, .int .i32 m], .bool true]) (by simp [results, Tryz.results100, go_sem, g0, g1, g2, g3, g4]) rfl ?_
  exact ⟨rfl, HF6⟩
set_option maxRecDepth 100000 in
set_option maxHeartbeats 1000000 in
theorem field_ev (o d s f m : Int) (u : List UInt8) (hu : u.length ≤ 100000) (hr : (regR u).2 = false) (w : World) : Calls Tryz.prog 100 #[.agg #[.int .u8 o, .int .u8 d, .int .u8 s, .int .i16 f, .int .i32 m], .int .u8 101, .string (bA u)] w (FieldAt w o d s f (wrap32 (parseR u 2147483648 2147483647).1) (parseR u 2147483648 2147483647).2) := by
  have HR : Hid (∀ W, Calls Tryz.prog 75 #[.string (bA u)] W fun e w' => e = .returned (.tuple #[.int .u8 (regR u).1, .bool (regR u).2]) ∧ Fr No W w') := fun W => register_any u W
  have HP1 : Hid (∀ W, Calls Tryz.prog 76 #[.string (bA u), .int .i64 (-32768), .int .u64 32767] W fun e w' => e = .returned (.tuple #[.int .u64 (parseR u 32768 32767).1, .bool (parseR u 32768 32767).2]) ∧ W = w') := fun W => refparse_any u hu (-32768) 32767 32768 32767 (by decide) (by decide) rfl rfl W
  have HP2 : Hid (∀ W, Calls Tryz.prog 76 #[.string (bA u), .int .i64 (-2147483648), .int .u64 2147483647] W fun e w' => e = .returned (.tuple #[.int .u64 (parseR u 2147483648 2147483647).1, .bool (parseR u 2147483648 2147483647).2]) ∧ W = w') := fun W => refparse_any u hu (-2147483648) 2147483647 2147483648 2147483647 (by decide) (by decide) rfl rfl W
  clear hu
  generalize regR u = rg at *
  generalize parseR u 32768 32767 = p1 at *
  generalize parseR u 2147483648 2147483647 = p2 at *
  generalize bA u = B at *
  obtain ⟨r, rb⟩ := rg
  obtain ⟨n1, t1⟩ := p1
  obtain ⟨n2, t2⟩ := p2
  dsimp only at *
  subst hr
  go_enter Tryz.func100, Tryz.ntmps100
  go_upto_region 1 with fail
  obtain ⟨W0, b, c, hW0, hb, hc, HF0, HB0, HB1⟩ := two_new w o d s f m
  rw [← hW0, hc, hb]
  have hbc : b ≠ c := by omega
  have hcb : c ≠ b := by omega
  have HBC : Hid (w.heap.size ≤ b ∧ w.heap.size ≤ c) := Lib.hid ⟨by omega, by omega⟩
  clear hb hc hW0
  go_wp2_with (first
    | (go_at_call 75; (with_reducible refine (HR.out _).mono ?_); rintro e w1 ⟨rfl, hf1⟩; have HF1 := Lib.hid (HF0.out.trans hf1); obtain ⟨c0, c1, c2, c3, c4, z0, z1, z2, z3, z4⟩ := HB0.out.fr hf1; obtain ⟨r0, r1, r2, r3, r4, y0, y1, y2, y3, y4⟩ := HB1.out.fr hf1; clear hf1)
    | (go_at_call 76; (with_reducible refine (HP1.out _).mono ?_); rintro e w2 ⟨rfl, rfl⟩)
    | (go_at_call 76; (with_reducible refine (HP2.out _).mono ?_); rintro e w3 ⟨rfl, rfl⟩))
  have HR0 := Bx.mk r0 r1 r2 r3 r4 y0 y1 y2 y3 y4
  clear c0 c1 c2 c3 c4 z0 z1 z2 z3 z4 r0 r1 r2 r3 r4 y0 y1 y2 y3 y4
  obtain ⟨W6, hW6⟩ : ∃ W6, W6 = ((((((w1.setCell ⟨b, 4, none⟩ (.int .i32 (wrap32 n2))).setCell ⟨c, 0, none⟩ (.int .u8 o)).setCell ⟨c, 1, none⟩ (.int .u8 d)).setCell ⟨c, 2, none⟩ (.int .u8 s)).setCell ⟨c, 3, none⟩ (.int .i16 f)).setCell ⟨c, 4, none⟩ (.int .i32 (wrap32 n2))) := ⟨_, rfl⟩
  have HB6 : Bx W6 c o d s f (wrap32 n2) := by rw [hW6]; exact (HR0.other hbc 4 (.int .i32 (wrap32 n2))).put o d s f (wrap32 n2)
  have HF6 : Fr No w W6 := by
    rw [hW6]
    exact (Fr.late (Fr.late (Fr.late (Fr.late (Fr.late (Fr.late HF1.out HBC.out.1 4 (.int .i32 (wrap32 n2))) HBC.out.2 0 (.int .u8 o)) HBC.out.2 1 (.int .u8 d)) HBC.out.2 2 (.int .u8 s)) HBC.out.2 3 (.int .i16 f)) HBC.out.2 4 (.int .i32 (wrap32 n2)))
  refine Eq.mp (congrArg (fun W => bodyPost Tryz.prog Tryz.f100 _ Exit.ret _ W) hW6) ?_
  clear hW6
  obtain ⟨g0, g1, g2, g3, g4, _, _, _, _, _⟩ := HB6
  refine bodyPost_ret (v := .tuple #[.agg #[.int .u8 o, .int .u8 d, .int .u8 s, .int .i16 f, .int .i32 (wrap32 n2)], .bool t2]) (by simp [results, Tryz.results100, go_sem, g0, g1, g2, g3, g4]) rfl ?_
  exact ⟨rfl, HF6⟩
end Go.Proofs.YthkdokkpiaaljaaGreatDoor
