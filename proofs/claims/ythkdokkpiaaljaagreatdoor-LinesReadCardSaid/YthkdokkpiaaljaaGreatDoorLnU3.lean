/- firewallref03.Read, walked. -/
import Derived.Test.YthkdokkpiaaljaaGreatDoorLnU2
set_option linter.all false
set_option linter.unusedVariables false
set_option linter.unusedSimpArgs false
namespace Go.Proofs.YthkdokkpiaaljaaGreatDoor
open Go.RowKit

theorem fields_map2 {r : Option Ins} {f : Ins → List Ins} (hf : ∀ i, (f i).length ≤ 2) {l : List Ins} (h : r.map f = some l) : l.length ≤ 2 := by
  obtain ⟨i, _, rfl⟩ := Option.map_eq_some_iff.1 h
  exact hf i
theorem lineW_few {ws : List (List UInt8)} {l : List Ins} (h : lineW ws = some l) : l.length ≤ 2 := by
  cases ws with
  | nil => cases h
  | cons first rest =>
    rw [lineW_cons] at h
    split at h
    · unfold rawD at h
      split at h
      · obtain ⟨x, _, h⟩ := Option.bind_eq_some_iff.1 h
        obtain ⟨y, _, h⟩ := Option.bind_eq_some_iff.1 h
        obtain ⟨z, _, h⟩ := Option.bind_eq_some_iff.1 h
        exact fields_map2 (fun _ => by simp) h
      · cases h
    · split at h
      · unfold ldimmD at h
        split at h
        · obtain ⟨x, _, h⟩ := Option.bind_eq_some_iff.1 h
          obtain ⟨y, _, rfl⟩ := Option.map_eq_some_iff.1 h
          simp
        · cases h
      · split at h
        · exact fields_map2 (fun _ => by simp) h
        · split at h
          · cases h
          · exact fields_map2 (fun _ => by simp) h

def segL (s : List UInt8) (a k : Nat) : List UInt8 := (s.drop a).take (k - a)
/-- how far a text is read: the place, where its line begins, the line's number, the slots -/
def RdSt (s : List UInt8) (k a n : Nat) (acc : List Ins) (R : List Ins × Nat × Int) : Prop :=
  (k ≤ s.length ∧ a ≤ k ∧ readF (splitF (s.drop k) (segL s a k)) n acc = R) ∨ (k = s.length + 1 ∧ (acc, 0, 0) = R)
theorem RdSt.start (s : List UInt8) : RdSt s 0 0 1 [] (readF (splitL s) 1 []) := .inl ⟨Nat.zero_le _, Nat.le_refl _, rfl⟩
theorem RdSt.on {s : List UInt8} {k a n : Nat} {acc : List Ins} {R : List Ins × Nat × Int} {c : UInt8} (h : RdSt s k a n acc R) (hc : s[k]? = some c) (h10 : c ≠ 10) : RdSt s (k + 1) a n acc R := by
  obtain ⟨hk, hkc⟩ := List.getElem?_eq_some_iff.1 hc
  rcases h with ⟨h1, h2, h3⟩ | ⟨h1, _⟩
  · refine .inl ⟨hk, by omega, ?_⟩
    rw [List.drop_eq_getElem_cons hk, hkc, splitF, if_neg h10] at h3
    have : segL s a (k + 1) = segL s a k ++ [c] := by
      unfold segL
      rw [show k + 1 - a = (k - a) + 1 by omega, List.take_add_one, List.getElem?_drop, show a + (k - a) = k by omega, hc]
      rfl
    rw [this]
    exact h3
  · omega
theorem RdSt.line {s : List UInt8} {k a n : Nat} {acc : List Ins} {R : List Ins × Nat × Int} (h : RdSt s k a n acc R) (hk : k ≤ s.length) (he : ∀ c, s[k]? = some c → c = 10) : a ≤ k ∧
    (slotsL (segL s a k) = none → R = ([], n, 10)) ∧ (∀ more, slotsL (segL s a k) = some more → (64 < (acc ++ more).length → R = ([], n, 3)) ∧ (¬ 64 < (acc ++ more).length → RdSt s (k + 1) (k + 1) (n + 1) (acc ++ more) R)) := by
  rcases h with ⟨h1, h2, h3⟩ | ⟨h1, _⟩
  · refine ⟨h2, ?_⟩
    rcases Nat.lt_or_ge k s.length with hlt | hge
    · have h10 := he _ (List.getElem?_eq_getElem hlt)
      rw [List.drop_eq_getElem_cons hlt, h10, splitF, if_pos rfl, readF_cons] at h3
      refine ⟨fun h0 => ?_, fun more hm => ⟨fun hb => ?_, fun hb => ?_⟩⟩
      · rw [h0] at h3; exact h3.symm
      · rw [hm] at h3; simp only [if_pos hb] at h3; exact h3.symm
      · rw [hm] at h3
        simp only [if_neg hb] at h3
        refine .inl ⟨hlt, Nat.le_refl _, ?_⟩
        have : segL s (k + 1) (k + 1) = [] := by unfold segL; simp
        rw [this]
        exact h3
    · obtain rfl : k = s.length := by omega
      rw [List.drop_of_length_le (Nat.le_refl _)] at h3
      simp only [splitF] at h3
      rw [readF_cons] at h3
      refine ⟨fun h0 => ?_, fun more hm => ⟨fun hb => ?_, fun hb => ?_⟩⟩
      · rw [h0] at h3; exact h3.symm
      · rw [hm] at h3; simp only [if_pos hb] at h3; exact h3.symm
      · rw [hm] at h3
        simp only [if_neg hb] at h3
        exact .inr ⟨rfl, h3⟩
  · omega
theorem RdSt.done {s : List UInt8} {a n : Nat} {acc : List Ins} {R : List Ins × Nat × Int} (h : RdSt s (s.length + 1) a n acc R) : R = (acc, 0, 0) := by
  rcases h with ⟨h1, _⟩ | ⟨_, h⟩
  · omega
  · exact h.symm
theorem slots_of {t : List UInt8} {ws : List (List UInt8)} (h : wordsL t = some ws) : slotsL t = if ws = [] then some [] else lineW ws := by
  unfold slotsL
  rw [h]
  rfl
theorem slots_no {t : List UInt8} (h : wordsL t = none) : slotsL t = none := by unfold slotsL; rw [h]; rfl

set_option maxRecDepth 100000 in
set_option maxHeartbeats 1000000 in
theorem refread_long (s : List UInt8) (hs : 4000 < s.length) (w : World) : Calls Tryz.prog 15 #[.string (bA s)] w (ReadTo w ([], 0, 3)) := by
  have hsz : (bA s).size = s.length := bA_size s
  have h1 : (4000 : Int) < ((bA s).size : Int) := by omega
  clear hsz
  generalize bA s = B at *
  go_enter Tryz.func15, Tryz.ntmps15
  go_wp2_with fail
  go_returns
  exact ⟨_, rfl, .inl ⟨rfl, _, _, rfl⟩, Fr.refl _ _⟩

set_option maxRecDepth 100000 in
set_option maxHeartbeats 8000000 in
theorem refread_short (s : List UInt8) (hs : s.length ≤ 4000) (w : World) : Calls Tryz.prog 15 #[.string (bA s)] w (ReadTo w (readF (splitL s) 1 [])) := by
  have hsz : (bA s).size = s.length := bA_size s
  have HSZ := Lib.hid hsz
  have hsb : ((bA s).size : Int) = s.length := by rw [hsz]
  have h1 : ¬ (4000 : Int) < ((bA s).size : Int) := by omega
  obtain ⟨i0, hi0, hz0, hz1, hz2⟩ := info_parts Tryz.infoL_ins
  have HS4 : Hid (s.length ≤ 4000) := hs
  have HRS := Lib.hid (RdSt.start s)
  have HWD : Hid (∀ (t : List UInt8) W, t.length ≤ 4000 → Calls Tryz.prog 39 #[.string (bA t)] W (WordsTo W (wordsL t))) := fun t W ht => refwords_any t (by omega) W
  obtain ⟨R, hR⟩ : ∃ R, readF (splitL s) 1 [] = R := ⟨_, rfl⟩
  rw [hR] at HRS ⊢
  clear hs hsz hR
  go_enter Tryz.func15, Tryz.ntmps15
  go_wp2_with fail
  go_loopw [5, 6, 7, 8, 9, 10, 11] (fun s5 s6 s7 s8 s9 s10 s11 wr => ∃ (k a n : Nat) (acc : List Ins), k ≤ s.length + 1 ∧ n ≤ k + 1 ∧ s6 = .int .i64 n ∧ s7 = .int .i64 a ∧ s8 = .int .i64 k ∧ acc.length ≤ 64 ∧ Hid (Gath w 51 5 acc.length (iflat acc) s5 wr) ∧ Hid (RdSt s k a n acc R)) (fun _ _ _ s8 _ _ _ _ => s.length + 1 - (intOf s8).toNat)
  case atStart => exact ⟨0, 0, 1, [], by omega, by omega, rfl, rfl, rfl, by simp, Gath.start w _ _, HRS.out⟩
  case round =>
    obtain ⟨k, a, n, acc, hk, hnk, rfl, rfl, rfl, hacc, HG, HR⟩ := hrel
    obtain ⟨va, vc, rfl⟩ := ownL_form HG.out.own
    have h4 := HS4.out
    by_cases hle : k ≤ s.length
    · have hle2 : (k : Int) ≤ ((bA s).size : Int) := by omega
      obtain ⟨ct, hct⟩ : ∃ ct : Bool, (match s[k]? with | some c => !(c == 10) | none => false) = ct := ⟨_, rfl⟩
      have HCT := Lib.hid hct
      go_upto_region 8 with fail
      go_cut [30] from 21 to 29 (fun s30 wx => s30 = .bool ct ∧ wr = wx)
      case first =>
        by_cases hlt : k < s.length
        · have p1 : (k : Int) < ((bA s).size : Int) := by omega
          have p2 : k < (bA s).size := by omega
          obtain ⟨c, hc⟩ : ∃ c, s[k]? = some c := ⟨_, List.getElem?_eq_getElem hlt⟩
          have hB : ((bA s)[k]'p2).toNat = c.toNat := by rw [List.getElem?_eq_getElem hlt] at hc; have := Option.some.inj hc; subst this; rfl
          have q10 : ((c.toNat : Int) == 10) = (c == 10) := by
            have := eq8 c 10 (by omega)
            rw [Bool.eq_iff_iff, beq_iff_eq, beq_iff_eq, show (10 : UInt8) = UInt8.ofNat 10 from rfl, this]; omega
          have HX : Hid ((!(c == 10)) = ct) := by rw [← hct, hc]; exact Lib.hid rfl
          have q11 : ((c.toNat : Int) != 10) = ct := by rw [bne, q10]; exact HX.out
          clear hct hc hlt hle
          go_wp2_with fail
          go_meet
          exact ⟨by first | rfl | (rw [← HX.out, ← q10]; rfl), rfl⟩
        · have p1 : ¬ (k : Int) < ((bA s).size : Int) := by omega
          have HX : Hid (false = ct) := by rw [← hct, List.getElem?_eq_none (by omega)]; exact Lib.hid rfl
          clear hct hlt hle
          go_wp2_with fail
          go_meet
          exact ⟨by rw [← HX.out], rfl⟩
      case rest =>
        obtain ⟨rfl, rfl⟩ := hcut
        have HLE := Lib.hid hle
        cases ct with
        | true =>
          have HN : Hid (k < s.length ∧ RdSt s (k + 1) a n acc R) := by
            cases hc : s[k]? with
            | none => rw [hc] at hct; cases hct
            | some c =>
              rw [hc] at hct
              have h10 : c ≠ 10 := by intro e; subst e; cases hct
              exact Lib.hid ⟨(List.getElem?_eq_some_iff.1 hc).1, HR.out.on hc h10⟩
          clear hct
          go_wp2_with fail
          go_roundw
          case rel => exact ⟨k + 1, a, n, acc, by have := HN.out.1; omega, by omega, rfl, rfl, by go_num, hacc, HG.out, HN.out.2⟩
          case measure => have := HLE.out; simp [intOf] <;> omega
        | false =>
          have h10 : ∀ c, s[k]? = some c → c = 10 := fun c hc => by rw [hc] at hct; simpa using hct
          obtain ⟨hak, HNO, HMO⟩ := HR.out.line hle h10
          have HNO2 : Hid (slotsL (segL s a k) = none → R = ([], n, 10)) := HNO
          have HMO2 : Hid (∀ more, slotsL (segL s a k) = some more → (64 < (acc ++ more).length → R = ([], n, 3)) ∧ (¬ 64 < (acc ++ more).length → RdSt s (k + 1) (k + 1) (n + 1) (acc ++ more) R)) := HMO
          obtain ⟨t, ht⟩ : ∃ t, segL s a k = t := ⟨_, rfl⟩
          have hX : (bA s).extract a k = bA t := by rw [extract_bA, ← ht]; rfl
          have htl : t.length ≤ 4000 := by rw [← ht]; unfold segL; rw [List.length_take, List.length_drop]; omega
          rw [ht] at HNO2 HMO2
          have HWT := Lib.hid (fun W => HWD.out t W htl)
          have hb1 : (a : Int) ≤ (k : Int) := by omega
          rw [← hX] at HWT
          clear hct h10 HNO HMO ht hX
          have f1 : IntKind.i64.wrap ((n : Int) + 1) = ((n + 1 : Nat) : Int) := by rw [IntWalk.i64_in _ (by omega)]; omega
          have f2 : IntKind.i64.wrap ((k : Int) + 1) = ((k + 1 : Nat) : Int) := by rw [IntWalk.i64_in _ (by omega)]; omega
          cases hw : wordsL t with
          | none =>
            rw [hw] at HWT
            have HE := Lib.hid (HNO2.out (slots_no hw))
            clear hw htl
            go_wp2_with (go_at_call 39; (with_reducible refine (HWT.out _).mono ?_); rintro e w1 ⟨rfl, hf1⟩; have HF1 := Lib.hid (HG.out.fr.trans hf1); clear hf1)
            go_returns
            rw [HE.out]
            exact ⟨_, rfl, .inl ⟨rfl, _, _, rfl⟩, HF1.out⟩
          | some ws =>
            obtain ⟨hwl, hwn⟩ := wordsL_le hw
            have HSL := Lib.hid (slots_of hw)
            rw [hw] at HWT
            cases ws with
            | nil =>
              have HN : Hid (RdSt s (k + 1) (k + 1) (n + 1) acc R) := by
                have := (HMO2.out [] (HSL.out.trans (if_pos rfl))).2 (by simp; omega)
                rw [List.append_nil] at this
                exact this
              have hacc2 : ¬ (64 : Int) < (acc.length : Int) := by omega
              clear hw htl hwl hwn
              go_wp2_with (go_at_call 39; (with_reducible refine (HWT.out _).mono ?_); rintro e w1 ⟨v1, rfl, hv1, hf1⟩; obtain ⟨a1, c1, rfl⟩ := hv1.form1; have HG1 := Lib.hid (HG.out.to hf1); clear hf1 hv1)
              go_roundw
              case rel => exact ⟨k + 1, k + 1, n + 1, acc, by have := HLE.out; omega, by omega, by go_num, by go_num, by go_num, hacc, HG1.out, HN.out⟩
              case measure => have := HLE.out; simp [intOf] <;> omega
            | cons first rest =>
              have HSL2 : Hid (slotsL t = lineW (first :: rest)) := HSL.out.trans (if_neg (by simp))
              have HLN : Hid (∀ W v, StrsAt W v (first :: rest) → Calls Tryz.prog 40 #[v] W (LineTo W (lineW (first :: rest)))) := fun W v hv => refline_any first rest v W hv (fun u hu => by have := hwl u hu; omega) (by simp at hwn; omega)
              obtain ⟨m, hm⟩ : ∃ m, (first :: rest).length = m := ⟨_, rfl⟩
              have hm1 : (0 : Int) < (m : Int) := by rw [← hm, List.length_cons]; omega
              clear hwl hwn htl
              cases hlw : lineW (first :: rest) with
              | none =>
                rw [hlw] at HLN HSL2
                have HE := Lib.hid (HNO2.out HSL2.out)
                clear hw hlw
                go_wp2_with (first
                  | (go_at_call 39; (with_reducible refine (HWT.out _).mono ?_); rintro e w1 ⟨v1, rfl, hv1, hf1⟩; have HG1 := Lib.hid (HG.out.to hf1); have HL1 := Lib.hid (HLN.out _ _ hv1); obtain ⟨a1, c1, rfl⟩ := hv1.form1; rw [hm] at HL1 ⊢; clear hf1 hv1)
                  | (go_at_call 40; (with_reducible refine HL1.out.mono ?_); rintro e w2 ⟨v2, l2, rfl, hs2, hl2, hf2⟩; have HG2 := Lib.hid (HG1.out.to hf2); have HS2 := Lib.hid hs2; clear hf2 hs2)
                  | (at_builtin; refine wpList_append_src rfl _ _ 22 rfl w.heap.size 51 i0 _ 5 12 Tryz.underlying22 hi0 hz0 hz1 hz2 rfl (by decide) (.slice va acc.length vc) acc.length (iflat acc) rfl HG2.out.own _ l2.length (iflat l2) rfl HS2.out (iflat_len l2) iflat_one (by unfold maxLen; omega) (by omega) HG2.out.fr.size ?_; intro v' w5 own5 fr5; obtain ⟨a5, c5, rfl⟩ := ownL_form own5; have HG5 := Lib.hid (HG2.out.stepm own5 fr5); clear own5 fr5))
                go_returns
                rw [HE.out]
                exact ⟨_, rfl, .inl ⟨rfl, _, _, rfl⟩, HG5.out.fr⟩
              | some more =>
                have hfew := lineW_few hlw
                rw [hlw] at HLN HSL2
                have HMR := Lib.hid (HMO2.out more HSL2.out)
                clear hw hlw
                by_cases hbig : 64 < acc.length + more.length
                · have HE := Lib.hid (HMR.out.1 (by rw [List.length_append]; exact hbig))
                  have hb2 : (64 : Int) < (acc.length : Int) + (more.length : Int) := by omega
                  go_wp2_with (first
                    | (go_at_call 39; (with_reducible refine (HWT.out _).mono ?_); rintro e w1 ⟨v1, rfl, hv1, hf1⟩; have HG1 := Lib.hid (HG.out.to hf1); have HL1 := Lib.hid (HLN.out _ _ hv1); obtain ⟨a1, c1, rfl⟩ := hv1.form1; rw [hm] at HL1 ⊢; clear hf1 hv1)
                    | (go_at_call 40; (with_reducible refine HL1.out.mono ?_); rintro e w2 ⟨v2, rfl, hs2, hf2⟩; have HG2 := Lib.hid (HG1.out.to hf2); have HS2 := Lib.hid hs2; clear hf2 hs2)
                    | (at_builtin; refine wpList_append_src rfl _ _ 22 rfl w.heap.size 51 i0 _ 5 12 Tryz.underlying22 hi0 hz0 hz1 hz2 rfl (by decide) (.slice va acc.length vc) acc.length (iflat acc) rfl HG2.out.own _ more.length (iflat more) rfl HS2.out (iflat_len more) iflat_one (by unfold maxLen; omega) (by omega) HG2.out.fr.size ?_; intro v' w5 own5 fr5; obtain ⟨a5, c5, rfl⟩ := ownL_form own5; have HG5 := Lib.hid (HG2.out.stepm own5 fr5); clear own5 fr5))
                  go_returns
                  rw [HE.out]
                  exact ⟨_, rfl, .inl ⟨rfl, _, _, rfl⟩, HG5.out.fr⟩
                · have HE := Lib.hid (HMR.out.2 (by rw [List.length_append]; exact hbig))
                  have hb2 : ¬ (64 : Int) < (acc.length : Int) + (more.length : Int) := by omega
                  go_wp2_with (first
                    | (go_at_call 39; (with_reducible refine (HWT.out _).mono ?_); rintro e w1 ⟨v1, rfl, hv1, hf1⟩; have HG1 := Lib.hid (HG.out.to hf1); have HL1 := Lib.hid (HLN.out _ _ hv1); obtain ⟨a1, c1, rfl⟩ := hv1.form1; rw [hm] at HL1 ⊢; clear hf1 hv1)
                    | (go_at_call 40; (with_reducible refine HL1.out.mono ?_); rintro e w2 ⟨v2, rfl, hs2, hf2⟩; have HG2 := Lib.hid (HG1.out.to hf2); have HS2 := Lib.hid hs2; clear hf2 hs2)
                    | (at_builtin; refine wpList_append_src rfl _ _ 22 rfl w.heap.size 51 i0 _ 5 12 Tryz.underlying22 hi0 hz0 hz1 hz2 rfl (by decide) (.slice va acc.length vc) acc.length (iflat acc) rfl HG2.out.own _ more.length (iflat more) rfl HS2.out (iflat_len more) iflat_one (by unfold maxLen; omega) (by omega) HG2.out.fr.size ?_; intro v' w5 own5 fr5; obtain ⟨a5, c5, rfl⟩ := ownL_form own5; have HG5 := Lib.hid (HG2.out.stepm own5 fr5); clear own5 fr5))
                  go_roundw
                  case rel => exact ⟨k + 1, k + 1, n + 1, acc ++ more, by have := HLE.out; omega, by omega, by go_num, by go_num, by go_num, by rw [List.length_append]; omega, by rw [List.length_append, iflat_app]; exact HG5.out, HE.out⟩
                  case measure => have := HLE.out; simp [intOf] <;> omega
    · obtain rfl : k = s.length + 1 := by omega
      have HE := Lib.hid HR.out.done
      have hle2 : ¬ ((s.length + 1 : Nat) : Int) ≤ ((bA s).size : Int) := by omega
      clear hle hk
      go_wp2_with fail
      go_returns
      rw [HE.out]
      exact ⟨_, rfl, HG.out.ins, HG.out.fr⟩
theorem refread_any (s : List UInt8) (w : World) : Calls Tryz.prog 15 #[.string (bA s)] w (ReadTo w (readS s)) := by
  unfold readS
  split
  · rename_i h; exact refread_long s h w
  · rename_i h; exact refread_short s (by omega) w
end Go.Proofs.YthkdokkpiaaljaaGreatDoor
