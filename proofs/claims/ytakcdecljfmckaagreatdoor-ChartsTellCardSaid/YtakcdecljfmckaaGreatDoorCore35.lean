/- the words by build's tests, and by the table. what package lines reads is what a text is. firewalllaw03.shown: a program's text is that text, and read as that program. charts.line. charts.Show: its text. -/
import Derived.Test.YtakcdecljfmckaaGreatDoorCore34
import Derived.Test.YtakcdecljfmckaaGreatDoorCore24
import Derived.Test.YtakcdecljfmckaaGreatDoorCore22
set_option linter.all false
set_option linter.unusedVariables false
set_option linter.unusedSimpArgs false
namespace Go.Proofs.YtakcdecljfmckaaGreatDoor

deriving instance DecidableEq for Kd
def clsB (first : List UInt8) : Option (Nat × List Kd) :=
  if first = [101, 120, 105, 116] then some (149, [])
  else if first = [110, 111, 115, 112, 101, 99] then some (194, [])
  else if first = [99, 97, 108, 108] then some (133, [.v])
  else if first = [106, 97] then some (5, [.o])
  else if sizedY (sizedN first [108, 100, 120]) = true then some ((sizedX (sizedN first [108, 100, 120])).1, [.d, .s, .o])
  else if sizedY (sizedN first [115, 116, 120]) = true then some ((sizedX (sizedN first [115, 116, 120])).2.2, [.d, .o, .s])
  else if sizedY (sizedN first [115, 116]) = true then some ((sizedX (sizedN first [115, 116])).2.1, [.d, .o, .v])
  else match codeW first with
    | none => none
    | some (op, j) => some (op, codeKs op j)
def clsT (first : List UInt8) : Option (Nat × List Kd) := ((List.range 256).find? (hitB first)).map fun op => (op, kindsOf op)
def allW : List (List UInt8) := (List.range 256).filterMap fun op => (table op).map (·.1)
theorem cls_in : ∀ first ∈ allW, clsB first = clsT first := by decide +kernel
theorem clsT_out {first : List UInt8} (h : first ∉ allW) : clsT first = none := by
  unfold clsT
  cases hf : (List.range 256).find? (hitB first) with
  | none => rfl
  | some op =>
    exfalso
    have h1 := List.find?_some hf
    have h2 := List.mem_of_find?_eq_some hf
    unfold hitB at h1
    cases ht : table op with
    | none => rw [ht] at h1; cases h1
    | some x =>
      rw [ht] at h1
      have hx : x.1 = first := by simpa using h1
      exact h (List.mem_filterMap.2 ⟨op, h2, by rw [ht]; exact congrArg some hx⟩)
theorem sized_word {first nm : List UInt8} (h : sizedY (sizedN first nm) = true) : first = nm ++ [49] ∨ first = nm ++ [50] ∨ first = nm ++ [52] ∨ first = nm ++ [56] := by
  unfold sizedN at h
  split at h
  · rename_i hp
    have hp2 : nm <+: first := List.isPrefixOf_iff_prefix.1 hp
    obtain ⟨r, rfl⟩ := hp2
    unfold Lib.trimPrefix at h
    rw [if_pos hp, List.drop_left] at h
    unfold oneC at h
    split at h
    · rename_i c
      unfold sizedY lsizeB at h
      simp only [decide_eq_true_eq] at h
      have hc : c = 49 ∨ c = 50 ∨ c = 52 ∨ c = 56 := by
        rcases h with h | h | h | h
        · exact .inl (UInt8.toNat_inj.1 (by show c.toNat = 49; omega))
        · exact .inr (.inl (UInt8.toNat_inj.1 (by show c.toNat = 50; omega)))
        · exact .inr (.inr (.inl (UInt8.toNat_inj.1 (by show c.toNat = 52; omega))))
        · exact .inr (.inr (.inr (UInt8.toNat_inj.1 (by show c.toNat = 56; omega))))
      rcases hc with rfl | rfl | rfl | rfl <;> simp
    · cases h
  · cases h
theorem suffix_word {first p : List UInt8} (h : Lib.hasSuffix first p = true) : first = Lib.trimSuffix first p ++ p := by
  unfold Lib.trimSuffix
  rw [if_pos h]
  have hp2 : p <:+ first := List.isSuffixOf_iff_suffix.1 h
  obtain ⟨r, rfl⟩ := hp2
  rw [List.length_append, Nat.add_sub_cancel, List.take_left]
theorem place_mem {L : List (List UInt8)} {x : List UInt8} {k : Nat} (h : placeN L x = some k) : x ∈ L ∧ x ≠ [] := by
  obtain ⟨hk, hp, _⟩ := List.findIdx?_eq_some_iff_getElem.1 h
  simp only [Bool.and_eq_true, bne_iff_ne, beq_iff_eq] at hp
  exact ⟨hp.2 ▸ List.getElem_mem hk, hp.2 ▸ hp.1⟩
theorem codeF_word {wide : Bool} {r : List UInt8} {p : Nat × Bool} (h : codeF wide r = some p) : r ∈ arithN ++ jumpN ∧ r ≠ [] := by
  unfold codeF at h
  split at h
  · rename_i k hk
    have := place_mem hk
    exact ⟨List.mem_append_left _ this.1, this.2⟩
  · split at h
    · rename_i k hk
      have := place_mem hk
      exact ⟨List.mem_append_right _ this.1, this.2⟩
    · cases h
theorem names_in : ∀ r ∈ arithN ++ jumpN, r ≠ [] → r ++ [54, 52] ∈ allW ∧ r ++ [51, 50] ∈ allW := by decide +kernel
theorem codeW_word {first : List UInt8} {p : Nat × Bool} (h : codeW first = some p) : first ∈ allW := by
  unfold codeW at h
  split at h
  · rename_i hs
    obtain ⟨h1, h2⟩ := codeF_word h
    rw [suffix_word hs]
    exact (names_in _ h1 h2).1
  · split at h
    · rename_i hs
      obtain ⟨h1, h2⟩ := codeF_word h
      rw [suffix_word hs]
      exact (names_in _ h1 h2).2
    · cases h
theorem sized_in {nm : List UInt8} (hn : nm = [108, 100, 120] ∨ nm = [115, 116, 120] ∨ nm = [115, 116]) {first : List UInt8} (h : sizedY (sizedN first nm) = true) : first ∈ allW := by
  have key : ∀ n ∈ [[108, 100, 120], [115, 116, 120], [115, 116]], ∀ c ∈ ([49, 50, 52, 56] : List UInt8), n ++ [c] ∈ allW := by decide +kernel
  have hm : nm ∈ [[108, 100, 120], [115, 116, 120], [115, 116]] := by rcases hn with rfl | rfl | rfl <;> simp
  rcases sized_word h with rfl | rfl | rfl | rfl <;> exact key nm hm _ (by simp)
theorem clsB_out {first : List UInt8} (h : first ∉ allW) : clsB first = none := by
  have e : ∀ l : List UInt8, l ∈ allW → first ≠ l := fun l hl he => h (he ▸ hl)
  unfold clsB
  rw [if_neg (e _ (by decide +kernel)), if_neg (e _ (by decide +kernel)), if_neg (e _ (by decide +kernel)), if_neg (e _ (by decide +kernel)), if_neg (fun hs => h (sized_in (.inl rfl) hs)), if_neg (fun hs => h (sized_in (.inr (.inl rfl)) hs)), if_neg (fun hs => h (sized_in (.inr (.inr rfl)) hs))]
  cases hc : codeW first with
  | none => rfl
  | some p => exact absurd (codeW_word hc) h
theorem cls_same (first : List UInt8) : clsB first = clsT first := by
  by_cases h : first ∈ allW
  · exact cls_in first h
  · rw [clsB_out h, clsT_out h]
end Go.Proofs.YtakcdecljfmckaaGreatDoor

namespace Go.Proofs.YtakcdecljfmckaaGreatDoor

theorem none_is (op : Nat) (rest : List (List UInt8)) : okP (some ([⟨op, 0, 0, 0, 0⟩], 0)) rest.length = (fieldsI ⟨op, 0, 0, 0, 0⟩ [] rest).map fun i => [i] := by
  cases rest with
  | nil => rfl
  | cons a r => exact okP_ne (by simp only [List.length_cons]; omega)
theorem okP_slots (first : List UInt8) (rest : List (List UInt8)) : (match slotsO (first :: rest) with | some (l, true) => some l | _ => none) = okP (buildO first (rest.map meanM)) rest.length := by
  show (match (buildO first (rest.map meanM)).map (fun (l, k) => (l, decide (k = (rest.length : Int)))) with | some (l, true) => some l | _ => none) = _
  cases buildO first (rest.map meanM) with
  | none => rfl
  | some p =>
    obtain ⟨l, k⟩ := p
    by_cases h : k = (rest.length : Int)
    · simp [okP, h]
    · simp [okP, h]
theorem okP_cls (first : List UInt8) (rest : List (List UInt8)) (h1 : first ≠ [114, 97, 119]) (h2 : first ≠ [108, 100, 105, 109, 109]) (h3 : first ≠ [108, 100, 109, 97, 112]) :
    okP (buildO first (rest.map meanM)) rest.length = (clsB first).bind fun p => (fieldsI ⟨p.1, 0, 0, 0, 0⟩ p.2 rest).map fun i => [i] := by
  unfold buildO clsB
  by_cases e1 : first = [101, 120, 105, 116]
  · rw [if_pos e1, if_pos e1]; exact none_is 149 rest
  rw [if_neg e1, if_neg e1]
  by_cases e2 : first = [110, 111, 115, 112, 101, 99]
  · rw [if_pos e2, if_pos e2]; exact none_is 194 rest
  rw [if_neg e2, if_neg e2]
  by_cases e3 : first = [99, 97, 108, 108]
  · rw [if_pos e3, if_pos e3]; exact call_is rest
  rw [if_neg e3, if_neg e3]
  by_cases e4 : first = [106, 97]
  · rw [if_pos e4, if_pos e4]; exact ja_is rest
  rw [if_neg e4, if_neg e4, if_neg h2, if_neg h3, if_neg h1]
  by_cases e5 : sizedY (sizedN first [108, 100, 120]) = true
  · rw [if_pos e5, if_pos e5]; exact ldx_is _ rest
  rw [if_neg e5, if_neg e5]
  by_cases e6 : sizedY (sizedN first [115, 116, 120]) = true
  · rw [if_pos e6, if_pos e6]; exact stx_is _ rest
  rw [if_neg e6, if_neg e6]
  by_cases e7 : sizedY (sizedN first [115, 116]) = true
  · rw [if_pos e7, if_pos e7]; exact st_is _ rest
  rw [if_neg e7, if_neg e7]
  cases codeW first with
  | none => exact okP_ne (by omega)
  | some p =>
    obtain ⟨op, j⟩ := p
    exact code_is op j rest
theorem line_is (first : List UInt8) (rest : List (List UInt8)) : okP (buildO first (rest.map meanM)) rest.length = lineW (first :: rest) := by
  show _ = (if first = [114, 97, 119] then rawWM rest else if first = [108, 100, 105, 109, 109] then ldimmW rest else if first = [108, 100, 109, 97, 112] then (fieldsI ⟨24, 0, 1, 0, 0⟩ [.d, .v] rest).map (fun i => [i, ⟨0, 0, 0, 0, 0⟩]) else match (List.range 256).find? (hitB first) with | none => none | some op => (fieldsI ⟨op, 0, 0, 0, 0⟩ (kindsOf op) rest).map fun i => [i])
  by_cases h1 : first = [114, 97, 119]
  · rw [if_pos h1]
    subst h1
    exact raw_is rest
  rw [if_neg h1]
  by_cases h2 : first = [108, 100, 105, 109, 109]
  · rw [if_pos h2]
    subst h2
    exact ldimm_is rest
  rw [if_neg h2]
  by_cases h3 : first = [108, 100, 109, 97, 112]
  · rw [if_pos h3]
    subst h3
    exact ldmap_is rest
  rw [if_neg h3, okP_cls first rest h1 h2 h3, cls_same]
  unfold clsT
  cases (List.range 256).find? (hitB first) with
  | none => rfl
  | some op => rfl
theorem slotsP_is (t : List UInt8) : slotsP t = slotsL t := by
  unfold slotsP slotsL
  cases wordsL t with
  | none => rfl
  | some ws =>
    show (if ws = [] then _ else _) = (if ws = [] then _ else _)
    cases ws with
    | nil => rfl
    | cons first rest =>
      rw [if_neg (by simp), if_neg (by simp)]
      exact (okP_slots first rest).trans (line_is first rest)
theorem readPF_is : ∀ (L : List (List UInt8)) (a : Nat) (acc : List Ins), readPF L a acc = readF L a acc
  | [], _, _ => rfl
  | t :: r, a, acc => by
    unfold readPF readF
    rw [slotsP_is]
    cases slotsL t with
    | none => rfl
    | some more =>
      show (if _ then _ else _) = (if _ then _ else _)
      rw [readPF_is r]
theorem readP_is (s : List UInt8) : readP s = readS s := by
  unfold readP readS
  rw [readPF_is]
end Go.Proofs.YtakcdecljfmckaaGreatDoor

namespace Go.Proofs.YtakcdecljfmckaaGreatDoor
open Go.RowKit

theorem lread_any (s : List UInt8) (hs : s.length ≤ 1000000) (w : World) (hT : LT w) : Calls Tryz.prog 21 #[.string (bA s)] w (ReadTo w (readS s)) := by
  rw [← readP_is]; exact read_any s hs w hT
end Go.Proofs.YtakcdecljfmckaaGreatDoor

namespace Go.Proofs.YtakcdecljfmckaaGreatDoor
open Go.RowKit

theorem tl_s (W : World) (v : Value) : (Instr.typeAssert (.iface 9 v) 20 9 true).run Tryz.prog W = .ok (.tuple #[v, .bool true]) W := by kernel_rfl
theorem tl_is (W : World) (v : Value) : (Instr.typeAssert (.iface 3 v) 20 9 true).run Tryz.prog W = .ok (.tuple #[.string ⟨#[]⟩, .bool false]) W := by kernel_rfl
theorem tl_ii (W : World) (v : Value) : (Instr.typeAssert (.iface 3 v) 20 3 true).run Tryz.prog W = .ok (.tuple #[v, .bool true]) W := by kernel_rfl
theorem tl_ls (W : World) (v : Value) : (Instr.typeAssert (.iface 31 v) 20 9 true).run Tryz.prog W = .ok (.tuple #[.string ⟨#[]⟩, .bool false]) W := by kernel_rfl
theorem tl_li (W : World) (v : Value) : (Instr.typeAssert (.iface 31 v) 20 3 true).run Tryz.prog W = .ok (.tuple #[.int .i64 0, .bool false]) W := by kernel_rfl
theorem tl_ll (W : World) (v : Value) : (Instr.typeAssert (.iface 31 v) 20 31 true).run Tryz.prog W = .ok (.tuple #[v, .bool true]) W := by kernel_rfl

/-- what is put into a line -/
inductive LArg
  | s (x : List UInt8)
  | i (z : Int)
  | is (L : List Nat)
def LArg.words : LArg → List (List UInt8)
  | .s x => [x]
  | .i z => [itoaN z]
  | .is L => L.map fun k : Nat => itoaN (k : Int)
def LArg.Is (w : World) (v : Value) : LArg → Prop
  | .s x => v = .iface 9 (.string (bA x))
  | .i z => v = .iface 3 (.int .i64 z) ∧ -1000000 ≤ z ∧ z ≤ 1000000
  | .is L => (∃ u, v = .iface 31 u ∧ NatsAt w u L) ∧ ∀ k ∈ L, k ≤ 1000000
theorem LArg.Is.fr {w w' : World} {v : Value} {a : LArg} (h : a.Is w v) (hf : Fr No w w') : a.Is w' v := by
  cases a with
  | s x => exact h
  | i z => exact h
  | is L =>
    obtain ⟨⟨u, h1, h2⟩, h3⟩ := h
    exact ⟨⟨u, h1, h2.fr hf⟩, h3⟩
def ArgsAt (w : World) (v : Value) (l : List LArg) : Prop := ∃ g cap, v = .slice (some ⟨g, 0, none⟩) l.length cap ∧ ∀ k a, l[k]? = some a → ∃ u, w.cell? ⟨g, k, none⟩ = some u ∧ a.Is w u
def lineWs (l : List LArg) : List (List UInt8) := l.flatMap LArg.words
def lineT (l : List LArg) : List UInt8 := joinW (lineWs l) ++ [10]
theorem lineWs_take {l : List LArg} {k : Nat} {a : LArg} (h : l[k]? = some a) : lineWs (l.take (k + 1)) = lineWs (l.take k) ++ a.words := by
  unfold lineWs
  rw [List.take_add_one, h, List.flatMap_append]
  simp
theorem lineWs_take_len {l : List LArg} (k : Nat) : (lineWs (l.take k)).length ≤ (lineWs l).length := by
  have e : lineWs l = lineWs (l.take k) ++ lineWs (l.drop k) := by unfold lineWs; rw [← List.flatMap_append, List.take_append_drop]
  rw [e, List.length_append]
  omega

set_option maxRecDepth 100000 in
set_option maxHeartbeats 4000000 in
theorem line_any (l : List LArg) (v : Value) (w : World) (hv : ArgsAt w v l) (hnl : l.length ≤ 100000) (hw : (lineWs l).length ≤ 10000) (hj : (joinW (lineWs l)).length ≤ 90000) (hT : LT w) : Calls Tryz.prog 32 #[v] w fun e w' => e = .returned (.string (bA (lineT l))) ∧ Fr No w w' := by
  obtain ⟨g, cap, rfl, ha⟩ := hv
  have HA := Lib.hid ha
  have HWL := Lib.hid hw
  have HJ := Lib.hid hj
  have HT := Lib.hid hT
  obtain ⟨n, hn⟩ : ∃ n, l.length = n := ⟨_, rfl⟩
  have HN := Lib.hid hn
  rw [hn] at hnl ⊢
  clear ha hw hj hT hn
  obtain ⟨i0, hi0, hz0, hz1, hz2⟩ := info_parts Tryz.infoL_str
  go_enter Tryz.func32, Tryz.ntmps32
  go_wp2_with fail
  go_loopw [3, 13] (fun v ix wr => ∃ k : Nat, ix = .int .i64 k ∧ k ≤ n ∧ Hid (Gath w 9 1 (lineWs (l.take k)).length (strs (lineWs (l.take k))) v wr)) (fun _ ix _ => n - (intOf ix).toNat)
  case atStart => exact ⟨0, rfl, Nat.zero_le _, Gath.start w _ _⟩
  case round =>
    obtain ⟨k, rfl, hk, HG⟩ := hrel
    obtain ⟨va, vc, rfl⟩ := ownsRow_any HG.out.own
    obtain ⟨X, hX⟩ : ∃ X, lineWs (l.take k) = X := ⟨_, rfl⟩
    have HXL : Hid (X.length ≤ (lineWs l).length) := by rw [← hX]; exact Lib.hid (lineWs_take_len k)
    rw [hX] at HG ⊢
    have HX := Lib.hid hX
    obtain ⟨q, hq⟩ : ∃ q, X.length = q := ⟨_, rfl⟩
    rw [hq] at HG HXL ⊢
    have HQ := Lib.hid hq
    clear hX hq
    by_cases hlt : k < n
    · obtain ⟨a, ha⟩ : ∃ a, l[k]? = some a := ⟨l[k]'(by rw [HN.out]; exact hlt), List.getElem?_eq_getElem _⟩
      obtain ⟨u, hu1, hu2⟩ := HA.out k a ha
      have k0 := HG.out.fr.cell hu1 id
      have HNXT := Lib.hid (lineWs_take ha)
      rw [HX.out] at HNXT
      have HAL : Hid ((X ++ a.words).length ≤ (lineWs l).length) := by rw [← HNXT.out]; exact Lib.hid (lineWs_take_len (k + 1))
      have HKN := Lib.hid hlt
      clear hu1 ha hlt
      cases a with
      | s x =>
        have hu : u = .iface 9 (.string (bA x)) := hu2
        subst hu
        have t1 := fun W => tl_s W (.string (bA x))
        have hqb : q ≤ 10000 := by have h1 := HXL.out; have h2 := HWL.out; omega
        clear hu2
        go_wp2_with (at_builtin; refine wpList_append_src rfl _ _ 92 rfl w.heap.size 9 i0 _ 1 16 Tryz.underlying92 hi0 hz0 hz1 hz2 rfl (by decide) (.slice va q vc) q (strs X) rfl (HG.out.to ((Fr.refl _ _).alloc _)).own _ 1 [.string (bA x)] rfl (src_new _ [.string (bA x)] 9) rfl (by simp [Value.oneCell']) (by unfold maxLen; omega) (by omega) (HG.out.to ((Fr.refl _ _).alloc _)).fr.size ?_; intro v4 w4 own4 fr4; have HG4 := Lib.hid ((HG.out.to ((Fr.refl _ _).alloc _)).step own4 fr4); clear own4 fr4)
        go_roundw
        case rel => exact ⟨k + 1, by go_num, by have := HKN.out; omega, by rw [HNXT.out]; show Hid (Gath w 9 1 (X ++ [x]).length (strs (X ++ [x])) _ _); rw [List.length_append, HQ.out, strs_snoc]; exact HG4⟩
        case measure => (have := HKN.out; simp [intOf] <;> omega)
      | i z =>
        obtain ⟨hu, hz⟩ := hu2
        subst hu
        have t1 := fun W => tl_is W (.int .i64 z)
        have t2 := fun W => tl_ii W (.int .i64 z)
        have HIT : Hid (∀ W, LT W → Calls Tryz.prog 67 #[.int .i64 z] W fun e w' => e = .returned (.string (bA (itoaN z))) ∧ Fr No W w') := fun W h2 => itoa_any z (by omega) (by omega) W h2
        have hqb : q ≤ 10000 := by have h1 := HXL.out; have h2 := HWL.out; omega
        have HTW := Lib.hid (HT.out.fr HG.out.fr)
        obtain ⟨x, hx⟩ : ∃ x, itoaN z = x := ⟨_, rfl⟩
        rw [hx] at HIT
        have HXE := Lib.hid hx
        clear hz hx
        go_wp2_with (first
          | (go_at_call 67; (with_reducible refine (HIT.out _ HTW.out).mono ?_); rintro e w3 ⟨rfl, hf3⟩; have HG3 := Lib.hid (HG.out.to hf3))
          | (at_builtin; refine wpList_append_src rfl _ _ 92 rfl w.heap.size 9 i0 _ 1 16 Tryz.underlying92 hi0 hz0 hz1 hz2 rfl (by decide) (.slice va q vc) q (strs X) rfl (HG3.out.to ((Fr.refl _ _).alloc _)).own _ 1 [.string (bA x)] rfl (src_new _ [.string (bA x)] 9) rfl (by simp [Value.oneCell']) (by unfold maxLen; omega) (by omega) (HG3.out.to ((Fr.refl _ _).alloc _)).fr.size ?_; intro v4 w4 own4 fr4; have HG4 := Lib.hid ((HG3.out.to ((Fr.refl _ _).alloc _)).step own4 fr4); clear own4 fr4))
        go_roundw
        case rel => exact ⟨k + 1, by go_num, by have := HKN.out; omega, by rw [HNXT.out]; show Hid (Gath w 9 1 (X ++ [itoaN z]).length (strs (X ++ [itoaN z])) _ _); rw [HXE.out, List.length_append, HQ.out, strs_snoc]; exact HG4⟩
        case measure => (have := HKN.out; simp [intOf] <;> omega)
      | is L =>
        obtain ⟨⟨u2, hu, hnat⟩, hb⟩ := hu2
        subst hu
        obtain ⟨an, cn, rfl⟩ := hnat.form
        have t1 := fun W => tl_ls W (.slice an L.length cn)
        have t2 := fun W => tl_li W (.slice an L.length cn)
        have t3 := fun W => tl_ll W (.slice an L.length cn)
        have HNA := Lib.hid hnat
        have HLB := Lib.hid hb
        obtain ⟨m, hm⟩ : ∃ m, L.length = m := ⟨_, rfl⟩
        rw [hm] at t1 t2 t3 k0
        have HM := Lib.hid hm
        have hqb : q + m ≤ 10000 := by have h1 := HAL.out; have h2 := HWL.out; rw [List.length_append, HQ.out] at h1; simp only [LArg.words, List.length_map, hm] at h1; omega
        have HQB := Lib.hid hqb
        have hkn : k < n := HKN.out
        clear hnat hb hm
        go_wp2_with fail
        clear hkn
        clear t1 t2 t3 k0
        go_loopw [3, 38] (fun v ix wr => ∃ j : Nat, ix = .int .i64 j ∧ j ≤ m ∧ Hid (Gath w 9 1 (q + j) (strs (X ++ (L.take j).map fun k : Nat => itoaN (k : Int))) v wr)) (fun _ ix _ => m - (intOf ix).toNat)
        case atStart => exact ⟨0, rfl, Nat.zero_le _, by simp only [List.take_zero, List.map_nil, List.append_nil, Nat.add_zero]; exact HG⟩
        case round =>
          obtain ⟨j, rfl, hj, HG2⟩ := hrel
          obtain ⟨va2, vc2, rfl⟩ := ownsRow_any HG2.out.own
          by_cases hlt : j < m
          · obtain ⟨x, hx⟩ : ∃ x, L[j]? = some x := ⟨L[j]'(by rw [HM.out]; exact hlt), List.getElem?_eq_getElem _⟩
            have hxb := HLB.out x (List.mem_of_getElem? hx)
            have hnat := HNA.out
            rcases hnat with ⟨h1, _⟩ | ⟨g2, c2, h2, hc2⟩
            · rw [h1] at hx; simp at hx
            injection h2 with h2 _ h4
            subst h2 h4
            have k0 : wr.cell? ⟨g2, j, none⟩ = some (.int .i64 (x : Int)) := HG2.out.fr.cell (i64_cell hc2 hx) id
            have HTK : Hid ((L.take (j + 1)).map (fun k : Nat => itoaN (k : Int)) = (L.take j).map (fun k : Nat => itoaN (k : Int)) ++ [itoaN (x : Int)]) := by rw [List.take_add_one, hx]; exact Lib.hid (by simp)
            have HIT : Hid (∀ W, LT W → Calls Tryz.prog 67 #[.int .i64 (x : Int)] W fun e w' => e = .returned (.string (bA (itoaN (x : Int)))) ∧ Fr No W w') := fun W h2 => itoa_any (x : Int) (by omega) (by omega) W h2
            have HTW := Lib.hid (HT.out.fr HG2.out.fr)
            obtain ⟨y, hy⟩ : ∃ y, itoaN (x : Int) = y := ⟨_, rfl⟩
            rw [hy] at HIT HTK
            obtain ⟨q2, hq2⟩ : ∃ q2, q + j = q2 := ⟨_, rfl⟩
            rw [hq2] at HG2 ⊢
            have HQ2 := Lib.hid hq2
            have hq2b : q2 ≤ 10000 := by have := HQB.out; omega
            have HJM := Lib.hid hlt
            clear hx hxb hc2 hy hq2 hlt
            obtain ⟨Y, hY⟩ : ∃ Y, X ++ (L.take j).map (fun k : Nat => itoaN (k : Int)) = Y := ⟨_, rfl⟩
            have HYN : Hid (X ++ (L.take (j + 1)).map (fun k : Nat => itoaN (k : Int)) = Y ++ [y]) := by rw [HTK.out, ← List.append_assoc, hY]; exact Lib.hid rfl
            rw [hY] at HG2
            clear hY
            go_wp2_with (first
              | (go_at_call 67; (with_reducible refine (HIT.out _ HTW.out).mono ?_); rintro e w3 ⟨rfl, hf3⟩; have HG3 := Lib.hid (HG2.out.to hf3))
              | (at_builtin; refine wpList_append_src rfl _ _ 92 rfl w.heap.size 9 i0 _ 1 16 Tryz.underlying92 hi0 hz0 hz1 hz2 rfl (by decide) (.slice va2 q2 vc2) q2 (strs Y) rfl (HG3.out.to ((Fr.refl _ _).alloc _)).own _ 1 [.string (bA y)] rfl (src_new _ [.string (bA y)] 9) rfl (by simp [Value.oneCell']) (by unfold maxLen; omega) (by omega) (HG3.out.to ((Fr.refl _ _).alloc _)).fr.size ?_; intro v4 w4 own4 fr4; have HG4 := Lib.hid ((HG3.out.to ((Fr.refl _ _).alloc _)).step own4 fr4); clear own4 fr4))
            go_roundw
            case rel => exact ⟨j + 1, by go_num, by have := HJM.out; omega, by rw [HYN.out, strs_snoc]; have e : q + (j + 1) = q2 + 1 := (by have := HQ2.out; omega); rw [e]; exact HG4⟩
            case measure => (have := HJM.out; simp [intOf] <;> omega)
          · obtain rfl : j = m := by omega
            have e1 : L.take j = L := by rw [← HM.out]; exact List.take_length
            have HEND : Hid (Gath w 9 1 (lineWs (l.take (k + 1))).length (strs (lineWs (l.take (k + 1)))) (.slice va2 (q + j) vc2) wr) := by
              rw [HNXT.out]
              have h := HG2.out
              rw [e1] at h
              show Hid (Gath w 9 1 (X ++ L.map fun k : Nat => itoaN (k : Int)).length (strs (X ++ L.map fun k : Nat => itoaN (k : Int))) _ _)
              rw [List.length_append, List.length_map, HQ.out, HM.out]
              exact Lib.hid h
            clear e1 hlt
            go_wp2_with fail
            go_roundw
            case rel => exact ⟨k + 1, by go_num, by have := HKN.out; omega, HEND⟩
            case measure => (have := HKN.out; simp [intOf] <;> omega)
    · obtain rfl : k = n := by omega
      have e1 : l.take k = l := by rw [← HN.out]; exact List.take_length
      have HXW : Hid (X = lineWs l) := by rw [← HX.out, e1]; exact Lib.hid rfl
      have HJN : Hid (Calls Tryz.prog 68 #[.slice va q vc, .string ⟨#[32]⟩] wr fun e w' => e = .returned (.string (bA (joinW X))) ∧ Fr No wr w') := by
        have h := HG.out
        rw [← HQ.out] at h ⊢
        exact join_any _ X wr h.words (by rw [HXW.out]; have := HWL.out; omega) (by rw [HXW.out]; have := HJ.out; omega)
      have ad : ∀ W, (Op.stringOp .add (bA (joinW X)) ⟨#[10]⟩).run Tryz.prog W = .ok (.string (bA (joinW X ++ [10]))) W := fun W => add_str (joinW X) [10] (by have := HJ.out; rw [HXW.out]; omega) (by decide) W
      clear e1 hlt
      go_wp2_with (go_at_call 68; (with_reducible refine (HJN.out).mono ?_); rintro e w3 ⟨rfl, hf3⟩)
      go_ret
      refine ⟨?_, HG.out.fr.trans hf3⟩
      unfold lineT
      rw [← HXW.out]
      rfl
end Go.Proofs.YtakcdecljfmckaaGreatDoor

namespace Go.Proofs.YtakcdecljfmckaaGreatDoor
open Go.RowKit

def blkArgs (i : Nat) (b : Blk) (d : Int) : List LArg := [.s [98, 108, 111, 99, 107], .i i, .i b.fr, .i b.to, .s [110, 101, 97, 114], .i d, .s [110, 101, 120, 116], .is b.next]
def loopArgs (p : Nat × Nat) : List LArg := [.s [108, 111, 111, 112], .i p.1, .i p.2]
def showUp (bs : List Blk) (d : Nat → Int) (i : Nat) : List UInt8 := (List.range i).flatMap fun i => lineT (blkArgs i (bs.getD i ⟨0, 0, []⟩) (d i))
def loopsT (W : List (Nat × Nat)) : List UInt8 := W.flatMap fun p => lineT (loopArgs p)
noncomputable def showB (bs : List Blk) (d : Nat → Int) : List UInt8 := showUp bs d bs.length ++ loopsT (waysM bs d)
theorem showUp_succ (bs : List Blk) (d : Nat → Int) (i : Nat) : showUp bs d (i + 1) = showUp bs d i ++ lineT (blkArgs i (bs.getD i ⟨0, 0, []⟩) (d i)) := by
  unfold showUp
  rw [List.range_succ, List.flatMap_append]
  simp
theorem loopsT_snoc (W : List (Nat × Nat)) (p : Nat × Nat) : loopsT (W ++ [p]) = loopsT W ++ lineT (loopArgs p) := by simp [loopsT]
theorem itoa8 {z : Int} (h : -1000000 ≤ z) (h2 : z ≤ 1000000) : (itoaN z).length ≤ 8 := itoa_len_le (m := 7) (by omega) (by decide)
theorem blk_room (i : Nat) (b : Blk) (d : Int) (hi : i ≤ 1000000) (hf : b.fr ≤ 1000000) (ht : b.to ≤ 1000000) (hd : -1000000 ≤ d ∧ d ≤ 1000000) (hn : b.next.length ≤ 2) (hk : ∀ k ∈ b.next, k ≤ 1000000) : (joinW (lineWs (blkArgs i b d))).length ≤ 100 ∧ (lineT (blkArgs i b d)).length ≤ 101 ∧ (lineWs (blkArgs i b d)).length ≤ 10 := by
  have h1 : (joinW (lineWs (blkArgs i b d))).length ≤ 100 := by
    refine Nat.le_trans (join_len _) ?_
    have e1 := itoa8 (z := (i : Int)) (by omega) (by omega)
    have e2 := itoa8 (z := (b.fr : Int)) (by omega) (by omega)
    have e3 := itoa8 (z := (b.to : Int)) (by omega) (by omega)
    have e4 := itoa8 hd.1 hd.2
    have e5 : ((b.next.map fun k : Nat => itoaN (k : Int)).map (fun w => w.length + 1)).sum ≤ 18 := by
      rcases b with ⟨f, t, L⟩
      simp only at *
      cases L with
      | nil => simp
      | cons a L =>
        have h3 := itoa8 (z := (a : Int)) (by omega) (by have := hk a (by simp); omega)
        cases L with
        | nil => simp; omega
        | cons c L =>
          have h4 := itoa8 (z := (c : Int)) (by omega) (by have := hk c (by simp); omega)
          cases L with
          | nil => simp; omega
          | cons e L => simp at hn
    simp only [lineWs, blkArgs, List.flatMap_cons, List.flatMap_nil, LArg.words, List.cons_append, List.nil_append, List.append_nil, List.map_cons, List.sum_cons, List.length_cons, List.length_nil]
    omega
  refine ⟨h1, ?_, ?_⟩
  · unfold lineT
    rw [List.length_append]
    simp only [List.length_cons, List.length_nil]
    omega
  · simp only [lineWs, blkArgs, List.flatMap_cons, List.flatMap_nil, LArg.words, List.cons_append, List.nil_append, List.append_nil, List.length_cons, List.length_map]
    omega
theorem loop_room (p : Nat × Nat) (h1 : p.1 ≤ 1000000) (h2 : p.2 ≤ 1000000) : (joinW (lineWs (loopArgs p))).length ≤ 40 ∧ (lineT (loopArgs p)).length ≤ 41 ∧ (lineWs (loopArgs p)).length ≤ 10 := by
  have h3 : (joinW (lineWs (loopArgs p))).length ≤ 40 := by
    refine Nat.le_trans (join_len _) ?_
    have e1 := itoa8 (z := (p.1 : Int)) (by omega) (by omega)
    have e2 := itoa8 (z := (p.2 : Int)) (by omega) (by omega)
    simp only [lineWs, loopArgs, List.flatMap_cons, List.flatMap_nil, LArg.words, List.cons_append, List.nil_append, List.append_nil, List.map_cons, List.map_nil, List.sum_cons, List.sum_nil, List.length_cons, List.length_nil]
    omega
  refine ⟨h3, ?_, ?_⟩
  · unfold lineT
    rw [List.length_append]
    simp only [List.length_cons, List.length_nil]
    omega
  · simp only [lineWs, loopArgs, List.flatMap_cons, List.flatMap_nil, LArg.words, List.cons_append, List.nil_append, List.append_nil, List.length_cons, List.length_nil]
    omega
theorem list8 {α : Type} {P : Nat → α → Prop} {a0 a1 a2 a3 a4 a5 a6 a7 : α} (h0 : P 0 a0) (h1 : P 1 a1) (h2 : P 2 a2) (h3 : P 3 a3) (h4 : P 4 a4) (h5 : P 5 a5) (h6 : P 6 a6) (h7 : P 7 a7) : ∀ (k : Nat) (a : α), [a0, a1, a2, a3, a4, a5, a6, a7][k]? = some a → P k a
  | 0, a, h => by cases h; exact h0
  | 1, a, h => by cases h; exact h1
  | 2, a, h => by cases h; exact h2
  | 3, a, h => by cases h; exact h3
  | 4, a, h => by cases h; exact h4
  | 5, a, h => by cases h; exact h5
  | 6, a, h => by cases h; exact h6
  | 7, a, h => by cases h; exact h7
  | k + 8, a, h => by simp at h
theorem list3 {α : Type} {P : Nat → α → Prop} {a0 a1 a2 : α} (h0 : P 0 a0) (h1 : P 1 a1) (h2 : P 2 a2) : ∀ (k : Nat) (a : α), [a0, a1, a2][k]? = some a → P k a
  | 0, a, h => by cases h; exact h0
  | 1, a, h => by cases h; exact h1
  | 2, a, h => by cases h; exact h2
  | k + 3, a, h => by simp at h
theorem ArgsAt.fr {w w' : World} {v : Value} {l : List LArg} (h : ArgsAt w v l) (hf : Fr No w w') : ArgsAt w' v l := by
  obtain ⟨g, cap, hv, ha⟩ := h
  refine ⟨g, cap, hv, fun k a hk => ?_⟩
  obtain ⟨u, h1, h2⟩ := ha k a hk
  exact ⟨u, hf.cell h1 id, h2.fr hf⟩
/-- the arguments of a line that is built -/
theorem args8 {w : World} {i : Nat} {b : Blk} {d : Int} {nv : Value} (t : TypeId) (hn : NatsAt w nv b.next) (hi : i ≤ 1000000) (hf : b.fr ≤ 1000000) (ht : b.to ≤ 1000000) (hd : -1000000 ≤ d ∧ d ≤ 1000000) (hk : ∀ k ∈ b.next, k ≤ 1000000) :
    ArgsAt (w.alloc (.cells #[.iface 9 (.string ⟨#[98, 108, 111, 99, 107]⟩), .iface 3 (.int .i64 (i : Int)), .iface 3 (.int .i64 (b.fr : Int)), .iface 3 (.int .i64 (b.to : Int)), .iface 9 (.string ⟨#[110, 101, 97, 114]⟩), .iface 3 (.int .i64 d), .iface 9 (.string ⟨#[110, 101, 120, 116]⟩), .iface 31 nv] t)) (.slice (some ⟨w.heap.size, 0, none⟩) 8 8) (blkArgs i b d) := by
  refine ⟨w.heap.size, 8, rfl, ?_⟩
  have hc := CellsAt.new w [.iface 9 (.string ⟨#[98, 108, 111, 99, 107]⟩), .iface 3 (.int .i64 (i : Int)), .iface 3 (.int .i64 (b.fr : Int)), .iface 3 (.int .i64 (b.to : Int)), .iface 9 (.string ⟨#[110, 101, 97, 114]⟩), .iface 3 (.int .i64 d), .iface 9 (.string ⟨#[110, 101, 120, 116]⟩), .iface 31 nv] t
  have hc2 := fun j v h => by have := hc j v h; rw [Nat.zero_add] at this; exact this
  have hn2 := hn.fr ((Fr.refl No w).alloc (.cells #[.iface 9 (.string ⟨#[98, 108, 111, 99, 107]⟩), .iface 3 (.int .i64 (i : Int)), .iface 3 (.int .i64 (b.fr : Int)), .iface 3 (.int .i64 (b.to : Int)), .iface 9 (.string ⟨#[110, 101, 97, 114]⟩), .iface 3 (.int .i64 d), .iface 9 (.string ⟨#[110, 101, 120, 116]⟩), .iface 31 nv] t))
  refine list8 ⟨_, hc2 0 _ rfl, rfl⟩ ⟨_, hc2 1 _ rfl, rfl, by omega, by omega⟩ ⟨_, hc2 2 _ rfl, rfl, by omega, by omega⟩ ⟨_, hc2 3 _ rfl, rfl, by omega, by omega⟩ ⟨_, hc2 4 _ rfl, rfl⟩ ⟨_, hc2 5 _ rfl, rfl, hd.1, hd.2⟩ ⟨_, hc2 6 _ rfl, rfl⟩ ⟨_, hc2 7 _ rfl, ⟨nv, rfl, hn2⟩, hk⟩
theorem args3 {w : World} {p : Nat × Nat} (t : TypeId) (h1 : p.1 ≤ 1000000) (h2 : p.2 ≤ 1000000) :
    ArgsAt (w.alloc (.cells #[.iface 9 (.string ⟨#[108, 111, 111, 112]⟩), .iface 3 (.int .i64 (p.1 : Int)), .iface 3 (.int .i64 (p.2 : Int))] t)) (.slice (some ⟨w.heap.size, 0, none⟩) 3 3) (loopArgs p) := by
  refine ⟨w.heap.size, 3, rfl, ?_⟩
  have hc := CellsAt.new w [.iface 9 (.string ⟨#[108, 111, 111, 112]⟩), .iface 3 (.int .i64 (p.1 : Int)), .iface 3 (.int .i64 (p.2 : Int))] t
  have hc2 := fun j v h => by have := hc j v h; rw [Nat.zero_add] at this; exact this
  refine list3 ⟨_, hc2 0 _ rfl, rfl⟩ ⟨_, hc2 1 _ rfl, rfl, by omega, by omega⟩ ⟨_, hc2 2 _ rfl, rfl, by omega, by omega⟩
end Go.Proofs.YtakcdecljfmckaaGreatDoor
