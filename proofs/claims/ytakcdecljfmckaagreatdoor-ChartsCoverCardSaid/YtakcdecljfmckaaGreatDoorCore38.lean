/- a line's slots, for the program and for the document. a line's slots: the words that code knows. the words by build's tests, and by the table. what package lines reads is what a text is. firewalllaw03.shown: a program's text is that text, and read as that program. -/
import Derived.Test.YtakcdecljfmckaaGreatDoorCore37
import Derived.Test.YtakcdecljfmckaaGreatDoorCore26
set_option linter.all false
set_option linter.unusedVariables false
set_option linter.unusedSimpArgs false
namespace Go.Proofs.YtakcdecljfmckaaGreatDoor

/-- the slots, if all words behind the first are used up -/
def okP (o : Option (List Ins × Int)) (n : Nat) : Option (List Ins) := match o with
  | some (l, k) => if k = (n : Int) then some l else none
  | none => none
theorem okP_ne {l : List Ins} {k : Int} {n : Nat} (h : k ≠ (n : Int)) : okP (some (l, k)) n = none := if_neg h
theorem small_mean (s : List UInt8) : smallG (meanM s) = parseI s 0 255 := within_mean s 0 255
theorem short_mean (s : List UInt8) : shortG (meanM s) = parseI s 32768 32767 := within_mean s 32768 32767
theorem whole_mean (s : List UInt8) : wholeG (meanM s) = parseI s 2147483648 2147483647 := within_mean s 2147483648 2147483647
theorem ag_cons0 (g : Mv → Option Int) (a : List UInt8) (r : List (List UInt8)) : ag g ((a :: r).map meanM) 0 = g (meanM a) := rfl
theorem ag_cons1 (g : Mv → Option Int) (a b : List UInt8) (r : List (List UInt8)) : ag g ((a :: b :: r).map meanM) 1 = g (meanM b) := rfl
theorem ag_cons2 (g : Mv → Option Int) (a b c : List UInt8) (r : List (List UInt8)) : ag g ((a :: b :: c :: r).map meanM) 2 = g (meanM c) := rfl
theorem ag_cons3 (g : Mv → Option Int) (a b c d : List UInt8) (r : List (List UInt8)) : ag g ((a :: b :: c :: d :: r).map meanM) 3 = g (meanM d) := rfl
theorem ag_cons4 (g : Mv → Option Int) (a b c d e : List UInt8) (r : List (List UInt8)) : ag g ((a :: b :: c :: d :: e :: r).map meanM) 4 = g (meanM e) := rfl
theorem call_is (rest : List (List UInt8)) : okP (callO (rest.map meanM)) rest.length = (fieldsI ⟨133, 0, 0, 0, 0⟩ [.v] rest).map fun i => [i] := by
  unfold callO
  match rest with
  | [] => rfl
  | [a] =>
    rw [ag_cons0, whole_mean]
    unfold fieldsI fieldI
    cases parseI a 2147483648 2147483647 <;> rfl
  | a :: b :: r =>
    rw [ag_cons0, whole_mean]
    unfold fieldsI fieldI
    cases parseI a 2147483648 2147483647 with
    | none => rfl
    | some z =>
      exact okP_ne (by simp only [List.length_cons]; omega)
theorem ja_is (rest : List (List UInt8)) : okP (jaO (rest.map meanM)) rest.length = (fieldsI ⟨5, 0, 0, 0, 0⟩ [.o] rest).map fun i => [i] := by
  unfold jaO
  match rest with
  | [] => rfl
  | [a] =>
    rw [ag_cons0, short_mean]
    unfold fieldsI fieldI
    cases parseI a 32768 32767 <;> rfl
  | a :: b :: r =>
    rw [ag_cons0, short_mean]
    unfold fieldsI fieldI
    cases parseI a 32768 32767 with
    | none => rfl
    | some z =>
      exact okP_ne (by simp only [List.length_cons]; omega)
theorem stx_is (op : Nat) (rest : List (List UInt8)) : okP (stxO op (rest.map meanM)) rest.length = (fieldsI ⟨op, 0, 0, 0, 0⟩ [.d, .o, .s] rest).map fun i => [i] := by
  unfold stxO
  match rest with
  | [] => rfl
  | [a] =>
    rw [ag_cons0]
    simp only [dst_mean, short_mean, whole_mean]
    unfold fieldsI fieldI
    cases (regW a) <;> rfl
  | [a, b] =>
    rw [ag_cons0, ag_cons1]
    simp only [dst_mean, short_mean, whole_mean]
    unfold fieldsI fieldI
    cases (regW a) with
    | none => rfl
    | some x =>
      unfold fieldsI fieldI
      cases (parseI b 32768 32767) <;> rfl
  | a :: b :: c :: r =>
    rw [ag_cons0, ag_cons1, ag_cons2]
    simp only [dst_mean, short_mean, whole_mean]
    unfold fieldsI fieldI
    cases (regW a) with
    | none => rfl
    | some x =>
      unfold fieldsI fieldI
      cases (parseI b 32768 32767) with
      | none => rfl
      | some y =>
        unfold fieldsI fieldI
        cases (regW c) with
        | none => rfl
        | some z =>
          cases r with
          | nil => rfl
          | cons d r => exact okP_ne (by simp only [List.length_cons]; omega)
theorem st_is (op : Nat) (rest : List (List UInt8)) : okP (stO op (rest.map meanM)) rest.length = (fieldsI ⟨op, 0, 0, 0, 0⟩ [.d, .o, .v] rest).map fun i => [i] := by
  unfold stO
  match rest with
  | [] => rfl
  | [a] =>
    rw [ag_cons0]
    simp only [dst_mean, short_mean, whole_mean]
    unfold fieldsI fieldI
    cases (regW a) <;> rfl
  | [a, b] =>
    rw [ag_cons0, ag_cons1]
    simp only [dst_mean, short_mean, whole_mean]
    unfold fieldsI fieldI
    cases (regW a) with
    | none => rfl
    | some x =>
      unfold fieldsI fieldI
      cases (parseI b 32768 32767) <;> rfl
  | a :: b :: c :: r =>
    rw [ag_cons0, ag_cons1, ag_cons2]
    simp only [dst_mean, short_mean, whole_mean]
    unfold fieldsI fieldI
    cases (regW a) with
    | none => rfl
    | some x =>
      unfold fieldsI fieldI
      cases (parseI b 32768 32767) with
      | none => rfl
      | some y =>
        unfold fieldsI fieldI
        cases (parseI c 2147483648 2147483647) with
        | none => rfl
        | some z =>
          cases r with
          | nil => rfl
          | cons d r => exact okP_ne (by simp only [List.length_cons]; omega)
theorem ldx_is (op : Nat) (rest : List (List UInt8)) : okP (ldxO op (rest.map meanM)) rest.length = (fieldsI ⟨op, 0, 0, 0, 0⟩ [.d, .s, .o] rest).map fun i => [i] := by
  unfold ldxO
  match rest with
  | [] => rfl
  | [a] =>
    rw [ag_cons0]
    simp only [dst_mean, short_mean, whole_mean]
    unfold fieldsI fieldI
    cases (regW a) <;> rfl
  | [a, b] =>
    rw [ag_cons0, ag_cons1]
    simp only [dst_mean, short_mean, whole_mean]
    unfold fieldsI fieldI
    cases (regW a) with
    | none => rfl
    | some x =>
      unfold fieldsI fieldI
      cases (regW b) <;> rfl
  | a :: b :: c :: r =>
    rw [ag_cons0, ag_cons1, ag_cons2]
    simp only [dst_mean, short_mean, whole_mean]
    unfold fieldsI fieldI
    cases (regW a) with
    | none => rfl
    | some x =>
      unfold fieldsI fieldI
      cases (regW b) with
      | none => rfl
      | some y =>
        unfold fieldsI fieldI
        cases (parseI c 32768 32767) with
        | none => rfl
        | some z =>
          cases r with
          | nil => rfl
          | cons d r => exact okP_ne (by simp only [List.length_cons]; omega)
theorem ldmap_is (rest : List (List UInt8)) : okP (ldmapO (rest.map meanM)) rest.length = (fieldsI ⟨24, 0, 1, 0, 0⟩ [.d, .v] rest).map fun i => [i, ⟨0, 0, 0, 0, 0⟩] := by
  unfold ldmapO
  match rest with
  | [] => rfl
  | [a] =>
    rw [ag_cons0]
    simp only [dst_mean, whole_mean]
    unfold fieldsI fieldI
    cases regW a <;> rfl
  | a :: b :: r =>
    rw [ag_cons0, ag_cons1]
    simp only [dst_mean, whole_mean]
    unfold fieldsI fieldI
    cases regW a with
    | none => rfl
    | some x =>
      unfold fieldsI fieldI
      cases parseI b 2147483648 2147483647 with
      | none => rfl
      | some y =>
        cases r with
        | nil => rfl
        | cons d r => exact okP_ne (by simp only [List.length_cons]; omega)
def rawWM (rest : List (List UInt8)) : Option (List Ins) := match rest with
  | [a, b, c, o, v] => (parseI a 0 255).bind fun x => (parseI b 0 255).bind fun y => (parseI c 0 255).bind fun z => (fieldsI ⟨x.toNat, y.toNat, z.toNat, 0, 0⟩ [.o, .v] [o, v]).map fun i => [i]
  | _ => none
theorem raw_is (rest : List (List UInt8)) : okP (rawO (rest.map meanM)) rest.length = rawWM rest := by
  unfold rawO
  match rest with
  | [] => rfl
  | [a] =>
    rw [ag_cons0]
    simp only [small_mean]
    cases parseI a 0 255 <;> rfl
  | [a, b] =>
    rw [ag_cons0, ag_cons1]
    simp only [small_mean]
    cases parseI a 0 255 <;> cases parseI b 0 255 <;> rfl
  | [a, b, c] =>
    rw [ag_cons0, ag_cons1, ag_cons2]
    simp only [small_mean]
    cases parseI a 0 255 <;> cases parseI b 0 255 <;> cases parseI c 0 255 <;> rfl
  | [a, b, c, o] =>
    rw [ag_cons0, ag_cons1, ag_cons2, ag_cons3]
    simp only [small_mean, short_mean]
    cases parseI a 0 255 <;> cases parseI b 0 255 <;> cases parseI c 0 255 <;> cases parseI o 32768 32767 <;> rfl
  | a :: b :: c :: o :: v :: r =>
    rw [ag_cons0, ag_cons1, ag_cons2, ag_cons3, ag_cons4]
    simp only [small_mean, short_mean, whole_mean]
    cases r with
    | nil =>
      show _ = ((parseI a 0 255).bind fun x => (parseI b 0 255).bind fun y => (parseI c 0 255).bind fun z => (fieldsI ⟨x.toNat, y.toNat, z.toNat, 0, 0⟩ [.o, .v] [o, v]).map fun i => [i])
      cases parseI a 0 255 with
      | none => rfl
      | some x =>
        cases parseI b 0 255 with
        | none => rfl
        | some y =>
          cases parseI c 0 255 with
          | none => rfl
          | some z =>
            show _ = (fieldsI ⟨x.toNat, y.toNat, z.toNat, 0, 0⟩ [.o, .v] [o, v]).map fun i => [i]
            unfold fieldsI fieldI
            cases parseI o 32768 32767 with
            | none => rfl
            | some q =>
              unfold fieldsI fieldI
              cases parseI v 2147483648 2147483647 <;> rfl
    | cons d r =>
      show _ = none
      cases parseI a 0 255 <;> cases parseI b 0 255 <;> cases parseI c 0 255 <;> cases parseI o 32768 32767 <;> cases parseI v 2147483648 2147483647 <;> first | rfl | exact okP_ne (by simp only [List.length_cons]; omega)
def ldimmW (rest : List (List UInt8)) : Option (List Ins) := match rest with
  | [a, b] => (regW a).bind fun r => (parseI b 0 18446744073709551615).map fun n => [⟨24, r, 0, 0, s32 (n.toNat % 4294967296)⟩, ⟨0, 0, 0, 0, s32 (n.toNat / 4294967296)⟩]
  | _ => none
theorem ldimm_is (rest : List (List UInt8)) : okP (ldimmO (rest.map meanM)) rest.length = ldimmW rest := by
  unfold ldimmO
  match rest with
  | [] => rfl
  | [a] => rfl
  | a :: b :: r =>
    rw [ag_cons0]
    show okP ((longM (meanM b)).bind _) _ = _
    rw [long_mean, dst_mean]
    cases r with
    | nil =>
      show _ = ((regW a).bind fun r => (parseI b 0 18446744073709551615).map fun n => [(⟨24, r, 0, 0, s32 (n.toNat % 4294967296)⟩ : Ins), (⟨0, 0, 0, 0, s32 (n.toNat / 4294967296)⟩ : Ins)])
      cases regW a <;> cases parseI b 0 18446744073709551615 <;> rfl
    | cons d r =>
      show _ = none
      cases regW a <;> cases parseI b 0 18446744073709551615 <;> first | rfl | exact okP_ne (by simp only [List.length_cons]; omega)
end Go.Proofs.YtakcdecljfmckaaGreatDoor

namespace Go.Proofs.YtakcdecljfmckaaGreatDoor

/-- what stands behind a word of code -/
def codeKs (op : Nat) (j : Bool) : List Kd := if j then [.d, .e, .o] else if op / 16 = 8 then [.d] else [.d, .e]
theorem code_is (op : Nat) (j : Bool) (rest : List (List UInt8)) : okP (codeO op j (rest.map meanM)) rest.length = (fieldsI ⟨op, 0, 0, 0, 0⟩ (codeKs op j) rest).map fun i => [i] := by
  unfold codeO codeKs
  match rest with
  | [] => cases j <;> (try (by_cases h : op / 16 = 8)) <;> simp [*, fieldsI] <;> rfl
  | a :: t =>
    rw [ag_cons0, dst_mean]
    cases hr : regW a with
    | none => cases j <;> (try (by_cases h : op / 16 = 8)) <;> simp [*, fieldsI, fieldI] <;> rfl
    | some d =>
      show okP (if _ then _ else _) _ = _
      have e : ((d : Nat) : Int).toNat = d := rfl
      simp only [e]
      cases j with
      | false =>
        by_cases h : op / 16 = 8
        · simp only [h, Bool.not_false, Bool.true_and, beq_self_eq_true, if_true, Bool.false_eq_true, if_false]
          simp only [fieldsI, fieldI, hr]
          cases t with
          | nil => rfl
          | cons b t => exact okP_ne (by simp only [List.length_cons]; omega)
        · have hb : (op / 16 == 8) = false := by simpa using h
          rw [if_neg h]
          simp only [hb, Bool.not_false, Bool.true_and, Bool.false_eq_true, if_false]
          cases t with
          | nil =>
            show none = _
            simp only [fieldsI, fieldI, hr, Option.map_some, Option.bind_some, Option.map_none]
          | cons b t =>
            show okP ((eitherO op d (meanM b)).bind fun i => some ([i], 2)) _ = _
            rw [either_mean]
            have e1 : fieldsI ⟨op, 0, 0, 0, 0⟩ [.d, .e] (a :: b :: t) = (fieldI ⟨op, d, 0, 0, 0⟩ .e b).bind fun j => fieldsI j [] t := by
              show ((regW a).map _).bind _ = _
              rw [hr]; rfl
            rw [e1]
            cases fieldI ⟨op, d, 0, 0, 0⟩ .e b with
            | none => rfl
            | some i =>
              cases t with
              | nil => rfl
              | cons c t => exact okP_ne (by simp only [List.length_cons]; omega)
      | true =>
        simp only [Bool.not_true, Bool.false_and, Bool.false_eq_true, if_false, if_true]
        cases t with
        | nil =>
          show none = _
          simp only [fieldsI, fieldI, hr, Option.map_some, Option.bind_some, Option.map_none]
        | cons b t =>
          show okP ((eitherO op d (meanM b)).bind fun i => (ag shortG _ 2).bind fun o => some ([{ i with off := o }], 3)) _ = _
          rw [either_mean]
          have e1 : fieldsI ⟨op, 0, 0, 0, 0⟩ [.d, .e, .o] (a :: b :: t) = (fieldI ⟨op, d, 0, 0, 0⟩ .e b).bind fun j => fieldsI j [.o] t := by
            show ((regW a).map _).bind _ = _
            rw [hr]; rfl
          rw [e1]
          cases fieldI ⟨op, d, 0, 0, 0⟩ .e b with
          | none => rfl
          | some i =>
            cases t with
            | nil => rfl
            | cons c t =>
              rw [ag_cons2, short_mean]
              show okP ((parseI c 32768 32767).bind fun o => some ([{ i with off := o }], 3)) _ = Option.map _ (((parseI c 32768 32767).map fun x => { i with off := x }).bind fun j => fieldsI j [] t)
              cases parseI c 32768 32767 with
              | none => rfl
              | some o =>
                cases t with
                | nil => rfl
                | cons c2 t => exact okP_ne (by simp only [List.length_cons]; omega)
end Go.Proofs.YtakcdecljfmckaaGreatDoor

namespace Go.Proofs.YtakcdecljfmckaaGreatDoor

deriving instance DecidableEq for Kd
def clsB (first : List UInt8) : Option (Nat × List Kd) :=
  if first = [101, 120, 105, 116] then some (149, [])
  else if first = [110, 111, 115, 112, 101, 99] then some (194, [])
  else if first = [99, 97, 108, 108] then some (133, [.v])
  else if first = [106, 97] then some (5, [.o])
  else if sizedY (sizedN first [108, 100, 120]) = true then some ((sizedX (sizedN first [108, 100, 120])).1, [.d, .s, .o])
  else if sizedY (sizedN first [115, 116, 120]) = true then some ((sizedX (sizedN first [115, 116, 120])).2.2, [.d, .o, .s])
  else if sizedY (sizedN first [115, 116]) = true then some ((sizedX (sizedN first [115, 116])).2.1, [.d, .o, .v])
  else match codeW first with
    | none => none
    | some (op, j) => some (op, codeKs op j)
def clsT (first : List UInt8) : Option (Nat × List Kd) := ((List.range 256).find? (hitB first)).map fun op => (op, kindsOf op)
def allW : List (List UInt8) := (List.range 256).filterMap fun op => (table op).map (·.1)
theorem cls_in : ∀ first ∈ allW, clsB first = clsT first := by decide +kernel
theorem clsT_out {first : List UInt8} (h : first ∉ allW) : clsT first = none := by
  unfold clsT
  cases hf : (List.range 256).find? (hitB first) with
  | none => rfl
  | some op =>
    exfalso
    have h1 := List.find?_some hf
    have h2 := List.mem_of_find?_eq_some hf
    unfold hitB at h1
    cases ht : table op with
    | none => rw [ht] at h1; cases h1
    | some x =>
      rw [ht] at h1
      have hx : x.1 = first := by simpa using h1
      exact h (List.mem_filterMap.2 ⟨op, h2, by rw [ht]; exact congrArg some hx⟩)
theorem sized_word {first nm : List UInt8} (h : sizedY (sizedN first nm) = true) : first = nm ++ [49] ∨ first = nm ++ [50] ∨ first = nm ++ [52] ∨ first = nm ++ [56] := by
  unfold sizedN at h
  split at h
  · rename_i hp
    have hp2 : nm <+: first := List.isPrefixOf_iff_prefix.1 hp
    obtain ⟨r, rfl⟩ := hp2
    unfold Lib.trimPrefix at h
    rw [if_pos hp, List.drop_left] at h
    unfold oneC at h
    split at h
    · rename_i c
      unfold sizedY lsizeB at h
      simp only [decide_eq_true_eq] at h
      have hc : c = 49 ∨ c = 50 ∨ c = 52 ∨ c = 56 := by
        rcases h with h | h | h | h
        · exact .inl (UInt8.toNat_inj.1 (by show c.toNat = 49; omega))
        · exact .inr (.inl (UInt8.toNat_inj.1 (by show c.toNat = 50; omega)))
        · exact .inr (.inr (.inl (UInt8.toNat_inj.1 (by show c.toNat = 52; omega))))
        · exact .inr (.inr (.inr (UInt8.toNat_inj.1 (by show c.toNat = 56; omega))))
      rcases hc with rfl | rfl | rfl | rfl <;> simp
    · cases h
  · cases h
theorem suffix_word {first p : List UInt8} (h : Lib.hasSuffix first p = true) : first = Lib.trimSuffix first p ++ p := by
  unfold Lib.trimSuffix
  rw [if_pos h]
  have hp2 : p <:+ first := List.isSuffixOf_iff_suffix.1 h
  obtain ⟨r, rfl⟩ := hp2
  rw [List.length_append, Nat.add_sub_cancel, List.take_left]
theorem place_mem {L : List (List UInt8)} {x : List UInt8} {k : Nat} (h : placeN L x = some k) : x ∈ L ∧ x ≠ [] := by
  obtain ⟨hk, hp, _⟩ := List.findIdx?_eq_some_iff_getElem.1 h
  simp only [Bool.and_eq_true, bne_iff_ne, beq_iff_eq] at hp
  exact ⟨hp.2 ▸ List.getElem_mem hk, hp.2 ▸ hp.1⟩
theorem codeF_word {wide : Bool} {r : List UInt8} {p : Nat × Bool} (h : codeF wide r = some p) : r ∈ arithN ++ jumpN ∧ r ≠ [] := by
  unfold codeF at h
  split at h
  · rename_i k hk
    have := place_mem hk
    exact ⟨List.mem_append_left _ this.1, this.2⟩
  · split at h
    · rename_i k hk
      have := place_mem hk
      exact ⟨List.mem_append_right _ this.1, this.2⟩
    · cases h
theorem names_in : ∀ r ∈ arithN ++ jumpN, r ≠ [] → r ++ [54, 52] ∈ allW ∧ r ++ [51, 50] ∈ allW := by decide +kernel
theorem codeW_word {first : List UInt8} {p : Nat × Bool} (h : codeW first = some p) : first ∈ allW := by
  unfold codeW at h
  split at h
  · rename_i hs
    obtain ⟨h1, h2⟩ := codeF_word h
    rw [suffix_word hs]
    exact (names_in _ h1 h2).1
  · split at h
    · rename_i hs
      obtain ⟨h1, h2⟩ := codeF_word h
      rw [suffix_word hs]
      exact (names_in _ h1 h2).2
    · cases h
theorem sized_in {nm : List UInt8} (hn : nm = [108, 100, 120] ∨ nm = [115, 116, 120] ∨ nm = [115, 116]) {first : List UInt8} (h : sizedY (sizedN first nm) = true) : first ∈ allW := by
  have key : ∀ n ∈ [[108, 100, 120], [115, 116, 120], [115, 116]], ∀ c ∈ ([49, 50, 52, 56] : List UInt8), n ++ [c] ∈ allW := by decide +kernel
  have hm : nm ∈ [[108, 100, 120], [115, 116, 120], [115, 116]] := by rcases hn with rfl | rfl | rfl <;> simp
  rcases sized_word h with rfl | rfl | rfl | rfl <;> exact key nm hm _ (by simp)
theorem clsB_out {first : List UInt8} (h : first ∉ allW) : clsB first = none := by
  have e : ∀ l : List UInt8, l ∈ allW → first ≠ l := fun l hl he => h (he ▸ hl)
  unfold clsB
  rw [if_neg (e _ (by decide +kernel)), if_neg (e _ (by decide +kernel)), if_neg (e _ (by decide +kernel)), if_neg (e _ (by decide +kernel)), if_neg (fun hs => h (sized_in (.inl rfl) hs)), if_neg (fun hs => h (sized_in (.inr (.inl rfl)) hs)), if_neg (fun hs => h (sized_in (.inr (.inr rfl)) hs))]
  cases hc : codeW first with
  | none => rfl
  | some p => exact absurd (codeW_word hc) h
theorem cls_same (first : List UInt8) : clsB first = clsT first := by
  by_cases h : first ∈ allW
  · exact cls_in first h
  · rw [clsB_out h, clsT_out h]
end Go.Proofs.YtakcdecljfmckaaGreatDoor

namespace Go.Proofs.YtakcdecljfmckaaGreatDoor

theorem none_is (op : Nat) (rest : List (List UInt8)) : okP (some ([⟨op, 0, 0, 0, 0⟩], 0)) rest.length = (fieldsI ⟨op, 0, 0, 0, 0⟩ [] rest).map fun i => [i] := by
  cases rest with
  | nil => rfl
  | cons a r => exact okP_ne (by simp only [List.length_cons]; omega)
theorem okP_slots (first : List UInt8) (rest : List (List UInt8)) : (match slotsO (first :: rest) with | some (l, true) => some l | _ => none) = okP (buildO first (rest.map meanM)) rest.length := by
  show (match (buildO first (rest.map meanM)).map (fun (l, k) => (l, decide (k = (rest.length : Int)))) with | some (l, true) => some l | _ => none) = _
  cases buildO first (rest.map meanM) with
  | none => rfl
  | some p =>
    obtain ⟨l, k⟩ := p
    by_cases h : k = (rest.length : Int)
    · simp [okP, h]
    · simp [okP, h]
theorem okP_cls (first : List UInt8) (rest : List (List UInt8)) (h1 : first ≠ [114, 97, 119]) (h2 : first ≠ [108, 100, 105, 109, 109]) (h3 : first ≠ [108, 100, 109, 97, 112]) :
    okP (buildO first (rest.map meanM)) rest.length = (clsB first).bind fun p => (fieldsI ⟨p.1, 0, 0, 0, 0⟩ p.2 rest).map fun i => [i] := by
  unfold buildO clsB
  by_cases e1 : first = [101, 120, 105, 116]
  · rw [if_pos e1, if_pos e1]; exact none_is 149 rest
  rw [if_neg e1, if_neg e1]
  by_cases e2 : first = [110, 111, 115, 112, 101, 99]
  · rw [if_pos e2, if_pos e2]; exact none_is 194 rest
  rw [if_neg e2, if_neg e2]
  by_cases e3 : first = [99, 97, 108, 108]
  · rw [if_pos e3, if_pos e3]; exact call_is rest
  rw [if_neg e3, if_neg e3]
  by_cases e4 : first = [106, 97]
  · rw [if_pos e4, if_pos e4]; exact ja_is rest
  rw [if_neg e4, if_neg e4, if_neg h2, if_neg h3, if_neg h1]
  by_cases e5 : sizedY (sizedN first [108, 100, 120]) = true
  · rw [if_pos e5, if_pos e5]; exact ldx_is _ rest
  rw [if_neg e5, if_neg e5]
  by_cases e6 : sizedY (sizedN first [115, 116, 120]) = true
  · rw [if_pos e6, if_pos e6]; exact stx_is _ rest
  rw [if_neg e6, if_neg e6]
  by_cases e7 : sizedY (sizedN first [115, 116]) = true
  · rw [if_pos e7, if_pos e7]; exact st_is _ rest
  rw [if_neg e7, if_neg e7]
  cases codeW first with
  | none => exact okP_ne (by omega)
  | some p =>
    obtain ⟨op, j⟩ := p
    exact code_is op j rest
theorem line_is (first : List UInt8) (rest : List (List UInt8)) : okP (buildO first (rest.map meanM)) rest.length = lineW (first :: rest) := by
  show _ = (if first = [114, 97, 119] then rawWM rest else if first = [108, 100, 105, 109, 109] then ldimmW rest else if first = [108, 100, 109, 97, 112] then (fieldsI ⟨24, 0, 1, 0, 0⟩ [.d, .v] rest).map (fun i => [i, ⟨0, 0, 0, 0, 0⟩]) else match (List.range 256).find? (hitB first) with | none => none | some op => (fieldsI ⟨op, 0, 0, 0, 0⟩ (kindsOf op) rest).map fun i => [i])
  by_cases h1 : first = [114, 97, 119]
  · rw [if_pos h1]
    subst h1
    exact raw_is rest
  rw [if_neg h1]
  by_cases h2 : first = [108, 100, 105, 109, 109]
  · rw [if_pos h2]
    subst h2
    exact ldimm_is rest
  rw [if_neg h2]
  by_cases h3 : first = [108, 100, 109, 97, 112]
  · rw [if_pos h3]
    subst h3
    exact ldmap_is rest
  rw [if_neg h3, okP_cls first rest h1 h2 h3, cls_same]
  unfold clsT
  cases (List.range 256).find? (hitB first) with
  | none => rfl
  | some op => rfl
theorem slotsP_is (t : List UInt8) : slotsP t = slotsL t := by
  unfold slotsP slotsL
  cases wordsL t with
  | none => rfl
  | some ws =>
    show (if ws = [] then _ else _) = (if ws = [] then _ else _)
    cases ws with
    | nil => rfl
    | cons first rest =>
      rw [if_neg (by simp), if_neg (by simp)]
      exact (okP_slots first rest).trans (line_is first rest)
theorem readPF_is : ∀ (L : List (List UInt8)) (a : Nat) (acc : List Ins), readPF L a acc = readF L a acc
  | [], _, _ => rfl
  | t :: r, a, acc => by
    unfold readPF readF
    rw [slotsP_is]
    cases slotsL t with
    | none => rfl
    | some more =>
      show (if _ then _ else _) = (if _ then _ else _)
      rw [readPF_is r]
theorem readP_is (s : List UInt8) : readP s = readS s := by
  unfold readP readS
  rw [readPF_is]
end Go.Proofs.YtakcdecljfmckaaGreatDoor

namespace Go.Proofs.YtakcdecljfmckaaGreatDoor
open Go.RowKit

theorem lread_any (s : List UInt8) (hs : s.length ≤ 1000000) (w : World) (hT : LT w) : Calls Tryz.prog 21 #[.string (bA s)] w (ReadTo w (readS s)) := by
  rw [← readP_is]; exact read_any s hs w hT
end Go.Proofs.YtakcdecljfmckaaGreatDoor
