/- lines.mean: what a word behind the first one is. -/
import Derived.Test.YtakcdecljfmckaaGreatDoorCore9
import Derived.Test.YtakcdecljfmckaaGreatDoorCore17
import Derived.BigGuardPart
import Derived.Lib.ConvBytes
set_option linter.all false
set_option linter.unusedVariables false
set_option linter.unusedSimpArgs false
namespace Go.Proofs.YtakcdecljfmckaaGreatDoor
open Go.RowKit

/-- what a word is -/
def meanM (s : List UInt8) : Mv :=
  if s.head? = some 114 then (match regW s with | some n => .reg n | none => .no)
  else match numW s with
    | none => .no
    | some (m, n) => .val (m && decide (0 < n)) n

theorem cutp_any (s p : ByteArray) (w : World) : Calls Tryz.prog 93 #[.string s, .string p] w fun e w' => e = .returned (.tuple #[.string (bA (Lib.trimPrefix s.data.toList p.data.toList)), .bool (Lib.hasPrefix s.data.toList p.data.toList)]) ∧ w = w' :=
  (Tryz.strings_CutPrefix s p w).mono fun e w' ⟨he, hw⟩ => ⟨he, hw.symm⟩
theorem trimp_any (s p : ByteArray) (w : World) : Calls Tryz.prog 96 #[.string s, .string p] w fun e w' => e = .returned (.string (bA (Lib.trimPrefix s.data.toList p.data.toList))) ∧ w = w' :=
  (Tryz.strings_TrimPrefix s p w).mono fun e w' ⟨he, hw⟩ => ⟨he, hw.symm⟩
theorem bytesWorld_fr (w : World) (e : TypeId) (s : ByteArray) : Fr No w (Lib.bytesWorld w e s) := Fr.of_below (Lib.bytesWorld_below w e s)
/-- a number comes back, and no error -/
def SlNum (k : IntKind) (n : Int) (w : World) (e : Ending) (w' : World) : Prop := e = .returned (.tuple #[.int k n, .nilIface]) ∧ Fr No w w'
/-- an error comes back -/
def SlErr (k : IntKind) (w : World) (e : Ending) (w' : World) : Prop := ∃ n tp p, e = .returned (.tuple #[.int k n, .iface tp p]) ∧ Fr No w w'
theorem atoi_some (s : List UInt8) (n : Int) (hs : s.length ≤ 1000000) (h : okN (Lib.atoiAll s) = some n) (w : World) : Calls Tryz.prog 94 #[.string (bA s)] w (SlNum .i64 n w) := by
  have h2 : Lib.atoiAll (bA s).data.toList = .ok n := by
    show Lib.atoiAll s = .ok n
    cases ha : Lib.atoiAll s with
    | ok v => rw [ha] at h; obtain rfl := Option.some.inj h; rfl
    | range => rw [ha] at h; cases h
    | _ => rw [ha] at h; cases h
  refine (Tryz.strconv_Atoi_ok (bA s) (by rw [bA_size]; omega) n h2 w).mono ?_
  rintro e w' ⟨rfl, hw⟩
  refine ⟨rfl, ?_⟩
  rcases hw with rfl | ⟨t, rfl⟩
  · exact Fr.refl _ _
  · exact bytesWorld_fr _ _ _
theorem atoi_none (s : List UInt8) (hs : s.length ≤ 1000000) (h : okN (Lib.atoiAll s) = none) (w : World) (hT : LT w) : Calls Tryz.prog 94 #[.string (bA s)] w (SlErr .i64 w) := by
  obtain ⟨t1, p1, h1⟩ := hT.errS
  obtain ⟨t2, p2, h2⟩ := hT.errR
  cases ha : Lib.atoiAll s with
  | ok v => rw [ha] at h; cases h
  | range =>
    refine (Tryz.strconv_Atoi_range_var (bA s) (by rw [bA_size]; omega) ha t2 p2 w h2).mono ?_
    rintro e w' ⟨N, rfl, _, _, hb⟩
    exact ⟨_, _, _, rfl, Fr.of_below hb⟩
  | _ =>
    refine (Tryz.strconv_Atoi_syntax_var (bA s) (by rw [bA_size]; omega) ha t1 p1 w h1).mono ?_
    rintro e w' ⟨N, rfl, _, _, hb⟩
    exact ⟨_, _, _, rfl, Fr.of_below hb⟩
theorem pu_some (s : List UInt8) (n : Nat) (hs : s.length ≤ 1000000) (h : okN (Lib.parseUintB 64 s) = some n) (w : World) : Calls Tryz.prog 97 #[.string (bA s), .int .i64 10, .int .i64 64] w (SlNum .u64 n w) := by
  have h2 : Lib.parseUintB 64 (bA s).data.toList = .ok n := by
    show Lib.parseUintB 64 s = .ok n
    cases ha : Lib.parseUintB 64 s with
    | ok v => rw [ha] at h; obtain rfl := Option.some.inj h; rfl
    | range => rw [ha] at h; cases h
    | _ => rw [ha] at h; cases h
  refine (Tryz.strconv_ParseUint_10_at64_ok (bA s) (by rw [bA_size]; omega) n h2 w).mono ?_
  rintro e w' ⟨rfl, hw⟩
  refine ⟨rfl, ?_⟩
  rcases hw with rfl | rfl
  · exact Fr.refl _ _
  · exact bytesWorld_fr _ _ _
theorem pu_none (s : List UInt8) (hs : s.length ≤ 1000000) (h : okN (Lib.parseUintB 64 s) = none) (w : World) (hT : LT w) : Calls Tryz.prog 97 #[.string (bA s), .int .i64 10, .int .i64 64] w (SlErr .u64 w) := by
  obtain ⟨t1, p1, h1⟩ := hT.errS
  obtain ⟨t2, p2, h2⟩ := hT.errR
  cases ha : Lib.parseUintB 64 s with
  | ok v => rw [ha] at h; cases h
  | range =>
    refine (Tryz.strconv_ParseUint_10_at64_range_var (bA s) (by rw [bA_size]; omega) ha t2 p2 w h2).mono ?_
    rintro e w' ⟨N, rfl, _, _, hb⟩
    exact ⟨_, _, _, rfl, Fr.of_below hb⟩
  | _ =>
    refine (Tryz.strconv_ParseUint_10_at64_syntax_var (bA s) (by rw [bA_size]; omega) ha t1 p1 w h1).mono ?_
    rintro e w' ⟨N, rfl, _, _, hb⟩
    exact ⟨_, _, _, rfl, Fr.of_below hb⟩
theorem replM_any (s : List UInt8) (hs : s.length ≤ 1000000) (w : World) (hT : LT w) : Calls Tryz.prog 95 #[.string (bA s), .string ⟨#[226, 136, 146]⟩, .string ⟨#[45]⟩, .int .i64 1] w fun e w' => e = .returned (.string (bA (replM s))) ∧ Fr No w w' := by
  obtain ⟨m, hm⟩ := hT.max
  have hc : Lib.countB (bA s) ⟨#[226, 136, 146]⟩ ≤ (bA s).size + 1 := by
    exact Lib.count_le (bA s).data.toList [226, 136, 146]
  refine (Tryz.strings_Replace (bA s) ⟨#[226, 136, 146]⟩ ⟨#[45]⟩ 1 m w (by rw [bA_size]; omega) hm (by decide) (by
    have h1 : (⟨#[45]⟩ : ByteArray).size = 1 := rfl
    rw [h1, bA_size] at *
    omega)).mono ?_
  rintro e w' ⟨rfl, hb⟩
  exact ⟨rfl, Fr.of_below hb⟩
theorem data_bA (s : List UInt8) : (bA s).data.toList = s := rfl

set_option maxRecDepth 100000 in
set_option maxHeartbeats 1000000 in
theorem mean_reg (s : List UInt8) (hs : s.length ≤ 1000000) (h : s.head? = some 114) (w : World) (hT : LT w) : Calls Tryz.prog 74 #[.string (bA s)] w fun e w' => e = .returned (meanM s).v ∧ Fr No w w' := by
  obtain ⟨t, rfl⟩ : ∃ t, s = 114 :: t := by
    cases s with
    | nil => cases h
    | cons c t => obtain rfl := Option.some.inj h; exact ⟨t, rfl⟩
  have HC : Hid (∀ W, Calls Tryz.prog 93 #[.string (bA (114 :: t)), .string ⟨#[114]⟩] W fun e w' => e = .returned (.tuple #[.string (bA t), .bool true]) ∧ W = w') := fun W => by
    have := cutp_any (bA (114 :: t)) ⟨#[114]⟩ W
    have e1 : Lib.trimPrefix (bA (114 :: t)).data.toList (⟨#[114]⟩ : ByteArray).data.toList = t := by
      show Lib.trimPrefix (114 :: t) [114] = t
      rw [trimP]; simp
    have e2 : Lib.hasPrefix (bA (114 :: t)).data.toList (⟨#[114]⟩ : ByteArray).data.toList = true := by
      show Lib.hasPrefix (114 :: t) [114] = true
      rw [hasP]; simp
    rw [e1, e2] at this
    exact this
  have hm : meanM (114 :: t) = (match regW (114 :: t) with | some n => .reg n | none => .no) := by unfold meanM; rw [if_pos (by simp)]
  cases ha : okN (Lib.atoiAll t) with
  | none =>
    have hr : regW (114 :: t) = none := by
      cases hr : regW (114 :: t) with
      | none => rfl
      | some n =>
        have h1 := List.find?_some hr
        have h2 := regW_le hr
        simp only [beq_iff_eq, regN, List.cons.injEq, true_and] at h1
        rw [h1, reg_num n h2] at ha
        cases ha
    rw [hm, hr]
    have HA := Lib.hid (fun W h2 => atoi_none t (by simp at hs; omega) ha W h2)
    have HT := Lib.hid hT
    clear hT ha hr hm h hs
    go_enter Tryz.func74, Tryz.ntmps74
    go_wp2_with (first
      | (go_at_call 93; (with_reducible refine (HC.out _).mono ?_); rintro e w1 ⟨rfl, rfl⟩)
      | (go_at_call 94; (with_reducible refine (HA.out _ HT.out).mono ?_); rintro e w2 ⟨n2, tp2, p2, rfl, hf2⟩))
    go_ret
    exact ⟨rfl, hf2⟩
  | some n =>
    have HA := Lib.hid (fun W => atoi_some t n (by simp at hs; omega) ha W)
    have HT : Hid (∀ W, Fr No w W → LT W) := fun W h => hT.fr h
    by_cases hn : 0 ≤ n ∧ n ≤ 10
    · obtain ⟨k, rfl⟩ := Int.eq_ofNat_of_zero_le hn.1
      have HI : Hid (∀ W, LT W → Calls Tryz.prog 67 #[.int .i64 (k : Int)] W fun e w' => e = .returned (.string (bA (itoaN k))) ∧ Fr No W w') := fun W h2 => itoa_any k (by omega) (by omega) W h2
      have hk : (k : Int) ≤ 10 := hn.2
      have hit : itoaN (k : Int) = decN k := by unfold itoaN; rw [if_neg (by omega)]; simp
      rw [hit] at HI
      have q1 : decide ((k : Int) ≤ 10) = true := by simp; omega
      obtain ⟨b, hb⟩ : ∃ b : Bool, ((bA (decN k)).toList == (bA t).toList) = b := ⟨_, rfl⟩
      have hb2 : (decN k == t) = b := by rw [← hb, Lib.toList_data, Lib.toList_data]; rfl
      have f1 : IntKind.u8.wrap (k : Int) = k := IntWalk.u8_in _ (by omega)
      have hmm : meanM (114 :: t) = if b then .reg k else .no := by
        rw [hm]
        cases b with
        | true =>
          have : t = decN k := by simpa using (beq_iff_eq.1 hb2).symm
          rw [this]
          have := regW_reg (r := k) (by omega)
          unfold regN at this
          rw [this]
          rfl
        | false =>
          have : regW (114 :: t) = none := by
            cases hr : regW (114 :: t) with
            | none => rfl
            | some m =>
              have h1 := List.find?_some hr
              have h2 := regW_le hr
              simp only [beq_iff_eq, regN, List.cons.injEq, true_and] at h1
              rw [h1, reg_num m h2] at ha
              have : m = k := by have := Option.some.inj ha; omega
              subst this
              rw [h1] at hb2
              simp at hb2
          rw [this]
          rfl
      rw [hmm]
      generalize bA (decN k) = D at *
      clear hT ha hm h hs hmm hn hb2 hit
      cases b with
      | true =>
        go_enter Tryz.func74, Tryz.ntmps74
        go_wp2_with (first
          | (go_at_call 93; (with_reducible refine (HC.out _).mono ?_); rintro e w1 ⟨rfl, rfl⟩)
          | (go_at_call 94; (with_reducible refine (HA.out _).mono ?_); rintro e w2 ⟨rfl, hf2⟩; have HF2 := Lib.hid hf2; clear hf2)
          | (go_at_call 67; (with_reducible refine (HI.out _ (HT.out _ HF2.out)).mono ?_); rintro e w3 ⟨rfl, hf3⟩; have HF3 := Lib.hid (HF2.out.trans hf3); clear hf3))
        go_ret
        exact ⟨rfl, HF3.out⟩
      | false =>
        go_enter Tryz.func74, Tryz.ntmps74
        go_wp2_with (first
          | (go_at_call 93; (with_reducible refine (HC.out _).mono ?_); rintro e w1 ⟨rfl, rfl⟩)
          | (go_at_call 94; (with_reducible refine (HA.out _).mono ?_); rintro e w2 ⟨rfl, hf2⟩; have HF2 := Lib.hid hf2; clear hf2)
          | (go_at_call 67; (with_reducible refine (HI.out _ (HT.out _ HF2.out)).mono ?_); rintro e w3 ⟨rfl, hf3⟩; have HF3 := Lib.hid (HF2.out.trans hf3); clear hf3))
        go_ret
        exact ⟨rfl, HF3.out⟩
    · have hr : regW (114 :: t) = none := by
        cases hr : regW (114 :: t) with
        | none => rfl
        | some m =>
          have h1 := List.find?_some hr
          have h2 := regW_le hr
          simp only [beq_iff_eq, regN, List.cons.injEq, true_and] at h1
          rw [h1, reg_num m h2] at ha
          have := Option.some.inj ha
          omega
      rw [hm, hr]
      by_cases h0 : 0 ≤ n
      · have q1 : decide (n ≥ 0) = true := by simpa using h0
        have q2 : decide (n ≤ 10) = false := by simp; omega
        clear hT ha hm h hs hn hr
        go_enter Tryz.func74, Tryz.ntmps74
        go_wp2_with (first
          | (go_at_call 93; (with_reducible refine (HC.out _).mono ?_); rintro e w1 ⟨rfl, rfl⟩)
          | (go_at_call 94; (with_reducible refine (HA.out _).mono ?_); rintro e w2 ⟨rfl, hf2⟩; have HF2 := Lib.hid hf2; clear hf2))
        go_ret
        exact ⟨rfl, HF2.out⟩
      · have q1 : decide (n ≥ 0) = false := by simp; omega
        clear hT ha hm h hs hn hr
        go_enter Tryz.func74, Tryz.ntmps74
        go_wp2_with (first
          | (go_at_call 93; (with_reducible refine (HC.out _).mono ?_); rintro e w1 ⟨rfl, rfl⟩)
          | (go_at_call 94; (with_reducible refine (HA.out _).mono ?_); rintro e w2 ⟨rfl, hf2⟩; have HF2 := Lib.hid hf2; clear hf2))
        go_ret
        exact ⟨rfl, HF2.out⟩

set_option maxRecDepth 100000 in
set_option maxHeartbeats 1000000 in
theorem mean_num (s : List UInt8) (hs : s.length ≤ 1000000) (h : s.head? ≠ some 114) (w : World) (hT : LT w) : Calls Tryz.prog 74 #[.string (bA s)] w fun e w' => e = .returned (meanM s).v ∧ Fr No w w' := by
  have HC : Hid (∀ W, Calls Tryz.prog 93 #[.string (bA s), .string ⟨#[114]⟩] W fun e w' => e = .returned (.tuple #[.string (bA s), .bool false]) ∧ W = w') := fun W => by
    have := cutp_any (bA s) ⟨#[114]⟩ W
    have e1 : Lib.trimPrefix (bA s).data.toList (⟨#[114]⟩ : ByteArray).data.toList = s := by
      show Lib.trimPrefix s [114] = s
      rw [trimP, if_neg h]
    have e2 : Lib.hasPrefix (bA s).data.toList (⟨#[114]⟩ : ByteArray).data.toList = false := by
      show Lib.hasPrefix s [114] = false
      rw [hasP]; simpa using h
    rw [e1, e2] at this
    exact this
  have hm : meanM s = match goNum s with | none => .no | some (m, n) => .val (m && decide (0 < n)) n := by unfold meanM; rw [if_neg h, num_same]
  have hlr : (replM s).length ≤ 1000000 := by
    rcases repl_form s with ⟨_, hr⟩ | ⟨i, _, ho, hr⟩
    · rw [hr]; exact hs
    · obtain ⟨t, ht⟩ := List.isPrefixOf_iff_prefix.1 ho
      have := congrArg List.length ht
      rw [hr]
      simp [oldM] at this ⊢
      omega
  have HR : Hid (∀ W, LT W → Calls Tryz.prog 95 #[.string (bA s), .string ⟨#[226, 136, 146]⟩, .string ⟨#[45]⟩, .int .i64 1] W fun e w' => e = .returned (.string (bA (replM s))) ∧ Fr No W w') := fun W h2 => replM_any s hs W h2
  have HT : Hid (∀ W, Fr No w W → LT W) := fun W h => hT.fr h
  have hg : goNum s = if Lib.hasPrefix (replM s) [45] then (okN (Lib.parseUintB 64 (Lib.trimPrefix (replM s) [45]))).map (true, ·) else (okN (Lib.parseUintB 64 (Lib.trimPrefix (replM s) [43]))).map (false, ·) := rfl
  rw [hm, hg]
  have HT0 := Lib.hid hT
  clear hm hg h hs hT
  generalize replM s = R at *
  have hl1 : (Lib.trimPrefix R [45]).length ≤ 1000000 := by rw [trimP]; split; simp; omega; exact hlr
  have hl2 : (Lib.trimPrefix R [43]).length ≤ 1000000 := by rw [trimP]; split; simp; omega; exact hlr
  cases hp : Lib.hasPrefix R [45] with
  | true =>
    have HC2 : Hid (∀ W, Calls Tryz.prog 93 #[.string (bA R), .string ⟨#[45]⟩] W fun e w' => e = .returned (.tuple #[.string (bA (Lib.trimPrefix R [45])), .bool true]) ∧ W = w') := fun W => by
      have := cutp_any (bA R) ⟨#[45]⟩ W
      have e2 : Lib.hasPrefix (bA R).data.toList (⟨#[45]⟩ : ByteArray).data.toList = true := hp
      rw [e2] at this
      exact this
    simp only [if_true]
    generalize Lib.trimPrefix R [45] = T at *
    cases hu : okN (Lib.parseUintB 64 T) with
    | none =>
      have HP := Lib.hid (fun W h2 => pu_none T hl1 hu W h2)
      clear hu hl1 hl2 hp hlr
      go_enter Tryz.func74, Tryz.ntmps74
      go_wp2_with (first
        | (go_at_call 93; (with_reducible refine (HC.out _).mono ?_); rintro e w1 ⟨rfl, rfl⟩)
        | (go_at_call 95; (with_reducible refine (HR.out _ HT0.out).mono ?_); rintro e w2 ⟨rfl, hf2⟩; have HF2 := Lib.hid hf2; clear hf2)
        | (go_at_call 93; (with_reducible refine (HC2.out _).mono ?_); rintro e w1 ⟨rfl, rfl⟩)
        | (go_at_call 97; (with_reducible refine (HP.out _ (HT.out _ HF2.out)).mono ?_); rintro e w3 ⟨n3, tp3, p3, rfl, hf3⟩; have HF3 := Lib.hid (HF2.out.trans hf3); clear hf3))
      go_ret
      exact ⟨rfl, HF3.out⟩
    | some n =>
      have HP := Lib.hid (fun W => pu_some T n hl1 hu W)
      have hmv : (Mv.v (.val (true && decide (0 < n)) n)) = .iface 152 (.agg #[.bool (decide (0 < n)), .int .u64 n]) := rfl
      simp only [Option.map_some]
      rw [hmv]
      clear hu hl1 hl2 hp hlr hmv
      go_enter Tryz.func74, Tryz.ntmps74
      go_wp2_with (first
        | (go_at_call 93; (with_reducible refine (HC.out _).mono ?_); rintro e w1 ⟨rfl, rfl⟩)
        | (go_at_call 95; (with_reducible refine (HR.out _ HT0.out).mono ?_); rintro e w2 ⟨rfl, hf2⟩; have HF2 := Lib.hid hf2; clear hf2)
        | (go_at_call 93; (with_reducible refine (HC2.out _).mono ?_); rintro e w1 ⟨rfl, rfl⟩)
        | (go_at_call 97; (with_reducible refine (HP.out _).mono ?_); rintro e w3 ⟨rfl, hf3⟩; have HF3 := Lib.hid (HF2.out.trans hf3); clear hf3))
      go_ret
      exact ⟨rfl, HF3.out⟩
  | false =>
    have HC2 : Hid (∀ W, Calls Tryz.prog 93 #[.string (bA R), .string ⟨#[45]⟩] W fun e w' => e = .returned (.tuple #[.string (bA R), .bool false]) ∧ W = w') := fun W => by
      have := cutp_any (bA R) ⟨#[45]⟩ W
      have e2 : Lib.hasPrefix (bA R).data.toList (⟨#[45]⟩ : ByteArray).data.toList = false := hp
      have e1 : Lib.trimPrefix (bA R).data.toList (⟨#[45]⟩ : ByteArray).data.toList = R := by
        show Lib.trimPrefix R [45] = R
        unfold Lib.trimPrefix
        rw [hp]; rfl
      rw [e1, e2] at this
      exact this
    have HC3 : Hid (∀ W, Calls Tryz.prog 96 #[.string (bA R), .string ⟨#[43]⟩] W fun e w' => e = .returned (.string (bA (Lib.trimPrefix R [43]))) ∧ W = w') := fun W => trimp_any (bA R) ⟨#[43]⟩ W
    simp only [Bool.false_eq_true, if_false]
    generalize Lib.trimPrefix R [43] = T at *
    cases hu : okN (Lib.parseUintB 64 T) with
    | none =>
      have HP := Lib.hid (fun W h2 => pu_none T hl2 hu W h2)
      clear hu hl1 hl2 hp hlr
      go_enter Tryz.func74, Tryz.ntmps74
      go_wp2_with (first
        | (go_at_call 93; (with_reducible refine (HC.out _).mono ?_); rintro e w1 ⟨rfl, rfl⟩)
        | (go_at_call 95; (with_reducible refine (HR.out _ HT0.out).mono ?_); rintro e w2 ⟨rfl, hf2⟩; have HF2 := Lib.hid hf2; clear hf2)
        | (go_at_call 93; (with_reducible refine (HC2.out _).mono ?_); rintro e w1 ⟨rfl, rfl⟩)
        | (go_at_call 96; (with_reducible refine (HC3.out _).mono ?_); rintro e w1 ⟨rfl, rfl⟩)
        | (go_at_call 97; (with_reducible refine (HP.out _ (HT.out _ HF2.out)).mono ?_); rintro e w3 ⟨n3, tp3, p3, rfl, hf3⟩; have HF3 := Lib.hid (HF2.out.trans hf3); clear hf3))
      go_ret
      exact ⟨rfl, HF3.out⟩
    | some n =>
      have HP := Lib.hid (fun W => pu_some T n hl2 hu W)
      simp only [Option.map_some]
      clear hu hl1 hl2 hp hlr
      go_enter Tryz.func74, Tryz.ntmps74
      go_wp2_with (first
        | (go_at_call 93; (with_reducible refine (HC.out _).mono ?_); rintro e w1 ⟨rfl, rfl⟩)
        | (go_at_call 95; (with_reducible refine (HR.out _ HT0.out).mono ?_); rintro e w2 ⟨rfl, hf2⟩; have HF2 := Lib.hid hf2; clear hf2)
        | (go_at_call 93; (with_reducible refine (HC2.out _).mono ?_); rintro e w1 ⟨rfl, rfl⟩)
        | (go_at_call 96; (with_reducible refine (HC3.out _).mono ?_); rintro e w1 ⟨rfl, rfl⟩)
        | (go_at_call 97; (with_reducible refine (HP.out _).mono ?_); rintro e w3 ⟨rfl, hf3⟩; have HF3 := Lib.hid (HF2.out.trans hf3); clear hf3))
      go_ret
      exact ⟨rfl, HF3.out⟩
theorem mean_any (s : List UInt8) (hs : s.length ≤ 1000000) (w : World) (hT : LT w) : Calls Tryz.prog 74 #[.string (bA s)] w fun e w' => e = .returned (meanM s).v ∧ Fr No w w' := by
  by_cases h : s.head? = some 114
  · exact mean_reg s hs h w hT
  · exact mean_num s hs h w hT
end Go.Proofs.YtakcdecljfmckaaGreatDoor
