/- firewallref03.line, walked. -/
import Derived.Test.YthkdokkpiaaljaaGreatDoorLnU1
import Derived.Test.YthkdokkpiaaljaaGreatDoorCore6
import Derived.Test.YthkdokkpiaaljaaGreatDoorLnQ4
import Derived.BigQuiet
set_option linter.all false
set_option linter.unusedVariables false
set_option linter.unusedSimpArgs false
namespace Go.Proofs.YthkdokkpiaaljaaGreatDoor
open Go.RowKit

theorem strsAt_tail {w : World} {g o c : Nat} {first : List UInt8} {rest : List (List UInt8)} (hg : g < w.heap.size) (hcap : rest.length + 1 ≤ c) (hc : CellsAt w g o (strs (first :: rest))) (h1 : ¬ c = 1) : StrsAt w (.slice (some ⟨g, o + 1, none⟩) rest.length (c - 1)) rest := by
  refine .inr ⟨g, o + 1, c - 1, rfl, hg, by omega, fun j u hj => ?_⟩
  have := hc (j + 1) u (by simpa [strs] using hj)
  rw [show o + 1 + j = o + (j + 1) by omega]
  exact this

theorem s32_low (n : Nat) : s32 (((n : Int)).toNat % 4294967296) = wrap32 ((n : Int).tmod 4294967296 % 4294967296) := by
  rw [Int.tmod_eq_emod_of_nonneg (by omega), Int.toNat_natCast]
  unfold s32 wrap32
  split <;> omega
theorem s32_high (n : Nat) (h : n ≤ 18446744073709551615) : s32 (((n : Int)).toNat / 4294967296) = wrap32 (IntKind.u64.wrap ((n : Int).tdiv 4294967296) % 4294967296) := by
  rw [Int.tdiv_eq_ediv_of_nonneg (by omega), Int.toNat_natCast, IntWalk.u64_in _ (by omega)]
  unfold s32 wrap32
  split <;> omega
theorem nil_emp : (bA ([] : List UInt8)).toList.isEmpty = true := by rw [show bA ([] : List UInt8) = (⟨([] : List UInt8).toArray⟩ : ByteArray) from rfl, Lib.toList_data]; rfl
theorem beq_c (a b : List UInt8) : (a == b) = (b == a) := by rw [Bool.eq_iff_iff, beq_iff_eq, beq_iff_eq]; exact eq_comm
theorem bA_beqc (C d : List UInt8) : ((bA C).toList == d) = (d == C) := (bA_beq C d).trans (beq_c C d)
theorem strc (a b : List UInt8) : ((bA a).toList == (bA b).toList) = (b == a) := (str_beq a b).trans (beq_c a b)
theorem reg_low {n : Nat} (h : n < 256) (hg : regB n = false) : n + 8 < 256 := by
  unfold regB at hg
  simp at hg
  omega
theorem LineTo.form {w : World} {r : Option (List Ins)} {e : Ending} {w' : World} (h : LineTo w r e w') : ∃ v t, e = .returned (.tuple #[v, .bool t]) := by
  cases r with
  | none => obtain ⟨v, l, he, _⟩ := h; exact ⟨_, _, he⟩
  | some l => obtain ⟨v, he, _⟩ := h; exact ⟨_, _, he⟩
theorem LineTo.since {w W : World} {r : Option (List Ins)} {e : Ending} {w' : World} (h : LineTo W r e w') (hf : Fr No w W) : LineTo w r e w' := by
  cases r with
  | none => obtain ⟨v, l, he, hs, hl, h2⟩ := h; exact ⟨v, l, he, hs, hl, hf.trans h2⟩
  | some l => obtain ⟨v, he, hs, h2⟩ := h; exact ⟨v, he, hs, hf.trans h2⟩
theorem parse_u64 (u : List UInt8) : parseI u 0 18446744073709551615 = if (parseR u 0 18446744073709551615).2 = true then some (parseR u 0 18446744073709551615).1 else none := by
  unfold parseI parseR
  cases numW u with
  | none => rfl
  | some p =>
    obtain ⟨b, n⟩ := p
    cases b with
    | true =>
      show (if n ≤ 0 then some (-(n : Int)) else none) = if decide (n ≤ 0) = true then some (IntKind.u64.wrap (0 - (n : Int))) else none
      by_cases h : n ≤ 0
      · rw [if_pos h, if_pos (decide_eq_true h), IntKind.wrap_u64]
        refine congrArg some ?_
        omega
      · rw [if_neg h, if_neg (by rw [decide_eq_false h]; exact Bool.false_ne_true)]
    | false =>
      show (if n ≤ 18446744073709551615 then some (n : Int) else none) = if decide (n ≤ 18446744073709551615) = true then some (n : Int) else none
      by_cases h : n ≤ 18446744073709551615
      · rw [if_pos h, if_pos (decide_eq_true h)]
      · rw [if_neg h, if_neg (by rw [decide_eq_false h]; exact Bool.false_ne_true)]
/-- a number of 64 bits, parsed -/
theorem parse_u64n (u : List UInt8) : ∃ n : Nat, n ≤ 18446744073709551615 ∧ (parseR u 0 18446744073709551615).1 = n ∨ (parseR u 0 18446744073709551615).2 = false := by
  unfold parseR
  cases numW u with
  | none => exact ⟨0, .inr rfl⟩
  | some p =>
    obtain ⟨b, n⟩ := p
    cases b with
    | true =>
      refine ⟨(IntKind.u64.wrap (0 - (n : Int))).toNat, .inl ⟨?_, ?_⟩⟩
      · rw [IntKind.wrap_u64]; omega
      · show IntKind.u64.wrap (0 - (n : Int)) = _
        rw [IntKind.wrap_u64]; omega
    | false =>
      by_cases h : n ≤ 18446744073709551615
      · exact ⟨n, .inl ⟨h, rfl⟩⟩
      · exact ⟨0, .inr (decide_eq_false h)⟩

set_option maxRecDepth 100000 in
set_option maxHeartbeats 40000000 in
theorem refline_raw (first : List UInt8) (rest : List (List UInt8)) (v : Value) (w : World) (hv : StrsAt w v (first :: rest)) (hl : ∀ u ∈ first :: rest, u.length ≤ 100000) (hn : rest.length ≤ 100000) (h1 : first = [114, 97, 119]) : Calls Tryz.prog 40 #[v] w (LineTo w (lineW (first :: rest))) := by
  rcases hv with ⟨h, _⟩ | ⟨g, o, c, rfl, hg, hcap, hc⟩
  · cases h
  simp only [List.length_cons] at hcap
  have k0 : w.cell? ⟨g, o, none⟩ = some (.string (bA first)) := by have := hc 0 (.string (bA first)) rfl; rwa [Nat.add_zero] at this
  obtain ⟨m, hm⟩ : ∃ m, rest.length = m := ⟨_, rfl⟩
  have HMM := Lib.hid hm
  have HRS : Hid (∀ W, Fr No w W → StrsAt W (.slice (if c = 1 then some ⟨g, o, none⟩ else some ⟨g, o + 1, none⟩) m (c - 1)) rest) := fun W hf => by
    by_cases h : c = 1
    · rw [if_pos h]
      have : rest = [] := List.eq_nil_of_length_eq_zero (by omega)
      exact .inl ⟨this, some ⟨g, o, none⟩, c - 1, by rw [← hm, this]; rfl⟩
    · rw [if_neg h, ← hm]
      exact strsAt_tail (Nat.lt_of_lt_of_le hg hf.size) hcap (hf.cells hc id) h
  simp only [List.length_cons]
  rw [hm] at hcap hn ⊢
  have pc : ((m + 1 : Nat) : Int) ≤ (c : Int) := by omega
  have pc1 : (1 : Int) ≤ ((m + 1 : Nat) : Int) := by omega
  have HLR : Hid (∀ u ∈ rest, u.length ≤ 100000) := fun u hu => hl u (List.mem_cons_of_mem _ hu)
  have HL1 : Hid (first.length ≤ 100000) := hl first (by simp)
  obtain ⟨RR, hRR⟩ : ∃ RR, lineW (first :: rest) = RR := ⟨_, rfl⟩
  rw [hRR]
  have HRR := Lib.hid hRR
  clear hc hl hm hRR
  go_enter Tryz.func40, Tryz.ntmps40
  go_upto_region 1 with fail
  go_quiet (fail)
  obtain ⟨ra, hra⟩ : ∃ ra, (if c = 1 then some (⟨g, o, none⟩ : Addr) else some ⟨g, o + 1, none⟩) = ra := ⟨_, rfl⟩
  rw [hra] at HRS ⊢
  obtain ⟨rc, hrc⟩ : ∃ rc, c - 1 = rc := ⟨_, rfl⟩
  rw [hrc] at HRS ⊢
  have HF0 : Hid (Fr No w (w.drewN nq)) := (Fr.refl _ _).drewN _
  generalize w.drewN nq = W0 at *
  have HRAW : Hid (∀ W, Fr No w W → Calls Tryz.prog 74 #[.slice ra m rc] W (LineTo w (rawD rest))) := fun W hf => (raw_any _ rest W (HRS.out W hf) HLR.out (by rw [HMM.out]; exact hn)).mono fun e w' h => h.since hf
  have HFD : Hid (∀ (i : Ins) (ks : List Kd) W, Fr No w W → i.op + 8 * eCount ks < 256 → Calls Tryz.prog 77 #[i.agg, .string (bA (kdB ks)), .slice ra m rc] W (FieldsTo W (fieldsI i ks rest))) := fun i ks W hf h8 => fields_any i ks rest _ W (HRS.out W hf) h8 HLR.out (by rw [HMM.out]; exact hn)
  clear hra hrc k0 pc pc1 hcap
  subst h1
  have q1 : ((bA [114, 97, 119]).toList == ([114, 97, 119] : List UInt8)) = true := by rw [bA_beq]; rfl
  generalize bA [114, 97, 119] = B at *
  have HE : Hid (RR = rawD rest) := by rw [← HRR.out, line_raw]; exact Lib.hid rfl
  go_wp2_with (go_at_call 74; (with_reducible refine (HRAW.out _ HF0.out).mono ?_); rintro e w1 hto; have HTO := Lib.hid hto; obtain ⟨v1, t1, rfl⟩ := hto.form; clear hto)
  go_ret2
  rw [HE.out]
  exact HTO.out
set_option maxRecDepth 100000 in
set_option maxHeartbeats 40000000 in
theorem refline_ldimm (first : List UInt8) (rest : List (List UInt8)) (v : Value) (w : World) (hv : StrsAt w v (first :: rest)) (hl : ∀ u ∈ first :: rest, u.length ≤ 100000) (hn : rest.length ≤ 100000) (h1 : ¬ first = [114, 97, 119]) (h2 : first = [108, 100, 105, 109, 109] ∧ rest.length = 2) : Calls Tryz.prog 40 #[v] w (LineTo w (lineW (first :: rest))) := by
  rcases hv with ⟨h, _⟩ | ⟨g, o, c, rfl, hg, hcap, hc⟩
  · cases h
  simp only [List.length_cons] at hcap
  have k0 : w.cell? ⟨g, o, none⟩ = some (.string (bA first)) := by have := hc 0 (.string (bA first)) rfl; rwa [Nat.add_zero] at this
  obtain ⟨m, hm⟩ : ∃ m, rest.length = m := ⟨_, rfl⟩
  have HMM := Lib.hid hm
  have HRS : Hid (∀ W, Fr No w W → StrsAt W (.slice (if c = 1 then some ⟨g, o, none⟩ else some ⟨g, o + 1, none⟩) m (c - 1)) rest) := fun W hf => by
    by_cases h : c = 1
    · rw [if_pos h]
      have : rest = [] := List.eq_nil_of_length_eq_zero (by omega)
      exact .inl ⟨this, some ⟨g, o, none⟩, c - 1, by rw [← hm, this]; rfl⟩
    · rw [if_neg h, ← hm]
      exact strsAt_tail (Nat.lt_of_lt_of_le hg hf.size) hcap (hf.cells hc id) h
  simp only [List.length_cons]
  rw [hm] at hcap hn ⊢
  have pc : ((m + 1 : Nat) : Int) ≤ (c : Int) := by omega
  have pc1 : (1 : Int) ≤ ((m + 1 : Nat) : Int) := by omega
  have HLR : Hid (∀ u ∈ rest, u.length ≤ 100000) := fun u hu => hl u (List.mem_cons_of_mem _ hu)
  have HL1 : Hid (first.length ≤ 100000) := hl first (by simp)
  obtain ⟨RR, hRR⟩ : ∃ RR, lineW (first :: rest) = RR := ⟨_, rfl⟩
  rw [hRR]
  have HRR := Lib.hid hRR
  clear hc hl hm hRR
  go_enter Tryz.func40, Tryz.ntmps40
  go_upto_region 1 with fail
  go_quiet (fail)
  obtain ⟨ra, hra⟩ : ∃ ra, (if c = 1 then some (⟨g, o, none⟩ : Addr) else some ⟨g, o + 1, none⟩) = ra := ⟨_, rfl⟩
  rw [hra] at HRS ⊢
  obtain ⟨rc, hrc⟩ : ∃ rc, c - 1 = rc := ⟨_, rfl⟩
  rw [hrc] at HRS ⊢
  have HF0 : Hid (Fr No w (w.drewN nq)) := (Fr.refl _ _).drewN _
  generalize w.drewN nq = W0 at *
  have HRAW : Hid (∀ W, Fr No w W → Calls Tryz.prog 74 #[.slice ra m rc] W (LineTo w (rawD rest))) := fun W hf => (raw_any _ rest W (HRS.out W hf) HLR.out (by rw [HMM.out]; exact hn)).mono fun e w' h => h.since hf
  have HFD : Hid (∀ (i : Ins) (ks : List Kd) W, Fr No w W → i.op + 8 * eCount ks < 256 → Calls Tryz.prog 77 #[i.agg, .string (bA (kdB ks)), .slice ra m rc] W (FieldsTo W (fieldsI i ks rest))) := fun i ks W hf h8 => fields_any i ks rest _ W (HRS.out W hf) h8 HLR.out (by rw [HMM.out]; exact hn)
  clear hra hrc k0 pc pc1 hcap
  rw [HMM.out] at h2
  have q1 : ((bA first).toList == ([114, 97, 119] : List UInt8)) = false := by rw [bA_beq]; simpa using h1
  obtain ⟨h2, rfl⟩ := h2
  obtain ⟨a, b, rfl⟩ : ∃ a b, rest = [a, b] := by
    match rest, HMM.out with
    | [a, b], _ => exact ⟨a, b, rfl⟩
  obtain ⟨g2, o2, hra2, HCC⟩ : ∃ g2 o2, ra = some (⟨g2, o2, none⟩ : Addr) ∧ Hid (∀ W, Fr No w W → W.cell? ⟨g2, o2, none⟩ = some (.string (bA a)) ∧ W.cell? ⟨g2, o2 + 1, none⟩ = some (.string (bA b))) := by
    rcases HRS.out w (Fr.refl _ _) with ⟨h, _⟩ | ⟨g2, o2, cap, e, _, _, _⟩
    · cases h
    · cases e
      refine ⟨g2, o2, rfl, fun W hf => ?_⟩
      rcases HRS.out W hf with ⟨h, _⟩ | ⟨g3, o3, cap3, e3, _, _, hc3⟩
      · cases h
      · cases e3
        exact ⟨by have := hc3 0 (.string (bA a)) rfl; rwa [Nat.add_zero] at this, hc3 1 (.string (bA b)) rfl⟩
  subst hra2 h2
  rw [line_ldimm] at HRR
  have q2 : ((bA [108, 100, 105, 109, 109]).toList == ([108, 100, 105, 109, 109] : List UInt8)) = true := bA_beq _ _
  have hla := HLR.out a (by simp)
  have hlb := HLR.out b (by simp)
  have HRA : Hid (∀ W, Calls Tryz.prog 75 #[.string (bA a)] W fun e w' => e = .returned (.tuple #[.int .u8 (regR a).1, .bool (regR a).2]) ∧ Fr No W w') := fun W => register_any a W
  have HPB : Hid (∀ W, Calls Tryz.prog 76 #[.string (bA b), .int .i64 0, .int .u64 18446744073709551615] W fun e w' => e = .returned (.tuple #[.int .u64 (parseR b 0 18446744073709551615).1, .bool (parseR b 0 18446744073709551615).2]) ∧ W = w') := fun W => refparse_any b hlb 0 18446744073709551615 0 18446744073709551615 (by decide) (by decide) rfl rfl W
  have HD : Hid (ldimmD [a, b] = (if (regR a).2 = true then some (regR a).1 else none).bind fun r => (if (parseR b 0 18446744073709551615).2 = true then some (parseR b 0 18446744073709551615).1 else none).map fun n => [⟨24, r, 0, 0, s32 (n.toNat % 4294967296)⟩, ⟨0, 0, 0, 0, s32 (n.toNat / 4294967296)⟩]) := by
    show (regW a).bind _ = _
    rw [parse_u64]
    have : regW a = if (regR a).2 = true then some (regR a).1 else none := by
      unfold regR
      cases regW a <;> rfl
    rw [this]
  obtain ⟨n, hnz⟩ := parse_u64n b
  obtain ⟨⟨r, tr⟩, hr⟩ : ∃ p, regR a = p := ⟨_, rfl⟩
  obtain ⟨⟨z, tz⟩, hz⟩ : ∃ p, parseR b 0 18446744073709551615 = p := ⟨_, rfl⟩
  rw [hr] at HRA HD
  rw [hz] at HPB HD hnz
  dsimp only at HRA HPB hnz
  have HNZ := Lib.hid hnz
  obtain ⟨k0, k1⟩ := HCC.out W0 HF0.out
  clear hr hz hnz hla hlb h1
  generalize bA [108, 100, 105, 109, 109] = BF at *
  cases tr with
  | false =>
    have HE : Hid (RR = none) := HRR.out.symm.trans HD.out
    go_wp2_with (first
      | (go_at_call 75; (with_reducible refine (HRA.out _).mono ?_); rintro e w1 ⟨rfl, hf1⟩; have HF1 := Lib.hid (HF0.out.trans hf1); obtain ⟨k0, k1⟩ := HCC.out _ HF1.out; clear hf1)
      | (go_at_call 76; (with_reducible refine (HPB.out _).mono ?_); rintro e w2 ⟨rfl, rfl⟩))
    go_ret2
    exact LineTo.no (l := [⟨24, r, 0, 0, wrap32 (z.tmod 4294967296 % 4294967296)⟩, ⟨0, 0, 0, 0, wrap32 (IntKind.u64.wrap (z.tdiv 4294967296) % 4294967296)⟩]) HE.out rfl (InsAt.src (.inr ⟨_, 0, 2, rfl, CellsAt.new _ (iflat [⟨24, r, 0, 0, wrap32 (z.tmod 4294967296 % 4294967296)⟩, ⟨0, 0, 0, 0, wrap32 (IntKind.u64.wrap (z.tdiv 4294967296) % 4294967296)⟩]) _⟩) (by simp)) (by simp) (HF1.out.alloc _)
  | true =>
    cases tz with
    | false =>
      have HE : Hid (RR = none) := HRR.out.symm.trans HD.out
      go_wp2_with (first
        | (go_at_call 75; (with_reducible refine (HRA.out _).mono ?_); rintro e w1 ⟨rfl, hf1⟩; have HF1 := Lib.hid (HF0.out.trans hf1); obtain ⟨k0, k1⟩ := HCC.out _ HF1.out; clear hf1)
        | (go_at_call 76; (with_reducible refine (HPB.out _).mono ?_); rintro e w2 ⟨rfl, rfl⟩))
      go_ret2
      exact LineTo.no (l := [⟨24, r, 0, 0, wrap32 (z.tmod 4294967296 % 4294967296)⟩, ⟨0, 0, 0, 0, wrap32 (IntKind.u64.wrap (z.tdiv 4294967296) % 4294967296)⟩]) HE.out rfl (InsAt.src (.inr ⟨_, 0, 2, rfl, CellsAt.new _ (iflat [⟨24, r, 0, 0, wrap32 (z.tmod 4294967296 % 4294967296)⟩, ⟨0, 0, 0, 0, wrap32 (IntKind.u64.wrap (z.tdiv 4294967296) % 4294967296)⟩]) _⟩) (by simp)) (by simp) (HF1.out.alloc _)
    | true =>
      obtain ⟨hn64, hzn⟩ : n ≤ 18446744073709551615 ∧ z = n := by rcases HNZ.out with h | h; exact h; cases h
      have HE : Hid (RR = some [⟨24, r, 0, 0, wrap32 (z.tmod 4294967296 % 4294967296)⟩, ⟨0, 0, 0, 0, wrap32 (IntKind.u64.wrap (z.tdiv 4294967296) % 4294967296)⟩]) := by
        rw [← HRR.out, HD.out]
        show some [(⟨24, r, 0, 0, s32 (z.toNat % 4294967296)⟩ : Ins), ⟨0, 0, 0, 0, s32 (z.toNat / 4294967296)⟩] = _
        rw [hzn, s32_low n, s32_high n hn64]
      clear hn64 hzn
      go_wp2_with (first
        | (go_at_call 75; (with_reducible refine (HRA.out _).mono ?_); rintro e w1 ⟨rfl, hf1⟩; have HF1 := Lib.hid (HF0.out.trans hf1); obtain ⟨k0, k1⟩ := HCC.out _ HF1.out; clear hf1)
        | (go_at_call 76; (with_reducible refine (HPB.out _).mono ?_); rintro e w2 ⟨rfl, rfl⟩))
      go_ret2
      exact LineTo.yes (l := [⟨24, r, 0, 0, wrap32 (z.tmod 4294967296 % 4294967296)⟩, ⟨0, 0, 0, 0, wrap32 (IntKind.u64.wrap (z.tdiv 4294967296) % 4294967296)⟩]) HE.out rfl (InsAt.src (.inr ⟨_, 0, 2, rfl, CellsAt.new _ (iflat [⟨24, r, 0, 0, wrap32 (z.tmod 4294967296 % 4294967296)⟩, ⟨0, 0, 0, 0, wrap32 (IntKind.u64.wrap (z.tdiv 4294967296) % 4294967296)⟩]) _⟩) (by simp)) (HF1.out.alloc _)
set_option maxRecDepth 100000 in
set_option maxHeartbeats 40000000 in
theorem refline_ldmap (first : List UInt8) (rest : List (List UInt8)) (v : Value) (w : World) (hv : StrsAt w v (first :: rest)) (hl : ∀ u ∈ first :: rest, u.length ≤ 100000) (hn : rest.length ≤ 100000) (h1 : ¬ first = [114, 97, 119]) (h2 : ¬ (first = [108, 100, 105, 109, 109] ∧ rest.length = 2)) (h3 : first = [108, 100, 109, 97, 112]) : Calls Tryz.prog 40 #[v] w (LineTo w (lineW (first :: rest))) := by
  rcases hv with ⟨h, _⟩ | ⟨g, o, c, rfl, hg, hcap, hc⟩
  · cases h
  simp only [List.length_cons] at hcap
  have k0 : w.cell? ⟨g, o, none⟩ = some (.string (bA first)) := by have := hc 0 (.string (bA first)) rfl; rwa [Nat.add_zero] at this
  obtain ⟨m, hm⟩ : ∃ m, rest.length = m := ⟨_, rfl⟩
  have HMM := Lib.hid hm
  have HRS : Hid (∀ W, Fr No w W → StrsAt W (.slice (if c = 1 then some ⟨g, o, none⟩ else some ⟨g, o + 1, none⟩) m (c - 1)) rest) := fun W hf => by
    by_cases h : c = 1
    · rw [if_pos h]
      have : rest = [] := List.eq_nil_of_length_eq_zero (by omega)
      exact .inl ⟨this, some ⟨g, o, none⟩, c - 1, by rw [← hm, this]; rfl⟩
    · rw [if_neg h, ← hm]
      exact strsAt_tail (Nat.lt_of_lt_of_le hg hf.size) hcap (hf.cells hc id) h
  simp only [List.length_cons]
  rw [hm] at hcap hn ⊢
  have pc : ((m + 1 : Nat) : Int) ≤ (c : Int) := by omega
  have pc1 : (1 : Int) ≤ ((m + 1 : Nat) : Int) := by omega
  have HLR : Hid (∀ u ∈ rest, u.length ≤ 100000) := fun u hu => hl u (List.mem_cons_of_mem _ hu)
  have HL1 : Hid (first.length ≤ 100000) := hl first (by simp)
  obtain ⟨RR, hRR⟩ : ∃ RR, lineW (first :: rest) = RR := ⟨_, rfl⟩
  rw [hRR]
  have HRR := Lib.hid hRR
  clear hc hl hm hRR
  go_enter Tryz.func40, Tryz.ntmps40
  go_upto_region 1 with fail
  go_quiet (fail)
  obtain ⟨ra, hra⟩ : ∃ ra, (if c = 1 then some (⟨g, o, none⟩ : Addr) else some ⟨g, o + 1, none⟩) = ra := ⟨_, rfl⟩
  rw [hra] at HRS ⊢
  obtain ⟨rc, hrc⟩ : ∃ rc, c - 1 = rc := ⟨_, rfl⟩
  rw [hrc] at HRS ⊢
  have HF0 : Hid (Fr No w (w.drewN nq)) := (Fr.refl _ _).drewN _
  generalize w.drewN nq = W0 at *
  have HRAW : Hid (∀ W, Fr No w W → Calls Tryz.prog 74 #[.slice ra m rc] W (LineTo w (rawD rest))) := fun W hf => (raw_any _ rest W (HRS.out W hf) HLR.out (by rw [HMM.out]; exact hn)).mono fun e w' h => h.since hf
  have HFD : Hid (∀ (i : Ins) (ks : List Kd) W, Fr No w W → i.op + 8 * eCount ks < 256 → Calls Tryz.prog 77 #[i.agg, .string (bA (kdB ks)), .slice ra m rc] W (FieldsTo W (fieldsI i ks rest))) := fun i ks W hf h8 => fields_any i ks rest _ W (HRS.out W hf) h8 HLR.out (by rw [HMM.out]; exact hn)
  clear hra hrc k0 pc pc1 hcap
  rw [HMM.out] at h2
  have q1 : ((bA first).toList == ([114, 97, 119] : List UInt8)) = false := by rw [bA_beq]; simpa using h1
  subst h3
  rw [line_ldmap] at HRR
  have q2 : ((bA [108, 100, 109, 97, 112]).toList == ([108, 100, 105, 109, 109] : List UInt8)) = false := bA_beq _ _
  have q3 : ((bA [108, 100, 109, 97, 112]).toList == ([108, 100, 109, 97, 112] : List UInt8)) = true := bA_beq _ _
  have HFM : Hid (Calls Tryz.prog 77 #[.agg #[.int .u8 24, .int .u8 0, .int .u8 1, .int .i16 0, .int .i32 0], .string ⟨#[100, 118]⟩, .slice ra m rc] W0 (FieldsTo W0 (fieldsI ⟨24, 0, 1, 0, 0⟩ [.d, .v] rest))) := HFD.out ⟨24, 0, 1, 0, 0⟩ [.d, .v] W0 HF0.out (by decide)
  obtain ⟨i0, hi0, hz0, hz1, hz2⟩ := info_parts Tryz.infoL_ins
  clear h1 h2
  generalize bA [108, 100, 109, 97, 112] = BF at *
  cases hf : fieldsI ⟨24, 0, 1, 0, 0⟩ [.d, .v] rest with
  | none =>
    rw [hf] at HFM
    have HFI := Lib.hid hf
    clear hf
    go_wp2_with (first
      | (go_at_call 77; (with_reducible refine HFM.out.mono ?_); rintro e w1 ⟨rfl, hf1⟩; have HF1 := Lib.hid hf1; clear hf1)
      | (at_builtin; refine wpList_append_src rfl _ _ 22 rfl W0.heap.size 51 i0 _ 5 12 Tryz.underlying22 hi0 hz0 hz1 hz2 rfl (by decide) (.slice none 0 0) 0 [] rfl (Gath.start' (HF1.out.alloc _) _ _).own _ 1 [.int .u8 0, .int .u8 0, .int .u8 0, .int .i16 0, .int .i32 0] rfl (src_new _ [.int .u8 0, .int .u8 0, .int .u8 0, .int .i16 0, .int .i32 0] 51) rfl (by simp [Value.oneCell']) (by unfold maxLen; omega) (by omega) (HF1.out.alloc _).size ?_; intro v' w2 own2 fr2; have HG2 := Lib.hid ((Gath.start' (HF1.out.alloc _) 51 5).step (by simpa using own2) fr2); clear own2 fr2))
    go_ret2
    obtain ⟨v3, c3, rfl⟩ := ownL_form HG2.out.own
    exact LineTo.no (l := [⟨0, 0, 0, 0, 0⟩]) (by rw [← HRR.out, HFI.out]; rfl) rfl ((Gath.ins (w := W0) (t := 51) (l := [⟨0, 0, 0, 0, 0⟩]) HG2.out).src (by simp)) (by simp) (HF0.out.trans HG2.out.fr)
  | some j =>
    rw [hf] at HFM
    have HFI := Lib.hid hf
    clear hf
    go_wp2_with (first
      | (go_at_call 77; (with_reducible refine HFM.out.mono ?_); rintro e w1 ⟨v1, rfl, own1, hf1⟩; have HG1 : Hid (Gath W0 51 5 1 (iflat [j]) v1 w1) := ⟨hf1, own1⟩; obtain ⟨va, vc, rfl⟩ := ownL_form own1; clear hf1 own1)
      | (at_builtin; refine wpList_append_src rfl _ _ 22 rfl W0.heap.size 51 i0 _ 5 12 Tryz.underlying22 hi0 hz0 hz1 hz2 rfl (by decide) (.slice va 1 vc) 1 (iflat [j]) rfl (HG1.out.to ((Fr.refl _ _).alloc _)).own _ 1 [.int .u8 0, .int .u8 0, .int .u8 0, .int .i16 0, .int .i32 0] rfl (src_new _ [.int .u8 0, .int .u8 0, .int .u8 0, .int .i16 0, .int .i32 0] 51) rfl (by simp [Value.oneCell']) (by unfold maxLen; omega) (by omega) (HG1.out.to ((Fr.refl _ _).alloc _)).fr.size ?_; intro v' w2 own2 fr2; have HG2 := Lib.hid ((HG1.out.to ((Fr.refl _ _).alloc _)).step own2 fr2); clear own2 fr2))
    go_ret2
    exact LineTo.yes (l := [j, ⟨0, 0, 0, 0, 0⟩]) (by rw [← HRR.out, HFI.out]; rfl) rfl ((Gath.ins (w := W0) (t := 51) (l := [j, ⟨0, 0, 0, 0, 0⟩]) HG2.out).src (by simp)) (HF0.out.trans HG2.out.fr)

end Go.Proofs.YthkdokkpiaaljaaGreatDoor
