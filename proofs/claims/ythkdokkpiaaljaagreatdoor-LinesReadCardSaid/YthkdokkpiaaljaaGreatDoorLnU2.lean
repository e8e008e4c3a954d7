/- firewallref03.line's loop, walked. -/
import Derived.Test.YthkdokkpiaaljaaGreatDoorLnU4
set_option linter.all false
set_option linter.unusedVariables false
set_option linter.unusedSimpArgs false
namespace Go.Proofs.YthkdokkpiaaljaaGreatDoor
open Go.RowKit

set_option maxRecDepth 100000 in
set_option maxHeartbeats 40000000 in
theorem refline_loop (first : List UInt8) (rest : List (List UInt8)) (v : Value) (w : World) (hv : StrsAt w v (first :: rest)) (hl : ∀ u ∈ first :: rest, u.length ≤ 100000) (hn : rest.length ≤ 100000) (h1 : ¬ first = [114, 97, 119]) (h2 : ¬ (first = [108, 100, 105, 109, 109] ∧ rest.length = 2)) (h3 : ¬ first = [108, 100, 109, 97, 112]) : Calls Tryz.prog 40 #[v] w (LineTo w (lineW (first :: rest))) := by
  rcases hv with ⟨h, _⟩ | ⟨g, o, c, rfl, hg, hcap, hc⟩
  · cases h
  simp only [List.length_cons] at hcap
  have k0 : w.cell? ⟨g, o, none⟩ = some (.string (bA first)) := by have := hc 0 (.string (bA first)) rfl; rwa [Nat.add_zero] at this
  obtain ⟨m, hm⟩ : ∃ m, rest.length = m := ⟨_, rfl⟩
  have HMM := Lib.hid hm
  have HRS : Hid (∀ W, Fr No w W → StrsAt W (.slice (if c = 1 then some ⟨g, o, none⟩ else some ⟨g, o + 1, none⟩) m (c - 1)) rest) := fun W hf => by
    by_cases h : c = 1
    · rw [if_pos h]
      have : rest = [] := List.eq_nil_of_length_eq_zero (by omega)
      exact .inl ⟨this, some ⟨g, o, none⟩, c - 1, by rw [← hm, this]; rfl⟩
    · rw [if_neg h, ← hm]
      exact strsAt_tail (Nat.lt_of_lt_of_le hg hf.size) hcap (hf.cells hc id) h
  simp only [List.length_cons]
  rw [hm] at hcap hn ⊢
  have pc : ((m + 1 : Nat) : Int) ≤ (c : Int) := by omega
  have pc1 : (1 : Int) ≤ ((m + 1 : Nat) : Int) := by omega
  have HLR : Hid (∀ u ∈ rest, u.length ≤ 100000) := fun u hu => hl u (List.mem_cons_of_mem _ hu)
  have HL1 : Hid (first.length ≤ 100000) := hl first (by simp)
  obtain ⟨RR, hRR⟩ : ∃ RR, lineW (first :: rest) = RR := ⟨_, rfl⟩
  rw [hRR]
  have HRR := Lib.hid hRR
  clear hc hl hm hRR
  go_enter Tryz.func40, Tryz.ntmps40
  go_upto_region 1 with fail
  go_quiet (fail)
  obtain ⟨ra, hra⟩ : ∃ ra, (if c = 1 then some (⟨g, o, none⟩ : Addr) else some ⟨g, o + 1, none⟩) = ra := ⟨_, rfl⟩
  rw [hra] at HRS ⊢
  obtain ⟨rc, hrc⟩ : ∃ rc, c - 1 = rc := ⟨_, rfl⟩
  rw [hrc] at HRS ⊢
  have HF0 : Hid (Fr No w (w.drewN nq)) := (Fr.refl _ _).drewN _
  generalize w.drewN nq = W0 at *
  have HRAW : Hid (∀ W, Fr No w W → Calls Tryz.prog 74 #[.slice ra m rc] W (LineTo w (rawD rest))) := fun W hf => (raw_any _ rest W (HRS.out W hf) HLR.out (by rw [HMM.out]; exact hn)).mono fun e w' h => h.since hf
  have HFD : Hid (∀ (i : Ins) (ks : List Kd) W, Fr No w W → i.op + 8 * eCount ks < 256 → Calls Tryz.prog 77 #[i.agg, .string (bA (kdB ks)), .slice ra m rc] W (FieldsTo W (fieldsI i ks rest))) := fun i ks W hf h8 => fields_any i ks rest _ W (HRS.out W hf) h8 HLR.out (by rw [HMM.out]; exact hn)
  clear hra hrc k0 pc pc1 hcap
  rw [HMM.out] at h2
  have q1 : ((bA first).toList == ([114, 97, 119] : List UInt8)) = false := by rw [bA_beq]; simpa using h1
  have q3 : ((bA first).toList == ([108, 100, 109, 97, 112] : List UInt8)) = false := by rw [bA_beq]; simpa using h3
  have HEND : Hid (NoHit first 256 → RR = none) := fun h => HRR.out.symm.trans <| line_miss h1 (fun e hr => h2 ⟨e, by rw [← HMM.out, hr]⟩) h3 h
  go_upto_region 4 with fail
  go_cut [34] from 28 to 33 (fun s wx => s = .bool false ∧ W0 = wx)
  case first =>
    by_cases e2 : first = [108, 100, 105, 109, 109]
    · have q2 : ((bA first).toList == ([108, 100, 105, 109, 109] : List UInt8)) = true := by rw [bA_beq]; simpa using e2
      have qm : ((m : Int) == 2) = false := by rw [beq_eq_false_iff_ne]; intro h; exact h2 ⟨e2, by omega⟩
      clear e2
      go_wp2_with fail
      go_meet
      exact ⟨rfl, rfl⟩
    · have q2 : ((bA first).toList == ([108, 100, 105, 109, 109] : List UInt8)) = false := by rw [bA_beq]; simpa using e2
      go_wp2_with fail
      go_meet
      exact ⟨rfl, rfl⟩
  case rest =>
    obtain ⟨rfl, rfl⟩ := hcut
    go_wp2_with fail
    go_loopw [12, 13, 14, 15, 16] (fun s12 s13 s14 s15 s16 wr => ∃ n : Nat, n ≤ 256 ∧ s12 = .int .i64 n ∧ Hid (NoHit first n) ∧ Hid (Fr No w wr)) (fun s12 _ _ _ _ _ => 256 - (intOf s12).toNat)
    case atStart => exact ⟨0, by omega, rfl, Lib.hid (fun k hk => absurd hk (Nat.not_lt_zero _)), HF0.out⟩
    case round =>
      obtain ⟨n, hn256, rfl, HJ, HF⟩ := hrel
      by_cases hlt : n < 256
      · have HLT := Lib.hid hlt
        have f8 : IntKind.u8.wrap (n : Int) = n := IntWalk.u8_in _ (by omega)
        have p256 : (n : Int) < 256 := by omega
        go_upto_region 16 with fail
        obtain ⟨W1, hW1⟩ : ∃ W1, W1 = wr.alloc (.cells #[.int .u8 n, .int .u8 0, .int .u8 0, .int .i16 0, .int .i32 0] 51) := ⟨_, rfl⟩
        have HF1 : Hid (Fr No w W1) := by rw [hW1]; exact HF.out.alloc _
        have HB1 : Hid (Bx W1 wr.heap.size n 0 0 0 0) := by rw [hW1]; exact bx_new wr _ _ _ _ _ _
        rw [← hW1]
        generalize wr.heap.size = b at *
        clear hW1
        have HSZ : Hid (∀ W, Calls Tryz.prog 65 #[.int .u8 n] W fun e w' => e = .returned (.int .i64 (sizeN n)) ∧ Fr No W w') := fun W => refsize_any n W
        have HNU : Hid (∀ W, Calls Tryz.prog 32 #[.int .i64 (sizeN n)] W fun e w' => e = .returned (.string (bA (decN (sizeN n)))) ∧ Fr No W w') := fun W => by
          have h9 := size_le n
          have := refnumber_any (sizeN n) (by omega) (by omega) W
          have e : itoaN ((sizeN n : Nat) : Int) = decN (sizeN n) := by unfold itoaN; rw [if_neg (by omega)]; simp
          rw [e] at this
          exact this
        go_upto_region 17 with (first
          | (go_at_call 65; (with_reducible refine (HSZ.out _).mono ?_); rintro e w2 ⟨rfl, hf2⟩; have HF2 := Lib.hid (HF1.out.trans hf2); have HB2 := Lib.hid (HB1.out.fr hf2); clear hf2)
          | (go_at_call 32; (with_reducible refine (HNU.out _).mono ?_); rintro e w3 ⟨rfl, hf3⟩; have HF3 := Lib.hid (HF2.out.trans hf3); have HB3 := Lib.hid (HB2.out.fr hf3); clear hf3))
        obtain ⟨c0, c1, c2, c3, c4, _, _, _, _, _⟩ := HB3.out
        have sZ : (bA (decN (sizeN n))).size ≤ 1000 := by rw [bA_size]; have := dec_len20 (n := sizeN n) (by have := size_le n; omega); omega
        have HLd : Hid (∀ W, Calls Tryz.prog 58 #[.int .u8 n] W fun e w' => e = .returned (.bool (loadB n)) ∧ W = w') := fun W => load_any n hlt W
        have HSt : Hid (∀ W, Calls Tryz.prog 61 #[.int .u8 n] W fun e w' => e = .returned (.bool (storeB n)) ∧ W = w') := fun W => store_any n hlt W
        have HSr : Hid (∀ W, Calls Tryz.prog 62 #[.int .u8 n] W fun e w' => e = .returned (.bool (storeRB n)) ∧ W = w') := fun W => storer_any n hlt W
        have HRg : Hid (∀ W, Calls Tryz.prog 63 #[.int .u8 n] W fun e w' => e = .returned (.bool (regB n)) ∧ W = w') := fun W => regb_any n hlt W
        have HAr : Hid (∀ W, Calls Tryz.prog 57 #[.int .u8 n] W fun e w' => e = .returned (.bool (arithB n)) ∧ W = w') := fun W => arith_any n hlt W
        have HJu : Hid (∀ W, Calls Tryz.prog 59 #[.int .u8 n] W fun e w' => e = .returned (.bool (jumpB n)) ∧ W = w') := fun W => jump_any n hlt W
        have HNm : Hid (∀ W, Calls Tryz.prog 66 #[.int .u8 n] W fun e w' => e = .returned (.string (bA (nameN n))) ∧ W = w') := fun W => refname_any n hlt W
        have HCo : Hid (∀ W, Calls Tryz.prog 64 #[.int .u8 n] W fun e w' => e = .returned (.int .i64 (codeN n)) ∧ W = w') := fun W => code_any n hlt W
        have x194 : ((n : Int) == 194) = (n == 194) := beq_nat n 194
        have x149 : ((n : Int) == 149) = (n == 149) := beq_nat n 149
        have x133 : ((n : Int) == 133) = (n == 133) := beq_nat n 133
        have x5 : ((n : Int) == 5) = (n == 5) := beq_nat n 5
        have HC := of_decide_eq_true (cls n hlt)
        clear hlt hn256 f8
        rcases HC with ⟨hc, hg, ha, hj⟩ | ⟨hc, hg, ha, hj, hm⟩ | ⟨hc, hg, ha, hj, hm⟩ | ⟨hc, hg, ha, hj, hm⟩ | ⟨hc, ha, hj⟩ | ⟨hc, ha, hj⟩ | ⟨hc, ha, hj⟩ | ⟨hc, hg⟩ | ⟨hc, hg, ha, hj⟩ | ⟨hc, hg, ha, hm⟩ | ⟨hc, hg, ha, hj, hm⟩ | ⟨hc, hg, ha, hj, hm⟩ | ⟨hc, hg, ha, hj, hm⟩
        · obtain ⟨X, hX⟩ : ∃ X, ([110, 111, 115, 112, 101, 99] : List UInt8) = X := ⟨_, rfl⟩
          have HTB : Hid (table n = some (X, [])) := by rw [← hX]; exact tab_194 hc.1
          obtain ⟨y1, y2, y3, y4, y5, y6, y7⟩ := hc
          rw [y1] at x194
          rw [y2] at x149
          rw [y3] at x133
          rw [y4] at x5
          rw [y5] at HLd
          rw [y6] at HSt
          rw [y7] at HSr
          rw [hg] at HRg
          rw [ha] at HAr
          rw [hj] at HJu
          clear hg ha hj
          clear y1 y2 y3 y4 y5 y6 y7
          obtain ⟨fx, hfx⟩ : ∃ fx, (X == first) = fx := ⟨_, rfl⟩
          have HNXT : Hid (fx = false → NoHit first (n + 1)) := fun h => HJ.out.step (by rw [hit_some HTB.out, hfx, h])
          have qx : ((bA first).toList == ([110, 111, 115, 112, 101, 99] : List UInt8)) = fx := (bA_beqc first _).trans (by rw [hX]; exact hfx)
          clear hX
          cases fx with
          | true =>
            have HX : Hid (∀ W, Fr No w W → Calls Tryz.prog 77 #[.agg #[.int .u8 n, .int .u8 0, .int .u8 0, .int .i16 0, .int .i32 0], .string ⟨#[]⟩, .slice ra m rc] W (LineTo w RR)) := fun W hf => by
              rw [← HRR.out, line_hit h1 h3 HJ.out HLT.out HTB.out (by simpa using hfx)]
              exact (HFD.out ⟨n, 0, 0, 0, 0⟩ [] W hf (by have := HLT.out; simp [eCount]; omega)).mono fun e w' h => h.line hf
            clear hfx HNXT
            go_wp2_with (first
              | (go_at_call 58; (with_reducible refine (HLd.out _).mono ?_); rintro e w4 ⟨rfl, rfl⟩)
              | (go_at_call 61; (with_reducible refine (HSt.out _).mono ?_); rintro e w4 ⟨rfl, rfl⟩)
              | (go_at_call 62; (with_reducible refine (HSr.out _).mono ?_); rintro e w4 ⟨rfl, rfl⟩)
              | (go_at_call 63; (with_reducible refine (HRg.out _).mono ?_); rintro e w4 ⟨rfl, rfl⟩)
              | (go_at_call 57; (with_reducible refine (HAr.out _).mono ?_); rintro e w4 ⟨rfl, rfl⟩)
              | (go_at_call 59; (with_reducible refine (HJu.out _).mono ?_); rintro e w4 ⟨rfl, rfl⟩)
              | (go_at_call 66; (with_reducible refine (HNm.out _).mono ?_); rintro e w4 ⟨rfl, rfl⟩)
              | (go_at_call 64; (with_reducible refine (HCo.out _).mono ?_); rintro e w4 ⟨rfl, rfl⟩)
              | (go_at_call 77; (with_reducible refine (HX.out _ HF3.out).mono ?_); rintro e w5 hto; have HTO := Lib.hid hto; obtain ⟨v1, t1, rfl⟩ := hto.form; clear hto))
            go_ret2
            exact HTO.out
          | false =>
            have HNX := Lib.hid (HNXT.out rfl)
            clear hfx HNXT
            go_wp2_with (first
              | (go_at_call 58; (with_reducible refine (HLd.out _).mono ?_); rintro e w4 ⟨rfl, rfl⟩)
              | (go_at_call 61; (with_reducible refine (HSt.out _).mono ?_); rintro e w4 ⟨rfl, rfl⟩)
              | (go_at_call 62; (with_reducible refine (HSr.out _).mono ?_); rintro e w4 ⟨rfl, rfl⟩)
              | (go_at_call 63; (with_reducible refine (HRg.out _).mono ?_); rintro e w4 ⟨rfl, rfl⟩)
              | (go_at_call 57; (with_reducible refine (HAr.out _).mono ?_); rintro e w4 ⟨rfl, rfl⟩)
              | (go_at_call 59; (with_reducible refine (HJu.out _).mono ?_); rintro e w4 ⟨rfl, rfl⟩)
              | (go_at_call 66; (with_reducible refine (HNm.out _).mono ?_); rintro e w4 ⟨rfl, rfl⟩)
              | (go_at_call 64; (with_reducible refine (HCo.out _).mono ?_); rintro e w4 ⟨rfl, rfl⟩))
            all_goals go_roundw
            all_goals first
              | exact ⟨n + 1, HLT.out, by go_num, HNX.out, HF3.out⟩
              | (have := HLT.out; simp [intOf] <;> omega)
        · obtain ⟨X, hX⟩ : ∃ X, ([101, 120, 105, 116] : List UInt8) = X := ⟨_, rfl⟩
          have HTB : Hid (table n = some (X, [])) := by rw [← hX]; exact tab_149 hc.2.1
          obtain ⟨y1, y2, y3, y4, y5, y6, y7⟩ := hc
          rw [y1] at x194
          rw [y2] at x149
          rw [y3] at x133
          rw [y4] at x5
          rw [y5] at HLd
          rw [y6] at HSt
          rw [y7] at HSr
          rw [hg] at HRg
          rw [ha] at HAr
          rw [hj] at HJu
          rw [hm] at HNm
          have qn : (bA ([] : List UInt8)).toList.isEmpty = true := nil_emp
          have qn2 : ((bA ([] : List UInt8)).toList == ([] : List UInt8)) = true := bA_beq [] []
          clear hm
          clear hg ha hj
          clear y1 y2 y3 y4 y5 y6 y7
          obtain ⟨fx, hfx⟩ : ∃ fx, (X == first) = fx := ⟨_, rfl⟩
          have HNXT : Hid (fx = false → NoHit first (n + 1)) := fun h => HJ.out.step (by rw [hit_some HTB.out, hfx, h])
          have qx : ((bA first).toList == ([101, 120, 105, 116] : List UInt8)) = fx := (bA_beqc first _).trans (by rw [hX]; exact hfx)
          clear hX
          cases fx with
          | true =>
            have HX : Hid (∀ W, Fr No w W → Calls Tryz.prog 77 #[.agg #[.int .u8 n, .int .u8 0, .int .u8 0, .int .i16 0, .int .i32 0], .string ⟨#[]⟩, .slice ra m rc] W (LineTo w RR)) := fun W hf => by
              rw [← HRR.out, line_hit h1 h3 HJ.out HLT.out HTB.out (by simpa using hfx)]
              exact (HFD.out ⟨n, 0, 0, 0, 0⟩ [] W hf (by have := HLT.out; simp [eCount]; omega)).mono fun e w' h => h.line hf
            clear hfx HNXT
            go_wp2_with (first
              | (go_at_call 58; (with_reducible refine (HLd.out _).mono ?_); rintro e w4 ⟨rfl, rfl⟩)
              | (go_at_call 61; (with_reducible refine (HSt.out _).mono ?_); rintro e w4 ⟨rfl, rfl⟩)
              | (go_at_call 62; (with_reducible refine (HSr.out _).mono ?_); rintro e w4 ⟨rfl, rfl⟩)
              | (go_at_call 63; (with_reducible refine (HRg.out _).mono ?_); rintro e w4 ⟨rfl, rfl⟩)
              | (go_at_call 57; (with_reducible refine (HAr.out _).mono ?_); rintro e w4 ⟨rfl, rfl⟩)
              | (go_at_call 59; (with_reducible refine (HJu.out _).mono ?_); rintro e w4 ⟨rfl, rfl⟩)
              | (go_at_call 66; (with_reducible refine (HNm.out _).mono ?_); rintro e w4 ⟨rfl, rfl⟩)
              | (go_at_call 64; (with_reducible refine (HCo.out _).mono ?_); rintro e w4 ⟨rfl, rfl⟩)
              | (go_at_call 77; (with_reducible refine (HX.out _ HF3.out).mono ?_); rintro e w5 hto; have HTO := Lib.hid hto; obtain ⟨v1, t1, rfl⟩ := hto.form; clear hto))
            go_ret2
            exact HTO.out
          | false =>
            have HNX := Lib.hid (HNXT.out rfl)
            clear hfx HNXT
            go_wp2_with (first
              | (go_at_call 58; (with_reducible refine (HLd.out _).mono ?_); rintro e w4 ⟨rfl, rfl⟩)
              | (go_at_call 61; (with_reducible refine (HSt.out _).mono ?_); rintro e w4 ⟨rfl, rfl⟩)
              | (go_at_call 62; (with_reducible refine (HSr.out _).mono ?_); rintro e w4 ⟨rfl, rfl⟩)
              | (go_at_call 63; (with_reducible refine (HRg.out _).mono ?_); rintro e w4 ⟨rfl, rfl⟩)
              | (go_at_call 57; (with_reducible refine (HAr.out _).mono ?_); rintro e w4 ⟨rfl, rfl⟩)
              | (go_at_call 59; (with_reducible refine (HJu.out _).mono ?_); rintro e w4 ⟨rfl, rfl⟩)
              | (go_at_call 66; (with_reducible refine (HNm.out _).mono ?_); rintro e w4 ⟨rfl, rfl⟩)
              | (go_at_call 64; (with_reducible refine (HCo.out _).mono ?_); rintro e w4 ⟨rfl, rfl⟩))
            all_goals go_roundw
            all_goals first
              | exact ⟨n + 1, HLT.out, by go_num, HNX.out, HF3.out⟩
              | (have := HLT.out; simp [intOf] <;> omega)
        · obtain ⟨X, hX⟩ : ∃ X, ([99, 97, 108, 108] : List UInt8) = X := ⟨_, rfl⟩
          have HTB : Hid (table n = some (X, [.v])) := by rw [← hX]; exact tab_133 hc.2.2.1
          obtain ⟨y1, y2, y3, y4, y5, y6, y7⟩ := hc
          rw [y1] at x194
          rw [y2] at x149
          rw [y3] at x133
          rw [y4] at x5
          rw [y5] at HLd
          rw [y6] at HSt
          rw [y7] at HSr
          rw [hg] at HRg
          rw [ha] at HAr
          rw [hj] at HJu
          rw [hm] at HNm
          have qn : (bA ([] : List UInt8)).toList.isEmpty = true := nil_emp
          have qn2 : ((bA ([] : List UInt8)).toList == ([] : List UInt8)) = true := bA_beq [] []
          clear hm
          clear hg ha hj
          clear y1 y2 y3 y4 y5 y6 y7
          obtain ⟨fx, hfx⟩ : ∃ fx, (X == first) = fx := ⟨_, rfl⟩
          have HNXT : Hid (fx = false → NoHit first (n + 1)) := fun h => HJ.out.step (by rw [hit_some HTB.out, hfx, h])
          have qx : ((bA first).toList == ([99, 97, 108, 108] : List UInt8)) = fx := (bA_beqc first _).trans (by rw [hX]; exact hfx)
          clear hX
          go_upto_region 19 with (first
            | (go_at_call 58; (with_reducible refine (HLd.out _).mono ?_); rintro e w4 ⟨rfl, rfl⟩)
            | (go_at_call 61; (with_reducible refine (HSt.out _).mono ?_); rintro e w4 ⟨rfl, rfl⟩)
            | (go_at_call 62; (with_reducible refine (HSr.out _).mono ?_); rintro e w4 ⟨rfl, rfl⟩)
            | (go_at_call 63; (with_reducible refine (HRg.out _).mono ?_); rintro e w4 ⟨rfl, rfl⟩)
            | (go_at_call 57; (with_reducible refine (HAr.out _).mono ?_); rintro e w4 ⟨rfl, rfl⟩)
            | (go_at_call 59; (with_reducible refine (HJu.out _).mono ?_); rintro e w4 ⟨rfl, rfl⟩)
            | (go_at_call 66; (with_reducible refine (HNm.out _).mono ?_); rintro e w4 ⟨rfl, rfl⟩)
            | (go_at_call 64; (with_reducible refine (HCo.out _).mono ?_); rintro e w4 ⟨rfl, rfl⟩))
          cases fx with
          | true =>
            have HX : Hid (∀ W, Fr No w W → Calls Tryz.prog 77 #[.agg #[.int .u8 n, .int .u8 0, .int .u8 0, .int .i16 0, .int .i32 0], .string ⟨#[118]⟩, .slice ra m rc] W (LineTo w RR)) := fun W hf => by
              rw [← HRR.out, line_hit h1 h3 HJ.out HLT.out HTB.out (by simpa using hfx)]
              exact (HFD.out ⟨n, 0, 0, 0, 0⟩ [.v] W hf (by have := HLT.out; simp [eCount]; omega)).mono fun e w' h => h.line hf
            clear hfx HNXT
            go_wp2_with (first
              | (go_at_call 58; (with_reducible refine (HLd.out _).mono ?_); rintro e w4 ⟨rfl, rfl⟩)
              | (go_at_call 61; (with_reducible refine (HSt.out _).mono ?_); rintro e w4 ⟨rfl, rfl⟩)
              | (go_at_call 62; (with_reducible refine (HSr.out _).mono ?_); rintro e w4 ⟨rfl, rfl⟩)
              | (go_at_call 63; (with_reducible refine (HRg.out _).mono ?_); rintro e w4 ⟨rfl, rfl⟩)
              | (go_at_call 57; (with_reducible refine (HAr.out _).mono ?_); rintro e w4 ⟨rfl, rfl⟩)
              | (go_at_call 59; (with_reducible refine (HJu.out _).mono ?_); rintro e w4 ⟨rfl, rfl⟩)
              | (go_at_call 66; (with_reducible refine (HNm.out _).mono ?_); rintro e w4 ⟨rfl, rfl⟩)
              | (go_at_call 64; (with_reducible refine (HCo.out _).mono ?_); rintro e w4 ⟨rfl, rfl⟩)
              | (go_at_call 77; (with_reducible refine (HX.out _ HF3.out).mono ?_); rintro e w5 hto; have HTO := Lib.hid hto; obtain ⟨v1, t1, rfl⟩ := hto.form; clear hto))
            go_ret2
            exact HTO.out
          | false =>
            have HNX := Lib.hid (HNXT.out rfl)
            clear hfx HNXT
            go_wp2_with (first
              | (go_at_call 58; (with_reducible refine (HLd.out _).mono ?_); rintro e w4 ⟨rfl, rfl⟩)
              | (go_at_call 61; (with_reducible refine (HSt.out _).mono ?_); rintro e w4 ⟨rfl, rfl⟩)
              | (go_at_call 62; (with_reducible refine (HSr.out _).mono ?_); rintro e w4 ⟨rfl, rfl⟩)
              | (go_at_call 63; (with_reducible refine (HRg.out _).mono ?_); rintro e w4 ⟨rfl, rfl⟩)
              | (go_at_call 57; (with_reducible refine (HAr.out _).mono ?_); rintro e w4 ⟨rfl, rfl⟩)
              | (go_at_call 59; (with_reducible refine (HJu.out _).mono ?_); rintro e w4 ⟨rfl, rfl⟩)
              | (go_at_call 66; (with_reducible refine (HNm.out _).mono ?_); rintro e w4 ⟨rfl, rfl⟩)
              | (go_at_call 64; (with_reducible refine (HCo.out _).mono ?_); rintro e w4 ⟨rfl, rfl⟩))
            all_goals go_roundw
            all_goals first
              | exact ⟨n + 1, HLT.out, by go_num, HNX.out, HF3.out⟩
              | (have := HLT.out; simp [intOf] <;> omega)
        · obtain ⟨X, hX⟩ : ∃ X, ([106, 97] : List UInt8) = X := ⟨_, rfl⟩
          have HTB : Hid (table n = some (X, [.o])) := by rw [← hX]; exact tab_5 hc.2.2.2.1
          obtain ⟨y1, y2, y3, y4, y5, y6, y7⟩ := hc
          rw [y1] at x194
          rw [y2] at x149
          rw [y3] at x133
          rw [y4] at x5
          rw [y5] at HLd
          rw [y6] at HSt
          rw [y7] at HSr
          rw [hg] at HRg
          rw [ha] at HAr
          rw [hj] at HJu
          rw [hm] at HNm
          have qn : (bA ([] : List UInt8)).toList.isEmpty = true := nil_emp
          have qn2 : ((bA ([] : List UInt8)).toList == ([] : List UInt8)) = true := bA_beq [] []
          clear hm
          clear hg ha hj
          clear y1 y2 y3 y4 y5 y6 y7
          obtain ⟨fx, hfx⟩ : ∃ fx, (X == first) = fx := ⟨_, rfl⟩
          have HNXT : Hid (fx = false → NoHit first (n + 1)) := fun h => HJ.out.step (by rw [hit_some HTB.out, hfx, h])
          have qx : ((bA first).toList == ([106, 97] : List UInt8)) = fx := (bA_beqc first _).trans (by rw [hX]; exact hfx)
          clear hX
          go_upto_region 21 with (first
            | (go_at_call 58; (with_reducible refine (HLd.out _).mono ?_); rintro e w4 ⟨rfl, rfl⟩)
            | (go_at_call 61; (with_reducible refine (HSt.out _).mono ?_); rintro e w4 ⟨rfl, rfl⟩)
            | (go_at_call 62; (with_reducible refine (HSr.out _).mono ?_); rintro e w4 ⟨rfl, rfl⟩)
            | (go_at_call 63; (with_reducible refine (HRg.out _).mono ?_); rintro e w4 ⟨rfl, rfl⟩)
            | (go_at_call 57; (with_reducible refine (HAr.out _).mono ?_); rintro e w4 ⟨rfl, rfl⟩)
            | (go_at_call 59; (with_reducible refine (HJu.out _).mono ?_); rintro e w4 ⟨rfl, rfl⟩)
            | (go_at_call 66; (with_reducible refine (HNm.out _).mono ?_); rintro e w4 ⟨rfl, rfl⟩)
            | (go_at_call 64; (with_reducible refine (HCo.out _).mono ?_); rintro e w4 ⟨rfl, rfl⟩))
          cases fx with
          | true =>
            have HX : Hid (∀ W, Fr No w W → Calls Tryz.prog 77 #[.agg #[.int .u8 n, .int .u8 0, .int .u8 0, .int .i16 0, .int .i32 0], .string ⟨#[111]⟩, .slice ra m rc] W (LineTo w RR)) := fun W hf => by
              rw [← HRR.out, line_hit h1 h3 HJ.out HLT.out HTB.out (by simpa using hfx)]
              exact (HFD.out ⟨n, 0, 0, 0, 0⟩ [.o] W hf (by have := HLT.out; simp [eCount]; omega)).mono fun e w' h => h.line hf
            clear hfx HNXT
            go_wp2_with (first
              | (go_at_call 58; (with_reducible refine (HLd.out _).mono ?_); rintro e w4 ⟨rfl, rfl⟩)
              | (go_at_call 61; (with_reducible refine (HSt.out _).mono ?_); rintro e w4 ⟨rfl, rfl⟩)
              | (go_at_call 62; (with_reducible refine (HSr.out _).mono ?_); rintro e w4 ⟨rfl, rfl⟩)
              | (go_at_call 63; (with_reducible refine (HRg.out _).mono ?_); rintro e w4 ⟨rfl, rfl⟩)
              | (go_at_call 57; (with_reducible refine (HAr.out _).mono ?_); rintro e w4 ⟨rfl, rfl⟩)
              | (go_at_call 59; (with_reducible refine (HJu.out _).mono ?_); rintro e w4 ⟨rfl, rfl⟩)
              | (go_at_call 66; (with_reducible refine (HNm.out _).mono ?_); rintro e w4 ⟨rfl, rfl⟩)
              | (go_at_call 64; (with_reducible refine (HCo.out _).mono ?_); rintro e w4 ⟨rfl, rfl⟩)
              | (go_at_call 77; (with_reducible refine (HX.out _ HF3.out).mono ?_); rintro e w5 hto; have HTO := Lib.hid hto; obtain ⟨v1, t1, rfl⟩ := hto.form; clear hto))
            go_ret2
            exact HTO.out
          | false =>
            have HNX := Lib.hid (HNXT.out rfl)
            clear hfx HNXT
            go_wp2_with (first
              | (go_at_call 58; (with_reducible refine (HLd.out _).mono ?_); rintro e w4 ⟨rfl, rfl⟩)
              | (go_at_call 61; (with_reducible refine (HSt.out _).mono ?_); rintro e w4 ⟨rfl, rfl⟩)
              | (go_at_call 62; (with_reducible refine (HSr.out _).mono ?_); rintro e w4 ⟨rfl, rfl⟩)
              | (go_at_call 63; (with_reducible refine (HRg.out _).mono ?_); rintro e w4 ⟨rfl, rfl⟩)
              | (go_at_call 57; (with_reducible refine (HAr.out _).mono ?_); rintro e w4 ⟨rfl, rfl⟩)
              | (go_at_call 59; (with_reducible refine (HJu.out _).mono ?_); rintro e w4 ⟨rfl, rfl⟩)
              | (go_at_call 66; (with_reducible refine (HNm.out _).mono ?_); rintro e w4 ⟨rfl, rfl⟩)
              | (go_at_call 64; (with_reducible refine (HCo.out _).mono ?_); rintro e w4 ⟨rfl, rfl⟩))
            all_goals go_roundw
            all_goals first
              | exact ⟨n + 1, HLT.out, by go_num, HNX.out, HF3.out⟩
              | (have := HLT.out; simp [intOf] <;> omega)
        · obtain ⟨X, hX⟩ : ∃ X, [108, 100, 120] ++ decN (sizeN n) = X := ⟨_, rfl⟩
          have HTB : Hid (table n = some (X, [.d, .s, .o])) := by rw [← hX]; exact tab_ld hc rfl
          have ad := addL [108, 100, 120] (decN (sizeN n)) (by simp) (by rw [bA_size] at sZ; omega)
          rw [hX, show bA [108, 100, 120] = ⟨#[108, 100, 120]⟩ from rfl] at ad
          clear hX
          obtain ⟨y1, y2, y3, y4, y5, y6, y7⟩ := hc
          rw [y1] at x194
          rw [y2] at x149
          rw [y3] at x133
          rw [y4] at x5
          rw [y5] at HLd
          rw [y6] at HSt
          rw [y7] at HSr
          rw [ha] at HAr
          rw [hj] at HJu
          clear ha hj
          clear y1 y2 y3 y4 y5 y6 y7
          obtain ⟨fx, hfx⟩ : ∃ fx, (X == first) = fx := ⟨_, rfl⟩
          have HNXT : Hid (fx = false → NoHit first (n + 1)) := fun h => HJ.out.step (by rw [hit_some HTB.out, hfx, h])
          have qx : ((bA first).toList == (bA X).toList) = fx := (strc first X).trans hfx
          go_upto_region 23 with (first
            | (go_at_call 58; (with_reducible refine (HLd.out _).mono ?_); rintro e w4 ⟨rfl, rfl⟩)
            | (go_at_call 61; (with_reducible refine (HSt.out _).mono ?_); rintro e w4 ⟨rfl, rfl⟩)
            | (go_at_call 62; (with_reducible refine (HSr.out _).mono ?_); rintro e w4 ⟨rfl, rfl⟩)
            | (go_at_call 63; (with_reducible refine (HRg.out _).mono ?_); rintro e w4 ⟨rfl, rfl⟩)
            | (go_at_call 57; (with_reducible refine (HAr.out _).mono ?_); rintro e w4 ⟨rfl, rfl⟩)
            | (go_at_call 59; (with_reducible refine (HJu.out _).mono ?_); rintro e w4 ⟨rfl, rfl⟩)
            | (go_at_call 66; (with_reducible refine (HNm.out _).mono ?_); rintro e w4 ⟨rfl, rfl⟩)
            | (go_at_call 64; (with_reducible refine (HCo.out _).mono ?_); rintro e w4 ⟨rfl, rfl⟩))
          cases fx with
          | true =>
            have HX : Hid (∀ W, Fr No w W → Calls Tryz.prog 77 #[.agg #[.int .u8 n, .int .u8 0, .int .u8 0, .int .i16 0, .int .i32 0], .string ⟨#[100, 115, 111]⟩, .slice ra m rc] W (LineTo w RR)) := fun W hf => by
              rw [← HRR.out, line_hit h1 h3 HJ.out HLT.out HTB.out (by simpa using hfx)]
              exact (HFD.out ⟨n, 0, 0, 0, 0⟩ [.d, .s, .o] W hf (by have := HLT.out; simp [eCount]; omega)).mono fun e w' h => h.line hf
            clear hfx HNXT
            go_wp2_with (first
              | (go_at_call 58; (with_reducible refine (HLd.out _).mono ?_); rintro e w4 ⟨rfl, rfl⟩)
              | (go_at_call 61; (with_reducible refine (HSt.out _).mono ?_); rintro e w4 ⟨rfl, rfl⟩)
              | (go_at_call 62; (with_reducible refine (HSr.out _).mono ?_); rintro e w4 ⟨rfl, rfl⟩)
              | (go_at_call 63; (with_reducible refine (HRg.out _).mono ?_); rintro e w4 ⟨rfl, rfl⟩)
              | (go_at_call 57; (with_reducible refine (HAr.out _).mono ?_); rintro e w4 ⟨rfl, rfl⟩)
              | (go_at_call 59; (with_reducible refine (HJu.out _).mono ?_); rintro e w4 ⟨rfl, rfl⟩)
              | (go_at_call 66; (with_reducible refine (HNm.out _).mono ?_); rintro e w4 ⟨rfl, rfl⟩)
              | (go_at_call 64; (with_reducible refine (HCo.out _).mono ?_); rintro e w4 ⟨rfl, rfl⟩)
              | (go_at_call 77; (with_reducible refine (HX.out _ HF3.out).mono ?_); rintro e w5 hto; have HTO := Lib.hid hto; obtain ⟨v1, t1, rfl⟩ := hto.form; clear hto))
            go_ret2
            exact HTO.out
          | false =>
            have HNX := Lib.hid (HNXT.out rfl)
            clear hfx HNXT
            go_wp2_with (first
              | (go_at_call 58; (with_reducible refine (HLd.out _).mono ?_); rintro e w4 ⟨rfl, rfl⟩)
              | (go_at_call 61; (with_reducible refine (HSt.out _).mono ?_); rintro e w4 ⟨rfl, rfl⟩)
              | (go_at_call 62; (with_reducible refine (HSr.out _).mono ?_); rintro e w4 ⟨rfl, rfl⟩)
              | (go_at_call 63; (with_reducible refine (HRg.out _).mono ?_); rintro e w4 ⟨rfl, rfl⟩)
              | (go_at_call 57; (with_reducible refine (HAr.out _).mono ?_); rintro e w4 ⟨rfl, rfl⟩)
              | (go_at_call 59; (with_reducible refine (HJu.out _).mono ?_); rintro e w4 ⟨rfl, rfl⟩)
              | (go_at_call 66; (with_reducible refine (HNm.out _).mono ?_); rintro e w4 ⟨rfl, rfl⟩)
              | (go_at_call 64; (with_reducible refine (HCo.out _).mono ?_); rintro e w4 ⟨rfl, rfl⟩))
            all_goals go_roundw
            all_goals first
              | exact ⟨n + 1, HLT.out, by go_num, HNX.out, HF3.out⟩
              | (have := HLT.out; simp [intOf] <;> omega)
        · obtain ⟨X, hX⟩ : ∃ X, [115, 116] ++ decN (sizeN n) = X := ⟨_, rfl⟩
          have HTB : Hid (table n = some (X, [.d, .o, .v])) := by rw [← hX]; exact tab_st hc
          have ad := addL [115, 116] (decN (sizeN n)) (by simp) (by rw [bA_size] at sZ; omega)
          rw [hX, show bA [115, 116] = ⟨#[115, 116]⟩ from rfl] at ad
          clear hX
          obtain ⟨y1, y2, y3, y4, y5, y6, y7⟩ := hc
          rw [y1] at x194
          rw [y2] at x149
          rw [y3] at x133
          rw [y4] at x5
          rw [y5] at HLd
          rw [y6] at HSt
          rw [y7] at HSr
          rw [ha] at HAr
          rw [hj] at HJu
          clear ha hj
          clear y1 y2 y3 y4 y5 y6 y7
          obtain ⟨fx, hfx⟩ : ∃ fx, (X == first) = fx := ⟨_, rfl⟩
          have HNXT : Hid (fx = false → NoHit first (n + 1)) := fun h => HJ.out.step (by rw [hit_some HTB.out, hfx, h])
          have qx : ((bA first).toList == (bA X).toList) = fx := (strc first X).trans hfx
          go_upto_region 25 with (first
            | (go_at_call 58; (with_reducible refine (HLd.out _).mono ?_); rintro e w4 ⟨rfl, rfl⟩)
            | (go_at_call 61; (with_reducible refine (HSt.out _).mono ?_); rintro e w4 ⟨rfl, rfl⟩)
            | (go_at_call 62; (with_reducible refine (HSr.out _).mono ?_); rintro e w4 ⟨rfl, rfl⟩)
            | (go_at_call 63; (with_reducible refine (HRg.out _).mono ?_); rintro e w4 ⟨rfl, rfl⟩)
            | (go_at_call 57; (with_reducible refine (HAr.out _).mono ?_); rintro e w4 ⟨rfl, rfl⟩)
            | (go_at_call 59; (with_reducible refine (HJu.out _).mono ?_); rintro e w4 ⟨rfl, rfl⟩)
            | (go_at_call 66; (with_reducible refine (HNm.out _).mono ?_); rintro e w4 ⟨rfl, rfl⟩)
            | (go_at_call 64; (with_reducible refine (HCo.out _).mono ?_); rintro e w4 ⟨rfl, rfl⟩))
          cases fx with
          | true =>
            have HX : Hid (∀ W, Fr No w W → Calls Tryz.prog 77 #[.agg #[.int .u8 n, .int .u8 0, .int .u8 0, .int .i16 0, .int .i32 0], .string ⟨#[100, 111, 118]⟩, .slice ra m rc] W (LineTo w RR)) := fun W hf => by
              rw [← HRR.out, line_hit h1 h3 HJ.out HLT.out HTB.out (by simpa using hfx)]
              exact (HFD.out ⟨n, 0, 0, 0, 0⟩ [.d, .o, .v] W hf (by have := HLT.out; simp [eCount]; omega)).mono fun e w' h => h.line hf
            clear hfx HNXT
            go_wp2_with (first
              | (go_at_call 58; (with_reducible refine (HLd.out _).mono ?_); rintro e w4 ⟨rfl, rfl⟩)
              | (go_at_call 61; (with_reducible refine (HSt.out _).mono ?_); rintro e w4 ⟨rfl, rfl⟩)
              | (go_at_call 62; (with_reducible refine (HSr.out _).mono ?_); rintro e w4 ⟨rfl, rfl⟩)
              | (go_at_call 63; (with_reducible refine (HRg.out _).mono ?_); rintro e w4 ⟨rfl, rfl⟩)
              | (go_at_call 57; (with_reducible refine (HAr.out _).mono ?_); rintro e w4 ⟨rfl, rfl⟩)
              | (go_at_call 59; (with_reducible refine (HJu.out _).mono ?_); rintro e w4 ⟨rfl, rfl⟩)
              | (go_at_call 66; (with_reducible refine (HNm.out _).mono ?_); rintro e w4 ⟨rfl, rfl⟩)
              | (go_at_call 64; (with_reducible refine (HCo.out _).mono ?_); rintro e w4 ⟨rfl, rfl⟩)
              | (go_at_call 77; (with_reducible refine (HX.out _ HF3.out).mono ?_); rintro e w5 hto; have HTO := Lib.hid hto; obtain ⟨v1, t1, rfl⟩ := hto.form; clear hto))
            go_ret2
            exact HTO.out
          | false =>
            have HNX := Lib.hid (HNXT.out rfl)
            clear hfx HNXT
            go_wp2_with (first
              | (go_at_call 58; (with_reducible refine (HLd.out _).mono ?_); rintro e w4 ⟨rfl, rfl⟩)
              | (go_at_call 61; (with_reducible refine (HSt.out _).mono ?_); rintro e w4 ⟨rfl, rfl⟩)
              | (go_at_call 62; (with_reducible refine (HSr.out _).mono ?_); rintro e w4 ⟨rfl, rfl⟩)
              | (go_at_call 63; (with_reducible refine (HRg.out _).mono ?_); rintro e w4 ⟨rfl, rfl⟩)
              | (go_at_call 57; (with_reducible refine (HAr.out _).mono ?_); rintro e w4 ⟨rfl, rfl⟩)
              | (go_at_call 59; (with_reducible refine (HJu.out _).mono ?_); rintro e w4 ⟨rfl, rfl⟩)
              | (go_at_call 66; (with_reducible refine (HNm.out _).mono ?_); rintro e w4 ⟨rfl, rfl⟩)
              | (go_at_call 64; (with_reducible refine (HCo.out _).mono ?_); rintro e w4 ⟨rfl, rfl⟩))
            all_goals go_roundw
            all_goals first
              | exact ⟨n + 1, HLT.out, by go_num, HNX.out, HF3.out⟩
              | (have := HLT.out; simp [intOf] <;> omega)
        · obtain ⟨X, hX⟩ : ∃ X, [115, 116, 120] ++ decN (sizeN n) = X := ⟨_, rfl⟩
          have HTB : Hid (table n = some (X, [.d, .o, .s])) := by rw [← hX]; exact tab_stx hc
          have ad := addL [115, 116, 120] (decN (sizeN n)) (by simp) (by rw [bA_size] at sZ; omega)
          rw [hX, show bA [115, 116, 120] = ⟨#[115, 116, 120]⟩ from rfl] at ad
          clear hX
          obtain ⟨y1, y2, y3, y4, y5, y6, y7⟩ := hc
          rw [y1] at x194
          rw [y2] at x149
          rw [y3] at x133
          rw [y4] at x5
          rw [y5] at HLd
          rw [y6] at HSt
          rw [y7] at HSr
          rw [ha] at HAr
          rw [hj] at HJu
          clear ha hj
          clear y1 y2 y3 y4 y5 y6 y7
          obtain ⟨fx, hfx⟩ : ∃ fx, (X == first) = fx := ⟨_, rfl⟩
          have HNXT : Hid (fx = false → NoHit first (n + 1)) := fun h => HJ.out.step (by rw [hit_some HTB.out, hfx, h])
          have qx : ((bA first).toList == (bA X).toList) = fx := (strc first X).trans hfx
          go_upto_region 27 with (first
            | (go_at_call 58; (with_reducible refine (HLd.out _).mono ?_); rintro e w4 ⟨rfl, rfl⟩)
            | (go_at_call 61; (with_reducible refine (HSt.out _).mono ?_); rintro e w4 ⟨rfl, rfl⟩)
            | (go_at_call 62; (with_reducible refine (HSr.out _).mono ?_); rintro e w4 ⟨rfl, rfl⟩)
            | (go_at_call 63; (with_reducible refine (HRg.out _).mono ?_); rintro e w4 ⟨rfl, rfl⟩)
            | (go_at_call 57; (with_reducible refine (HAr.out _).mono ?_); rintro e w4 ⟨rfl, rfl⟩)
            | (go_at_call 59; (with_reducible refine (HJu.out _).mono ?_); rintro e w4 ⟨rfl, rfl⟩)
            | (go_at_call 66; (with_reducible refine (HNm.out _).mono ?_); rintro e w4 ⟨rfl, rfl⟩)
            | (go_at_call 64; (with_reducible refine (HCo.out _).mono ?_); rintro e w4 ⟨rfl, rfl⟩))
          cases fx with
          | true =>
            have HX : Hid (∀ W, Fr No w W → Calls Tryz.prog 77 #[.agg #[.int .u8 n, .int .u8 0, .int .u8 0, .int .i16 0, .int .i32 0], .string ⟨#[100, 111, 115]⟩, .slice ra m rc] W (LineTo w RR)) := fun W hf => by
              rw [← HRR.out, line_hit h1 h3 HJ.out HLT.out HTB.out (by simpa using hfx)]
              exact (HFD.out ⟨n, 0, 0, 0, 0⟩ [.d, .o, .s] W hf (by have := HLT.out; simp [eCount]; omega)).mono fun e w' h => h.line hf
            clear hfx HNXT
            go_wp2_with (first
              | (go_at_call 58; (with_reducible refine (HLd.out _).mono ?_); rintro e w4 ⟨rfl, rfl⟩)
              | (go_at_call 61; (with_reducible refine (HSt.out _).mono ?_); rintro e w4 ⟨rfl, rfl⟩)
              | (go_at_call 62; (with_reducible refine (HSr.out _).mono ?_); rintro e w4 ⟨rfl, rfl⟩)
              | (go_at_call 63; (with_reducible refine (HRg.out _).mono ?_); rintro e w4 ⟨rfl, rfl⟩)
              | (go_at_call 57; (with_reducible refine (HAr.out _).mono ?_); rintro e w4 ⟨rfl, rfl⟩)
              | (go_at_call 59; (with_reducible refine (HJu.out _).mono ?_); rintro e w4 ⟨rfl, rfl⟩)
              | (go_at_call 66; (with_reducible refine (HNm.out _).mono ?_); rintro e w4 ⟨rfl, rfl⟩)
              | (go_at_call 64; (with_reducible refine (HCo.out _).mono ?_); rintro e w4 ⟨rfl, rfl⟩)
              | (go_at_call 77; (with_reducible refine (HX.out _ HF3.out).mono ?_); rintro e w5 hto; have HTO := Lib.hid hto; obtain ⟨v1, t1, rfl⟩ := hto.form; clear hto))
            go_ret2
            exact HTO.out
          | false =>
            have HNX := Lib.hid (HNXT.out rfl)
            clear hfx HNXT
            go_wp2_with (first
              | (go_at_call 58; (with_reducible refine (HLd.out _).mono ?_); rintro e w4 ⟨rfl, rfl⟩)
              | (go_at_call 61; (with_reducible refine (HSt.out _).mono ?_); rintro e w4 ⟨rfl, rfl⟩)
              | (go_at_call 62; (with_reducible refine (HSr.out _).mono ?_); rintro e w4 ⟨rfl, rfl⟩)
              | (go_at_call 63; (with_reducible refine (HRg.out _).mono ?_); rintro e w4 ⟨rfl, rfl⟩)
              | (go_at_call 57; (with_reducible refine (HAr.out _).mono ?_); rintro e w4 ⟨rfl, rfl⟩)
              | (go_at_call 59; (with_reducible refine (HJu.out _).mono ?_); rintro e w4 ⟨rfl, rfl⟩)
              | (go_at_call 66; (with_reducible refine (HNm.out _).mono ?_); rintro e w4 ⟨rfl, rfl⟩)
              | (go_at_call 64; (with_reducible refine (HCo.out _).mono ?_); rintro e w4 ⟨rfl, rfl⟩))
            all_goals go_roundw
            all_goals first
              | exact ⟨n + 1, HLT.out, by go_num, HNX.out, HF3.out⟩
              | (have := HLT.out; simp [intOf] <;> omega)
        · have HNX := Lib.hid (HJ.out.step (hit_none (tab_reg hc hg)))
          obtain ⟨y1, y2, y3, y4, y5, y6, y7⟩ := hc
          rw [y1] at x194
          rw [y2] at x149
          rw [y3] at x133
          rw [y4] at x5
          rw [y5] at HLd
          rw [y6] at HSt
          rw [y7] at HSr
          rw [hg] at HRg
          clear hg
          clear y1 y2 y3 y4 y5 y6 y7
          go_wp2_with (first
            | (go_at_call 58; (with_reducible refine (HLd.out _).mono ?_); rintro e w4 ⟨rfl, rfl⟩)
            | (go_at_call 61; (with_reducible refine (HSt.out _).mono ?_); rintro e w4 ⟨rfl, rfl⟩)
            | (go_at_call 62; (with_reducible refine (HSr.out _).mono ?_); rintro e w4 ⟨rfl, rfl⟩)
            | (go_at_call 63; (with_reducible refine (HRg.out _).mono ?_); rintro e w4 ⟨rfl, rfl⟩)
            | (go_at_call 57; (with_reducible refine (HAr.out _).mono ?_); rintro e w4 ⟨rfl, rfl⟩)
            | (go_at_call 59; (with_reducible refine (HJu.out _).mono ?_); rintro e w4 ⟨rfl, rfl⟩)
            | (go_at_call 66; (with_reducible refine (HNm.out _).mono ?_); rintro e w4 ⟨rfl, rfl⟩)
            | (go_at_call 64; (with_reducible refine (HCo.out _).mono ?_); rintro e w4 ⟨rfl, rfl⟩))
          all_goals go_roundw
          all_goals first
            | exact ⟨n + 1, HLT.out, by go_num, HNX.out, HF3.out⟩
            | (have := HLT.out; simp [intOf] <;> omega)
        · have HNX := Lib.hid (HJ.out.step (hit_none (tab_noaj hc ha hj)))
          obtain ⟨y1, y2, y3, y4, y5, y6, y7⟩ := hc
          rw [y1] at x194
          rw [y2] at x149
          rw [y3] at x133
          rw [y4] at x5
          rw [y5] at HLd
          rw [y6] at HSt
          rw [y7] at HSr
          rw [hg] at HRg
          rw [ha] at HAr
          rw [hj] at HJu
          clear hg ha hj
          clear y1 y2 y3 y4 y5 y6 y7
          go_wp2_with (first
            | (go_at_call 58; (with_reducible refine (HLd.out _).mono ?_); rintro e w4 ⟨rfl, rfl⟩)
            | (go_at_call 61; (with_reducible refine (HSt.out _).mono ?_); rintro e w4 ⟨rfl, rfl⟩)
            | (go_at_call 62; (with_reducible refine (HSr.out _).mono ?_); rintro e w4 ⟨rfl, rfl⟩)
            | (go_at_call 63; (with_reducible refine (HRg.out _).mono ?_); rintro e w4 ⟨rfl, rfl⟩)
            | (go_at_call 57; (with_reducible refine (HAr.out _).mono ?_); rintro e w4 ⟨rfl, rfl⟩)
            | (go_at_call 59; (with_reducible refine (HJu.out _).mono ?_); rintro e w4 ⟨rfl, rfl⟩)
            | (go_at_call 66; (with_reducible refine (HNm.out _).mono ?_); rintro e w4 ⟨rfl, rfl⟩)
            | (go_at_call 64; (with_reducible refine (HCo.out _).mono ?_); rintro e w4 ⟨rfl, rfl⟩))
          all_goals go_roundw
          all_goals first
            | exact ⟨n + 1, HLT.out, by go_num, HNX.out, HF3.out⟩
            | (have := HLT.out; simp [intOf] <;> omega)
        · have HNX := Lib.hid (HJ.out.step (hit_none (tab_nil hc hm)))
          obtain ⟨y1, y2, y3, y4, y5, y6, y7⟩ := hc
          rw [y1] at x194
          rw [y2] at x149
          rw [y3] at x133
          rw [y4] at x5
          rw [y5] at HLd
          rw [y6] at HSt
          rw [y7] at HSr
          rw [hg] at HRg
          rw [ha] at HAr
          rw [hm] at HNm
          have qn : (bA ([] : List UInt8)).toList.isEmpty = true := nil_emp
          have qn2 : ((bA ([] : List UInt8)).toList == ([] : List UInt8)) = true := bA_beq [] []
          clear hm
          clear hg ha
          clear y1 y2 y3 y4 y5 y6 y7
          go_wp2_with (first
            | (go_at_call 58; (with_reducible refine (HLd.out _).mono ?_); rintro e w4 ⟨rfl, rfl⟩)
            | (go_at_call 61; (with_reducible refine (HSt.out _).mono ?_); rintro e w4 ⟨rfl, rfl⟩)
            | (go_at_call 62; (with_reducible refine (HSr.out _).mono ?_); rintro e w4 ⟨rfl, rfl⟩)
            | (go_at_call 63; (with_reducible refine (HRg.out _).mono ?_); rintro e w4 ⟨rfl, rfl⟩)
            | (go_at_call 57; (with_reducible refine (HAr.out _).mono ?_); rintro e w4 ⟨rfl, rfl⟩)
            | (go_at_call 59; (with_reducible refine (HJu.out _).mono ?_); rintro e w4 ⟨rfl, rfl⟩)
            | (go_at_call 66; (with_reducible refine (HNm.out _).mono ?_); rintro e w4 ⟨rfl, rfl⟩)
            | (go_at_call 64; (with_reducible refine (HCo.out _).mono ?_); rintro e w4 ⟨rfl, rfl⟩))
          all_goals go_roundw
          all_goals first
            | exact ⟨n + 1, HLT.out, by go_num, HNX.out, HF3.out⟩
            | (have := HLT.out; simp [intOf] <;> omega)
        · have HNX := Lib.hid (HJ.out.step (hit_none (tab_nil hc hm)))
          obtain ⟨y1, y2, y3, y4, y5, y6, y7⟩ := hc
          rw [y1] at x194
          rw [y2] at x149
          rw [y3] at x133
          rw [y4] at x5
          rw [y5] at HLd
          rw [y6] at HSt
          rw [y7] at HSr
          rw [hg] at HRg
          rw [ha] at HAr
          rw [hj] at HJu
          rw [hm] at HNm
          have qn : (bA ([] : List UInt8)).toList.isEmpty = true := nil_emp
          have qn2 : ((bA ([] : List UInt8)).toList == ([] : List UInt8)) = true := bA_beq [] []
          clear hm
          clear hg ha hj
          clear y1 y2 y3 y4 y5 y6 y7
          go_wp2_with (first
            | (go_at_call 58; (with_reducible refine (HLd.out _).mono ?_); rintro e w4 ⟨rfl, rfl⟩)
            | (go_at_call 61; (with_reducible refine (HSt.out _).mono ?_); rintro e w4 ⟨rfl, rfl⟩)
            | (go_at_call 62; (with_reducible refine (HSr.out _).mono ?_); rintro e w4 ⟨rfl, rfl⟩)
            | (go_at_call 63; (with_reducible refine (HRg.out _).mono ?_); rintro e w4 ⟨rfl, rfl⟩)
            | (go_at_call 57; (with_reducible refine (HAr.out _).mono ?_); rintro e w4 ⟨rfl, rfl⟩)
            | (go_at_call 59; (with_reducible refine (HJu.out _).mono ?_); rintro e w4 ⟨rfl, rfl⟩)
            | (go_at_call 66; (with_reducible refine (HNm.out _).mono ?_); rintro e w4 ⟨rfl, rfl⟩)
            | (go_at_call 64; (with_reducible refine (HCo.out _).mono ?_); rintro e w4 ⟨rfl, rfl⟩))
          all_goals go_roundw
          all_goals first
            | exact ⟨n + 1, HLT.out, by go_num, HNX.out, HF3.out⟩
            | (have := HLT.out; simp [intOf] <;> omega)
        · have hg0 := Lib.hid hg
          have qn : (bA (nameN n)).toList.isEmpty = false := by rw [show bA (nameN n) = (⟨(nameN n).toArray⟩ : ByteArray) from rfl, Lib.toList_data]; cases hq : nameN n; exact absurd hq hm; rfl
          have qn2 : ((bA (nameN n)).toList == ([] : List UInt8)) = false := by rw [bA_beq]; simpa using hm
          have hnl := name_len n
          have HTB0 := Lib.hid (tab_arith hc hg ha hj hm)
          obtain ⟨T, hT⟩ : ∃ T, decide (n % 8 = 7 ∨ n % 8 = 5) = T := ⟨_, rfl⟩
          have HW := Lib.hid (show widthN n = if T = true then [54, 52] else [51, 50] from by rw [← hT]; unfold widthN; by_cases h : n % 8 = 7 ∨ n % 8 = 5 <;> simp [h])
          obtain ⟨n8, hn8⟩ : ∃ n8, n % 8 = n8 := ⟨_, rfl⟩
          rw [hn8] at hT
          have g1 : (n : Int) % 8 = (n8 : Int) := by omega
          have g1' : (n : Int).tmod 8 = (n8 : Int) := by rw [Int.tmod_eq_emod_of_nonneg (by omega)]; omega
          have x7 : ((n8 : Int) == 7) = decide (n8 = 7) := beq_nat n8 7
          have x55 : ((n8 : Int) == 5) = decide (n8 = 5) := beq_nat n8 5
          clear hn8
          obtain ⟨y1, y2, y3, y4, y5, y6, y7⟩ := hc
          rw [y1] at x194
          rw [y2] at x149
          rw [y3] at x133
          rw [y4] at x5
          rw [y5] at HLd
          rw [y6] at HSt
          rw [y7] at HSr
          rw [hg] at HRg
          rw [ha] at HAr
          rw [hj] at HJu
          clear hg ha hj hm
          clear y1 y2 y3 y4 y5 y6 y7
          as_aux_lemma =>
            go_upto_region 31 with (first
              | (go_at_call 58; (with_reducible refine (HLd.out _).mono ?_); rintro e w4 ⟨rfl, rfl⟩)
              | (go_at_call 61; (with_reducible refine (HSt.out _).mono ?_); rintro e w4 ⟨rfl, rfl⟩)
              | (go_at_call 62; (with_reducible refine (HSr.out _).mono ?_); rintro e w4 ⟨rfl, rfl⟩)
              | (go_at_call 63; (with_reducible refine (HRg.out _).mono ?_); rintro e w4 ⟨rfl, rfl⟩)
              | (go_at_call 57; (with_reducible refine (HAr.out _).mono ?_); rintro e w4 ⟨rfl, rfl⟩)
              | (go_at_call 59; (with_reducible refine (HJu.out _).mono ?_); rintro e w4 ⟨rfl, rfl⟩)
              | (go_at_call 66; (with_reducible refine (HNm.out _).mono ?_); rintro e w4 ⟨rfl, rfl⟩)
              | (go_at_call 64; (with_reducible refine (HCo.out _).mono ?_); rintro e w4 ⟨rfl, rfl⟩))
            go_cut [194] from 187 to 194 (fun s wx => s = .bool T ∧ w3 = wx)
            case first =>
              by_cases h7 : n8 = 7
              · rw [decide_eq_true h7] at x7
                have hT2 : T = true := by rw [← hT, decide_eq_true_eq]; exact .inl h7
                subst hT2
                clear h7 hT
                go_wp2_with fail
                go_meet
                exact ⟨rfl, rfl⟩
              · rw [decide_eq_false h7] at x7
                obtain ⟨t5, ht5⟩ : ∃ t5, decide (n8 = 5) = t5 := ⟨_, rfl⟩
                rw [ht5] at x55
                have hT2 : T = t5 := by rw [← hT, ← ht5]; simp [h7]
                subst hT2
                clear h7 hT ht5
                go_wp2_with fail
                go_meet
                exact ⟨rfl, rfl⟩
            case rest =>
              obtain ⟨rfl, rfl⟩ := hcut
              clear x7 x55 hT g1 g1'
              go_upto_if 194 with fail
              go_cut [16] from 187 to 194 (fun s wx => s = .string (bA (widthN n)) ∧ w3 = wx)
              case first =>
                cases T with
                | true =>
                  go_wp2_with fail
                  go_meet
                  exact ⟨by rw [HW.out]; rfl, rfl⟩
                | false =>
                  go_wp2_with fail
                  go_meet
                  exact ⟨by rw [HW.out]; rfl, rfl⟩
              case rest =>
                obtain ⟨rfl, rfl⟩ := hcut
                clear HW
                obtain ⟨X, hX⟩ : ∃ X, nameN n ++ widthN n = X := ⟨_, rfl⟩
                have hwl : (widthN n).length ≤ 10 := by unfold widthN; split <;> simp
                have ad := addL (nameN n) (widthN n) (by omega) (by omega)
                rw [hX] at ad
                obtain ⟨ng, hng⟩ : ∃ ng, (codeN n == 128) = ng := ⟨_, rfl⟩
                have xng : ((codeN n : Int) == 128) = ng := by rw [← hng]; exact beq_nat (codeN n) 128
                cases ng with
                | true =>
                  have HTB : Hid (table n = some (X, [.d])) := by rw [HTB0.out, hX, if_pos (by simpa using hng)]; exact Lib.hid rfl
                  clear hng hX hnl HTB0 hwl
                  generalize nameN n = nm at *
                  generalize widthN n = wd at *
                  obtain ⟨fx, hfx⟩ : ∃ fx, (X == first) = fx := ⟨_, rfl⟩
                  have HNXT : Hid (fx = false → NoHit first (n + 1)) := fun h => HJ.out.step (by rw [hit_some HTB.out, hfx, h])
                  have qx : ((bA first).toList == (bA X).toList) = fx := (strc first X).trans hfx
                  cases fx with
                  | true =>
                    have HX : Hid (∀ W, Fr No w W → Calls Tryz.prog 77 #[.agg #[.int .u8 n, .int .u8 0, .int .u8 0, .int .i16 0, .int .i32 0], .string ⟨#[100]⟩, .slice ra m rc] W (LineTo w RR)) := fun W hf => by
                      rw [← HRR.out, line_hit h1 h3 HJ.out HLT.out HTB.out (by simpa using hfx)]
                      exact (HFD.out ⟨n, 0, 0, 0, 0⟩ [.d] W hf (by have := reg_low HLT.out hg0.out; simp [eCount]; omega)).mono fun e w' h => h.line hf
                    clear hfx HNXT
                    go_wp2_with (first
                      | (go_at_call 58; (with_reducible refine (HLd.out _).mono ?_); rintro e w4 ⟨rfl, rfl⟩)
                      | (go_at_call 61; (with_reducible refine (HSt.out _).mono ?_); rintro e w4 ⟨rfl, rfl⟩)
                      | (go_at_call 62; (with_reducible refine (HSr.out _).mono ?_); rintro e w4 ⟨rfl, rfl⟩)
                      | (go_at_call 63; (with_reducible refine (HRg.out _).mono ?_); rintro e w4 ⟨rfl, rfl⟩)
                      | (go_at_call 57; (with_reducible refine (HAr.out _).mono ?_); rintro e w4 ⟨rfl, rfl⟩)
                      | (go_at_call 59; (with_reducible refine (HJu.out _).mono ?_); rintro e w4 ⟨rfl, rfl⟩)
                      | (go_at_call 66; (with_reducible refine (HNm.out _).mono ?_); rintro e w4 ⟨rfl, rfl⟩)
                      | (go_at_call 64; (with_reducible refine (HCo.out _).mono ?_); rintro e w4 ⟨rfl, rfl⟩)
                      | (go_at_call 77; (with_reducible refine (HX.out _ HF3.out).mono ?_); rintro e w5 hto; have HTO := Lib.hid hto; obtain ⟨v1, t1, rfl⟩ := hto.form; clear hto))
                    go_ret2
                    exact HTO.out
                  | false =>
                    have HNX := Lib.hid (HNXT.out rfl)
                    clear hfx HNXT
                    go_wp2_with (first
                      | (go_at_call 58; (with_reducible refine (HLd.out _).mono ?_); rintro e w4 ⟨rfl, rfl⟩)
                      | (go_at_call 61; (with_reducible refine (HSt.out _).mono ?_); rintro e w4 ⟨rfl, rfl⟩)
                      | (go_at_call 62; (with_reducible refine (HSr.out _).mono ?_); rintro e w4 ⟨rfl, rfl⟩)
                      | (go_at_call 63; (with_reducible refine (HRg.out _).mono ?_); rintro e w4 ⟨rfl, rfl⟩)
                      | (go_at_call 57; (with_reducible refine (HAr.out _).mono ?_); rintro e w4 ⟨rfl, rfl⟩)
                      | (go_at_call 59; (with_reducible refine (HJu.out _).mono ?_); rintro e w4 ⟨rfl, rfl⟩)
                      | (go_at_call 66; (with_reducible refine (HNm.out _).mono ?_); rintro e w4 ⟨rfl, rfl⟩)
                      | (go_at_call 64; (with_reducible refine (HCo.out _).mono ?_); rintro e w4 ⟨rfl, rfl⟩))
                    all_goals go_roundw
                    all_goals first
                      | exact ⟨n + 1, HLT.out, by go_num, HNX.out, HF3.out⟩
                      | (have := HLT.out; simp [intOf] <;> omega)
                | false =>
                  have HTB : Hid (table n = some (X, [.d, .e])) := by rw [HTB0.out, hX, if_neg (by simpa using hng)]; exact Lib.hid rfl
                  clear hng hX hnl HTB0 hwl
                  generalize nameN n = nm at *
                  generalize widthN n = wd at *
                  obtain ⟨fx, hfx⟩ : ∃ fx, (X == first) = fx := ⟨_, rfl⟩
                  have HNXT : Hid (fx = false → NoHit first (n + 1)) := fun h => HJ.out.step (by rw [hit_some HTB.out, hfx, h])
                  have qx : ((bA first).toList == (bA X).toList) = fx := (strc first X).trans hfx
                  cases fx with
                  | true =>
                    have HX : Hid (∀ W, Fr No w W → Calls Tryz.prog 77 #[.agg #[.int .u8 n, .int .u8 0, .int .u8 0, .int .i16 0, .int .i32 0], .string ⟨#[100, 101]⟩, .slice ra m rc] W (LineTo w RR)) := fun W hf => by
                      rw [← HRR.out, line_hit h1 h3 HJ.out HLT.out HTB.out (by simpa using hfx)]
                      exact (HFD.out ⟨n, 0, 0, 0, 0⟩ [.d, .e] W hf (by have := reg_low HLT.out hg0.out; simp [eCount]; omega)).mono fun e w' h => h.line hf
                    clear hfx HNXT
                    go_wp2_with (first
                      | (go_at_call 58; (with_reducible refine (HLd.out _).mono ?_); rintro e w4 ⟨rfl, rfl⟩)
                      | (go_at_call 61; (with_reducible refine (HSt.out _).mono ?_); rintro e w4 ⟨rfl, rfl⟩)
                      | (go_at_call 62; (with_reducible refine (HSr.out _).mono ?_); rintro e w4 ⟨rfl, rfl⟩)
                      | (go_at_call 63; (with_reducible refine (HRg.out _).mono ?_); rintro e w4 ⟨rfl, rfl⟩)
                      | (go_at_call 57; (with_reducible refine (HAr.out _).mono ?_); rintro e w4 ⟨rfl, rfl⟩)
                      | (go_at_call 59; (with_reducible refine (HJu.out _).mono ?_); rintro e w4 ⟨rfl, rfl⟩)
                      | (go_at_call 66; (with_reducible refine (HNm.out _).mono ?_); rintro e w4 ⟨rfl, rfl⟩)
                      | (go_at_call 64; (with_reducible refine (HCo.out _).mono ?_); rintro e w4 ⟨rfl, rfl⟩)
                      | (go_at_call 77; (with_reducible refine (HX.out _ HF3.out).mono ?_); rintro e w5 hto; have HTO := Lib.hid hto; obtain ⟨v1, t1, rfl⟩ := hto.form; clear hto))
                    go_ret2
                    exact HTO.out
                  | false =>
                    have HNX := Lib.hid (HNXT.out rfl)
                    clear hfx HNXT
                    go_wp2_with (first
                      | (go_at_call 58; (with_reducible refine (HLd.out _).mono ?_); rintro e w4 ⟨rfl, rfl⟩)
                      | (go_at_call 61; (with_reducible refine (HSt.out _).mono ?_); rintro e w4 ⟨rfl, rfl⟩)
                      | (go_at_call 62; (with_reducible refine (HSr.out _).mono ?_); rintro e w4 ⟨rfl, rfl⟩)
                      | (go_at_call 63; (with_reducible refine (HRg.out _).mono ?_); rintro e w4 ⟨rfl, rfl⟩)
                      | (go_at_call 57; (with_reducible refine (HAr.out _).mono ?_); rintro e w4 ⟨rfl, rfl⟩)
                      | (go_at_call 59; (with_reducible refine (HJu.out _).mono ?_); rintro e w4 ⟨rfl, rfl⟩)
                      | (go_at_call 66; (with_reducible refine (HNm.out _).mono ?_); rintro e w4 ⟨rfl, rfl⟩)
                      | (go_at_call 64; (with_reducible refine (HCo.out _).mono ?_); rintro e w4 ⟨rfl, rfl⟩))
                    all_goals go_roundw
                    all_goals first
                      | exact ⟨n + 1, HLT.out, by go_num, HNX.out, HF3.out⟩
                      | (have := HLT.out; simp [intOf] <;> omega)
        · have hg0 := Lib.hid hg
          have qn : (bA (nameN n)).toList.isEmpty = false := by rw [show bA (nameN n) = (⟨(nameN n).toArray⟩ : ByteArray) from rfl, Lib.toList_data]; cases hq : nameN n; exact absurd hq hm; rfl
          have qn2 : ((bA (nameN n)).toList == ([] : List UInt8)) = false := by rw [bA_beq]; simpa using hm
          have hnl := name_len n
          have HTB0 := Lib.hid (tab_jump hc hg ha hj hm)
          obtain ⟨T, hT⟩ : ∃ T, decide (n % 8 = 7 ∨ n % 8 = 5) = T := ⟨_, rfl⟩
          have HW := Lib.hid (show widthN n = if T = true then [54, 52] else [51, 50] from by rw [← hT]; unfold widthN; by_cases h : n % 8 = 7 ∨ n % 8 = 5 <;> simp [h])
          obtain ⟨n8, hn8⟩ : ∃ n8, n % 8 = n8 := ⟨_, rfl⟩
          rw [hn8] at hT
          have g1 : (n : Int) % 8 = (n8 : Int) := by omega
          have g1' : (n : Int).tmod 8 = (n8 : Int) := by rw [Int.tmod_eq_emod_of_nonneg (by omega)]; omega
          have x7 : ((n8 : Int) == 7) = decide (n8 = 7) := beq_nat n8 7
          have x55 : ((n8 : Int) == 5) = decide (n8 = 5) := beq_nat n8 5
          clear hn8
          obtain ⟨y1, y2, y3, y4, y5, y6, y7⟩ := hc
          rw [y1] at x194
          rw [y2] at x149
          rw [y3] at x133
          rw [y4] at x5
          rw [y5] at HLd
          rw [y6] at HSt
          rw [y7] at HSr
          rw [hg] at HRg
          rw [ha] at HAr
          rw [hj] at HJu
          clear hg ha hj hm
          clear y1 y2 y3 y4 y5 y6 y7
          as_aux_lemma =>
            go_upto_region 31 with (first
              | (go_at_call 58; (with_reducible refine (HLd.out _).mono ?_); rintro e w4 ⟨rfl, rfl⟩)
              | (go_at_call 61; (with_reducible refine (HSt.out _).mono ?_); rintro e w4 ⟨rfl, rfl⟩)
              | (go_at_call 62; (with_reducible refine (HSr.out _).mono ?_); rintro e w4 ⟨rfl, rfl⟩)
              | (go_at_call 63; (with_reducible refine (HRg.out _).mono ?_); rintro e w4 ⟨rfl, rfl⟩)
              | (go_at_call 57; (with_reducible refine (HAr.out _).mono ?_); rintro e w4 ⟨rfl, rfl⟩)
              | (go_at_call 59; (with_reducible refine (HJu.out _).mono ?_); rintro e w4 ⟨rfl, rfl⟩)
              | (go_at_call 66; (with_reducible refine (HNm.out _).mono ?_); rintro e w4 ⟨rfl, rfl⟩)
              | (go_at_call 64; (with_reducible refine (HCo.out _).mono ?_); rintro e w4 ⟨rfl, rfl⟩))
            go_cut [194] from 187 to 194 (fun s wx => s = .bool T ∧ w3 = wx)
            case first =>
              by_cases h7 : n8 = 7
              · rw [decide_eq_true h7] at x7
                have hT2 : T = true := by rw [← hT, decide_eq_true_eq]; exact .inl h7
                subst hT2
                clear h7 hT
                go_wp2_with fail
                go_meet
                exact ⟨rfl, rfl⟩
              · rw [decide_eq_false h7] at x7
                obtain ⟨t5, ht5⟩ : ∃ t5, decide (n8 = 5) = t5 := ⟨_, rfl⟩
                rw [ht5] at x55
                have hT2 : T = t5 := by rw [← hT, ← ht5]; simp [h7]
                subst hT2
                clear h7 hT ht5
                go_wp2_with fail
                go_meet
                exact ⟨rfl, rfl⟩
            case rest =>
              obtain ⟨rfl, rfl⟩ := hcut
              clear x7 x55 hT g1 g1'
              go_upto_if 194 with fail
              go_cut [16] from 187 to 194 (fun s wx => s = .string (bA (widthN n)) ∧ w3 = wx)
              case first =>
                cases T with
                | true =>
                  go_wp2_with fail
                  go_meet
                  exact ⟨by rw [HW.out]; rfl, rfl⟩
                | false =>
                  go_wp2_with fail
                  go_meet
                  exact ⟨by rw [HW.out]; rfl, rfl⟩
              case rest =>
                obtain ⟨rfl, rfl⟩ := hcut
                clear HW
                obtain ⟨X, hX⟩ : ∃ X, nameN n ++ widthN n = X := ⟨_, rfl⟩
                have hwl : (widthN n).length ≤ 10 := by unfold widthN; split <;> simp
                have ad := addL (nameN n) (widthN n) (by omega) (by omega)
                rw [hX] at ad
                have HTB : Hid (table n = some (X, [.d, .e, .o])) := by rw [HTB0.out, hX]; exact Lib.hid rfl
                clear hX hnl HTB0 hwl
                generalize nameN n = nm at *
                generalize widthN n = wd at *
                obtain ⟨fx, hfx⟩ : ∃ fx, (X == first) = fx := ⟨_, rfl⟩
                have HNXT : Hid (fx = false → NoHit first (n + 1)) := fun h => HJ.out.step (by rw [hit_some HTB.out, hfx, h])
                have qx : ((bA first).toList == (bA X).toList) = fx := (strc first X).trans hfx
                cases fx with
                | true =>
                  have HX : Hid (∀ W, Fr No w W → Calls Tryz.prog 77 #[.agg #[.int .u8 n, .int .u8 0, .int .u8 0, .int .i16 0, .int .i32 0], .string ⟨#[100, 101, 111]⟩, .slice ra m rc] W (LineTo w RR)) := fun W hf => by
                    rw [← HRR.out, line_hit h1 h3 HJ.out HLT.out HTB.out (by simpa using hfx)]
                    exact (HFD.out ⟨n, 0, 0, 0, 0⟩ [.d, .e, .o] W hf (by have := reg_low HLT.out hg0.out; simp [eCount]; omega)).mono fun e w' h => h.line hf
                  clear hfx HNXT
                  go_wp2_with (first
                    | (go_at_call 58; (with_reducible refine (HLd.out _).mono ?_); rintro e w4 ⟨rfl, rfl⟩)
                    | (go_at_call 61; (with_reducible refine (HSt.out _).mono ?_); rintro e w4 ⟨rfl, rfl⟩)
                    | (go_at_call 62; (with_reducible refine (HSr.out _).mono ?_); rintro e w4 ⟨rfl, rfl⟩)
                    | (go_at_call 63; (with_reducible refine (HRg.out _).mono ?_); rintro e w4 ⟨rfl, rfl⟩)
                    | (go_at_call 57; (with_reducible refine (HAr.out _).mono ?_); rintro e w4 ⟨rfl, rfl⟩)
                    | (go_at_call 59; (with_reducible refine (HJu.out _).mono ?_); rintro e w4 ⟨rfl, rfl⟩)
                    | (go_at_call 66; (with_reducible refine (HNm.out _).mono ?_); rintro e w4 ⟨rfl, rfl⟩)
                    | (go_at_call 64; (with_reducible refine (HCo.out _).mono ?_); rintro e w4 ⟨rfl, rfl⟩)
                    | (go_at_call 77; (with_reducible refine (HX.out _ HF3.out).mono ?_); rintro e w5 hto; have HTO := Lib.hid hto; obtain ⟨v1, t1, rfl⟩ := hto.form; clear hto))
                  go_ret2
                  exact HTO.out
                | false =>
                  have HNX := Lib.hid (HNXT.out rfl)
                  clear hfx HNXT
                  go_wp2_with (first
                    | (go_at_call 58; (with_reducible refine (HLd.out _).mono ?_); rintro e w4 ⟨rfl, rfl⟩)
                    | (go_at_call 61; (with_reducible refine (HSt.out _).mono ?_); rintro e w4 ⟨rfl, rfl⟩)
                    | (go_at_call 62; (with_reducible refine (HSr.out _).mono ?_); rintro e w4 ⟨rfl, rfl⟩)
                    | (go_at_call 63; (with_reducible refine (HRg.out _).mono ?_); rintro e w4 ⟨rfl, rfl⟩)
                    | (go_at_call 57; (with_reducible refine (HAr.out _).mono ?_); rintro e w4 ⟨rfl, rfl⟩)
                    | (go_at_call 59; (with_reducible refine (HJu.out _).mono ?_); rintro e w4 ⟨rfl, rfl⟩)
                    | (go_at_call 66; (with_reducible refine (HNm.out _).mono ?_); rintro e w4 ⟨rfl, rfl⟩)
                    | (go_at_call 64; (with_reducible refine (HCo.out _).mono ?_); rintro e w4 ⟨rfl, rfl⟩))
                  all_goals go_roundw
                  all_goals first
                    | exact ⟨n + 1, HLT.out, by go_num, HNX.out, HF3.out⟩
                    | (have := HLT.out; simp [intOf] <;> omega)
      · obtain rfl : n = 256 := by omega
        have HE := Lib.hid (HEND.out HJ.out)
        have p256 : ¬ ((256 : Nat) : Int) < 256 := by omega
        clear hlt
        go_wp2_with fail
        go_ret2
        exact LineTo.no HE.out rfl (src_nil _) (by simp) HF.out
theorem refline_any (first : List UInt8) (rest : List (List UInt8)) (v : Value) (w : World) (hv : StrsAt w v (first :: rest)) (hl : ∀ u ∈ first :: rest, u.length ≤ 100000) (hn : rest.length ≤ 100000) : Calls Tryz.prog 40 #[v] w (LineTo w (lineW (first :: rest))) := by
  by_cases h1 : first = [114, 97, 119]
  · exact refline_raw first rest v w hv hl hn h1
  by_cases h2 : first = [108, 100, 105, 109, 109] ∧ rest.length = 2
  · exact refline_ldimm first rest v w hv hl hn h1 h2
  by_cases h3 : first = [108, 100, 109, 97, 112]
  · exact refline_ldmap first rest v w hv hl hn h1 h2 h3
  · exact refline_loop first rest v w hv hl hn h1 h2 h3
end Go.Proofs.YthkdokkpiaaljaaGreatDoor
