/- ChartsNear. -/
import Derived.Test.YtakcdecljfmckaaGreatDoorCore43
set_option linter.all false
set_option linter.unusedVariables false
set_option linter.unusedSimpArgs false
namespace Go.Proofs.YtakcdecljfmckaaGreatDoor
open Go.RowKit

set_option maxRecDepth 100000 in
set_option maxHeartbeats 8000000 in
theorem cnear_any (l : List Ins) (v : Value) (maps : Int) (w : World) (hv : InsAt w v l) (hok : ∀ i ∈ l, i.ok) (hT : LT w) : Calls Tryz.prog 5 #[v, .int .i64 maps] w fun e w' => e = .returned (.bool true) ∧ Fr No w w' := by
  have HT := Lib.hid hT
  have HCH : Hid (∀ W, Fr No w W → Calls Tryz.prog 6 #[] W fun e w' => e = .returned (.bool true) ∧ Fr No W w') := fun W hf => charted_any W (HT.out.fr hf)
  obtain ⟨a0, c0, rfl⟩ := hv.form
  by_cases hbig : 64 < l.length
  · obtain ⟨n, hn⟩ : ∃ n, l.length = n := ⟨_, rfl⟩
    rw [hn] at hbig ⊢
    have g0 : (64 : Int) < (n : Int) := by omega
    clear hv hok hT hn hbig
    go_enter Tryz.func5, Tryz.ntmps5
    go_wp2_with (go_at_call 6; (with_reducible refine (HCH.out _ (Fr.refl _ _)).mono ?_); rintro e w1 ⟨rfl, hf1⟩)
    go_ret
    exact ⟨rfl, hf1⟩
  have hl : l.length ≤ 100000 := by omega
  have g0 : ¬ (64 : Int) < (l.length : Int) := by omega
  have HB : Hid (∀ W, Fr No w W → Calls Tryz.prog 7 #[.slice a0 l.length c0, .int .i64 maps] W (BlocksTo l maps W)) := fun W hf => blocks_any l _ maps W (hv.fr hf) hok hl
  have HD : Hid (∀ W, Fr No w W → Calls Tryz.prog 9 #[.slice a0 l.length c0, .int .i64 maps] W (DomsTo l maps W)) := fun W hf => doms_any l _ maps W (hv.fr hf) hok hl
  have HL : Hid (∀ W, Fr No w W → Calls Tryz.prog 10 #[.slice a0 l.length c0, .int .i64 maps] W (LoopsTo l maps W)) := fun W hf => loops_any l _ maps W (hv.fr hf) hok hl
  unfold BlocksTo at HB
  unfold DomsTo at HD
  unfold LoopsTo at HL
  have HV := Lib.hid hv
  have HOK := Lib.hid hok
  obtain ⟨q2, hq2⟩ : ∃ q, (checkM l maps false).2 = q := ⟨_, rfl⟩
  rw [hq2] at HB HD HL
  by_cases hz : q2 = 0
  case neg =>
    have e1 : (q2 != 0) = true := by simpa using hz
    have e2 : (q2 != q2) = false := by simp
    have HB1 : Hid (∀ W, Fr No w W → Calls Tryz.prog 7 #[.slice a0 l.length c0, .int .i64 maps] W fun e w' => e = .returned (.tuple #[.slice none 0 0, .int .i64 q2]) ∧ Fr No W w') := fun W hf => (HB.out W hf).mono fun e w' h => by
      rcases h with ⟨-, h2⟩ | ⟨h1, -⟩
      · exact h2
      · exact absurd h1 hz
    have HD1 : Hid (∀ W, Fr No w W → Calls Tryz.prog 9 #[.slice a0 l.length c0, .int .i64 maps] W fun e w' => e = .returned (.tuple #[.slice none 0 0, .int .i64 q2]) ∧ Fr No W w') := fun W hf => (HD.out W hf).mono fun e w' h => by
      rcases h with ⟨-, h2⟩ | ⟨h1, -⟩
      · exact h2
      · exact absurd h1 hz
    have HL1 : Hid (∀ W, Fr No w W → Calls Tryz.prog 10 #[.slice a0 l.length c0, .int .i64 maps] W fun e w' => e = .returned (.tuple #[.slice none 0 0, .int .i64 q2]) ∧ Fr No W w') := fun W hf => (HL.out W hf).mono fun e w' h => by
      rcases h with ⟨-, h2⟩ | ⟨h1, -⟩
      · exact h2
      · exact absurd h1 hz
    clear HB HD HL hv hok hl hT hq2 hz hbig
    have HF : Hid (Fr No w w) := Fr.refl _ _
    go_enter Tryz.func5, Tryz.ntmps5
    go_wp2_with (first
      | (go_at_call 7; (with_reducible refine (HB1.out _ HF.out).mono ?_); rintro e w1 ⟨rfl, hf1⟩; have HF := Lib.hid (HF.out.trans hf1))
      | (go_at_call 9; (with_reducible refine (HD1.out _ HF.out).mono ?_); rintro e w1 ⟨rfl, hf1⟩; have HF := Lib.hid (HF.out.trans hf1))
      | (go_at_call 10; (with_reducible refine (HL1.out _ HF.out).mono ?_); rintro e w1 ⟨rfl, hf1⟩; have HF := Lib.hid (HF.out.trans hf1))
      | (go_at_call 6; (with_reducible refine (HCH.out _ HF.out).mono ?_); rintro e w1 ⟨rfl, hf1⟩; have HF := Lib.hid (HF.out.trans hf1)))
    go_ret
    exact ⟨rfl, HF.out⟩
  subst hz
  have HW : Hid (Whole l maps) := whole hq2
  have HG : Hid (Graph (blocksM l)) := HW.out.graph
  obtain ⟨bs, hbs⟩ : ∃ bs, blocksM l = bs := ⟨_, rfl⟩
  have HBS := Lib.hid hbs
  rw [hbs] at HB HD HL HG
  obtain ⟨N, hN⟩ : ∃ N, bs.length = N := ⟨_, rfl⟩
  have HN := Lib.hid hN
  have HB1 : Hid (∀ W, Fr No w W → Calls Tryz.prog 7 #[.slice a0 l.length c0, .int .i64 maps] W fun e w' => ∃ g c, e = .returned (.tuple #[.slice (some ⟨g, 0, none⟩) N c, .int .i64 0]) ∧ BlksAt w' (.slice (some ⟨g, 0, none⟩) N c) bs ∧ Fr No W w') := fun W hf => (HB.out W hf).mono fun e w' h => by
    rcases h with ⟨h1, -⟩ | ⟨-, bv, h2, h3, h4⟩
    · exact absurd rfl h1
    · obtain ⟨g, c, rfl⟩ := h3.form
      rw [hN] at h2 h3
      exact ⟨g, c, h2, h3, h4⟩
  have HD1 : Hid (∀ W, Fr No w W → Calls Tryz.prog 9 #[.slice a0 l.length c0, .int .i64 maps] W fun e w' => ∃ (d : Nat → Int) (g c : Nat), e = .returned (.tuple #[.slice (some ⟨g, 0, none⟩) N c, .int .i64 0]) ∧ Doms (nxM bs) N d ∧ ZF w' g N d ∧ Fr No W w') := fun W hf => (HD.out W hf).mono fun e w' h => by
    rcases h with ⟨h1, -⟩ | ⟨-, d, g, c, h2, h3, h4, h5⟩
    · exact absurd rfl h1
    · rw [hN] at h2 h3 h4
      exact ⟨d, g, c, h2, h3, h4, h5⟩
  have HL1 : Hid (∀ W, Fr No w W → Calls Tryz.prog 10 #[.slice a0 l.length c0, .int .i64 maps] W fun e w' => ∃ (d : Nat → Int) (g : Option Addr) (c : Nat), e = .returned (.tuple #[.slice g (waysM bs d).length c, .int .i64 0]) ∧ Doms (nxM bs) N d ∧ w'.ownsRow 0 45 2 (.slice g (waysM bs d).length c) (waysM bs d).length (pflat (waysM bs d)) ∧ Fr No W w') := fun W hf => (HL.out W hf).mono fun e w' h => by
    rcases h with ⟨h1, -⟩ | ⟨-, d, v, h2, h3, ⟨g, c, rfl⟩, h5, h6⟩
    · exact absurd rfl h1
    · rw [hN] at h3
      exact ⟨d, g, c, h2, h3, h5 0 (Nat.zero_le _), h6⟩
  have HLED : Hid (∀ g c W (tt : Nat) (wo : Int), BlksAt W (.slice (some ⟨g, 0, none⟩) N c) bs → tt < N → Calls Tryz.prog 19 #[.slice (some ⟨g, 0, none⟩) N c, .int .i64 (tt : Int), .int .i64 wo] W fun e w' => ∃ r : Bool, e = .returned (.bool r) ∧ (r = true ↔ LedTo (nxM bs) (fun k => (k : Int) = wo) tt) ∧ Fr No W w') := fun g c W tt wo h ht => led_any bs _ tt wo W h (by rw [hN]; exact ht) HG.out.len HG.out.nx HG.out.n2
  have hN0 : 0 < N := by rw [← hN]; exact HG.out.pos
  have hNk : N ≤ 1000 := by rw [← hN]; exact HG.out.len
  clear HB HD HL hv hok hl hT hq2 hbig hbs hN
  obtain ⟨n, hn⟩ : ∃ n, l.length = n := ⟨_, rfl⟩
  have HNN := Lib.hid hn
  rw [hn] at g0 HB1 HD1 HL1 HV ⊢
  clear hn
  have HN0 := Lib.hid hN0
  have qN : ((N : Int) == 0) = false := by rw [beq_eq_false_iff_ne]; omega
  have qNN : ((N : Int) != (N : Int)) = false := by simp
  have r00 : (0 : Int) < (N : Int) := by omega
  have HF : Hid (Fr No w w) := Fr.refl _ _
  go_enter Tryz.func5, Tryz.ntmps5
  go_upto_region 10 with (first
    | (go_at_call 7; (with_reducible refine (HB1.out _ HF.out).mono ?_); rintro e w1 ⟨gb, cb, rfl, hb, hf1⟩; have HF1 := Lib.hid hf1; have HBK := Lib.hid hb; clear hf1 hb)
    | (go_at_call 9; (with_reducible refine (HD1.out _ HF1.out).mono ?_); rintro e w2 ⟨d, gd, cd, rfl, hd, hz, hf2⟩; have HF2 := Lib.hid hf2; have HDM := Lib.hid hd; have HDZ := Lib.hid hz; clear hf2 hd hz)
    | (go_at_call 10; (with_reducible refine (HL1.out _ (HF1.out.trans HF2.out)).mono ?_); rintro e w3 ⟨dw, gw, cw, rfl, hd, ho, hf3⟩; have HF3 := Lib.hid hf3; have HDW := Lib.hid hd; have HOW := Lib.hid ho; clear hf3 hd ho))
  have z0 := (HDZ.out.fr HF3.out 0 HN0.out).1
  rw [HDM.out.root] at z0
  obtain ⟨WL, hWL⟩ : ∃ WL, waysM bs dw = WL := ⟨_, rfl⟩
  have HWLE := Lib.hid hWL
  rw [hWL] at HOW ⊢
  obtain ⟨m, hm⟩ : ∃ m, WL.length = m := ⟨_, rfl⟩
  rw [hm] at HOW ⊢
  have HM := Lib.hid hm
  clear hWL hm
  go_wp2_with fail
  have HBB : Hid (∀ W, Fr No w3 W → BlksAt W (.slice (some ⟨gb, 0, none⟩) N cb) bs) := fun W hf => HBK.out.fr ((HF2.out.trans HF3.out).trans hf)
  have HFW : Hid (∀ W, Fr No w3 W → Fr No w W) := fun W hf => ((HF1.out.trans HF2.out).trans HF3.out).trans hf
  clear z0
  go_loopw [11] (fun ix wr => ∃ i : Nat, ix = .int .i64 i ∧ 1 ≤ i ∧ i ≤ N ∧ Hid (Fr No w3 wr)) (fun ix _ => N - (intOf ix).toNat)
  case atStart => exact ⟨1, rfl, Nat.le_refl _, by omega, Fr.refl _ _⟩
  case round =>
    obtain ⟨i, rfl, hi1, hi, HFI⟩ := hrel
    by_cases hlt : i < N
    · obtain ⟨y, hy, hyN, hne⟩ := HDM.out.up i hlt (by omega)
      have d0 := (HDZ.out.fr (HF3.out.trans HFI.out) i hlt).1
      rw [hy] at d0
      have HLA : Hid (∀ W, Fr No w3 W → Calls Tryz.prog 19 #[.slice (some ⟨gb, 0, none⟩) N cb, .int .i64 (i : Int), .int .i64 (y : Int)] W fun e w' => e = .returned (.bool false) ∧ Fr No W w') := fun W hf => (HLED.out gb cb W i y (HBB.out W hf) hlt).mono fun e w' h => by
        obtain ⟨r, h1, h2, h3⟩ := h
        have : r = false := by
          cases r with
          | false => rfl
          | true => exact absurd (cuts_int.1 (h2.1 rfl)) (HDM.out.cut i y hlt (.one hy)).2.2
        rw [this] at h1
        exact ⟨h1, h3⟩
      have HLB : Hid (∀ W, Fr No w3 W → Calls Tryz.prog 19 #[.slice (some ⟨gb, 0, none⟩) N cb, .int .i64 (i : Int), .int .i64 (-1)] W fun e w' => e = .returned (.bool true) ∧ Fr No W w') := fun W hf => (HLED.out gb cb W i (-1) (HBB.out W hf) hlt).mono fun e w' h => by
        obtain ⟨r, h1, h2, h3⟩ := h
        rw [h2.2 (led_int.2 (HG.out.all i (by rw [HN.out]; exact hlt)))] at h1
        exact ⟨h1, h3⟩
      have r1 : (i : Int) < (N : Int) := by omega
      have r0 : (0 : Int) ≤ (i : Int) := by omega
      have s1 : ¬ (y : Int) < 0 := by omega
      have s2 : ¬ (N : Int) ≤ (y : Int) := by omega
      have s3 : ((y : Int) == (i : Int)) = false := by rw [beq_eq_false_iff_ne]; omega
      have HIN := Lib.hid hlt
      have HD0 : Hid (∀ W, Fr No wr W → W.cell? ⟨gd, i, none⟩ = some (.int .i64 (y : Int))) := fun W hf => hf.cell d0 id
      have HFR : Hid (Fr No wr wr) := Fr.refl _ _
      clear hy hyN hne hlt
      go_wp2_with (first
        | (go_at_call 19; (with_reducible refine (HLA.out _ (HFI.out.trans HFR.out)).mono ?_); rintro e w5 ⟨rfl, hf5⟩; have HFR := Lib.hid (HFR.out.trans hf5); have d0 := HD0.out _ HFR.out)
        | (go_at_call 19; (with_reducible refine (HLB.out _ (HFI.out.trans HFR.out)).mono ?_); rintro e w5 ⟨rfl, hf5⟩; have HFR := Lib.hid (HFR.out.trans hf5); have d0 := HD0.out _ HFR.out))
      go_roundw
      case rel => exact ⟨i + 1, by go_num, by omega, by have := HIN.out; omega, HFI.out.trans HFR.out⟩
      case measure => (have := HIN.out; simp [intOf] <;> omega)
    · obtain rfl : i = N := by omega
      clear hlt
      go_wp2_with fail
      have hn64 : n ≤ 64 := by have h1 := HW.out.most; rw [HNN.out] at h1; exact h1
      go_loopw [12, 13] (fun ov ix wr => ∃ (on : Bool) (pc : Nat), ov = .bool on ∧ ix = .int .i64 pc ∧ pc ≤ n ∧ Hid (on = true → ∀ q, q < pc → ∀ v ∈ nextM l q, q < v) ∧ Hid (Fr No w3 wr)) (fun _ ix _ => n - (intOf ix).toNat)
      case atStart => exact ⟨true, 0, rfl, rfl, Nat.zero_le _, fun _ q h => absurd h (Nat.not_lt_zero _), HFI.out⟩
      case round =>
        obtain ⟨on, pc, rfl, rfl, hpc, HON, HFP⟩ := hrel
        by_cases hlt : pc < n
        · have HNX : Hid (Calls Tryz.prog 18 #[.slice a0 n c0, .int .i64 pc] wr fun e w' => ∃ v', e = .returned v' ∧ NatsAt w' v' (nextM l pc) ∧ (∀ k, v'.ownBlock = some k → wr.heap.size ≤ k) ∧ Fr No wr w') := HW.out.any_next (by rw [HNN.out]; exact hlt) (HV.out.fr (HFW.out _ HFP.out)) HOK.out
          have HN2 := Lib.hid (nextM_len l pc)
          obtain ⟨L, hL⟩ : ∃ L, nextM l pc = L := ⟨_, rfl⟩
          rw [hL] at HNX HN2
          have HLE := Lib.hid hL
          have HPN := Lib.hid hlt
          have p1 : (pc : Int) < (n : Int) := by omega
          clear hL hlt
          go_wp2_with (go_at_call 18; (with_reducible refine (HNX.out).mono ?_); rintro e w5 ⟨v', rfl, nat, own, hf5⟩; obtain ⟨a5, c5, rfl⟩ := nat.form; have HNA := Lib.hid nat; have HF5 := Lib.hid hf5; clear nat own hf5)
          obtain ⟨q, hq⟩ : ∃ q, L.length = q := ⟨_, rfl⟩
          rw [hq]
          rw [hq] at HN2
          have HQ := Lib.hid hq
          have hq2 : q ≤ 2 := HN2.out
          clear hq
          go_loopw [12, 15] (fun ov ix wr' => ∃ (on' : Bool) (k : Nat), ov = .bool on' ∧ ix = .int .i64 k ∧ k ≤ q ∧ Hid (on' = true → on = true ∧ ∀ j x, j < k → L[j]? = some x → pc < x) ∧ Hid (Fr No w5 wr')) (fun _ ix _ => q - (intOf ix).toNat)
          case atStart => exact ⟨on, 0, rfl, rfl, Nat.zero_le _, fun h => ⟨h, fun j x h => absurd h (Nat.not_lt_zero _)⟩, Fr.refl _ _⟩
          case round =>
            obtain ⟨on', k, rfl, rfl, hk, HO2, HFK⟩ := hrel
            by_cases hlt : k < q
            · obtain ⟨x, hx⟩ : ∃ x, L[k]? = some x := ⟨L[k]'(by rw [HQ.out]; exact hlt), List.getElem?_eq_getElem _⟩
              have hnat := HNA.out
              rcases hnat with ⟨h1, _⟩ | ⟨g2, c2, h2, hc2⟩
              · rw [h1] at hx; simp at hx
              injection h2 with h2 h3 h4
              clear h3
              subst h2 h4
              have k0 := HFK.out.cell (i64_cell hc2 hx) id
              have HX := Lib.hid hx
              have HKQ := Lib.hid hlt
              clear hx hc2 hlt
              cases on' with
              | false =>
                go_wp2_with fail
                go_roundw
                case rel => exact ⟨false, k + 1, rfl, by go_num, by have := HKQ.out; omega, Lib.hid (fun h => absurd h (by simp)), HFK.out⟩
                case measure => (have := HKQ.out; simp [intOf] <;> omega)
              | true =>
                by_cases hgt : pc < x
                · have g5 : (pc : Int) < (x : Int) := by omega
                  have HGT := Lib.hid hgt
                  clear hgt
                  go_wp2_with fail
                  go_roundw
                  case rel =>
                    refine ⟨true, k + 1, rfl, by go_num, by have := HKQ.out; omega, fun _ => ⟨(HO2.out rfl).1, fun j z hj hz => ?_⟩, HFK.out⟩
                    by_cases e : j = k
                    · subst e
                      rw [HX.out] at hz
                      obtain rfl := Option.some.inj hz
                      exact HGT.out
                    · exact (HO2.out rfl).2 j z (by omega) hz
                  case measure => (have := HKQ.out; simp [intOf] <;> omega)
                · have g5 : ¬ (pc : Int) < (x : Int) := by omega
                  clear hgt
                  go_wp2_with fail
                  go_roundw
                  case rel => exact ⟨false, k + 1, by simp [g5], by go_num, by have := HKQ.out; omega, Lib.hid (fun h => absurd h (by simp)), HFK.out⟩
                  case measure => (have := HKQ.out; simp [intOf] <;> omega)
            · obtain rfl : k = q := by omega
              have HPQ := HPN.out
              clear hlt
              go_wp2_with fail
              go_roundw
              case rel =>
                refine ⟨on', pc + 1, rfl, by go_num, by omega, fun h p hp y hy => ?_, (HFP.out.trans HF5.out).trans HFK.out⟩
                by_cases e : p = pc
                · subst e
                  rw [HLE.out] at hy
                  obtain ⟨j, hj, rfl⟩ := List.getElem_of_mem hy
                  exact (HO2.out h).2 j _ (by rw [← HQ.out]; exact hj) (List.getElem?_eq_getElem hj)
                · exact HON.out (HO2.out h).1 p (by omega) y hy
              case measure => simp [intOf] <;> omega
        · obtain rfl : pc = n := by omega
          have HNIL : Hid (on = true → WL = []) := fun h => by
            rw [← HWLE.out, ← HBS.out]
            refine HW.out.noway (by rw [HBS.out, HN.out]; exact HDW.out) (fun q hq v hv => HON.out h q (by rw [← HNN.out]; exact hq) v hv)
          have HM0 : Hid (on = true → m = 0) := fun h => by rw [← HM.out, HNIL.out h]; rfl
          have HFL : Hid (Fr No w3 wr) := HFP
          clear hlt HON
          have q0 : on = true → ((m : Int) != 0) = false := fun h => by rw [HM0.out h]; rfl
          have HML : Hid (m ≤ 2 * i) := by
            have h := waysUp_len HG.out.n2 (bs := bs) (d := dw) bs.length
            have e : waysUp bs dw bs.length = WL := HWLE.out
            rw [e, HM.out, HN.out] at h
            exact Lib.hid h
          cases on
          · clear q0
            go_wp2_with fail
            go_loopw [16] (fun ix wr => ∃ j : Nat, ix = .int .i64 j ∧ j ≤ m ∧ Hid (Fr No w3 wr)) (fun ix _ => m - (intOf ix).toNat)
            case atStart => exact ⟨0, rfl, Nat.zero_le _, HFL.out⟩
            case round =>
              obtain ⟨j, rfl, hj, HFJ⟩ := hrel
              have hmb : m ≤ 2000 := by have := HML.out; omega
              by_cases hlt : j < m
              · obtain ⟨p, hp⟩ : ∃ p, WL[j]? = some p := ⟨WL[j]'(by rw [HM.out]; exact hlt), List.getElem?_eq_getElem _⟩
                have hpm : p ∈ waysM bs dw := by rw [HWLE.out]; exact List.mem_of_getElem? hp
                obtain ⟨h1, h2, h3⟩ := waysM_mem hpm
                rw [HN.out] at h1
                obtain ⟨gv, cv, hgw⟩ := ownsRow_form HOW.out (by omega)
                injection hgw with hg1 hg2 hg3
                clear hg2
                subst hg1 hg3
                obtain ⟨x1, x2⟩ := pflat_get hp
                have hco := ownsRow_cells HOW.out
                have k1 : wr.cell? ⟨gv, j * 2, none⟩ = some (.int .i64 (p.1 : Int)) := HFJ.out.cell (by have := hco.1 _ _ x1; rwa [Nat.zero_add] at this) id
                have k2 : wr.cell? ⟨gv, j * 2 + 1, none⟩ = some (.int .i64 (p.2 : Int)) := HFJ.out.cell (by have := hco.1 _ _ x2; rwa [Nat.zero_add] at this) id
                have HL4 : Hid (∀ W, Fr No wr W → Calls Tryz.prog 19 #[.slice (some ⟨gb, 0, none⟩) i cb, .int .i64 (p.1 : Int), .int .i64 (p.2 : Int)] W fun e w' => e = .returned (.bool false) ∧ Fr No W w') := fun W hf => (HLED.out gb cb W p.1 (p.2 : Int) (HBB.out W (HFJ.out.trans hf)) h1).mono fun e w' h => by
                  obtain ⟨r, h4, h5, h6⟩ := h
                  have : r = false := by
                    cases r with
                    | false => rfl
                    | true => exact absurd (h5.1 rfl) (up_not HDW.out h1 h3)
                  rw [this] at h4
                  exact ⟨h4, h6⟩
                have s0 : ¬ (p.1 : Int) < 0 := by omega
                have s1 : ¬ (i : Int) ≤ (p.1 : Int) := by omega
                have s0q : decide ((p.1 : Int) < 0) = false := decide_eq_false s0
                have s1n : decide (i ≤ p.1) = false := decide_eq_false (by omega)
                have s1q : decide ((i : Int) ≤ (p.1 : Int)) = false := decide_eq_false s1
                have r1 : (j : Int) < (m : Int) := by omega
                have r0 : (0 : Int) ≤ (j : Int) := by omega
                have HJM := Lib.hid hlt
                generalize p.1 = pa at *
                generalize p.2 = pb at *
                clear hp hpm h1 h2 h3 x1 x2 hco hlt
                have HK : Hid (∀ W, Hid (Fr No wr W) → (W.cell? ⟨gv, j * 2, none⟩ = some (.int .i64 (pa : Int)) ∧ W.cell? ⟨gv, j * 2 + 1, none⟩ = some (.int .i64 (pb : Int)) ∧ Hid (Fr No wr W))) := fun W h => ⟨h.out.cell k1 id, h.out.cell k2 id, h⟩
                have HFX : Hid (Fr No wr wr.drew) := (Fr.refl _ _).drew
                have H0 := HK.out _ HFX
                go_wp2_with fail
                go_region_held3 (fun W => W.cell? ⟨gv, j * 2, none⟩ = some (.int .i64 (pa : Int)) ∧ W.cell? ⟨gv, j * 2 + 1, none⟩ = some (.int .i64 (pb : Int)) ∧ Hid (Fr No wr W)) (first | assumption | exact HK.out _ (by assumption)) (first | (go_at_call 19; refine (HL4.out _ (Hid.out (by assumption : Hid (Fr No wr _)))).mono ?_; rintro e w5 ⟨rfl, hf5⟩; have HF5 : Hid (Fr No wr w5) := Lib.hid (Fr.trans (Hid.out (by assumption : Hid (Fr No wr _))) hf5)))
                have HF6 : Hid (Fr No w3 w5) := HFJ.out.trans HF5.out
                clear k1 k2
                go_wp2_with fail
                go_roundw
                case rel => exact ⟨j + 1, by go_num, by have := HJM.out; omega, HF6.out⟩
                case measure => (have := HJM.out; simp [intOf] <;> omega)
              · obtain rfl : j = m := by omega
                clear hlt
                go_wp2_with (go_at_call 6; (with_reducible refine (HCH.out _ (HFW.out _ HFJ.out)).mono ?_); rintro e w8 ⟨rfl, hf8⟩)
                go_ret
                exact ⟨rfl, (HFW.out _ HFJ.out).trans hf8⟩
          · have q1 := q0 rfl
            clear q0
            go_wp2_with fail
            go_loopw [16] (fun ix wr => ∃ j : Nat, ix = .int .i64 j ∧ j ≤ m ∧ Hid (Fr No w3 wr)) (fun ix _ => m - (intOf ix).toNat)
            case atStart => exact ⟨0, rfl, Nat.zero_le _, HFL.out⟩
            case round =>
              obtain ⟨j, rfl, hj, HFJ⟩ := hrel
              have hmb : m ≤ 2000 := by have := HML.out; omega
              by_cases hlt : j < m
              · obtain ⟨p, hp⟩ : ∃ p, WL[j]? = some p := ⟨WL[j]'(by rw [HM.out]; exact hlt), List.getElem?_eq_getElem _⟩
                have hpm : p ∈ waysM bs dw := by rw [HWLE.out]; exact List.mem_of_getElem? hp
                obtain ⟨h1, h2, h3⟩ := waysM_mem hpm
                rw [HN.out] at h1
                obtain ⟨gv, cv, hgw⟩ := ownsRow_form HOW.out (by omega)
                injection hgw with hg1 hg2 hg3
                clear hg2
                subst hg1 hg3
                obtain ⟨x1, x2⟩ := pflat_get hp
                have hco := ownsRow_cells HOW.out
                have k1 : wr.cell? ⟨gv, j * 2, none⟩ = some (.int .i64 (p.1 : Int)) := HFJ.out.cell (by have := hco.1 _ _ x1; rwa [Nat.zero_add] at this) id
                have k2 : wr.cell? ⟨gv, j * 2 + 1, none⟩ = some (.int .i64 (p.2 : Int)) := HFJ.out.cell (by have := hco.1 _ _ x2; rwa [Nat.zero_add] at this) id
                have HL4 : Hid (∀ W, Fr No wr W → Calls Tryz.prog 19 #[.slice (some ⟨gb, 0, none⟩) i cb, .int .i64 (p.1 : Int), .int .i64 (p.2 : Int)] W fun e w' => e = .returned (.bool false) ∧ Fr No W w') := fun W hf => (HLED.out gb cb W p.1 (p.2 : Int) (HBB.out W (HFJ.out.trans hf)) h1).mono fun e w' h => by
                  obtain ⟨r, h4, h5, h6⟩ := h
                  have : r = false := by
                    cases r with
                    | false => rfl
                    | true => exact absurd (h5.1 rfl) (up_not HDW.out h1 h3)
                  rw [this] at h4
                  exact ⟨h4, h6⟩
                have s0 : ¬ (p.1 : Int) < 0 := by omega
                have s1 : ¬ (i : Int) ≤ (p.1 : Int) := by omega
                have s0q : decide ((p.1 : Int) < 0) = false := decide_eq_false s0
                have s1n : decide (i ≤ p.1) = false := decide_eq_false (by omega)
                have s1q : decide ((i : Int) ≤ (p.1 : Int)) = false := decide_eq_false s1
                have r1 : (j : Int) < (m : Int) := by omega
                have r0 : (0 : Int) ≤ (j : Int) := by omega
                have HJM := Lib.hid hlt
                generalize p.1 = pa at *
                generalize p.2 = pb at *
                clear hp hpm h1 h2 h3 x1 x2 hco hlt
                have HK : Hid (∀ W, Hid (Fr No wr W) → (W.cell? ⟨gv, j * 2, none⟩ = some (.int .i64 (pa : Int)) ∧ W.cell? ⟨gv, j * 2 + 1, none⟩ = some (.int .i64 (pb : Int)) ∧ Hid (Fr No wr W))) := fun W h => ⟨h.out.cell k1 id, h.out.cell k2 id, h⟩
                have HFX : Hid (Fr No wr wr.drew) := (Fr.refl _ _).drew
                have H0 := HK.out _ HFX
                go_wp2_with fail
                go_region_held3 (fun W => W.cell? ⟨gv, j * 2, none⟩ = some (.int .i64 (pa : Int)) ∧ W.cell? ⟨gv, j * 2 + 1, none⟩ = some (.int .i64 (pb : Int)) ∧ Hid (Fr No wr W)) (first | assumption | exact HK.out _ (by assumption)) (first | (go_at_call 19; refine (HL4.out _ (Hid.out (by assumption : Hid (Fr No wr _)))).mono ?_; rintro e w5 ⟨rfl, hf5⟩; have HF5 : Hid (Fr No wr w5) := Lib.hid (Fr.trans (Hid.out (by assumption : Hid (Fr No wr _))) hf5)))
                have HF6 : Hid (Fr No w3 w5) := HFJ.out.trans HF5.out
                clear k1 k2
                go_wp2_with fail
                go_roundw
                case rel => exact ⟨j + 1, by go_num, by have := HJM.out; omega, HF6.out⟩
                case measure => (have := HJM.out; simp [intOf] <;> omega)
              · obtain rfl : j = m := by omega
                clear hlt
                go_wp2_with (go_at_call 6; (with_reducible refine (HCH.out _ (HFW.out _ HFJ.out)).mono ?_); rintro e w8 ⟨rfl, hf8⟩)
                go_ret
                exact ⟨rfl, (HFW.out _ HFJ.out).trans hf8⟩
end Go.Proofs.YtakcdecljfmckaaGreatDoor
