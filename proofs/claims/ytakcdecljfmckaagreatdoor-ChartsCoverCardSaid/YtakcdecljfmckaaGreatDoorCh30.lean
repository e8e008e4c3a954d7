/- ChartsCover. -/
import Derived.Test.YtakcdecljfmckaaGreatDoorCh29
set_option linter.all false
set_option linter.unusedVariables false
set_option linter.unusedSimpArgs false
namespace Go.Proofs.YtakcdecljfmckaaGreatDoor
open Go.RowKit

set_option maxRecDepth 100000 in
set_option maxHeartbeats 8000000 in
theorem ccover_any (l : List Ins) (v : Value) (maps : Int) (w : World) (hv : InsAt w v l) (hok : ∀ i ∈ l, i.ok) (hT : LT w) : Calls Tryz.prog 4 #[v, .int .i64 maps] w fun e w' => e = .returned (.bool true) ∧ Fr No w w' := by
  have HCH : Hid (∀ W, Fr No w W → Calls Tryz.prog 6 #[] W fun e w' => e = .returned (.bool true) ∧ Fr No W w') := fun W hf => charted_any W (hT.fr hf)
  obtain ⟨a0, c0, rfl⟩ := hv.form
  by_cases hbig : 64 < l.length
  · obtain ⟨n, hn⟩ : ∃ n, l.length = n := ⟨_, rfl⟩
    rw [hn] at hbig ⊢
    have g0 : (64 : Int) < (n : Int) := by omega
    clear hv hok hT hn hbig
    go_enter Tryz.func4, Tryz.ntmps4
    go_wp2_with (go_at_call 6; (with_reducible refine (HCH.out _ (Fr.refl _ _)).mono ?_); rintro e w1 ⟨rfl, hf1⟩)
    go_ret
    exact ⟨rfl, hf1⟩
  have hl : l.length ≤ 100000 := by omega
  have g0 : ¬ (64 : Int) < (l.length : Int) := by omega
  have HB : Hid (∀ W, Fr No w W → Calls Tryz.prog 7 #[.slice a0 l.length c0, .int .i64 maps] W (BlocksTo l maps W)) := fun W hf => blocks_any l _ maps W (hv.fr hf) hok hl
  unfold BlocksTo at HB
  have HV := Lib.hid hv
  have HOK := Lib.hid hok
  obtain ⟨q2, hq2⟩ : ∃ q, (checkM l maps false).2 = q := ⟨_, rfl⟩
  rw [hq2] at HB
  by_cases hz : q2 = 0
  case neg =>
    have e1 : (q2 != 0) = true := by simpa using hz
    have HB1 : Hid (∀ W, Fr No w W → Calls Tryz.prog 7 #[.slice a0 l.length c0, .int .i64 maps] W fun e w' => e = .returned (.tuple #[.slice none 0 0, .int .i64 q2]) ∧ Fr No W w') := fun W hf => (HB.out W hf).mono fun e w' h => by
      rcases h with ⟨-, h2⟩ | ⟨h1, -⟩
      · exact h2
      · exact absurd h1 hz
    clear HB hv hok hl hT hq2 hz hbig
    have HF : Hid (Fr No w w) := Fr.refl _ _
    go_enter Tryz.func4, Tryz.ntmps4
    go_wp2_with (first
      | (go_at_call 7; (with_reducible refine (HB1.out _ HF.out).mono ?_); rintro e w1 ⟨rfl, hf1⟩; have HF := Lib.hid (HF.out.trans hf1))
      | (go_at_call 6; (with_reducible refine (HCH.out _ HF.out).mono ?_); rintro e w1 ⟨rfl, hf1⟩; have HF := Lib.hid (HF.out.trans hf1)))
    go_ret
    exact ⟨rfl, HF.out⟩
  subst hz
  have HW : Hid (Whole l maps) := whole hq2
  obtain ⟨gi, oi, ha0⟩ : ∃ g o, a0 = some ⟨g, o, none⟩ := by
    rcases HV.out with ⟨h1, h2⟩ | ⟨g, off, cap, h1, hc⟩
    · have := HW.out.pos; rw [h1] at this; exact absurd this (Nat.lt_irrefl 0)
    · injection h1 with h1 _ _
      exact ⟨g, off, h1⟩
  subst ha0
  have HTB : Hid (BTiles 0 (blocksM l) l.length) := HW.out.btiles
  have HTI : Hid (∀ i b, (blocksM l)[i]? = some b → ∃ la, Tile l (blocksM l) i b la) := fun i b hb => HW.out.tile hb
  have hG : (blocksM l).length ≤ 1000 := HW.out.graph.len
  obtain ⟨bs, hbs⟩ : ∃ bs, blocksM l = bs := ⟨_, rfl⟩
  rw [hbs] at HB HTB HTI hG
  obtain ⟨N, hN⟩ : ∃ N, bs.length = N := ⟨_, rfl⟩
  have HN := Lib.hid hN
  rw [hN] at hG
  have HB1 : Hid (∀ W, Fr No w W → Calls Tryz.prog 7 #[.slice (some ⟨gi, oi, none⟩) l.length c0, .int .i64 maps] W fun e w' => ∃ g c, e = .returned (.tuple #[.slice (some ⟨g, 0, none⟩) N c, .int .i64 0]) ∧ BlksAt w' (.slice (some ⟨g, 0, none⟩) N c) bs ∧ Fr No W w') := fun W hf => (HB.out W hf).mono fun e w' h => by
    rcases h with ⟨h1, -⟩ | ⟨-, bv, h2, h3, h4⟩
    · exact absurd rfl h1
    · obtain ⟨g, c, rfl⟩ := h3.form
      rw [hN] at h2 h3
      exact ⟨g, c, h2, h3, h4⟩
  have hn64 : l.length ≤ 64 := by omega
  have HIX : Hid (∀ W, Fr No w W → ∀ pc : Nat, pc < l.length → Calls Tryz.prog 18 #[.slice (some ⟨gi, oi, none⟩) l.length c0, .int .i64 (pc : Int)] W fun e w' => ∃ v', e = .returned v' ∧ NatsAt w' v' (nextM l pc) ∧ (∀ k, v'.ownBlock = some k → W.heap.size ≤ k) ∧ Fr No W w') := fun W hf pc hpc => HW.out.any_next hpc (HV.out.fr hf) HOK.out
  have HOP : Hid (∀ W, Fr No w W → ∀ pc : Nat, pc < l.length → W.cell? ⟨gi, oi + pc * 5, none⟩ = some (.int .u8 (insAt l pc).op)) := fun W hf pc hpc => by
    rcases HV.out with ⟨h1, h2⟩ | ⟨g, off, cap, h1, hc⟩
    · rw [h1] at hpc; exact absurd hpc (Nat.not_lt_zero _)
    · injection h1 with h1 _ _
      injection h1 with h1
      injection h1 with h1 h2 _
      subst h1 h2
      exact (ins_cells (hf.cells hc id) hpc).1
  clear HB hv hok hl hT hq2 hbig hbs hN
  obtain ⟨n, hn⟩ : ∃ n, l.length = n := ⟨_, rfl⟩
  have HNN := Lib.hid hn
  rw [hn] at g0 HB1 HTB HIX HOP hn64 ⊢
  clear hn
  have HF : Hid (Fr No w w) := Fr.refl _ _
  go_enter Tryz.func4, Tryz.ntmps4
  go_wp2_with (go_at_call 7; (with_reducible refine (HB1.out _ HF.out).mono ?_); rintro e w1 ⟨gb, cb, rfl, hb, hf1⟩; have HF1 := Lib.hid hf1; have HBK := Lib.hid hb; clear hf1 hb)
  have HAT : Hid (∀ W, Fr No w1 W → ∀ pc : Int, Calls Tryz.prog 13 #[.slice (some ⟨gb, 0, none⟩) N cb, .int .i64 pc] W fun e w' => e = .returned (.int .i64 (atB bs pc)) ∧ Fr No W w') := fun W hf pc => by
    refine at_row gb N cb pc bs W HN.out (by omega) (fun k b hk => ?_)
    obtain ⟨g, c, h1, h2⟩ := HBK.out.fr hf
    injection h1 with h1 _ _
    injection h1 with h1
    injection h1 with h1 _ _
    subst h1
    obtain ⟨x1, x2, nv, x3, -⟩ := h2 k b hk
    exact ⟨x1, x2, nv, x3⟩
  have HCE : Hid (∀ W, Fr No w1 W → ∀ k b, bs[k]? = some b → BlkCells W gb k b) := fun W hf k b hk => by
    obtain ⟨g, c, h1, h2⟩ := HBK.out.fr hf
    injection h1 with h1 _ _
    injection h1 with h1
    injection h1 with h1 _ _
    subst h1
    exact h2 k b hk
  clear HB1 HBK
  go_loopw [7, 8] (fun av ix wr => ∃ i a : Nat, av = .int .i64 a ∧ ix = .int .i64 i ∧ i ≤ N ∧ Hid (BTiles a (bs.drop i) n) ∧ Hid (Fr No w1 wr)) (fun _ ix _ => N - (intOf ix).toNat)
  case atStart => exact ⟨0, 0, rfl, rfl, Nat.zero_le _, HTB.out, Fr.refl _ _⟩
  case round =>
    obtain ⟨i, a, rfl, rfl, hi, HBT, HFI⟩ := hrel
    by_cases hlt : i < N
    · obtain ⟨b, hb⟩ : ∃ b, bs[i]? = some b := ⟨bs[i]'(by rw [HN.out]; exact hlt), List.getElem?_eq_getElem _⟩
      obtain ⟨la, ht⟩ := HTI.out i b hb
      obtain ⟨ha, hbt⟩ := HBT.out.at hb
      subst ha
      have HTL := Lib.hid ht
      have HBT2 := Lib.hid hbt
      have HIN := Lib.hid hlt
      have HCI : Hid (∀ W, Fr No w1 W → BlkCells W gb i b) := fun W hf => HCE.out W hf i b hb
      have HPN : Hid (b.next.length ≤ (nextM l la).length) := ht.nl
      have hft : b.fr < b.to := ht.lt
      have hto : b.to ≤ n := by have := ht.le; rw [HNN.out] at this; exact this
      have HFT := Lib.hid (And.intro hft hto)
      have HON : Hid (∀ pc ∈ starts l, b.fr ≤ pc → pc < b.to → behM l pc < b.to → behM l pc ∈ starts l ∧ nextM l pc = [behM l pc]) := ht.on
      have HOFF : Hid (∀ pc ∈ starts l, b.fr ≤ pc → pc < b.to → ¬ behM l pc < b.to → pc = la ∧ behM l pc = b.to) := ht.off
      have HHERE : Hid (∀ pc : Nat, b.fr ≤ pc → pc < b.to → atB bs (pc : Int) = (i : Int)) := ht.here
      have HST : Hid (b.fr ∈ starts l) := ht.st
      have HLA : Hid (la < n) := by have := starts_lt ht.las; rw [HNN.out] at this; exact Lib.hid this
      have HNX : Hid (∀ v ∈ nextM l la, ∃ (m : Nat) (d : Blk), bs[m]? = some d ∧ d.fr = v ∧ atB bs (v : Int) = (m : Int) ∧ m ∈ b.next) := ht.nx
      clear hb ht hbt hlt HTL HBT
      obtain ⟨L2, hL2⟩ : ∃ L2, b.next = L2 := ⟨_, rfl⟩
      rw [hL2] at HPN HNX
      obtain ⟨fr, hfr⟩ : ∃ fr, b.fr = fr := ⟨_, rfl⟩
      rw [hfr]
      obtain ⟨te, hto2⟩ : ∃ te, b.to = te := ⟨_, rfl⟩
      have HC3 : Hid (∀ W, Fr No w1 W → W.cell? ⟨gb, i * 3, none⟩ = some (.int .i64 (fr : Int)) ∧ W.cell? ⟨gb, i * 3 + 1, none⟩ = some (.int .i64 (te : Int)) ∧ True) := fun W hf => by
        obtain ⟨x1, x2, -⟩ := HCI.out W hf
        rw [hfr] at x1
        rw [hto2] at x2
        exact ⟨x1, x2, trivial⟩
      obtain ⟨-, -, nv, x3, x4⟩ := HCI.out w1 (Fr.refl _ _)
      rw [hL2] at x4
      have HNV : Hid (∀ W, Fr No w1 W → W.cell? ⟨gb, i * 3 + 2, none⟩ = some nv ∧ NatsAt W nv L2) := fun W hf => ⟨hf.cell x3 id, x4.fr hf⟩
      rw [hfr, hto2] at hft HON HOFF HFT HHERE
      rw [hto2] at hto HBT2
      rw [hfr] at HST
      clear HCI hfr hto2 hL2 x3 x4
      obtain ⟨z0, z1, zt⟩ := HC3.out _ HFI.out
      have q1 : ((fr : Int) != (fr : Int)) = false := by simp
      have q2 : ¬ (te : Int) ≤ (fr : Int) := by omega
      have q2q : decide ((te : Int) ≤ (fr : Int)) = false := decide_eq_false q2
      have q2n : decide (te ≤ fr) = false := decide_eq_false (by omega)
      have s1 : (i : Int) < (N : Int) := by have := HIN.out; omega
      have s0 : (0 : Int) ≤ (i : Int) := by omega
      go_wp2_with fail
      have HFJ : Hid (Fr No w1 wr) := HFI
      go_loopw [9] (fun pv wr' => ∃ pc : Nat, pv = .int .i64 pc ∧ fr ≤ pc ∧ pc ≤ te ∧ Hid (Fr No w1 wr')) (fun pv _ => te - (intOf pv).toNat)
      case atStart => exact ⟨fr, rfl, Nat.le_refl _, Nat.le_of_lt HFT.out.1, HFJ.out⟩
      case round =>
        obtain ⟨pc, rfl, hp1, hp2, HFP⟩ := hrel
        obtain ⟨z0, z1, zt⟩ := HC3.out _ HFP.out
        by_cases hlt : pc < te
        · have HA : Hid (Calls Tryz.prog 13 #[.slice (some ⟨gb, 0, none⟩) N cb, .int .i64 (pc : Int)] wr fun e w' => e = .returned (.int .i64 (i : Int)) ∧ Fr No wr w') := by
            have := HAT.out wr HFP.out (pc : Int)
            rw [HHERE.out pc hp1 hlt] at this
            exact this
          have p1 : (pc : Int) < (te : Int) := by omega
          have q3 : ((i : Int) != (i : Int)) = false := by simp
          have HPT := Lib.hid hlt
          clear hlt
          go_wp2_with (go_at_call 13; (with_reducible refine (HA.out).mono ?_); rintro e w5 ⟨rfl, hf5⟩; have HF5 := Lib.hid (HFP.out.trans hf5))
          go_roundw
          case rel => exact ⟨pc + 1, by go_num, by omega, by have := HPT.out; omega, HF5.out⟩
          case measure => (have := HPT.out; simp [intOf] <;> omega)
        · obtain rfl : te = pc := by omega
          clear hlt
          go_wp2_with fail
          go_loopw [10, 11] (fun lv pv wr' => ∃ x pc : Nat, lv = .int .i64 x ∧ pv = .int .i64 pc ∧ fr ≤ pc ∧ pc ≤ te ∧ Hid (pc < te → pc ∈ starts l) ∧ Hid (pc = te → x = la) ∧ Hid (Fr No w1 wr')) (fun _ pv _ => te - (intOf pv).toNat)
          case atStart => exact ⟨fr, fr, rfl, rfl, Nat.le_refl _, Nat.le_of_lt HFT.out.1, fun _ => HST.out, fun h => by have := HFT.out.1; omega, HFP.out⟩
          case round =>
            obtain ⟨x, pc, rfl, rfl, hp1, hp2, HS, HX, HFQ⟩ := hrel
            obtain ⟨z0, z1, zt⟩ := HC3.out _ HFQ.out
            have hn64' := hn64
            by_cases hlt : pc < te
            · have hs := HS.out hlt
              have hpn : pc < n := by omega
              have k0 := HOP.out wr (HF1.out.trans HFQ.out) pc hpn
              have HNT := Lib.hid (HIX.out wr (HF1.out.trans HFQ.out) pc hpn)
              have p1 : (pc : Int) < (te : Int) := by omega
              have p0 : (0 : Int) ≤ (pc : Int) := by omega
              have pn : (pc : Int) < (n : Int) := by omega
              have w1' : wrap64 ((pc : Int) + 1) = ((pc + 1 : Nat) : Int) := by rw [IntWalk.wrap64_in _ (by omega)]; omega
              have w2' : wrap64 (((pc + 1 : Nat) : Int) + 1) = ((pc + 2 : Nat) : Int) := by rw [IntWalk.wrap64_in _ (by omega)]; omega
              have HPT := Lib.hid hlt
              have HP1 := Lib.hid hp1
              by_cases hb : behM l pc < te
              · obtain ⟨hs2, hn1⟩ := HON.out pc hs hp1 hlt hb
                rw [hn1] at HNT
                obtain ⟨z, hz⟩ : ∃ z, behM l pc = z := ⟨_, rfl⟩
                rw [hz] at HNT hb hs2
                have HN1 : Hid (Calls Tryz.prog 18 #[.slice (some ⟨gi, oi, none⟩) n c0, .int .i64 (pc : Int)] wr fun e w' => ∃ g c, e = .returned (.slice (some ⟨g, 0, none⟩) 1 c) ∧ w'.cell? ⟨g, 0, none⟩ = some (.int .i64 (z : Int)) ∧ Fr No wr w') := HNT.out.mono fun e w' h => by
                  obtain ⟨v', h1, h2, -, h4⟩ := h
                  rcases h2 with ⟨h5, -⟩ | ⟨g, c, h5, h6⟩
                  · simp at h5
                  · exact ⟨g, c, by rw [h1, h5]; rfl, i64_cell h6 (k := 0) (x := z) rfl, h4⟩
                have HS2 := Lib.hid hs2
                have HBZ := Lib.hid hb
                have b1 : (z : Int) < (te : Int) := by omega
                have q4 : ((z : Int) != (z : Int)) = false := by simp
                have HPZ : Hid (pc < z) := by rw [← hz]; exact (behM_pos l pc).1
                by_cases h24 : (insAt l pc).op = 24
                · obtain rfl : z = pc + 2 := by rw [← hz]; unfold behM sizeM; rw [if_pos h24]
                  rw [h24] at k0
                  clear HNT hn1 hs2 hz hb hs hlt h24 hp1 hpn hn64'
                  go_wp2_with (go_at_call 18; (with_reducible refine (HN1.out).mono ?_); rintro e w5 ⟨g5, c5, rfl, k5, hf5⟩; have HF5 := Lib.hid (HFQ.out.trans hf5); clear hf5; obtain ⟨z0, z1, zt⟩ := HC3.out _ HF5.out)
                  go_roundw
                  case rel => exact ⟨pc, pc + 2, rfl, by go_num, by have := HP1.out; omega, Nat.le_of_lt HBZ.out, fun _ => HS2.out, fun h => by have := HBZ.out; omega, HF5.out⟩
                  case measure => (have := HPT.out; have := HBZ.out; simp [intOf] <;> omega)
                · obtain rfl : z = pc + 1 := by rw [← hz]; unfold behM sizeM; rw [if_neg h24]
                  have q24 : (((insAt l pc).op : Int) == 24) = false := by rw [beq_eq_false_iff_ne]; omega
                  generalize (insAt l pc).op = o at *
                  clear HNT hn1 hs2 hz hb hs hlt h24 hp1 hpn hn64'
                  go_wp2_with (go_at_call 18; (with_reducible refine (HN1.out).mono ?_); rintro e w5 ⟨g5, c5, rfl, k5, hf5⟩; have HF5 := Lib.hid (HFQ.out.trans hf5); clear hf5; obtain ⟨z0, z1, zt⟩ := HC3.out _ HF5.out)
                  go_roundw
                  case rel => exact ⟨pc, pc + 1, rfl, by go_num, by have := HP1.out; omega, Nat.le_of_lt HBZ.out, fun _ => HS2.out, fun h => by have := HBZ.out; omega, HF5.out⟩
                  case measure => (have := HPT.out; have := HBZ.out; simp [intOf] <;> omega)
              · obtain ⟨hla, hzt⟩ := HOFF.out pc hs hp1 hlt hb
                have HPL := Lib.hid hla
                have HN1 : Hid (Calls Tryz.prog 18 #[.slice (some ⟨gi, oi, none⟩) n c0, .int .i64 (pc : Int)] wr fun e w' => ∃ a m c, e = .returned (.slice a m c) ∧ Fr No wr w') := HNT.out.mono fun e w' h => by
                  obtain ⟨v', h1, h2, -, h4⟩ := h
                  obtain ⟨a, c, h5⟩ := h2.form
                  exact ⟨a, _, c, by rw [h1, h5], h4⟩
                have b1 : ¬ (te : Int) < (te : Int) := by omega
                have b1q : decide ((te : Int) < (te : Int)) = false := decide_eq_false b1
                by_cases h24 : (insAt l pc).op = 24
                · have hz2 : pc + 2 = te := by rw [← hzt]; unfold behM sizeM; rw [if_pos h24]
                  have HZ2 := Lib.hid hz2
                  have b2 : ¬ ((pc : Int) + 1 + 1 < (te : Int)) := by omega
                  have b2q : decide ((pc : Int) + 1 + 1 < (te : Int)) = false := decide_eq_false b2
                  rw [h24] at k0
                  clear HNT hb hs hlt h24 hp1 hpn hn64' hla hzt hz2 b1 b1q
                  go_wp2_with (go_at_call 18; (with_reducible refine (HN1.out).mono ?_); rintro e w5 ⟨g5, m5, c5, rfl, hf5⟩; have HF5 := Lib.hid (HFQ.out.trans hf5); clear hf5; obtain ⟨z0, z1, zt⟩ := HC3.out _ HF5.out)
                  go_roundw
                  case rel => exact ⟨pc, te, rfl, congrArg (Value.int .i64) (by have := HZ2.out; omega), Nat.le_of_lt HFT.out.1, Nat.le_refl _, fun h => absurd h (Nat.lt_irrefl _), fun _ => HPL.out, HF5.out⟩
                  case measure => (have := HPT.out; have := HZ2.out; simp [intOf] <;> omega)
                · have hz2 : pc + 1 = te := by rw [← hzt]; unfold behM sizeM; rw [if_neg h24]
                  have q24 : (((insAt l pc).op : Int) == 24) = false := by rw [beq_eq_false_iff_ne]; omega
                  generalize (insAt l pc).op = o at *
                  have HZ2 := Lib.hid hz2
                  have b2 : ¬ ((pc : Int) + 1 < (te : Int)) := by omega
                  have b2q : decide ((pc : Int) + 1 < (te : Int)) = false := decide_eq_false b2
                  clear HNT hb hs hlt h24 hp1 hpn hn64' hla hzt hz2 w2' b1 b1q
                  go_wp2_with (go_at_call 18; (with_reducible refine (HN1.out).mono ?_); rintro e w5 ⟨g5, m5, c5, rfl, hf5⟩; have HF5 := Lib.hid (HFQ.out.trans hf5); clear hf5; obtain ⟨z0, z1, zt⟩ := HC3.out _ HF5.out)
                  go_roundw
                  case rel => exact ⟨pc, te, rfl, congrArg (Value.int .i64) (by have := HZ2.out; omega), Nat.le_of_lt HFT.out.1, Nat.le_refl _, fun h => absurd h (Nat.lt_irrefl _), fun _ => HPL.out, HF5.out⟩
                  case measure => (have := HPT.out; have := HZ2.out; simp [intOf] <;> omega)
            · obtain rfl : te = pc := by omega
              obtain rfl := HX.out rfl
              have HNT := Lib.hid (HIX.out wr (HF1.out.trans HFQ.out) x HLA.out)
              have HL2N := Lib.hid (nextM_len l x)
              obtain ⟨L1, hL1⟩ : ∃ L1, nextM l x = L1 := ⟨_, rfl⟩
              rw [hL1] at HNT HPN HNX HL2N
              obtain ⟨q, hq⟩ : ∃ q, L1.length = q := ⟨_, rfl⟩
              rw [hq] at HPN HL2N
              have HQ := Lib.hid hq
              obtain ⟨p, hp⟩ : ∃ p, L2.length = p := ⟨_, rfl⟩
              rw [hp] at HPN
              have HP := Lib.hid hp
              have HN1 : Hid (Calls Tryz.prog 18 #[.slice (some ⟨gi, oi, none⟩) n c0, .int .i64 (x : Int)] wr fun e w' => ∃ a c, e = .returned (.slice a q c) ∧ NatsAt w' (.slice a q c) L1 ∧ Fr No wr w') := HNT.out.mono fun e w' h => by
                obtain ⟨v', h1, h2, -, h4⟩ := h
                obtain ⟨a, c, h5⟩ := h2.form
                rw [hq] at h5
                subst h5
                exact ⟨a, c, h1, h2, h4⟩
              obtain ⟨a6, c6, hnv⟩ := (HNV.out w1 (Fr.refl _ _)).2.form
              rw [hp] at hnv
              subst hnv
              clear hlt HNT hL1 hq hp HS HX
              go_wp2_with (go_at_call 18; (with_reducible refine (HN1.out).mono ?_); rintro e w6 ⟨a5, c5, rfl, nat, hf6⟩; have HNA := Lib.hid nat; have HF6 := Lib.hid (HFQ.out.trans hf6); clear nat hf6)
              clear z0 z1 zt
              go_loopw [15] (fun kv wr' => ∃ k : Nat, kv = .int .i64 k ∧ k ≤ q ∧ Hid (Fr No w6 wr')) (fun kv _ => q - (intOf kv).toNat)
              case atStart => exact ⟨0, rfl, Nat.zero_le _, Fr.refl _ _⟩
              case round =>
                obtain ⟨k, rfl, hk, HFK⟩ := hrel
                have hq2 : q ≤ 2 := HL2N.out
                by_cases hlt : k < q
                · obtain ⟨y, hy⟩ : ∃ y, L1[k]? = some y := ⟨L1[k]'(by rw [HQ.out]; exact hlt), List.getElem?_eq_getElem _⟩
                  obtain ⟨m, d, hd, hdx, hat, hmem⟩ := HNX.out y (List.mem_of_getElem? hy)
                  have hnat := HNA.out
                  rcases hnat with ⟨h1, _⟩ | ⟨g2, c2, h2, hc2⟩
                  · rw [h1] at hy; simp at hy
                  injection h2 with h2 h3 h4
                  clear h3
                  subst h2 h4
                  have HK0 : Hid (∀ W, Fr No w6 W → W.cell? ⟨g2, k, none⟩ = some (.int .i64 (y : Int))) := fun W hf => hf.cell (i64_cell hc2 hy) id
                  have HA : Hid (Calls Tryz.prog 13 #[.slice (some ⟨gb, 0, none⟩) N cb, .int .i64 (y : Int)] wr fun e w' => e = .returned (.int .i64 (m : Int)) ∧ Fr No wr w') := by
                    have := HAT.out wr (HF6.out.trans HFK.out) (y : Int)
                    rw [hat] at this
                    exact this
                  have hmN : m < N := by rw [← HN.out]; exact (List.getElem?_eq_some_iff.1 hd).1
                  have HMN := Lib.hid hmN
                  have HD0 : Hid (∀ W, Fr No w1 W → W.cell? ⟨gb, m * 3, none⟩ = some (.int .i64 (y : Int))) := fun W hf => by
                    have h := (HCE.out W hf m d hd).1
                    rw [hdx] at h
                    exact h
                  have HMEM := Lib.hid hmem
                  have k0 := HK0.out _ HFK.out
                  have p1 : (k : Int) < (q : Int) := by omega
                  have p0 : (0 : Int) ≤ (k : Int) := by omega
                  have HKQ := Lib.hid hlt
                  clear hy hd hdx hat hmem hc2 hlt hmN
                  go_wp2_with (go_at_call 13; (with_reducible refine (HA.out).mono ?_); rintro e w7 ⟨rfl, hf7⟩; have HF7 := Lib.hid (HFK.out.trans hf7); clear hf7)
                  clear k0
                  go_loopw [17, 18] (fun tv jv wr' => ∃ (t : Bool) (j : Nat), tv = .bool t ∧ jv = .int .i64 j ∧ j ≤ p ∧ Hid (t = true ↔ ∃ j', j' < j ∧ L2[j']? = some m) ∧ Hid (Fr No w6 wr')) (fun _ jv _ => p - (intOf jv).toNat)
                  case atStart => exact ⟨false, 0, rfl, rfl, Nat.zero_le _, Lib.hid (by simp), HF7.out⟩
                  case round =>
                    obtain ⟨t, j, rfl, rfl, hj, HTJ, HFL⟩ := hrel
                    obtain ⟨z2, nat2⟩ := HNV.out _ (HF6.out.trans HFL.out)
                    have hpq : p ≤ q := HPN.out
                    by_cases hlt : j < p
                    · obtain ⟨u, hu⟩ : ∃ u, L2[j]? = some u := ⟨L2[j]'(by rw [HP.out]; exact hlt), List.getElem?_eq_getElem _⟩
                      rcases nat2 with ⟨h1, _⟩ | ⟨g3, c3, h2, hc3⟩
                      · rw [h1] at hu; simp at hu
                      injection h2 with h2 h3 h4
                      clear h3
                      subst h2 h4
                      have k3 := i64_cell hc3 hu
                      have HU := Lib.hid hu
                      have j1 : (j : Int) < (p : Int) := by omega
                      have j0 : (0 : Int) ≤ (j : Int) := by omega
                      have HJP := Lib.hid hlt
                      clear hu hc3 hlt
                      cases t with
                      | true =>
                        go_wp2_with fail
                        go_roundw
                        case rel => exact ⟨true, j + 1, rfl, by go_num, by have := HJP.out; omega, Lib.hid ⟨fun _ => by obtain ⟨j', h1, h2⟩ := HTJ.out.1 rfl; exact ⟨j', by omega, h2⟩, fun _ => rfl⟩, HFL.out⟩
                        case measure => (have := HJP.out; simp [intOf] <;> omega)
                      | false =>
                        have HNO : Hid (∀ j', j' < j → L2[j']? ≠ some m) := fun j' h1 h2 => by have := HTJ.out.2 ⟨j', h1, h2⟩; cases this
                        by_cases hum : u = m
                        · subst hum
                          have q5 : ((u : Int) == (u : Int)) = true := by simp
                          go_wp2_with fail
                          go_roundw
                          case rel => exact ⟨true, j + 1, rfl, by go_num, by have := HJP.out; omega, Lib.hid ⟨fun _ => ⟨j, by omega, HU.out⟩, fun _ => rfl⟩, HFL.out⟩
                          case measure => (have := HJP.out; simp [intOf] <;> omega)
                        · have q5 : ((u : Int) == (m : Int)) = false := by rw [beq_eq_false_iff_ne]; omega
                          have HUM := Lib.hid hum
                          clear hum
                          go_wp2_with fail
                          go_roundw
                          case rel =>
                            refine ⟨false, j + 1, rfl, by go_num, by have := HJP.out; omega, Lib.hid ⟨fun h => (by cases h), fun ⟨j', h1, h2⟩ => ?_⟩, HFL.out⟩
                            by_cases e : j' = j
                            · subst e
                              rw [HU.out] at h2
                              exact absurd (Option.some.inj h2) HUM.out
                            · exact absurd h2 (HNO.out j' (by omega))
                          case measure => (have := HJP.out; simp [intOf] <;> omega)
                    · obtain rfl : j = p := by omega
                      obtain rfl : t = true := HTJ.out.2 (by
                        obtain ⟨j', hj', h2⟩ := List.getElem_of_mem HMEM.out
                        exact ⟨j', by rw [← HP.out]; exact hj', by rw [List.getElem?_eq_getElem hj', h2]⟩)
                      have k0 := HK0.out _ HFL.out
                      have d0 := HD0.out _ (HF6.out.trans HFL.out)
                      have m0 : ¬ (m : Int) < 0 := by omega
                      have m0q : decide ((m : Int) < 0) = false := decide_eq_false m0
                      have m1 : (m : Int) < (N : Int) := by have := HMN.out; omega
                      have m2 : (0 : Int) ≤ (m : Int) := by omega
                      have q6 : ((y : Int) != (y : Int)) = false := by simp
                      clear hlt nat2
                      go_upto_region 39 with fail
                      go_quiet (fail)
                      go_wp2_with fail
                      go_roundw
                      case rel => exact ⟨k + 1, by go_num, by have := HKQ.out; omega, HFL.out.drewN _⟩
                      case measure => (have := HKQ.out; simp [intOf] <;> omega)
                · obtain rfl : k = q := by omega
                  obtain ⟨z2, -⟩ := HNV.out _ (HF6.out.trans HFK.out)
                  have pq : ¬ (k : Int) < (p : Int) := by have := HPN.out; omega
                  have hin := HIN.out
                  clear hlt
                  go_wp2_with fail
                  go_roundw
                  case rel => exact ⟨i + 1, te, rfl, by go_num, by omega, HBT2.out, HF6.out.trans HFK.out⟩
                  case measure => simp [intOf] <;> omega
    · obtain rfl : i = N := by omega
      have han : a = n := by have h := HBT.out; rw [← HN.out] at h; exact h.end
      subst han
      have q9 : ((a : Int) == (a : Int)) = true := by simp
      clear hlt
      go_wp2_with (go_at_call 6; (with_reducible refine (HCH.out _ (HF1.out.trans HFI.out)).mono ?_); rintro e w8 ⟨rfl, hf8⟩)
      go_ret
      exact ⟨rfl, (HF1.out.trans HFI.out).trans hf8⟩
end Go.Proofs.YtakcdecljfmckaaGreatDoor
