/- firewallref31.Blocks. -/
import Derived.Test.YtakcdecljfmckaaGreatDoorCore42
set_option linter.all false
set_option linter.unusedVariables false
set_option linter.unusedSimpArgs false
namespace Go.Proofs.YtakcdecljfmckaaGreatDoor
open Go.RowKit

set_option maxRecDepth 100000 in
set_option maxHeartbeats 8000000 in
theorem rblocks_any (l : List Ins) (v : Value) (maps : Int) (w : World) (hv : InsAt w v l) (hok : ∀ i ∈ l, i.ok) (hl : l.length ≤ 100000) : Calls Tryz.prog 8 #[v, .int .i64 maps] w (BlocksTo l maps w) := by
  have HCK := Lib.hid (rcheck_any l v maps w hv hok hl)
  obtain ⟨a0, c0, rfl⟩ := hv.form
  unfold BlocksTo
  obtain ⟨q1, hq1⟩ : ∃ q, (checkM l maps false).1 = q := ⟨_, rfl⟩
  obtain ⟨q2, hq2⟩ : ∃ q, (checkM l maps false).2 = q := ⟨_, rfl⟩
  rw [hq1, hq2] at HCK
  rw [hq2]
  by_cases hz : q2 = 0
  case neg =>
    have e1 : (q2 != 0) = true := by simpa using hz
    have HZ := Lib.hid hz
    clear hv hok hl hq1 hq2 hz
    go_enter Tryz.func8, Tryz.ntmps8
    go_wp2_with (go_at_call 25; (with_reducible refine (HCK.out).mono ?_); rintro e w1 ⟨rfl, hf1⟩)
    go_ret2
    exact .inl ⟨HZ.out, rfl, hf1⟩
  subst hz
  have hW : Whole l maps := whole hq2
  have HWH := Lib.hid hW
  have HOK := Lib.hid hok
  have HV := Lib.hid hv
  have HFC : Hid (∀ W, Fr No w W → ∀ pc : Nat, Calls Tryz.prog 27 #[.slice a0 l.length c0, .int .i64 (pc : Int)] W fun e w' => e = .returned (.bool (frontB l pc)) ∧ Fr No W w') := fun W hf pc => rfront_any l _ maps pc W (hv.fr hf) hok hW
  have HBH : Hid (∀ W, Fr No w W → ∀ pc : Nat, pc < l.length → Calls Tryz.prog 26 #[.slice a0 l.length c0, .int .i64 (pc : Int)] W fun e w' => e = .returned (.int .i64 (behM l pc : Nat)) ∧ W = w') := fun W hf pc hpc => behind_any l _ pc W (hv.fr hf) hl hpc
  have HNE : Hid (∀ W, Fr No w W → ∀ pc : Nat, pc < l.length → Calls Tryz.prog 28 #[.slice a0 l.length c0, .int .i64 (pc : Int)] W fun e w' => ∃ v', e = .returned v' ∧ NatsAt w' v' (nextM l pc) ∧ (∀ k, v'.ownBlock = some k → W.heap.size ≤ k) ∧ Fr No W w') := fun W hf pc hpc => rnext_any l _ pc W (hv.fr hf) hok hl hpc
  have hmost := hW.most
  obtain ⟨n, hn⟩ : ∃ n, l.length = n := ⟨_, rfl⟩
  rw [hn] at HCK HFC HBH HNE HV hmost ⊢
  have HN := Lib.hid hn
  have HMOST := Lib.hid hmost
  clear hv hok hl hq1 hq2 hW hn hmost
  obtain ⟨i0, hi0, hz0, hz1, hz2⟩ := info_parts Tryz.infoCh_rblk
  obtain ⟨j0, hj0, jz0, jz1, jz2⟩ := info_parts Tryz.infoCh_int
  go_enter Tryz.func8, Tryz.ntmps8
  go_wp2_with (go_at_call 25; (with_reducible refine (HCK.out).mono ?_); rintro e W0 ⟨rfl, hf1⟩; have HF0 := Lib.hid hf1; clear hf1)
  clear HCK
  go_loopw [8, 9] (fun v1 pv wr => ∃ pc fuel : Nat, ∃ done : List Nat, pv = .int .i64 (pc : Int) ∧ pc ≤ n ∧ Hid (n ≤ pc + fuel) ∧ Hid (starts l = done ++ firstsM l fuel pc) ∧ Hid (wr.ownsRow W0.heap.size 69 3 v1 (cutM l (frontB l) done).length (bflat (cutM l (frontB l) done))) ∧ Hid (Fr No W0 wr)) (fun _ pv _ => n - (intOf pv).toNat)
  case atStart => exact ⟨0, n, [], rfl, Nat.zero_le _, Lib.hid (by omega), Lib.hid (by unfold starts; rw [HN.out]; rfl), World.ownsRow_nil _ _ _ _, Fr.refl _ _⟩
  case round =>
    obtain ⟨pc, fuel, done, rfl, hpc, HFU, HST, HD, HF⟩ := hrel
    obtain ⟨B, hB⟩ : ∃ B, cutM l (frontB l) done = B := ⟨_, rfl⟩
    rw [hB] at HD
    have HBD := Lib.hid hB
    clear hB
    obtain ⟨va, ca, rfl⟩ := ownsRow_any HD.out
    obtain ⟨K, hK⟩ : ∃ K, B.length = K := ⟨_, rfl⟩
    rw [hK] at HD ⊢
    have HK := Lib.hid hK
    clear hK
    by_cases hlt : pc < n
    · have p1 : (pc : Int) < (n : Int) := by omega
      have HLT := Lib.hid hlt
      obtain ⟨f, hf⟩ : ∃ f, fuel = f + 1 := ⟨fuel - 1, by have := HFU.out; omega⟩
      subst hf
      have HST2 : Hid (starts l = (done ++ [pc]) ++ firstsM l f (behM l pc)) := by
        have := HST.out
        rw [firsts_in (by rw [HN.out]; exact hlt)] at this
        rw [this, List.append_assoc]
        exact Lib.hid rfl
      have HPC : Hid (pc ∈ starts l) := by rw [HST2.out]; exact Lib.hid (by simp)
      have hKb : K ≤ 1000 := by
        have h1 := cutM_len (l := l) (F := frontB l) done
        rw [HBD.out, HK.out] at h1
        have h2 : (starts l).length ≤ l.length := firstsM_len
        rw [HST2.out, HN.out] at h2
        simp only [List.length_append] at h2
        have := HMOST.out
        omega
      have HKB := Lib.hid hKb
      have HBP1 : Hid (∀ W, Fr No w W → Calls Tryz.prog 26 #[.slice a0 n c0, .int .i64 (pc : Int)] W fun e w' => e = .returned (.int .i64 (behM l pc : Nat)) ∧ W = w') := fun W hf => HBH.out W hf pc hlt
      have HFC1 := Lib.hid (HFC.out wr (HF0.out.trans HF.out) pc)
      have HBL : Hid (behM l pc ≤ n) := by have h1 := HWH.out.beh HPC.out; rw [HN.out] at h1; exact Lib.hid h1
      have HBP := Lib.hid (behM_pos l pc)
      have HSN := Lib.hid (cutM_snoc l (frontB l) done pc)
      have HNE0 : Hid (K = 0 → frontB l pc = true) := fun hk => by
        have h1 : B = [] := List.eq_nil_of_length_eq_zero (by rw [HK.out]; exact hk)
        have h2 : done = [] := by
          cases hd : done with
          | nil => rfl
          | cons d r =>
            exfalso
            have key : ∀ (L : List Nat) (B : List Cb), B ≠ [] → L.foldl (cutStep l (frontB l)) B ≠ [] := by
              intro L
              induction L with
              | nil => intro B h; exact h
              | cons a L ih => intro B h; rw [List.foldl_cons]; exact ih _ (cutStep_ne (.inl h))
            have h3 := HBD.out
            rw [hd, h1] at h3
            have h4 : d = 0 := by
              have h5 := HST.out
              rw [hd] at h5
              exact starts_hd h5
            subst h4
            unfold cutM at h3
            rw [List.foldl_cons] at h3
            exact key r _ (cutStep_ne (.inr (front_zero l))) h3
        have h3 := HST.out
        rw [h2, List.nil_append] at h3
        have h4 : pc = 0 := by
          rw [firsts_in (by rw [HN.out]; exact hlt)] at h3
          exact starts_hd h3
        rw [h4]
        exact front_zero l
      have HCN : Hid (frontB l pc = true → cutStep l (frontB l) B pc = B ++ [⟨pc, behM l pc, pc⟩]) := fun h => cutStep_new h
      have HCO : Hid (frontB l pc = false → ∀ B1 c, B = B1 ++ [c] → cutStep l (frontB l) B pc = B1 ++ [⟨c.fr, behM l pc, pc⟩]) := fun h B1 c e => by rw [e]; exact cutStep_old h
      rw [HBD.out] at HSN
      obtain ⟨b, hb⟩ : ∃ b, behM l pc = b := ⟨_, rfl⟩
      rw [hb] at HST2 HBP1 HBL HBP HCN HCO
      obtain ⟨fb, hfb⟩ : ∃ fb, frontB l pc = fb := ⟨_, rfl⟩
      rw [hfb] at HFC1 HNE0 HCN HCO
      clear hb hfb hlt HST HPC hKb
      obtain ⟨B2, hB2⟩ : ∃ B2, cutStep l (frontB l) B pc = B2 := ⟨_, rfl⟩
      rw [hB2] at HSN HCN HCO
      clear hB2
      cases fb with
      | true =>
        have HB2 : Hid (B2 = B ++ [⟨pc, b, pc⟩]) := HCN.out rfl
        clear HCN HCO HNE0
        have hK4 : K ≤ 1000 := HKB.out
        go_upto_region 10 with (first
          | (go_at_call 27; (with_reducible refine (HFC1.out).mono ?_); rintro e w2 ⟨rfl, hf2⟩; have HF2 := Lib.hid (HF.out.trans hf2); have HO2 := Lib.hid (ownsRow_fr HD.out hf2 (fun _ _ => id)); clear hf2)
          | (at_builtin; refine wpList_append_src rfl _ _ 28 rfl W0.heap.size 69 i0 _ 3 40 Tryz.underlying28 hi0 hz0 hz1 hz2 rfl (by decide) (.slice va K ca) K (bflat B) rfl (ownsRow_fr HO2.out ((Fr.refl _ _).alloc _) (fun _ _ => id)) _ 1 [.int .i64 (pc : Int), .int .i64 0, .slice none 0 0] rfl (src_new _ [.int .i64 (pc : Int), .int .i64 0, .slice none 0 0] 69) rfl (by simp [Value.oneCell']) (by unfold maxLen; omega) (by omega) (HF2.out.alloc _).size ?_; intro v3 w3 own3 fr3; have HO3 := Lib.hid own3; have HF3 : Hid (Fr No W0 w3) := (((HF2.out.alloc _).any.trans (fr3.mono fun k _ hk => OwnOf.ge HO2.out hk)) : Fr (From W0) W0 w3).ours; obtain ⟨gb, cb, rfl⟩ := ownsRow_form own3 (by omega); clear own3 fr3))
        obtain ⟨NN, hNN⟩ : ∃ NN, K + 1 = NN := ⟨_, rfl⟩
        rw [hNN] at HO3 ⊢
        have HNN2 := Lib.hid hNN
        have wn : wrap64 ((NN : Int) - 1) = (K : Int) := by rw [IntWalk.wrap64_in _ (by omega)]; omega
        have kn : (K : Int) < (NN : Int) := by omega
        have k0 : (0 : Int) ≤ (K : Int) := by omega
        clear hNN hK4 HO2 HF2 HD
        have HLX : Hid (K * 3 + 1 < (bflat B ++ ([.int .i64 (pc : Int), .int .i64 0, .slice none 0 0] : List Value)).length) := Lib.hid (by rw [List.length_append, bflat_len, HK.out]; simp)
        have hoc := ownsRow_cells HO3.out
        have z1 := hoc.1 (K * 3 + 1) _ (List.getElem?_eq_getElem HLX.out)
        rw [Nat.zero_add] at z1
        have z2 := hoc.2.2.2 (K * 3 + 1)
        have GBGE : Hid (W0.heap.size ≤ gb) := hoc.2.1
        have HDE : Hid ((w3.setCell ⟨gb, K * 3 + 1, none⟩ (.int .i64 (b : Int))).ownsRow W0.heap.size 69 3 (.slice (some ⟨gb, 0, none⟩) NN cb) NN (bflat B2)) := by
          have h1 := ownsRow_set HO3.out HLX.out (.int .i64 (b : Int))
          have e1 : ((bflat B ++ ([.int .i64 (pc : Int), .int .i64 0, .slice none 0 0] : List Value)).set (K * 3 + 1) (.int .i64 (b : Int))) = bflat B2 := by
            rw [HB2.out, ← bflat_set B ⟨pc, 0, 0⟩ b pc, bflat_snoc, HK.out]
            rfl
          rw [e1] at h1
          exact h1
        have HFE : Hid (Fr No W0 (w3.setCell ⟨gb, K * 3 + 1, none⟩ (.int .i64 (b : Int)))) := (HF3.out.any.setCell (p := ⟨gb, K * 3 + 1, none⟩) (.inr GBGE.out) _ : Fr (From W0) W0 _).ours
        generalize ((bflat B ++ ([.int .i64 (pc : Int), .int .i64 0, .slice none 0 0] : List Value))[K * 3 + 1]'HLX.out) = yb at z1
        clear hoc HLX
        go_upto_region 7 with (go_at_call 26; (with_reducible refine (HBP1.out _ (HF0.out.trans HF3.out)).mono ?_); rintro e w9 ⟨rfl, rfl⟩)
        clear z1 z2
        generalize w3.setCell ⟨gb, K * 3 + 1, none⟩ (.int .i64 (b : Int)) = WE at *
        go_wp2_with (go_at_call 26; (with_reducible refine (HBP1.out _ (HF0.out.trans HFE.out)).mono ?_); rintro e w9 ⟨rfl, rfl⟩)
        go_roundw
        case rel => exact ⟨b, f, done ++ [pc], rfl, by have := HBL.out; omega, Lib.hid (by have := HFU.out; have := HBP.out; omega), HST2, by rw [HSN.out]; have e : B2.length = NN := (by rw [HB2.out, List.length_append, HK.out]; exact HNN2.out); rw [e]; exact HDE, HFE.out⟩
        case measure =>
          have := HLT.out
          have := HBP.out
          simp [intOf]
          omega
      | false =>
        have hK0 : K ≠ 0 := fun h => by have := HNE0.out h; cases this
        obtain ⟨gb, cb, eb⟩ := ownsRow_form HD.out (by omega)
        injection eb with eb1 _ eb3
        subst eb1 eb3
        obtain ⟨B1, c, hB1⟩ : ∃ B1 c, B = B1 ++ [c] := by
          have hne : B ≠ [] := fun e => hK0 (by rw [← HK.out, e]; rfl)
          exact ⟨B.dropLast, B.getLast hne, (List.dropLast_concat_getLast hne).symm⟩
        have HB1 := Lib.hid hB1
        have HB2 : Hid (B2 = B1 ++ [⟨c.fr, b, pc⟩]) := HCO.out rfl B1 c hB1
        obtain ⟨K1, hK1⟩ : ∃ K1, B1.length = K1 := ⟨_, rfl⟩
        have HK1 := Lib.hid hK1
        have hKK : K = K1 + 1 := by rw [← HK.out, hB1, List.length_append, hK1]; rfl
        have HKK := Lib.hid hKK
        have wn : wrap64 ((K : Int) - 1) = (K1 : Int) := by rw [IntWalk.wrap64_in _ (by have := HKB.out; omega)]; omega
        have kn : (K1 : Int) < (K : Int) := by omega
        have k0 : (0 : Int) ≤ (K1 : Int) := by omega
        clear HCN HCO HNE0 hB1 hK1 hKK hK0
        go_upto_region 10 with (go_at_call 27; (with_reducible refine (HFC1.out).mono ?_); rintro e w3 ⟨rfl, hf2⟩; have HF3 := Lib.hid (HF.out.trans hf2); have HO3 := Lib.hid (ownsRow_fr HD.out hf2 (fun _ _ => id)); clear hf2)
        have HLX : Hid (K1 * 3 + 1 < (bflat B).length) := Lib.hid (by rw [bflat_len, HK.out]; have := HK1.out; have := HKK.out; omega)
        have hoc := ownsRow_cells HO3.out
        have z1 := hoc.1 (K1 * 3 + 1) _ (List.getElem?_eq_getElem HLX.out)
        rw [Nat.zero_add] at z1
        have z2 := hoc.2.2.2 (K1 * 3 + 1)
        have GBGE : Hid (W0.heap.size ≤ gb) := hoc.2.1
        have HDE : Hid ((w3.setCell ⟨gb, K1 * 3 + 1, none⟩ (.int .i64 (b : Int))).ownsRow W0.heap.size 69 3 (.slice (some ⟨gb, 0, none⟩) K ca) K (bflat B2)) := by
          have h1 := ownsRow_set HO3.out HLX.out (.int .i64 (b : Int))
          have e1 : (bflat B).set (K1 * 3 + 1) (.int .i64 (b : Int)) = bflat B2 := by
            rw [HB2.out, HB1.out, ← bflat_set B1 c b pc, HK1.out]
          rw [e1] at h1
          exact h1
        have HFE : Hid (Fr No W0 (w3.setCell ⟨gb, K1 * 3 + 1, none⟩ (.int .i64 (b : Int)))) := (HF3.out.any.setCell (p := ⟨gb, K1 * 3 + 1, none⟩) (.inr GBGE.out) _ : Fr (From W0) W0 _).ours
        generalize ((bflat B)[K1 * 3 + 1]'HLX.out) = yb at z1
        clear hoc HLX
        go_upto_region 7 with (go_at_call 26; (with_reducible refine (HBP1.out _ (HF0.out.trans HF3.out)).mono ?_); rintro e w9 ⟨rfl, rfl⟩)
        clear z1 z2
        generalize w3.setCell ⟨gb, K1 * 3 + 1, none⟩ (.int .i64 (b : Int)) = WE at *
        go_wp2_with (go_at_call 26; (with_reducible refine (HBP1.out _ (HF0.out.trans HFE.out)).mono ?_); rintro e w9 ⟨rfl, rfl⟩)
        go_roundw
        case rel => exact ⟨b, f, done ++ [pc], rfl, by have := HBL.out; omega, Lib.hid (by have := HFU.out; have := HBP.out; omega), HST2, by rw [HSN.out]; have e : B2.length = K := (by rw [HB2.out, List.length_append, HK1.out, HKK.out]; rfl); rw [e]; exact HDE, HFE.out⟩
        case measure =>
          have := HLT.out
          have := HBP.out
          simp [intOf]
          omega
    · have hge : ¬ (pc : Int) < (n : Int) := by omega
      have HB : Hid (cutsM l = B) := by
        have e : starts l = done := by rw [HST.out, firsts_out (by rw [HN.out]; omega), List.append_nil]
        unfold cutsM
        rw [e]
        exact HBD
      have HKP : Hid (0 < K ∧ K ≤ 1000) := by
        have h1 := HWH.out.cut
        have h2 := cutM_len (l := l) (F := frontB l) (starts l)
        have h3 : (starts l).length ≤ l.length := firstsM_len
        have h4 := HWH.out.most
        have h5 : cutM l (frontB l) (starts l) = B := HB.out
        rw [h5, HK.out] at h2
        refine Lib.hid ⟨?_, by omega⟩
        rcases Nat.eq_zero_or_pos K with h | h
        · exfalso
          have h6 : cutsM l = [] := by rw [HB.out]; exact List.eq_nil_of_length_eq_zero (by rw [HK.out]; exact h)
          have h7 := h1.none h6
          have h8 := starts_zero HWH.out.pos
          rw [h7] at h8
          simp at h8
        · exact h
      obtain ⟨gb, cb, eb⟩ := ownsRow_form HD.out HKP.out.1
      injection eb with eb1 _ eb3
      subst eb1 eb3
      have HGB : Hid (gb < wr.heap.size ∧ w.heap.size ≤ gb) := by have h := ownsRow_cells HD.out; exact ⟨h.2.2.1, Nat.le_trans HF0.out.size h.2.1⟩
      have HBO : Hid (BO l wr gb B 0) := BO.start HD.out
      have HFW0 : Hid (Fr No w wr) := HF0.out.trans HF.out
      obtain ⟨W1, hW1⟩ : ∃ W1, wr = W1 := ⟨_, rfl⟩
      have HOWN : Hid (∀ W W', Fr No w W → Fr (Isb gb) W W' → Fr No w W') := fun W W' h1 h2 => ((h1.any.trans (h2.mono fun k _ hk => by rw [show k = gb from hk]; exact HGB.out.2)) : Fr (From w) w W').ours
      have HS0 : Hid (Stand l B 0 0) := by have h := HWH.out.stand0; rw [HB.out] at h; exact Lib.hid h
      clear hlt HD HF HST HFU
      go_wp2_with fail
      subst hW1
      go_loopw [10] (fun pv wr' => ∃ i pc : Nat, pv = .int .i64 (pc : Int) ∧ pc ≤ n ∧ Hid (Stand l B i pc) ∧ Hid (BO l wr' gb B i) ∧ Hid (Fr (Isb gb) wr wr')) (fun pv _ => n - (intOf pv).toNat)
      case atStart => exact ⟨0, 0, rfl, Nat.zero_le _, HS0.out, HBO.out, Fr.refl _ _⟩
      case round =>
        clear hge
        obtain ⟨i, pc, rfl, hpc, HSD, HS, HF⟩ := hrel
        have HFW : Hid (Fr No w wr) := HOWN.out _ _ HFW0.out HF.out
        have HGS : Hid (gb < wr.heap.size) := Nat.lt_of_lt_of_le HGB.out.1 HF.out.size
        rcases HSD.out with ⟨h1, h2⟩ | ⟨h1, hs, c, hc, h2, h3⟩
        · rw [HN.out] at h1
          have p1 : ¬ (pc : Int) < (n : Int) := by omega
          have HIK : Hid (i = K) := by rw [h2, HK.out]; exact Lib.hid rfl
          clear h1 h2
          go_wp2_with fail
          go_ret2
          exact ⟨_, rfl, by have h := HS.out; rw [← HB.out] at h; have h2 := h.all (cap := ca) (by rw [HB.out, HK.out, HIK.out]; exact Nat.le_refl _); rw [HB.out, HK.out] at h2; exact h2, HFW.out⟩
        rw [HN.out] at h1
        have p1 : (pc : Int) < (n : Int) := by omega
        have HC := Lib.hid hc
        have hit : i < K := by rw [← HK.out]; exact (List.getElem?_eq_some_iff.1 hc).1
        have HIT := Lib.hid hit
        have HON := Lib.hid (HWH.out.onward (i := i) (c := c) (by rw [HB.out]; exact hc) hs h2 h3)
        have HBP := Lib.hid (behM_pos l pc)
        have HPC := Lib.hid (And.intro hs (And.intro h2 h3))
        have HPN := Lib.hid h1
        have HBPC : Hid (∀ W, Fr No w W → Calls Tryz.prog 26 #[.slice a0 n c0, .int .i64 (pc : Int)] W fun e w' => e = .returned (.int .i64 (behM l pc : Nat)) ∧ W = w') := fun W hf => HBH.out W hf pc h1
        have HAT : Hid (Calls Tryz.prog 14 #[.slice (some ⟨gb, 0, none⟩) K ca, .int .i64 (pc : Int)] wr fun e w' => e = .returned (.int .i64 (i : Int)) ∧ wr = w') := by
          have h := rat_any (some ⟨gb, 0, none⟩) gb K ca (pc : Int) (B.map bare) wr (fun _ => rfl) (by rw [List.length_map]; exact HK.out) (by have := HKP.out.2; omega) HS.out.row.at
          have e : atM B (pc : Int) = (i : Int) := by
            have h3' := HWH.out.cut.tiles.at (k := i) (c := c) (by rw [HB.out]; exact hc) h2 h3
            rw [HB.out] at h3'
            exact h3'
          rw [atB_bare, e] at h
          exact h
        obtain ⟨-, r2, -, r4⟩ := HS.out.row i c hc
        have HR2 : Hid (∀ W, Fr No wr W → W.cell? ⟨gb, i * 3 + 1, none⟩ = some (.int .i64 (c.to : Int))) := fun W hf => hf.cell r2 id
        have HLAQ : Hid (nextsM l B c.la = ((nextM l c.la).map fun z : Nat => (atM B (z : Int)).toNat).foldl addNew []) := Lib.hid rfl
        have HLD : Hid (∀ x ∈ nextM l c.la, ∃ m : Nat, atM B (x : Int) = (m : Int)) := fun x hx => by
          obtain ⟨h1, h2⟩ := HWH.out.lead (by rw [HB.out]; exact List.mem_of_getElem? hc) hx
          obtain ⟨m, d, -, -, h3⟩ := HWH.out.block h1 h2
          exact ⟨m, by rw [← HB.out]; exact h3⟩
        rw [HB.out] at HON
        obtain ⟨te, hte⟩ : ∃ te, c.to = te := ⟨_, rfl⟩
        rw [hte] at HON HR2
        obtain ⟨b, hb⟩ : ∃ b, behM l pc = b := ⟨_, rfl⟩
        rw [hb] at HON HBP HBPC
        have s1 : (i : Int) < (K : Int) := by omega
        have s0 : (0 : Int) ≤ (i : Int) := by omega
        clear hc hs h1 h2 h3 hit hte hb r2 r4
        go_upto_region 15 with (go_at_call 14; (with_reducible refine (HAT.out).mono ?_); rintro e w4 ⟨rfl, rfl⟩)
        have HFX : Hid (Fr No wr wr.drew) := (Fr.refl _ _).drew
        have HKC : Hid (∀ W, Hid (Fr No wr W) → (W.cell? ⟨gb, i * 3 + 1, none⟩ = some (.int .i64 (te : Int)) ∧ Hid (Fr No wr W))) := fun W h => ⟨HR2.out _ h.out, h⟩
        have H0 := HKC.out _ HFX
        rcases HON.out with ⟨hlt, hst⟩ | ⟨hbt, hla, hst⟩
        · have q1 : ((b : Int) != (te : Int)) = true := by rw [bne, beq_eq_false_iff_ne.2 (by omega)]; rfl
          have HST := Lib.hid hst
          have HBN : Hid (b ≤ n) := by
            rcases hst with ⟨h, -⟩ | ⟨h, -⟩
            · rw [HN.out] at h; exact Lib.hid (by omega)
            · rw [HN.out] at h; exact Lib.hid (by omega)
          clear hlt hst
          go_region_held3 (fun W => W.cell? ⟨gb, i * 3 + 1, none⟩ = some (.int .i64 (te : Int)) ∧ Hid (Fr No wr W)) (first | assumption | exact HKC.out _ (by assumption)) (first | (go_at_call 26; refine (HBPC.out _ (HFW.out.trans (Hid.out (by assumption : Hid (Fr No wr _))))).mono ?_; rintro e w5 ⟨rfl, rfl⟩))
          clear H0
          go_wp2_with (go_at_call 26; (with_reducible refine (HBPC.out _ (HFW.out.trans HFX.out)).mono ?_); rintro e w5 ⟨rfl, rfl⟩)
          go_roundw
          case rel => exact ⟨i, b, rfl, HBN.out, HST.out, HS.out.fr HFX.out, HF.out.trans HFX.out.any⟩
          case measure => (have := HPN.out; have := HBP.out; simp [intOf] <;> omega)
        have HST := Lib.hid hst
        have q1 : ((b : Int) != (te : Int)) = false := by rw [hbt]; simp
        have HBN : Hid (te ≤ n) := by
          rcases hst with ⟨h, -⟩ | ⟨h, -⟩
          · rw [HN.out] at h; exact Lib.hid (by omega)
          · rw [HN.out] at h; exact Lib.hid (by omega)
        have HBT := Lib.hid hbt
        rw [← hla] at HLAQ HLD
        have HNX := Lib.hid (HNE.out wr.drew (HFW.out.trans HFX.out) pc HPN.out)
        have HN2 := Lib.hid (nextM_len l pc)
        have HLAE := Lib.hid hla
        obtain ⟨L, hL⟩ : ∃ L, nextM l pc = L := ⟨_, rfl⟩
        rw [hL] at HNX HLD HN2 HLAQ
        clear hst hbt hla hL
        go_region_held3 (fun W => W.cell? ⟨gb, i * 3 + 1, none⟩ = some (.int .i64 (te : Int)) ∧ Hid (Fr No wr W)) (first | assumption | exact HKC.out _ (by assumption)) (first | (go_at_call 26; refine (HBPC.out _ (HFW.out.trans (Hid.out (by assumption : Hid (Fr No wr _))))).mono ?_; rintro e w5 ⟨rfl, rfl⟩))
        clear H0
        go_wp2_with (go_at_call 28; (with_reducible refine (HNX.out).mono ?_); rintro e W2 ⟨v', rfl, nat, own, hf2⟩; obtain ⟨a2, q2, rfl⟩ := nat.form; have HNA := Lib.hid nat; have HOW := Lib.hid own; have HF3 := Lib.hid (HFX.out.trans hf2); clear nat own hf2)
        have HB2 : Hid (BO l W2 gb B i) := HS.out.fr HF3.out
        have HG2 : Hid (gb < W2.heap.size) := Nat.lt_of_lt_of_le HGS.out HF3.out.size
        have HFW2 : Hid (Fr No w W2) := HFW.out.trans HF3.out
        have HF22 : Hid (Fr (Isb gb) _ W2) := HF.out.trans HF3.out.any
        have HZ2 : Hid (W2.frozen? ⟨gb, i * 3 + 2, none⟩ = false) := (HB2.out.row i c HC.out).2.2.2
        obtain ⟨m, hm⟩ : ∃ m, L.length = m := ⟨_, rfl⟩
        rw [hm]
        rw [hm] at HN2
        have HM := Lib.hid hm
        have hm2 : m ≤ 2 := HN2.out
        clear hm
        go_loopw [13] (fun ix wr' => ∃ k : Nat, ix = .int .i64 k ∧ k ≤ m ∧ Hid (BI W2 wr' gb i (((L.take k).map fun z : Nat => (atM B (z : Int)).toNat).foldl addNew []))) (fun ix _ => m - (intOf ix).toNat)
        case atStart => exact ⟨0, rfl, Nat.zero_le _, BI.start HB2.out HC.out⟩
        case round =>
          obtain ⟨k, rfl, hk, HI⟩ := hrel
          by_cases hlt : k < m
          · obtain ⟨x, hx⟩ : ∃ x, L[k]? = some x := ⟨L[k]'(by rw [HM.out]; exact hlt), List.getElem?_eq_getElem _⟩
            have HX := Lib.hid hx
            have hnat := HNA.out
            rcases hnat with ⟨h1, _⟩ | ⟨g2, c2, h2, hc2⟩
            · rw [h1] at hx; simp at hx
            injection h2 with h2 _ h4
            subst h2 h4
            have hg2 : ¬ Isb gb g2 := fun e => by have h5 := HOW.out g2 rfl; have h6 := HGS.out; have h7 := HFX.out.size; have e : g2 = gb := e; omega
            have k0 := i64_cell (HI.out.fr.cells hc2 hg2) hx
            obtain ⟨nn, hnn⟩ := HLD.out x (List.mem_of_getElem? hx)
            have HNEW := Lib.hid (nexts_take (B := B) hx)
            rw [hnn, Int.toNat_natCast] at HNEW
            have HAT2 : Hid (Calls Tryz.prog 14 #[.slice (some ⟨gb, 0, none⟩) K ca, .int .i64 (x : Int)] wr fun e w' => e = .returned (.int .i64 (nn : Int)) ∧ wr = w') := by
              have h := rat_any (some ⟨gb, 0, none⟩) gb K ca (x : Int) (B.map bare) wr (fun _ => rfl) (by rw [List.length_map]; exact HK.out) (by have := HKP.out.2; omega) (HI.out.row HB2.out).at
              rw [atB_bare, hnn] at h
              exact h
            obtain ⟨cur, hcur⟩ : ∃ cur, ((L.take k).map fun z : Nat => (atM B (z : Int)).toNat).foldl addNew [] = cur := ⟨_, rfl⟩
            rw [hcur] at HI HNEW
            have HCL : Hid (cur.length ≤ 2) := by
              have h1 := foldl_addNew_len (L := (L.take k).map fun z : Nat => (atM B (z : Int)).toNat) (acc := [])
              rw [hcur, List.length_map, List.length_take] at h1
              simp only [List.length_nil, Nat.zero_add] at h1
              exact Lib.hid (by omega)
            have HKM := Lib.hid hlt
            have kk1 : (k : Int) < (m : Int) := by omega
            have kk0 : (0 : Int) ≤ (k : Int) := by omega
            clear hx hc2 hg2 hnn hcur hlt
            go_upto_region 21 with (go_at_call 14; (with_reducible refine (HAT2.out).mono ?_); rintro e w5 ⟨rfl, rfl⟩)
            obtain ⟨nv, hc5, ho5⟩ := HI.out.cur
            obtain ⟨an, cn, rfl⟩ := ownsRow_any ho5
            have HO5 := Lib.hid ho5
            have HCT : Hid (Calls Tryz.prog 29 #[.slice an cur.length cn, .int .i64 (nn : Int)] wr fun e w' => e = .returned (.bool (cur.contains nn)) ∧ wr = w') := has_any cur _ nn wr (.of_own ho5) (by have := HCL.out; omega)
            obtain ⟨t, ht⟩ : ∃ t, cur.contains nn = t := ⟨_, rfl⟩
            rw [ht] at HCT
            have HT := Lib.hid ht
            clear ho5 ht
            have hcl : cur.length ≤ 2 := HCL.out
            obtain ⟨q, hq⟩ : ∃ q, cur.length = q := ⟨_, rfl⟩
            have HQ := Lib.hid hq
            rw [hq] at HCT HO5 hc5 hcl
            clear hq k0
            cases t with
            | true =>
              go_wp2_with (go_at_call 29; (with_reducible refine (HCT.out).mono ?_); rintro e w6 ⟨rfl, rfl⟩)
              go_roundw
              case rel => exact ⟨k + 1, by go_num, by have := HKM.out; omega, by rw [HNEW.out]; unfold addNew; rw [if_pos HT.out]; exact HI⟩
              case measure => (have := HKM.out; simp [intOf] <;> omega)
            | false =>
              go_upto_region 22 with (go_at_call 29; (with_reducible refine (HCT.out).mono ?_); rintro e w6 ⟨rfl, rfl⟩)
              have HA : Hid (∀ W, Fr No wr W → W.cell? ⟨gb, i * 3 + 2, none⟩ = some (.slice an q cn) ∧ W.ownsRow W2.heap.size 3 1 (.slice an q cn) q (i64s cur) ∧ BI W2 W gb i cur) := fun W hf => ⟨hf.cell hc5 id, ownsRow_fr HO5.out hf (fun _ _ => id), HI.out.to hf⟩
              have HSZ : Hid (∀ W, Fr No wr W → W2.heap.size ≤ W.heap.size) := fun W hf => Nat.le_trans HI.out.fr.size hf.size
              go_wp2_with (at_builtin; refine wpList_append_at2 rfl _ _ 31 rfl W2.heap.size 3 j0 _ 1 8 Tryz.underlying31 hj0 jz0 jz1 jz2 rfl (by decide) (.slice an q cn) q (i64s cur) rfl (HA.out _ ((Fr.refl _ _).alloc _)).2.1 _ 1 [.int .i64 (nn : Int)] rfl (src_new _ [.int .i64 (nn : Int)] 3) rfl (by simp [Value.oneCell']) (by unfold maxLen; omega) (by omega) (HSZ.out _ ((Fr.refl _ _).alloc _)) ?_; intro v4 w4 own4 fr4 at4; have HBI := Lib.hid ((HA.out _ ((Fr.refl _ _).alloc _)).2.2.step (n := nn) (HA.out _ ((Fr.refl _ _).alloc _)).1 (by rw [HQ.out]; exact (HA.out _ ((Fr.refl _ _).alloc _)).2.1) HG2.out (by rw [HQ.out]; exact own4) fr4); obtain ⟨z1, z2⟩ := (HA.out _ ((Fr.refl _ _).alloc _)).2.2.ready (HA.out _ ((Fr.refl _ _).alloc _)).1 (by rw [HQ.out]; exact (HA.out _ ((Fr.refl _ _).alloc _)).2.1) HG2.out fr4 HZ2.out; obtain ⟨a4, c4, rfl⟩ := ownsRow_any own4; clear own4 fr4 at4)
              go_roundw
              case rel => exact ⟨k + 1, by go_num, by have := HKM.out; omega, by rw [HNEW.out]; unfold addNew; rw [if_neg (by rw [HT.out]; simp)]; exact HBI⟩
              case measure => (have := HKM.out; simp [intOf] <;> omega)
          · obtain rfl : k = m := by omega
            have e1 : L.take k = L := by rw [← HM.out]; exact List.take_length
            rw [e1] at HI
            have HEND : Hid (BO l wr gb B (i + 1)) := HI.out.end HB2.out HC.out (by rw [← HLAE.out]; exact HLAQ.out) HG2.out
            have HFE := Lib.hid (HF22.out.trans HI.out.fr)
            have HFWE : Hid (Fr No w wr) := HOWN.out _ _ HFW2.out HI.out.fr
            have kk1 : ¬ (k : Int) < (k : Int) := by omega
            clear e1 hlt
            go_wp2_with (go_at_call 26; (with_reducible refine (HBPC.out _ HFWE.out).mono ?_); rintro e w6 ⟨rfl, rfl⟩)
            go_roundw
            case rel => exact ⟨i + 1, b, rfl, by rw [HBT.out]; exact HBN.out, by rw [HBT.out]; exact HST, HEND.out, HFE.out⟩
            case measure => (have := HPN.out; have := HBP.out; simp [intOf] <;> omega)
end Go.Proofs.YtakcdecljfmckaaGreatDoor
