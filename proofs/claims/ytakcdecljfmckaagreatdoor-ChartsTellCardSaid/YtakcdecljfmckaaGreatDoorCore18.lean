/- charts.cut. charts.Blocks: the state of its loops. -/
import Derived.Test.YtakcdecljfmckaaGreatDoorCore17
set_option linter.all false
set_option linter.unusedVariables false
set_option linter.unusedSimpArgs false
namespace Go.Proofs.YtakcdecljfmckaaGreatDoor
open Go.RowKit

theorem cutStep_new {l : List Ins} {F : Nat → Bool} {B : List Cb} {pc : Nat} (h : F pc = true) : cutStep l F B pc = B ++ [⟨pc, behM l pc, pc⟩] := by unfold cutStep; rw [if_pos h]
theorem cutStep_old {l : List Ins} {F : Nat → Bool} {B : List Cb} {c : Cb} {pc : Nat} (h : F pc = false) : cutStep l F (B ++ [c]) pc = B ++ [⟨c.fr, behM l pc, pc⟩] := by
  unfold cutStep
  rw [if_neg (by rw [h]; simp)]
  simp
theorem cutStep_ne {l : List Ins} {F : Nat → Bool} {B : List Cb} {pc : Nat} (h : B ≠ [] ∨ F pc = true) : cutStep l F B pc ≠ [] := by
  by_cases hf : F pc = true
  · rw [cutStep_new hf]; simp
  · rcases h with h | h
    · have e : B = B.dropLast ++ [B.getLast h] := (List.dropLast_concat_getLast h).symm
      rw [e, cutStep_old (by simpa using hf)]
      simp
    · exact absurd h hf
theorem cutM_len {l : List Ins} {F : Nat → Bool} : ∀ (done : List Nat), (cutM l F done).length ≤ done.length := by
  intro done
  have key : ∀ (L : List Nat) (B : List Cb), (L.foldl (cutStep l F) B).length ≤ B.length + L.length := by
    intro L
    induction L with
    | nil => intro B; simp
    | cons a L ih =>
      intro B
      rw [List.foldl_cons]
      have h1 := ih (cutStep l F B a)
      have h2 : (cutStep l F B a).length ≤ B.length + 1 := by
        unfold cutStep
        split
        · simp
        · split
          · simp
          · simp
      simp only [List.length_cons]
      omega
  have := key done []
  simpa [cutM] using this
theorem firstsM_len {l : List Ins} : ∀ {fuel a : Nat}, (firstsM l fuel a).length ≤ fuel
  | 0, _ => Nat.le_refl _
  | fuel + 1, a => by
    rw [firstsM]
    split
    · have := firstsM_len (l := l) (fuel := fuel) (a := a + sizeM (insAt l a))
      simp only [List.length_cons]
      omega
    · simp
theorem starts_hd {l : List Ins} {d : Nat} {r : List Nat} (h : starts l = d :: r) : d = 0 := by
  unfold starts at h
  cases hn : l.length with
  | zero => rw [hn] at h; simp [firstsM] at h
  | succ k =>
    rw [hn, firstsM] at h
    split at h
    · exact (List.cons.inj h).1.symm
    · simp at h
/-- what cut leaves: the blocks, and their last instructions -/
def CutTo (l : List Ins) (w : World) (e : Ending) (w' : World) : Prop := ∃ v1 v2 base, e = .returned (.tuple #[v1, v2]) ∧ w.heap.size ≤ base ∧ Duo base 48 3 v1 (cutsM l).length (bflat (cutsM l)) 3 1 v2 (cutsM l).length (i64s ((cutsM l).map Cb.la)) w' ∧ Fr No w w'

set_option maxRecDepth 100000 in
set_option maxHeartbeats 4000000 in
theorem cut_any (l : List Ins) (v : Value) (maps : Int) (w : World) (hv : InsAt w v l) (hok : ∀ i ∈ l, i.ok) (hW : Whole l maps) : Calls Tryz.prog 23 #[v] w (CutTo l w) := by
  have HFR := Lib.hid (fronts_any l v maps w hv hok hW)
  have hpos := hW.pos
  have hmost := hW.most
  rcases hv with ⟨rfl, _⟩ | ⟨g, off, cap, rfl, hc⟩
  · exact absurd hpos (Nat.not_lt_zero _)
  have HC := Lib.hid hc
  have HOK := Lib.hid hok
  have HWH := Lib.hid hW
  obtain ⟨n, hn⟩ : ∃ n, l.length = n := ⟨_, rfl⟩
  rw [hn] at hpos hmost HFR ⊢
  have HN := Lib.hid hn
  obtain ⟨m, hm⟩ : ∃ m, n + 1 = m := ⟨_, rfl⟩
  rw [hm] at HFR
  have HMN := Lib.hid hm
  have HPOS := Lib.hid hpos
  have HMOST := Lib.hid hmost
  clear hc hok hW hn hpos hmost hm
  obtain ⟨i0, hi0, hz0, hz1, hz2⟩ := info_parts Tryz.infoCh_blk
  obtain ⟨j0, hj0, jz0, jz1, jz2⟩ := info_parts Tryz.infoCh_int
  go_enter Tryz.func23, Tryz.ntmps23
  go_wp2_with (go_at_call 57; (with_reducible refine (HFR.out).mono ?_); rintro e W0 ⟨g0, rfl, hg1, hg2, hm2, hf2⟩; have HM0 := Lib.hid hm2; have HF0 := Lib.hid hf2; clear hg1 hg2 hm2 hf2)
  have HINS : Hid (∀ W, Fr No W0 W → InsAt W (.slice (some ⟨g, off, none⟩) n cap) l) := fun W hf => .inr ⟨g, off, cap, by rw [HN.out], (HF0.out.trans hf).cells HC.out id⟩
  have HLO : Hid (∀ W b, W0.heap.size ≤ b → Fr No W0 W → ∀ o x, Fr No W0 (W.setCell ⟨b, o, none⟩ x)) := fun W b hb hf o x => (hf.any.setCell (p := ⟨b, o, none⟩) (.inr hb) x : Fr (From W0) W0 _).ours
  go_loopw [2, 3, 5] (fun v1 v2 i wr => ∃ pc fuel : Nat, ∃ done : List Nat, i = .int .i64 pc ∧ pc ≤ n ∧ Hid (n ≤ pc + fuel) ∧ Hid (starts l = done ++ firstsM l fuel pc) ∧ Hid (Duo W0.heap.size 48 3 v1 (cutM l (frontB l) done).length (bflat (cutM l (frontB l) done)) 3 1 v2 (cutM l (frontB l) done).length (i64s ((cutM l (frontB l) done).map Cb.la)) wr) ∧ Hid (Fr No W0 wr)) (fun _ _ i _ => n - (intOf i).toNat)
  case atStart => exact ⟨0, n, [], rfl, Nat.zero_le _, Lib.hid (by omega), Lib.hid (by unfold starts; rw [HN.out]; rfl), Duo.start _ _ _ _ _ _, Fr.refl _ _⟩
  case round =>
    obtain ⟨pc, fuel, done, rfl, hpc, HFU, HST, HD, HF⟩ := hrel
    obtain ⟨B, hB⟩ : ∃ B, cutM l (frontB l) done = B := ⟨_, rfl⟩
    rw [hB] at HD
    have HBD := Lib.hid hB
    clear hB
    obtain ⟨va, ca, rfl⟩ := ownsRow_any HD.out.o1
    obtain ⟨vl, cl, rfl⟩ := ownsRow_any HD.out.o2
    obtain ⟨K, hK⟩ : ∃ K, B.length = K := ⟨_, rfl⟩
    rw [hK] at HD ⊢
    have HK := Lib.hid hK
    clear hK
    by_cases hlt : pc < n
    · have p1 : (pc : Int) < (n : Int) := by omega
      have p1' : (pc : Int) < (m : Int) := by have := HMN.out; omega
      have p2 : (0 : Int) ≤ (pc : Int) := by omega
      have HLT := Lib.hid hlt
      obtain ⟨f, hf⟩ : ∃ f, fuel = f + 1 := ⟨fuel - 1, by have := HFU.out; omega⟩
      subst hf
      have HST2 : Hid (starts l = (done ++ [pc]) ++ firstsM l f (behM l pc)) := by
        have := HST.out
        rw [firsts_in (by rw [HN.out]; exact hlt)] at this
        rw [this, List.append_assoc]
        exact Lib.hid rfl
      have HPC : Hid (pc ∈ starts l) := by rw [HST2.out]; exact Lib.hid (by simp)
      have hKb : K ≤ 1000 := by
        have h1 := cutM_len (l := l) (F := frontB l) done
        rw [HBD.out, HK.out] at h1
        have h2 : (starts l).length ≤ l.length := firstsM_len
        rw [HST2.out, HN.out] at h2
        simp only [List.length_append] at h2
        have := HMOST.out
        omega
      have HKB := Lib.hid hKb
      have HBH : Hid (∀ W, Fr No W0 W → Calls Tryz.prog 58 #[.slice (some ⟨g, off, none⟩) n cap, .int .i64 pc] W fun e w' => e = .returned (.int .i64 ((behM l pc : Nat) : Int)) ∧ Fr No W w') := fun W hf => cbehind_any l _ pc W (HINS.out _ hf) (by rw [HN.out]; exact hlt) (by rw [HN.out]; have := HMOST.out; omega)
      have HBL : Hid (behM l pc ≤ n) := by have h1 := HWH.out.beh HPC.out; rw [HN.out] at h1; exact Lib.hid h1
      have HBP := Lib.hid (behM_pos l pc)
      have HSN := Lib.hid (cutM_snoc l (frontB l) done pc)
      have b0 : wr.cell? ⟨g0, pc, none⟩ = some (.bool (frontB l pc)) := HF.out.cell (HM0.out pc (by have := HMN.out; omega)).1 id
      have HNE : Hid (K = 0 → frontB l pc = true) := fun hk => by
        have h1 : B = [] := List.eq_nil_of_length_eq_zero (by rw [HK.out]; exact hk)
        have h2 : done = [] := by
          cases hd : done with
          | nil => rfl
          | cons d r =>
            exfalso
            have key : ∀ (L : List Nat) (B : List Cb), B ≠ [] → L.foldl (cutStep l (frontB l)) B ≠ [] := by
              intro L
              induction L with
              | nil => intro B h; exact h
              | cons a L ih => intro B h; rw [List.foldl_cons]; exact ih _ (cutStep_ne (.inl h))
            have h3 := HBD.out
            rw [hd, h1] at h3
            have h4 : d = 0 := by
              have h5 := HST.out
              rw [hd] at h5
              exact starts_hd h5
            subst h4
            unfold cutM at h3
            rw [List.foldl_cons] at h3
            exact key r _ (cutStep_ne (.inr (front_zero l))) h3
        have h3 := HST.out
        rw [h2, List.nil_append] at h3
        have h4 : pc = 0 := by
          rw [firsts_in (by rw [HN.out]; exact hlt)] at h3
          exact starts_hd h3
        rw [h4]
        exact front_zero l
      have HCN : Hid (frontB l pc = true → cutStep l (frontB l) B pc = B ++ [⟨pc, behM l pc, pc⟩]) := fun h => cutStep_new h
      have HCO : Hid (frontB l pc = false → ∀ B1 c, B = B1 ++ [c] → cutStep l (frontB l) B pc = B1 ++ [⟨c.fr, behM l pc, pc⟩]) := fun h B1 c e => by rw [e]; exact cutStep_old h
      rw [HBD.out] at HSN
      obtain ⟨b, hb⟩ : ∃ b, behM l pc = b := ⟨_, rfl⟩
      rw [hb] at HST2 HBH HBL HBP HCN HCO
      obtain ⟨fb, hfb⟩ : ∃ fb, frontB l pc = fb := ⟨_, rfl⟩
      rw [hfb] at b0 HNE HCN HCO
      clear hb hfb hlt HST HPC hKb
      obtain ⟨B2, hB2⟩ : ∃ B2, cutStep l (frontB l) B pc = B2 := ⟨_, rfl⟩
      rw [hB2] at HSN HCN HCO
      clear hB2
      cases fb with
      | true =>
        have HB2 : Hid (B2 = B ++ [⟨pc, b, pc⟩]) := HCN.out rfl
        clear HCN HCO HNE
        have hK4 : K ≤ 1000 := HKB.out
        go_upto_region 7 with (first | (at_builtin; refine wpList_append_at2 rfl _ _ 24 rfl W0.heap.size 48 i0 _ 3 40 Tryz.underlying24 hi0 hz0 hz1 hz2 rfl (by decide) (.slice va K ca) K (bflat B) rfl (HD.out.to ((Fr.refl _ _).alloc _)).o1 _ 1 [.int .i64 (pc : Int), .int .i64 0, .slice none 0 0] rfl (src_new _ [.int .i64 (pc : Int), .int .i64 0, .slice none 0 0] 48) rfl (by simp [Value.oneCell']) (by unfold maxLen; omega) (by omega) (HF.out.alloc _).size ?_; intro v3 w3 own3 fr3 at3; have HD3 := Lib.hid ((HD.out.to ((Fr.refl _ _).alloc _)).left own3 fr3 at3); have HF3 := Lib.hid ((HD.out.to ((Fr.refl _ _).alloc _)).frames (Nat.le_refl _) (HF.out.alloc _) fr3); obtain ⟨gb, cb, rfl⟩ := ownsRow_form own3 (by omega); clear own3 fr3 at3) | (at_builtin; refine wpList_append_at2 rfl _ _ 31 rfl W0.heap.size 3 j0 _ 1 8 Tryz.underlying31 hj0 jz0 jz1 jz2 rfl (by decide) (.slice vl K cl) K (i64s (B.map Cb.la)) rfl (HD3.out.to ((Fr.refl _ _).alloc _)).o2 _ 1 [.int .i64 (pc : Int)] rfl (src_new _ [.int .i64 (pc : Int)] 3) rfl (by simp [Value.oneCell']) (by unfold maxLen; omega) (by omega) (HF3.out.alloc _).size ?_; intro v4 w4 own4 fr4 at4; have HD4 := Lib.hid ((HD3.out.to ((Fr.refl _ _).alloc _)).swap.left own4 fr4 at4).swap; have HF4 := Lib.hid ((HD3.out.to ((Fr.refl _ _).alloc _)).swap.frames (Nat.le_refl _) (HF3.out.alloc _) fr4); obtain ⟨gl, cl2, rfl⟩ := ownsRow_form own4 (by omega); clear own4 fr4 at4))
        obtain ⟨NN, hNN⟩ : ∃ NN, K + 1 = NN := ⟨_, rfl⟩
        rw [hNN] at HD4 ⊢
        have HNN2 := Lib.hid hNN
        have wn : wrap64 ((NN : Int) - 1) = (K : Int) := by rw [IntWalk.wrap64_in _ (by omega)]; omega
        have kn : (K : Int) < (NN : Int) := by omega
        have k0 : (0 : Int) ≤ (K : Int) := by omega
        clear hNN hK4 HD3 HF3 HD b0
        have HLX : Hid (K * 3 + 1 < (bflat B ++ ([.int .i64 (pc : Int), .int .i64 0, .slice none 0 0] : List Value)).length) := Lib.hid (by rw [List.length_append, bflat_len, HK.out]; simp)
        have HLY : Hid (K < (i64s (B.map Cb.la) ++ ([.int .i64 (pc : Int)] : List Value)).length) := Lib.hid (by rw [List.length_append, i64s_length, List.length_map, HK.out]; simp)
        have HQB : Hid (∀ W, Fr No w4 W → W.cell? ⟨gb, K * 3 + 1, none⟩ = some ((bflat B ++ ([.int .i64 (pc : Int), .int .i64 0, .slice none 0 0] : List Value))[K * 3 + 1]'HLX.out) ∧ W.frozen? ⟨gb, K * 3 + 1, none⟩ = false ∧ (W.setCell ⟨gb, K * 3 + 1, none⟩ (.int .i64 (b : Int))).cell? ⟨gl, K, none⟩ = some ((i64s (B.map Cb.la) ++ ([.int .i64 (pc : Int)] : List Value))[K]'HLY.out) ∧ (W.setCell ⟨gb, K * 3 + 1, none⟩ (.int .i64 (b : Int))).frozen? ⟨gl, K, none⟩ = false) := fun W hf => by
          have hd := HD4.out.to hf
          have hb := ownsRow_cells hd.o1
          have hd2 := hd.set HLX.out (.int .i64 (b : Int))
          have hl := ownsRow_cells hd2.o2
          have e1 := hb.1 (K * 3 + 1) _ (List.getElem?_eq_getElem HLX.out)
          have e2 := hl.1 K _ (List.getElem?_eq_getElem HLY.out)
          rw [Nat.zero_add] at e1 e2
          exact ⟨e1, hb.2.2.2 _, e2, hl.2.2.2 _⟩
        have GBGE : Hid (W0.heap.size ≤ gb ∧ W0.heap.size ≤ gl) := ⟨(ownsRow_cells HD4.out.o1).2.1, (ownsRow_cells HD4.out.o2).2.1⟩
        generalize ((bflat B ++ ([.int .i64 (pc : Int), .int .i64 0, .slice none 0 0] : List Value))[K * 3 + 1]'HLX.out) = yb at HQB
        generalize ((i64s (B.map Cb.la) ++ ([.int .i64 (pc : Int)] : List Value))[K]'HLY.out) = yl at HQB
        go_upto_region 4 with (go_at_call 58; (with_reducible refine (HBH.out _ HF4.out).mono ?_); rintro e w9 ⟨rfl, hf9⟩; have HF9 := Lib.hid hf9; obtain ⟨z1, z2, z3, z4⟩ := HQB.out w9 hf9; clear hf9)
        have HDE : Hid (Duo W0.heap.size 48 3 (.slice (some ⟨gb, 0, none⟩) NN cb) NN (bflat B2) 3 1 (.slice (some ⟨gl, 0, none⟩) NN cl2) NN (i64s (B2.map Cb.la)) ((w9.setCell ⟨gb, K * 3 + 1, none⟩ (.int .i64 (b : Int))).setCell ⟨gl, K, none⟩ (.int .i64 (pc : Int)))) := by
          have h1 := (HD4.out.to HF9.out).set HLX.out (.int .i64 (b : Int))
          have h2 := (h1.swap.set HLY.out (.int .i64 (pc : Int))).swap
          have e1 : ((bflat B ++ ([.int .i64 (pc : Int), .int .i64 0, .slice none 0 0] : List Value)).set (K * 3 + 1) (.int .i64 (b : Int))) = bflat B2 := by
            rw [HB2.out, ← bflat_set B ⟨pc, 0, 0⟩ b pc, bflat_snoc, HK.out]
            rfl
          have e2 : ((i64s (B.map Cb.la) ++ ([.int .i64 (pc : Int)] : List Value)).set K (.int .i64 (pc : Int))) = i64s (B2.map Cb.la) := by
            have h3 := i64s_set (B.map Cb.la) pc pc
            rw [i64s_snoc, List.length_map, HK.out] at h3
            rw [HB2.out, List.map_append, h3]
            exact (i64s_snoc _ _).symm
          rw [e1, e2] at h2
          exact h2
        have HFE : Hid (Fr No W0 ((w9.setCell ⟨gb, K * 3 + 1, none⟩ (.int .i64 (b : Int))).setCell ⟨gl, K, none⟩ (.int .i64 (pc : Int)))) := HLO.out _ _ GBGE.out.2 (HLO.out _ _ GBGE.out.1 (HF4.out.trans HF9.out) _ _) _ _
        clear z1 z2 z3 z4 HQB HLX HLY GBGE HF9
        generalize (w9.setCell ⟨gb, K * 3 + 1, none⟩ (.int .i64 (b : Int))).setCell ⟨gl, K, none⟩ (.int .i64 (pc : Int)) = WE at *
        go_wp2_with (go_at_call 58; (with_reducible refine (HBH.out _ HFE.out).mono ?_); rintro e w8 ⟨rfl, hf8⟩)
        go_roundw
        case rel => exact ⟨b, f, done ++ [pc], rfl, by have := HBL.out; omega, Lib.hid (by have := HFU.out; have := HBP.out; omega), HST2, by rw [HSN.out]; have e : B2.length = NN := (by rw [HB2.out, List.length_append, HK.out]; exact HNN2.out); rw [e]; exact Lib.hid (HDE.out.to hf8), HFE.out.trans hf8⟩
        case measure =>
          have := HLT.out
          have := HBP.out
          simp [intOf]
          omega
      | false =>
        have hK0 : K ≠ 0 := fun h => by have := HNE.out h; cases this
        obtain ⟨gb, cb, eb⟩ := ownsRow_form HD.out.o1 (by omega)
        injection eb with eb1 _ eb3
        subst eb1 eb3
        obtain ⟨gl, cl2, el⟩ := ownsRow_form HD.out.o2 (by omega)
        injection el with el1 _ el3
        subst el1 el3
        obtain ⟨B1, c, hB1⟩ : ∃ B1 c, B = B1 ++ [c] := by
          have hne : B ≠ [] := fun e => hK0 (by rw [← HK.out, e]; rfl)
          exact ⟨B.dropLast, B.getLast hne, (List.dropLast_concat_getLast hne).symm⟩
        have HB1 := Lib.hid hB1
        have HB2 : Hid (B2 = B1 ++ [⟨c.fr, b, pc⟩]) := HCO.out rfl B1 c hB1
        obtain ⟨K1, hK1⟩ : ∃ K1, B1.length = K1 := ⟨_, rfl⟩
        have HK1 := Lib.hid hK1
        have hKK : K = K1 + 1 := by rw [← HK.out, hB1, List.length_append, hK1]; rfl
        have HKK := Lib.hid hKK
        have wn : wrap64 ((K : Int) - 1) = (K1 : Int) := by rw [IntWalk.wrap64_in _ (by have := HKB.out; omega)]; omega
        have kn : (K1 : Int) < (K : Int) := by omega
        have k0 : (0 : Int) ≤ (K1 : Int) := by omega
        clear HCN HCO HNE hB1 hK1 hKK hK0
        go_upto_region 7 with fail
        clear b0
        have HLX : Hid (K1 * 3 + 1 < (bflat B).length) := Lib.hid (by rw [bflat_len, HK.out]; have := HK1.out; omega)
        have HLY : Hid (K1 < (i64s (B.map Cb.la)).length) := Lib.hid (by rw [i64s_length, List.length_map, HK.out]; have := HK1.out; omega)
        have HQB : Hid (∀ W, Fr No wr W → W.cell? ⟨gb, K1 * 3 + 1, none⟩ = some ((bflat B)[K1 * 3 + 1]'HLX.out) ∧ W.frozen? ⟨gb, K1 * 3 + 1, none⟩ = false ∧ (W.setCell ⟨gb, K1 * 3 + 1, none⟩ (.int .i64 (b : Int))).cell? ⟨gl, K1, none⟩ = some ((i64s (B.map Cb.la))[K1]'HLY.out) ∧ (W.setCell ⟨gb, K1 * 3 + 1, none⟩ (.int .i64 (b : Int))).frozen? ⟨gl, K1, none⟩ = false) := fun W hf => by
          have hd := HD.out.to hf
          have hb := ownsRow_cells hd.o1
          have hd2 := hd.set HLX.out (.int .i64 (b : Int))
          have hl := ownsRow_cells hd2.o2
          have e1 := hb.1 (K1 * 3 + 1) _ (List.getElem?_eq_getElem HLX.out)
          have e2 := hl.1 K1 _ (List.getElem?_eq_getElem HLY.out)
          rw [Nat.zero_add] at e1 e2
          exact ⟨e1, hb.2.2.2 _, e2, hl.2.2.2 _⟩
        have GBGE : Hid (W0.heap.size ≤ gb ∧ W0.heap.size ≤ gl) := ⟨(ownsRow_cells HD.out.o1).2.1, (ownsRow_cells HD.out.o2).2.1⟩
        generalize ((bflat B)[K1 * 3 + 1]'HLX.out) = yb at HQB
        generalize ((i64s (B.map Cb.la))[K1]'HLY.out) = yl at HQB
        go_upto_region 4 with (go_at_call 58; (with_reducible refine (HBH.out _ HF.out).mono ?_); rintro e w9 ⟨rfl, hf9⟩; have HF9 := Lib.hid hf9; obtain ⟨z1, z2, z3, z4⟩ := HQB.out w9 hf9; clear hf9)
        have HDE : Hid (Duo W0.heap.size 48 3 (.slice (some ⟨gb, 0, none⟩) K ca) K (bflat B2) 3 1 (.slice (some ⟨gl, 0, none⟩) K cl) K (i64s (B2.map Cb.la)) ((w9.setCell ⟨gb, K1 * 3 + 1, none⟩ (.int .i64 (b : Int))).setCell ⟨gl, K1, none⟩ (.int .i64 (pc : Int)))) := by
          have h1 := (HD.out.to HF9.out).set HLX.out (.int .i64 (b : Int))
          have h2 := (h1.swap.set HLY.out (.int .i64 (pc : Int))).swap
          have e1 : (bflat B).set (K1 * 3 + 1) (.int .i64 (b : Int)) = bflat B2 := by
            rw [HB2.out, HB1.out, ← bflat_set B1 c b pc, HK1.out]
          have e2 : (i64s (B.map Cb.la)).set K1 (.int .i64 (pc : Int)) = i64s (B2.map Cb.la) := by
            have h3 := i64s_set (B1.map Cb.la) c.la pc
            rw [List.length_map, HK1.out] at h3
            rw [HB2.out, HB1.out, List.map_append, List.map_append]
            exact h3
          rw [e1, e2] at h2
          exact h2
        have HFE : Hid (Fr No W0 ((w9.setCell ⟨gb, K1 * 3 + 1, none⟩ (.int .i64 (b : Int))).setCell ⟨gl, K1, none⟩ (.int .i64 (pc : Int)))) := HLO.out _ _ GBGE.out.2 (HLO.out _ _ GBGE.out.1 (HF.out.trans HF9.out) _ _) _ _
        clear z1 z2 z3 z4 HQB HLX HLY GBGE HF9
        generalize (w9.setCell ⟨gb, K1 * 3 + 1, none⟩ (.int .i64 (b : Int))).setCell ⟨gl, K1, none⟩ (.int .i64 (pc : Int)) = WE at *
        go_wp2_with (go_at_call 58; (with_reducible refine (HBH.out _ HFE.out).mono ?_); rintro e w8 ⟨rfl, hf8⟩)
        go_roundw
        case rel => exact ⟨b, f, done ++ [pc], rfl, by have := HBL.out; omega, Lib.hid (by have := HFU.out; have := HBP.out; omega), HST2, by rw [HSN.out]; have e : B2.length = K := (by rw [HB2.out, List.length_append, HK1.out, HKK.out]; rfl); rw [e]; exact Lib.hid (HDE.out.to hf8), HFE.out.trans hf8⟩
        case measure =>
          have := HLT.out
          have := HBP.out
          simp [intOf]
          omega
    · have hge : ¬ (pc : Int) < (n : Int) := by omega
      have HNL := Lib.hid hlt
      clear hlt
      go_wp2_with fail
      go_ret2
      have e : starts l = done := by rw [HST.out, firsts_out (by rw [HN.out]; have := HNL.out; omega), List.append_nil]
      have e2 : cutsM l = B := by unfold cutsM; rw [e]; exact HBD.out
      refine ⟨_, _, W0.heap.size, rfl, HF0.out.size, ?_, HF0.out.trans HF.out⟩
      rw [e2, HK.out]
      exact HD.out
end Go.Proofs.YtakcdecljfmckaaGreatDoor

namespace Go.Proofs.YtakcdecljfmckaaGreatDoor
open Go.RowKit

/-- a row of blocks, whatever comes behind them -/
def RowB (W : World) (gb : Nat) (B : List Cb) : Prop := ∀ (k : Nat) (c : Cb), B[k]? = some c → W.cell? ⟨gb, k * 3, none⟩ = some (.int .i64 (c.fr : Int)) ∧ W.cell? ⟨gb, k * 3 + 1, none⟩ = some (.int .i64 (c.to : Int)) ∧ (∃ nv, W.cell? ⟨gb, k * 3 + 2, none⟩ = some nv) ∧ W.frozen? ⟨gb, k * 3 + 2, none⟩ = false
def bare (c : Cb) : Blk := ⟨c.fr, c.to, []⟩
theorem RowB.at {W : World} {gb : Nat} {B : List Cb} (h : RowB W gb B) : RowAt W gb (B.map bare) := fun k b hk => by
  rw [List.getElem?_map] at hk
  cases hB : B[k]? with
  | none => rw [hB] at hk; simp at hk
  | some c =>
    rw [hB] at hk
    simp only [Option.map_some, Option.some.injEq] at hk
    subst hk
    obtain ⟨h1, h2, h3, -⟩ := h k c hB
    exact ⟨h1, h2, h3⟩
theorem atB_bare (B : List Cb) (pc : Int) : atB (B.map bare) pc = atM B pc := atB_atM B bare (fun _ => ⟨rfl, rfl⟩) pc
/-- behind the blocks ahead of the i-th -/
structure BO (l : List Ins) (W : World) (gb : Nat) (B : List Cb) (i : Nat) : Prop where
  row : RowB W gb B
  done : ∀ (k : Nat) (c : Cb), k < i → B[k]? = some c → ∃ nv, W.cell? ⟨gb, k * 3 + 2, none⟩ = some nv ∧ NatsAt W nv (nextsM l B c.la) ∧ ∀ b, nv.ownBlock = some b → b ≠ gb
  rest : ∀ (k : Nat) (c : Cb), i ≤ k → B[k]? = some c → W.cell? ⟨gb, k * 3 + 2, none⟩ = some (.slice none 0 0)
/-- midway in the i-th -/
structure BI (W2 : World) (W : World) (gb i : Nat) (cur : List Nat) : Prop where
  fr : Fr (Isb gb) W2 W
  keep : ∀ j, j ≠ i * 3 + 2 → W.cell? ⟨gb, j, none⟩ = W2.cell? ⟨gb, j, none⟩
  frz : ∀ j, W.frozen? ⟨gb, j, none⟩ = W2.frozen? ⟨gb, j, none⟩
  cur : ∃ nv, W.cell? ⟨gb, i * 3 + 2, none⟩ = some nv ∧ W.ownsRow W2.heap.size 3 1 nv cur.length (i64s cur)
theorem NatsAt.frS {S : Nat → Prop} {w w' : World} {v : Value} {L : List Nat} (h : NatsAt w v L) (hf : Fr S w w') (hs : ∀ b, v.ownBlock = some b → ¬ S b) : NatsAt w' v L := by
  rcases h with h | ⟨g, cap, rfl, hc⟩
  · exact .inl h
  · exact .inr ⟨g, cap, rfl, hf.cells hc (hs g rfl)⟩
theorem NatsAt.of_own {w : World} {base : Nat} {t : TypeId} {v : Value} {L : List Nat} (h : w.ownsRow base t 1 v L.length (i64s L)) : NatsAt w v L := by
  rcases h.2 with ⟨h1, h2⟩ | ⟨g, cap, cur, hv, -⟩
  · exact .inl ⟨List.eq_nil_of_length_eq_zero h2, h1⟩
  · subst hv
    exact .inr ⟨g, cap, rfl, (ownsRow_cells h).1⟩
theorem BO.fr {l : List Ins} {W W' : World} {gb : Nat} {B : List Cb} {i : Nat} (h : BO l W gb B i) (hf : Fr No W W') : BO l W' gb B i := by
  refine ⟨fun k c hk => ?_, fun k c hi hk => ?_, fun k c hi hk => hf.cell (h.rest k c hi hk) id⟩
  · obtain ⟨h1, h2, ⟨nv, h3⟩, h4⟩ := h.row k c hk
    exact ⟨hf.cell h1 id, hf.cell h2 id, ⟨nv, hf.cell h3 id⟩, by rw [hf.frozen h3 id]; exact h4⟩
  · obtain ⟨nv, h1, h2, h3⟩ := h.done k c hi hk
    exact ⟨nv, hf.cell h1 id, h2.fr hf, h3⟩
theorem BI.start {l : List Ins} {W : World} {gb i : Nat} {B : List Cb} {c : Cb} (h : BO l W gb B i) (hc : B[i]? = some c) : BI W W gb i [] :=
  ⟨Fr.refl _ _, fun _ _ => rfl, fun _ => rfl, _, h.rest i c (Nat.le_refl _) hc, World.ownsRow_nil _ _ _ _⟩
theorem BI.to {W2 W W' : World} {gb i : Nat} {cur : List Nat} (h : BI W2 W gb i cur) (hf : Fr No W W') : BI W2 W' gb i cur := by
  obtain ⟨nv, h1, h2⟩ := h.cur
  have hlt : gb < W.heap.size := World.block_lt_of_cell? W _ h1
  have hb : W'.heap[gb]? = W.heap[gb]? := hf.block gb hlt id
  exact ⟨h.fr.trans hf.any, fun j hj => by rw [World.cell?_of_block (w := W) hb]; exact h.keep j hj, fun j => by rw [World.frozen?_of_block (w := W) hb]; exact h.frz j, nv, hf.cell h1 id, ownsRow_fr h2 hf (fun _ _ => id)⟩
theorem BI.row {l : List Ins} {W2 W : World} {gb i : Nat} {B : List Cb} {cur : List Nat} (h : BI W2 W gb i cur) (hb : BO l W2 gb B i) : RowB W gb B := fun k c hk => by
  obtain ⟨h1, h2, ⟨nv, h3⟩, h4⟩ := hb.row k c hk
  refine ⟨by rw [h.keep _ (by omega)]; exact h1, by rw [h.keep _ (by omega)]; exact h2, ?_, by rw [h.frz]; exact h4⟩
  by_cases e : k = i
  · subst e
    obtain ⟨nv', h5, -⟩ := h.cur
    exact ⟨nv', h5⟩
  · exact ⟨nv, by rw [h.keep _ (by omega)]; exact h3⟩
theorem BI.step {W2 W W3 : World} {gb i n : Nat} {cur : List Nat} {nv nv' : Value} (h : BI W2 W gb i cur) (hc : W.cell? ⟨gb, i * 3 + 2, none⟩ = some nv) (hown : W.ownsRow W2.heap.size 3 1 nv cur.length (i64s cur)) (hgb : gb < W2.heap.size)
    (ho : W3.ownsRow W2.heap.size 3 1 nv' (cur.length + 1) (i64s cur ++ [.int .i64 (n : Int)])) (hf : Fr (OwnOf nv) W W3) : BI W2 (W3.setCell ⟨gb, i * 3 + 2, none⟩ nv') gb i (cur ++ [n]) := by
  have hlt : gb < W.heap.size := World.block_lt_of_cell? W _ hc
  have hn : ¬ OwnOf nv gb := fun hk => by have := OwnOf.ge hown hk; omega
  have hb : W3.heap[gb]? = W.heap[gb]? := hf.block gb hlt hn
  have hc3 : W3.cell? ⟨gb, i * 3 + 2, none⟩ = some nv := by rw [World.cell?_of_block (w := W) hb]; exact hc
  refine ⟨?_, fun j hj => ?_, fun j => ?_, nv', World.cell?_setCell_same _ _ _ hc3, ?_⟩
  · have h1 : Fr (Isb gb) W2 W3 := ⟨hf.os.trans h.fr.os, hf.tape.trans h.fr.tape, hf.output.trans h.fr.output, Nat.le_trans h.fr.size hf.size, fun k hk hs => by
      rw [hf.block k (Nat.lt_of_lt_of_le hk h.fr.size) (fun ho => by have := OwnOf.ge hown ho; omega)]
      exact h.fr.block k hk hs⟩
    exact h1.setB _ _
  · rw [World.cell?_setCell_other _ _ _ _ (by intro hc; injection hc with _ hc _; exact hj hc.symm), World.cell?_of_block (w := W) hb]
    exact h.keep j hj
  · rw [World.frozen?_setCell, World.frozen?_of_block (w := W) hb]
    exact h.frz j
  · have h1 : W3.ownsRow W2.heap.size 3 1 nv' (cur ++ [n]).length (i64s (cur ++ [n])) := by rw [List.length_append, i64s_snoc]; exact ho
    exact ownsRow_setCell_below h1 hgb _
theorem BI.end {l : List Ins} {W2 W : World} {gb i : Nat} {B : List Cb} {c : Cb} {cur : List Nat} (h : BI W2 W gb i cur) (hb : BO l W2 gb B i) (hc : B[i]? = some c) (he : nextsM l B c.la = cur) (hgb : gb < W2.heap.size) : BO l W gb B (i + 1) := by
  refine ⟨h.row hb, fun k d hk hd => ?_, fun k d hk hd => ?_⟩
  · by_cases e : k = i
    · subst e
      rw [hc] at hd
      obtain rfl := Option.some.inj hd
      obtain ⟨nv, h1, h2⟩ := h.cur
      rw [he]
      exact ⟨nv, h1, .of_own h2, fun b hb => by have := OwnOf.ge h2 hb; omega⟩
    · obtain ⟨nv, h1, h2, h3⟩ := hb.done k d (by omega) hd
      exact ⟨nv, by rw [h.keep _ (by omega)]; exact h1, h2.frS h.fr (fun b hb hs => h3 b hb hs), h3⟩
  · rw [h.keep _ (by omega)]
    exact hb.rest k d (by omega) hd
theorem BO.all {l : List Ins} {W : World} {gb : Nat} {i cap : Nat} (h : BO l W gb (cutsM l) i) (hi : (cutsM l).length ≤ i) : BlksAt W (.slice (some ⟨gb, 0, none⟩) (cutsM l).length cap) (blocksM l) := by
  refine ⟨gb, cap, by rw [blocksM_len], fun k b hk => ?_⟩
  cases hB : (cutsM l)[k]? with
  | none =>
    unfold blocksM at hk
    rw [List.getElem?_map, hB] at hk
    simp at hk
  | some c =>
    rw [blocksM_get hB, Option.some.injEq] at hk
    subst hk
    obtain ⟨h1, h2, -, -⟩ := h.row k c hB
    have hlt := (List.getElem?_eq_some_iff.1 hB).1
    obtain ⟨nv, h3, h4, -⟩ := h.done k c (by omega) hB
    exact ⟨h1, h2, nv, h3, h4⟩
theorem bflat_get {B : List Cb} {k : Nat} {c : Cb} (h : B[k]? = some c) : (bflat B)[k * 3]? = some (.int .i64 (c.fr : Int)) ∧ (bflat B)[k * 3 + 1]? = some (.int .i64 (c.to : Int)) ∧ (bflat B)[k * 3 + 2]? = some (.slice none 0 0) := by
  induction B generalizing k with
  | nil => simp at h
  | cons b B ih =>
    simp only [bflat, List.flatMap_cons]
    cases k with
    | zero =>
      simp only [List.getElem?_cons_zero, Option.some.injEq] at h
      subst h
      exact ⟨rfl, rfl, rfl⟩
    | succ k =>
      have h2 := ih (k := k) (by simpa using h)
      simp only [bflat] at h2
      refine ⟨?_, ?_, ?_⟩
      · rw [List.getElem?_append_right (by simp; omega), show (k + 1) * 3 - [Value.int IntKind.i64 (b.fr : Int), .int .i64 (b.to : Int), .slice none 0 0].length = k * 3 by simp; omega]
        exact h2.1
      · rw [List.getElem?_append_right (by simp; omega), show (k + 1) * 3 + 1 - [Value.int IntKind.i64 (b.fr : Int), .int .i64 (b.to : Int), .slice none 0 0].length = k * 3 + 1 by simp; omega]
        exact h2.2.1
      · rw [List.getElem?_append_right (by simp; omega), show (k + 1) * 3 + 2 - [Value.int IntKind.i64 (b.fr : Int), .int .i64 (b.to : Int), .slice none 0 0].length = k * 3 + 2 by simp; omega]
        exact h2.2.2
theorem BO.start {l : List Ins} {W : World} {base gb cb n : Nat} {B : List Cb} {t : TypeId} (h : W.ownsRow base t 3 (.slice (some ⟨gb, 0, none⟩) n cb) n (bflat B)) : BO l W gb B 0 := by
  have hc := ownsRow_cells h
  refine ⟨fun k c hk => ?_, fun k c h0 => absurd h0 (Nat.not_lt_zero _), fun k c _ hk => ?_⟩
  · obtain ⟨h1, h2, h3⟩ := bflat_get hk
    have k1 := hc.1 _ _ h1
    have k2 := hc.1 _ _ h2
    have k3 := hc.1 _ _ h3
    rw [Nat.zero_add] at k1 k2 k3
    exact ⟨k1, k2, ⟨_, k3⟩, hc.2.2.2 _⟩
  · obtain ⟨h1, h2, h3⟩ := bflat_get hk
    have k3 := hc.1 _ _ h3
    rw [Nat.zero_add] at k3
    exact k3
theorem nexts_take {B : List Cb} {L : List Nat} {k x : Nat} (h : L[k]? = some x) : ((L.take (k + 1)).map fun z : Nat => (atM B (z : Int)).toNat).foldl addNew [] = addNew (((L.take k).map fun z : Nat => (atM B (z : Int)).toNat).foldl addNew []) (atM B (x : Int)).toNat := by
  rw [List.take_add_one, h]
  simp
end Go.Proofs.YtakcdecljfmckaaGreatDoor
