/- firewalllaw28.CorpusTexts, walked. -/
import Derived.Test.YthkdokkpiaaljaaGreatDoorLnC4
import Derived.Test.YthkdokkpiaaljaaGreatDoorLnK10
set_option linter.all false
set_option linter.unusedVariables false
set_option linter.unusedSimpArgs false
namespace Go.Proofs.YthkdokkpiaaljaaGreatDoor
open Go.RowKit

theorem cv64 (a : Nat) (W : World) (h : a < 256) : (convert 5 3 (.int .u8 a)).run Tryz.prog W = .ok (.int .i64 a) W := by
  have := IntWalk.i64_in (a : Int) (by omega)
  simp [go_sem, this]
theorem one9 {A B : ByteArray} {v2 v3 v4 v5 v6 v7 v8 : Value} (h : [v2, v3, v4, v5, v6, v7, v8].all (·.oneCell') = true) : (#[.string A, .string B, v2, v3, v4, v5, v6, v7, v8] : Array Value).all (·.oneCell') = true := by
  refine all_oneCell_toArray (cs := [.string A, .string B, v2, v3, v4, v5, v6, v7, v8]) fun v hv => ?_
  rw [List.all_eq_true] at h
  rcases List.mem_cons.1 hv with rfl | hv
  · rfl
  rcases List.mem_cons.1 hv with rfl | hv
  · rfl
  exact h v hv
theorem idx9 (g i c : Nat) (W : World) (hi : i < 13) : (Instr.indexAt 35 (.slice (some ⟨g, 0, none⟩) 13 c) (.int .i64 i)).run Tryz.prog W = .ok (.pointer (some ⟨g, 9 * i, none⟩)) W := by
  rw [run_indexAt_slice (h := by kernel_rfl), if_pos (by omega)]
  have e : (sizeOf (Tryz.prog.elem 35)).run Tryz.prog W = .ok 9 W := by kernel_rfl
  rw [e]
  show Result.ok (Value.pointer (some (Addr.add ⟨g, 0, none⟩ (Int.toNat (i : Int) * 9)))) W = _
  rw [Addr.add_mid]
  refine congrArg (fun o => Result.ok (Value.pointer (some (⟨g, o, none⟩ : Addr))) W) ?_
  omega
set_option maxRecDepth 100000 in
set_option maxHeartbeats 4000000 in
theorem ctexts_any (a b : Nat) (ha : a < 256) (hb : b < 256) (w : World) (hT : LT w) : Calls Tryz.prog 9 #[.int .u8 a, .int .u8 b] w fun e w' => e = .returned (.bool true) ∧ Fr No w w' := by
  have HA := Lib.hid (call_any w)
  obtain ⟨i, hi⟩ : ∃ i, a % 13 = i := ⟨_, rfl⟩
  obtain ⟨j, hj⟩ : ∃ j, b % 13 = j := ⟨_, rfl⟩
  have HI := Lib.hid (show i < 13 by omega)
  have HJ := Lib.hid (show j < 13 by omega)
  have f1 : (a : Int) % 13 = (i : Int) := by omega
  have f1' : (a : Int).tmod 13 = (i : Int) := by rw [Int.tmod_eq_emod_of_nonneg (by omega)]; omega
  have f2 : (b : Int) % 13 = (j : Int) := by omega
  have f2' : (b : Int).tmod 13 = (j : Int) := by rw [Int.tmod_eq_emod_of_nonneg (by omega)]; omega
  have e1 : wrap64 (a : Int) = a := IntWalk.wrap64_in _ (by omega)
  have e2 : wrap64 (b : Int) = b := IntWalk.wrap64_in _ (by omega)
  have HA8 := Lib.hid ha
  have HB8 := Lib.hid hb
  have p1 : (i : Int) < 13 := by omega
  have p2 : (j : Int) < 13 := by omega
  obtain ⟨N, T, p, hN, hTx, hr, hsh, hTl, hok, hp64, hNl⟩ := text_at i HI.out
  obtain ⟨M, T2, p2, hM, hTx2, -, -, -, -, -, hMl⟩ := text_at j HJ.out
  have HRD : Hid (∀ W, Fr No w W → Calls Tryz.prog 14 #[.string (bA T)] W (ReadTo W (p, 0, 0))) := fun W hf => by
    have := lread_any T (by omega) W (hT.fr hf)
    rw [hr] at this
    exact this
  have HSH : Hid (∀ W v, Fr No w W → InsAt W v p → Calls Tryz.prog 11 #[v] W fun e w' => e = .returned (.string (bA T)) ∧ Fr No W w') := fun W v hf hv => by
    have := lshow_any v p W hv hok (by omega) (hT.fr hf)
    rw [hsh] at this
    exact this
  have HFI : Hid (∀ W, Calls Tryz.prog 17 #[] W fun e w' => e = .returned (.bool true) ∧ Fr No W w') := fun W => first_any W
  have HNT : Hid (∀ W g gm, AllAt W g gm → EntAt W g i (bA N) (bA T) ∧ EntAt W g j (bA M) (bA T2)) := fun W g gm h => ⟨h.1 i N T hN hTx, h.1 j M T2 hM hTx2⟩
  have HU : Hid (((bA N).toList == (bA M).toList) = (i == j)) := by
    rw [bA_same, show (bA M).toList = M by rw [show bA M = (⟨M.toArray⟩ : ByteArray) from rfl, Lib.toList_data]]
    exact Lib.hid (unlike i j HI.out HJ.out N M hN hM)
  generalize bA N = BN at *
  generalize bA M = BM at *
  generalize bA T = BT at *
  generalize bA T2 = BT2 at *
  clear hi hj ha hb hN hTx hr hsh hTl hok hp64 hNl hM hTx2 hMl hT
  go_enter Tryz.func9, Tryz.ntmps9
  go_upto_region 4 with (go_at_call 16; (with_reducible refine HA.out.mono ?_); rintro e w1 ⟨g, gm, rfl, hgs, hgs2, -, hf, hall⟩; have HF1 := Lib.hid hf; clear hf; obtain ⟨⟨v2, v3, v4, v5, v6, v7, v8, hx, ox⟩, ⟨u2, u3, u4, u5, u6, u7, u8, hy, oy⟩⟩ := HNT.out _ _ _ hall; have HX := Lib.hid hx; have HY := Lib.hid hy; have OX := Lib.hid ox; have OY := Lib.hid oy; clear hx hy ox oy hall)
  go_cut [6, 7] from 15 to 26 (fun s6 s7 wx => ∃ bx cy, s6 = .pointer (some ⟨bx, 0, none⟩) ∧ s7 = .pointer (some ⟨cy, 0, none⟩) ∧ Hid (Fr No w wx) ∧ Hid (CellsAt wx bx 0 [.string BN, .string BT, v2, v3, v4, v5, v6, v7, v8]) ∧ Hid (CellsAt wx cy 0 [.string BM, .string BT2, u2, u3, u4, u5, u6, u7, u8]))
  case first =>
    rename_i J K' hJ hK
    refine wp_region_made [(5, .slice (some ⟨g, 0, none⟩) 13 13), (0, .int .u8 a), (1, .int .u8 b)]
      [some (.slice (some ⟨g, 0, none⟩) 13 13), some (.int .u8 a), some (.int .i64 a), some (.int .i64 i), some (.pointer (some ⟨g, 9 * i, none⟩)), some (.agg #[.string BN, .string BT, v2, v3, v4, v5, v6, v7, v8]), some (.slice (some ⟨g, 0, none⟩) 13 13), some (.int .u8 b), some (.int .i64 b), some (.int .i64 j), some (.pointer (some ⟨g, 9 * j, none⟩)), some (.agg #[.string BM, .string BT2, u2, u3, u4, u5, u6, u7, u8]), none, none, none, none]
      (fun h W => Fr No w1 W ∧ Boxed w1 W (h 12) (h 14) [.string BN, .string BT, v2, v3, v4, v5, v6, v7, v8] ∧ Boxed w1 W (h 13) (h 15) [.string BM, .string BT2, u2, u3, u4, u5, u6, u7, u8] ∧ (∀ u, h 12 = some u → h 13 = some u → False)) (by kernel_rfl) (by kernel_rfl) (by kernel_rfl) (by kernel_rfl) ⟨rfl, rfl, rfl, trivial⟩ ⟨(Fr.refl _ _).drew, Boxed.not, Boxed.not, fun u h _ => by simp at h⟩ ?_ ?_ ?_
    · intro q o c ho hc h A W hS hpre hb
      obtain ⟨hF, -, -, -⟩ := hS
      match q, ho, hc, hpre with
      | 0, ho, hc, hpre => cases ho; cases hc; exact do_move (base_val hb 5 (by simp))
      | 1, ho, hc, hpre => cases ho; cases hc; exact do_move (base_val hb 0 (by simp))
      | 2, ho, hc, hpre => cases ho; cases hc; exact do_convert (pre_val hpre 1 16 (by kernel_rfl) rfl rfl) (cv64 a W HA8.out)
      | 3, ho, hc, hpre => cases ho; cases hc; exact do_bin (pre_val hpre 2 17 (by kernel_rfl) rfl rfl) rfl (by simp [go_sem, f1, f1', e1])
      | 4, ho, hc, hpre => cases ho; cases hc; exact do_index (pre_val hpre 0 15 (by kernel_rfl) rfl rfl) (pre_val hpre 3 18 (by kernel_rfl) rfl rfl) (idx9 _ _ _ _ HI.out)
      | 5, ho, hc, hpre => cases ho; cases hc; exact do_load (pre_val hpre 4 19 (by kernel_rfl) rfl rfl) (run_loadAt_mid W g (9 * i) _ _ _ (hF.cells HX.out id) rfl rfl rfl)
      | 6, ho, hc, hpre => cases ho; cases hc; exact do_move (base_val hb 5 (by simp))
      | 7, ho, hc, hpre => cases ho; cases hc; exact do_move (base_val hb 1 (by simp))
      | 8, ho, hc, hpre => cases ho; cases hc; exact do_convert (pre_val hpre 7 22 (by kernel_rfl) rfl rfl) (cv64 b W HB8.out)
      | 9, ho, hc, hpre => cases ho; cases hc; exact do_bin (pre_val hpre 8 23 (by kernel_rfl) rfl rfl) rfl (by simp [go_sem, f2, f2', e2])
      | 10, ho, hc, hpre => cases ho; cases hc; exact do_index (pre_val hpre 6 21 (by kernel_rfl) rfl rfl) (pre_val hpre 9 24 (by kernel_rfl) rfl rfl) (idx9 _ _ _ _ HJ.out)
      | 11, ho, hc, hpre => cases ho; cases hc; exact do_load (pre_val hpre 10 25 (by kernel_rfl) rfl rfl) (run_loadAt_mid W g (9 * j) _ _ _ (hF.cells HY.out id) rfl rfl rfl)
      | 12, ho, hc, hpre => cases hc
      | 13, ho, hc, hpre => cases hc
      | 14, ho, hc, hpre => cases hc
      | 15, ho, hc, hpre => cases hc
      | n + 16, ho, hc, hpre => cases hc
    · intro q o ho hc h A W hdf hi hS hpre hb
      obtain ⟨hF, hX, hY, hne⟩ := hS
      have hsz := hF.size
      match q, ho, hc, hi, hpre with
      | 0, ho, hc, hi, hpre => cases hc
      | 1, ho, hc, hi, hpre => cases hc
      | 2, ho, hc, hi, hpre => cases hc
      | 3, ho, hc, hi, hpre => cases hc
      | 4, ho, hc, hi, hpre => cases hc
      | 5, ho, hc, hi, hpre => cases hc
      | 6, ho, hc, hi, hpre => cases hc
      | 7, ho, hc, hi, hpre => cases hc
      | 8, ho, hc, hi, hpre => cases hc
      | 9, ho, hc, hi, hpre => cases hc
      | 10, ho, hc, hi, hpre => cases hc
      | 11, ho, hc, hi, hpre => cases hc
      | 12, ho, hc, hi, hpre =>
        cases ho
        refine do_alloc (z := #[.string ByteArray.empty, .string ByteArray.empty, .slice none 0 0, .int .i64 0, .string ByteArray.empty, .int .u64 0, .slice none 0 0, .slice none 0 0, .int .u64 0]) (by kernel_rfl) ⟨_, rfl, hF.alloc _, ?_, hY.alloc _, ?_⟩
        · have h14 : h 14 = none := hX.1 hi
          rw [setH_same, setH_ne (by decide), h14]
          exact Boxed.made hsz _ _ rfl
        · intro u hu hv
          rw [setH_same] at hu
          rw [setH_ne (by decide)] at hv
          obtain ⟨b2, e, _, hlt, _⟩ := hY.2 u hv
          have := (Option.some.inj hu).trans e
          injection this with h1
          injection h1 with h1
          injection h1 with h1
          omega
      | 13, ho, hc, hi, hpre =>
        cases ho
        refine do_alloc (z := #[.string ByteArray.empty, .string ByteArray.empty, .slice none 0 0, .int .i64 0, .string ByteArray.empty, .int .u64 0, .slice none 0 0, .slice none 0 0, .int .u64 0]) (by kernel_rfl) ⟨_, rfl, hF.alloc _, hX.alloc _, ?_, ?_⟩
        · have h15 : h 15 = none := hY.1 hi
          rw [setH_same, setH_ne (by decide), h15]
          exact Boxed.made hsz _ _ rfl
        · intro u hu hv
          rw [setH_same] at hv
          rw [setH_ne (by decide)] at hu
          obtain ⟨b2, e, _, hlt, _⟩ := hX.2 u hu
          have := (Option.some.inj hv).trans e
          injection this with h1
          injection h1 with h1
          injection h1 with h1
          omega
      | 14, ho, hc, hi, hpre =>
        cases ho
        obtain ⟨u, hu, eu⟩ := pre_made hpre 12 6 (by kernel_rfl) rfl rfl
        obtain ⟨b2, rfl, hb2, hlt, hth, _⟩ := hX.2 u hu
        rw [hu] at hX
        refine do_store eu (pre_val2 hpre 5 20 (by kernel_rfl) rfl rfl) hth (by kernel_rfl) (one9 OX.out) ⟨undef, rfl, hF.setCells (.inl hb2) _ _, ?_, ?_, ?_⟩
        · rw [setH_ne (by decide), setH_same, hu]
          exact hX.put undef
        · rw [setH_ne (by decide), setH_ne (by decide)]
          exact hY.other b2 _ (fun v hv e => hne _ hu (e ▸ hv))
        · intro v hv1 hv2
          rw [setH_ne (by decide)] at hv1 hv2
          exact hne v hv1 hv2
      | 15, ho, hc, hi, hpre =>
        cases ho
        obtain ⟨u, hu, eu⟩ := pre_made hpre 13 7 (by kernel_rfl) rfl rfl
        obtain ⟨b2, rfl, hb2, hlt, hth, _⟩ := hY.2 u hu
        rw [hu] at hY
        refine do_store eu (pre_val2 hpre 11 26 (by kernel_rfl) rfl rfl) hth (by kernel_rfl) (one9 OY.out) ⟨undef, rfl, hF.setCells (.inl hb2) _ _, ?_, ?_, ?_⟩
        · rw [setH_ne (by decide), setH_ne (by decide)]
          exact hX.other b2 _ (fun v hv e => hne _ (e ▸ hv) hu)
        · rw [setH_ne (by decide), setH_same, hu]
          exact hY.put undef
        · intro v hv1 hv2
          rw [setH_ne (by decide)] at hv1 hv2
          exact hne v hv1 hv2
      | n + 16, ho, hc, hi, hpre => cases ho
    · intro h V W hV hS
      obtain ⟨hF, hX, hY, hne⟩ := hS
      obtain ⟨bx, e6, -, -, -, hx⟩ := hX.2 _ (hV 12 (by decide))
      obtain ⟨cy, e7, -, -, -, hy⟩ := hY.2 _ (hV 13 (by decide))
      have hx := hx (by rw [show h 14 = some (V 14) from hV 14 (by decide)]; exact Option.some_ne_none _)
      have hy := hy (by rw [show h 15 = some (V 15) from hV 15 (by decide)]; exact Option.some_ne_none _)
      exact hK _ _ (Met.intro (hJ _ _ ⟨V 12, V 13, V 0, V 1, V 2, V 3, V 4, V 5, V 6, V 7, V 8, V 9, V 10, V 11, ⟨bx, cy, e6, e7, HF1.out.trans hF, hx, hy⟩, by kernel_rfl⟩))
  case rest =>
    obtain ⟨bx, cy, rfl, rfl, HF2, HBX, HBY⟩ := hcut
    clear HA HNT HX HY OX OY HF1 hgs hgs2
    have HK0 : Hid (∀ W, Fr No wc W → W.cell? ⟨bx, 0, none⟩ = some (.string BN) ∧ W.cell? ⟨bx, 1, none⟩ = some (.string BT) ∧ W.cell? ⟨cy, 0, none⟩ = some (.string BM)) := fun W hf => ⟨by have := (hf.cells HBX.out id) 0 _ rfl; exact this, by have := (hf.cells HBX.out id) 1 _ rfl; exact this, by have := (hf.cells HBY.out id) 0 _ rfl; exact this⟩
    obtain ⟨cx0, cx1, cy0⟩ := HK0.out wc (Fr.refl _ _)
    obtain ⟨t, ht⟩ : ∃ t, (i == j) = t := ⟨_, rfl⟩
    rw [ht] at HU
    have qn : (BN.toList == BM.toList) = t := HU.out
    have qi : ((i : Int) == (j : Int)) = t := by rw [← ht]; exact beq_nat i j
    have qt : (BT.toList == BT.toList) = true := by rw [beq_iff_eq]
    have qtt : (t == t) = true := by cases t <;> rfl
    have e1w : IntKind.i64.wrap (a : Int) = a := by have := HA8.out; exact IntWalk.i64_in _ (by omega)
    have e2w : IntKind.i64.wrap (b : Int) = b := by have := HB8.out; exact IntWalk.i64_in _ (by omega)
    clear ht HU HI HJ HA8 HB8 HBX HBY
    go_upto_region 6 with (go_at_call 14; (with_reducible refine (HRD.out _ HF2.out).mono ?_); rintro e w5 ⟨lv, rfl, hi, hf⟩; have HI5 := Lib.hid hi; have HF5 := Lib.hid hf; clear hi hf)
    obtain ⟨cx0', cx1', cy0'⟩ := HK0.out w5 HF5.out
    clear cx0 cx1 cy0
    have HSH2 : Hid (∀ W, Fr No w5 W → Calls Tryz.prog 11 #[lv] W fun e w' => e = .returned (.string BT) ∧ Fr No W w') := fun W hf => HSH.out W lv ((HF2.out.trans HF5.out).trans hf) (HI5.out.fr hf)
    have HK : Hid (∀ W, Fr No w5 W → (W.cell? ⟨bx, 0, none⟩ = some (.string BN) ∧ W.cell? ⟨bx, 1, none⟩ = some (.string BT) ∧ W.cell? ⟨cy, 0, none⟩ = some (.string BM) ∧ Hid (Fr No w5 W))) := fun W hf => by
      obtain ⟨h1, h2, h3⟩ := HK0.out W (HF5.out.trans hf)
      exact ⟨h1, h2, h3, hf⟩
    have HKT : Hid (∀ W W', (W.cell? ⟨bx, 0, none⟩ = some (.string BN) ∧ W.cell? ⟨bx, 1, none⟩ = some (.string BT) ∧ W.cell? ⟨cy, 0, none⟩ = some (.string BM) ∧ Hid (Fr No w5 W)) → Fr No W W' → (W'.cell? ⟨bx, 0, none⟩ = some (.string BN) ∧ W'.cell? ⟨bx, 1, none⟩ = some (.string BT) ∧ W'.cell? ⟨cy, 0, none⟩ = some (.string BM) ∧ Hid (Fr No w5 W'))) := fun W W' h hf => HK.out W' (h.2.2.2.out.trans hf)
    have H0 := HK.out w5.drew (Fr.refl _ _).drew
    have HF6 := Lib.hid (HF2.out.trans HF5.out)
    clear HSH HRD HI5 HF2 HF5 HK0 cx0' cx1' cy0' HK
    go_region_held3 (fun W => W.cell? ⟨bx, 0, none⟩ = some (.string BN) ∧ W.cell? ⟨bx, 1, none⟩ = some (.string BT) ∧ W.cell? ⟨cy, 0, none⟩ = some (.string BM) ∧ Hid (Fr No w5 W))
      (first | assumption | exact HKT.out _ _ (by assumption) (by assumption))
      (first
        | (go_at_call 11; (with_reducible refine (HSH2.out _ (by exact H0.2.2.2.out)).mono ?_); rintro e w6 ⟨rfl, hf6⟩)
        | (go_at_call 17; (with_reducible refine (HFI.out _).mono ?_); rintro e w7 ⟨rfl, hf7⟩))
    all_goals go_wp2_with fail
    all_goals go_ret
    all_goals (refine ⟨rfl, HF6.out.trans ?_⟩)
    all_goals exact ((Fr.refl No w5).drew.trans hf6).trans hf7
end Go.Proofs.YthkdokkpiaaljaaGreatDoor
