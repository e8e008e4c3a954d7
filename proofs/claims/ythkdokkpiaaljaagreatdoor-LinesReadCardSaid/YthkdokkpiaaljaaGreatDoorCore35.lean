/- firewallref03.one, walked. -/
import Derived.Test.YthkdokkpiaaljaaGreatDoorCore7
set_option linter.all false
set_option linter.unusedVariables false
set_option linter.unusedSimpArgs false
namespace Go.Proofs.YthkdokkpiaaljaaGreatDoor
open Go.RowKit

set_option maxRecDepth 100000 in
set_option maxHeartbeats 4000000 in
theorem one_walk (op dst src : Nat) (off imm : Int) (hop : op < 256) (hd : dst < 256) (hs : src < 256) (ho : -32768 ≤ off ∧ off < 32768) (hm : -2147483648 ≤ imm ∧ imm < 2147483648) (w : World) :
    Calls Tryz.prog 29 #[.agg #[.int .u8 op, .int .u8 dst, .int .u8 src, .int .i16 off, .int .i32 imm]] w fun e w' => e = .returned (.string (bA (oneB (op == 194) (arithB op) (codeN op == 128) (specB op) (codeN op == 0) (codeN op == 128) (jumpB op) (loadB op) (storeB op)
    (nameN op) (widthN op ++ [32]) (if regB op then regN src else itoaN imm) (decN (sizeN op) ++ [32] ++ regN dst ++ [32]) (regN dst) (regN src) (itoaN off) (signN off) (itoaN imm)))) ∧ Fr No w w' := by
  have HA : Hid (∀ W, Calls Tryz.prog 57 #[.int .u8 op] W fun e w' => e = .returned (.bool (arithB op)) ∧ W = w') := fun W => arith_any op hop W
  have HJ : Hid (∀ W, Calls Tryz.prog 59 #[.int .u8 op] W fun e w' => e = .returned (.bool (jumpB op)) ∧ W = w') := fun W => jump_any op hop W
  have HL : Hid (∀ W, Calls Tryz.prog 58 #[.int .u8 op] W fun e w' => e = .returned (.bool (loadB op)) ∧ W = w') := fun W => load_any op hop W
  have HT : Hid (∀ W, Calls Tryz.prog 61 #[.int .u8 op] W fun e w' => e = .returned (.bool (storeB op)) ∧ W = w') := fun W => store_any op hop W
  have HP : Hid (∀ W, Calls Tryz.prog 60 #[.int .u8 op] W fun e w' => e = .returned (.bool (specB op)) ∧ W = w') := fun W => special_any op hop W
  have HG : Hid (∀ W, Calls Tryz.prog 63 #[.int .u8 op] W fun e w' => e = .returned (.bool (regB op)) ∧ W = w') := fun W => regb_any op hop W
  have HC : Hid (∀ W, Calls Tryz.prog 64 #[.int .u8 op] W fun e w' => e = .returned (.int .i64 (codeN op)) ∧ W = w') := fun W => code_any op hop W
  have HZ : Hid (∀ W, Calls Tryz.prog 65 #[.int .u8 op] W fun e w' => e = .returned (.int .i64 (sizeN op)) ∧ Fr No W w') := fun W => refsize_any op W
  have HM : Hid (∀ W, Calls Tryz.prog 66 #[.int .u8 op] W fun e w' => e = .returned (.string (bA (nameN op))) ∧ W = w') := fun W => refname_any op hop W
  have HN : Hid (∀ (n : Int) W, -9223372036854775808 < n → n ≤ 9223372036854775807 → Calls Tryz.prog 32 #[.int .i64 n] W fun e w' => e = .returned (.string (bA (itoaN n))) ∧ Fr No W w') := fun n W h h2 => refnumber_any n h h2 W
  have HS : Hid (∀ W, Calls Tryz.prog 67 #[.int .i64 off] W fun e w' => e = .returned (.string (bA (signN off))) ∧ Fr No W w') := fun W => signed_any off (by omega) (by omega) W
  have HR : Hid (∀ (n : Nat) W, n < 256 → Calls Tryz.prog 31 #[.int .u8 n] W fun e w' => e = .returned (.string (bA (regN n))) ∧ Fr No W w') := fun n W h => refreg_any n h W
  have q1 : ((op : Int) % 8 == 5) = (op % 8 == 5) := beq_mod op 8 5
  have q2 : ((op : Int) % 8 == 7) = (op % 8 == 7) := beq_mod op 8 7
  have q3 : ((op : Int) == 194) = (op == 194) := beq_nat op 194
  have q4 : ((codeN op : Int) == 128) = (codeN op == 128) := beq_nat (codeN op) 128
  have q5 : ((codeN op : Int) == 0) = (codeN op == 0) := beq_nat (codeN op) 0
  have f1 : IntKind.i64.wrap imm = imm := IntWalk.i64_in _ (by omega)
  have f2 : IntKind.i64.wrap off = off := IntWalk.i64_in _ (by omega)
  have sN : (bA (nameN op)).size ≤ 1000 := by rw [bA_size]; exact name_len op
  have sW : (bA (widthN op ++ [32])).size ≤ 1000 := by rw [bA_size]; unfold widthN; split <;> simp
  have sD : (bA (regN dst)).size ≤ 1000 := by rw [bA_size]; exact reg_len1 hd
  have sS : (bA (regN src)).size ≤ 1000 := by rw [bA_size]; exact reg_len1 hs
  have sO : (bA (itoaN off)).size ≤ 1000 := by rw [bA_size]; exact itoa_len1 (by omega) (by omega)
  have sI : (bA (itoaN imm)).size ≤ 1000 := by rw [bA_size]; exact itoa_len1 (by omega) (by omega)
  have sJ : (bA (signN off)).size ≤ 1000 := by rw [bA_size]; exact sign_len1 (by omega) (by omega)
  have sZ : (bA (itoaN (sizeN op))).size ≤ 1000 := by rw [bA_size]; have := size_le op; exact itoa_len1 (by omega) (by omega)
  have hZ : itoaN (sizeN op : Int) = decN (sizeN op) := by unfold itoaN; rw [if_neg (by omega)]; simp
  have hz9 : (sizeN op : Int) ≤ 8 := by have := size_le op; omega
  have hww : widthN op ++ [32] = if (op % 8 == 7) || (op % 8 == 5) then [54, 52, 32] else [51, 50, 32] := by
    unfold widthN
    by_cases h : op % 8 = 7 ∨ op % 8 = 5
    · rw [if_pos h, if_pos (by simpa using h)]; rfl
    · rw [if_neg h, if_neg (by simpa using h)]; rfl
  rw [← hZ]
  obtain ⟨W3, hW3⟩ : ∃ W3, widthN op ++ [32] = W3 := ⟨_, rfl⟩
  rw [hW3] at sW hww ⊢
  clear hW3 hZ
  generalize (op == 194) = n194 at *
  generalize arithB op = aB at *
  generalize (codeN op == 128) = nB at *
  generalize specB op = pB at *
  generalize (codeN op == 0) = c0 at *
  generalize jumpB op = jB at *
  generalize loadB op = lB at *
  generalize storeB op = tB at *
  generalize regB op = rB at *
  generalize (op % 8 == 7) = b7 at *
  generalize (op % 8 == 5) = b5 at *
  have HWW := Lib.hid hww
  clear hww
  generalize nameN op = N at *
  generalize (sizeN op) = zz at *
  have hop2 : (0 : Int) ≤ (op : Int) := by omega
  generalize codeN op = cc at *
  obtain ⟨R, hR⟩ : ∃ R, oneB n194 aB nB pB c0 nB jB lB tB N W3 (if rB then regN src else itoaN imm) (itoaN zz ++ [32] ++ regN dst ++ [32]) (regN dst) (regN src) (itoaN off) (signN off) (itoaN imm) = R := ⟨_, rfl⟩
  rw [hR]
  have HX := Lib.hid hR
  clear hR
  go_enter Tryz.func29, Tryz.ntmps29
  go_upto_region 1 with fail
  obtain ⟨W0, hW0⟩ : ∃ W0, W0 = w.alloc (.cells #[.int .u8 op, .int .u8 dst, .int .u8 src, .int .i16 off, .int .i32 imm] 51) := ⟨_, rfl⟩
  have H0 : Hid (∀ W, Fr No W0 W → W.cell? ⟨w.heap.size, 0, none⟩ = some (.int .u8 op) ∧ W.cell? ⟨w.heap.size, 1, none⟩ = some (.int .u8 dst) ∧ W.cell? ⟨w.heap.size, 2, none⟩ = some (.int .u8 src) ∧ W.cell? ⟨w.heap.size, 3, none⟩ = some (.int .i16 off) ∧ W.cell? ⟨w.heap.size, 4, none⟩ = some (.int .i32 imm)) := fun W hW => by
    subst hW0
    refine ⟨hW.cell ?_ id, hW.cell ?_ id, hW.cell ?_ id, hW.cell ?_ id, hW.cell ?_ id⟩ <;> go_simp
  have HF0 : Hid (Fr No w W0) := by rw [hW0]; exact (Fr.refl _ _).alloc _
  rw [← hW0]
  clear hW0
  obtain ⟨g0, g1, g2, g3, g4⟩ := H0.out W0 (Fr.refl _ _)
  go_upto_region 3 with fail
  go_cut [16] from 9 to 16 (fun s wx => s = .bool (b7 || b5) ∧ W0 = wx)
  case first =>
    go_wp2_with fail
    all_goals clear q1 q2 q3 q4 q5 HWW
    all_goals subst_vars
    all_goals go_meet
    all_goals exact ⟨by rfl, rfl⟩
  case rest =>
    obtain ⟨rfl, rfl⟩ := hcut
    generalize (b7 || b5) = bb at *
    go_upto_if 16 with fail
    go_cut [4] from 17 to 17 (fun s wx => s = .string (bA W3) ∧ W0 = wx)
    case first =>
      cases bb
      all_goals go_wp2_with fail
      all_goals go_meet
      all_goals exact ⟨by rw [HWW.out]; rfl, rfl⟩
    case rest =>
      obtain ⟨rfl, rfl⟩ := hcut
      go_upto_if 22 with (first
        | (go_at_call 32; (with_reducible refine (HN.out _ _ (by omega) (by omega)).mono ?_); rintro e w1 ⟨rfl, hf1⟩; have HF1 := Lib.hid hf1; obtain ⟨k0, k1, k2, k3, k4⟩ := H0.out _ hf1; clear hf1 g0 g1 g2 g3 g4)
        | (go_at_call 63; (with_reducible refine (HG.out _).mono ?_); rintro e w2 ⟨rfl, rfl⟩))
      go_cut [5] from 23 to 25 (fun s wx => s = .string (bA (if rB then regN src else itoaN imm)) ∧ Hid (Fr No W0 wx))
      case first =>
        cases rB
        · go_wp2_with fail
          go_meet
          exact ⟨rfl, HF1⟩
        · go_wp2_with (go_at_call 31; (with_reducible refine (HR.out _ _ (by omega)).mono ?_); rintro e w3 ⟨rfl, hf3⟩; have HF3 := Lib.hid (HF1.out.trans hf3); clear hf3)
          go_meet
          exact ⟨rfl, HF3⟩
      case rest =>
        obtain ⟨rfl, HF2⟩ := hcut
        have sM : (bA (if rB then regN src else itoaN imm)).size ≤ 1000 := by cases rB <;> assumption
        generalize (if rB then regN src else itoaN imm) = M at *
        clear HF1 k0 k1 k2 k3 k4
        have a0 := addB (bA (itoaN zz)) (⟨#[32]⟩) (Nat.le_trans (by first | assumption | decide : (bA (itoaN zz) : ByteArray).size ≤ 1000) (by decide)) (Nat.le_trans (by first | assumption | decide : (⟨#[32]⟩ : ByteArray).size ≤ 1000) (by decide))
        have a1 := addB (bA (itoaN zz) ++ ⟨#[32]⟩) (bA (regN dst)) (Nat.le_trans (szA (by first | assumption | decide : (bA (itoaN zz) : ByteArray).size ≤ 1000) (by first | assumption | decide : (⟨#[32]⟩ : ByteArray).size ≤ 1000)) (by decide)) (Nat.le_trans (by first | assumption | decide : (bA (regN dst) : ByteArray).size ≤ 1000) (by decide))
        have a2 := addB (bA (itoaN zz) ++ ⟨#[32]⟩ ++ bA (regN dst)) (⟨#[32]⟩) (Nat.le_trans (szA (szA (by first | assumption | decide : (bA (itoaN zz) : ByteArray).size ≤ 1000) (by first | assumption | decide : (⟨#[32]⟩ : ByteArray).size ≤ 1000)) (by first | assumption | decide : (bA (regN dst) : ByteArray).size ≤ 1000)) (by decide)) (Nat.le_trans (by first | assumption | decide : (⟨#[32]⟩ : ByteArray).size ≤ 1000) (by decide))
        go_upto_region 8 with fail
        have HK : Hid (∀ W W', Fr No W W' → (W.cell? ⟨w.heap.size, 0, none⟩ = some (.int .u8 op) ∧ W.cell? ⟨w.heap.size, 1, none⟩ = some (.int .u8 dst) ∧ W.cell? ⟨w.heap.size, 2, none⟩ = some (.int .u8 src) ∧ W.cell? ⟨w.heap.size, 3, none⟩ = some (.int .i16 off) ∧ W.cell? ⟨w.heap.size, 4, none⟩ = some (.int .i32 imm) ∧ Hid (Fr No W0 W)) →
          (W'.cell? ⟨w.heap.size, 0, none⟩ = some (.int .u8 op) ∧ W'.cell? ⟨w.heap.size, 1, none⟩ = some (.int .u8 dst) ∧ W'.cell? ⟨w.heap.size, 2, none⟩ = some (.int .u8 src) ∧ W'.cell? ⟨w.heap.size, 3, none⟩ = some (.int .i16 off) ∧ W'.cell? ⟨w.heap.size, 4, none⟩ = some (.int .i32 imm) ∧ Hid (Fr No W0 W'))) := fun W W' hf h =>
            ⟨hf.cell h.1 id, hf.cell h.2.1 id, hf.cell h.2.2.1 id, hf.cell h.2.2.2.1 id, hf.cell h.2.2.2.2.1 id, h.2.2.2.2.2.out.trans hf⟩
        have HK0 : Hid (∀ W, Fr No W0 W → (W.cell? ⟨w.heap.size, 0, none⟩ = some (.int .u8 op) ∧ W.cell? ⟨w.heap.size, 1, none⟩ = some (.int .u8 dst) ∧ W.cell? ⟨w.heap.size, 2, none⟩ = some (.int .u8 src) ∧ W.cell? ⟨w.heap.size, 3, none⟩ = some (.int .i16 off) ∧ W.cell? ⟨w.heap.size, 4, none⟩ = some (.int .i32 imm) ∧ Hid (Fr No W0 W))) := fun W h => by
          obtain ⟨c0, c1, c2, c3, c4⟩ := H0.out _ h
          exact ⟨c0, c1, c2, c3, c4, h⟩
        go_cut [6] from 26 to 34 (fun s wx => s = .string (bA (itoaN zz ++ [32] ++ regN dst ++ [32])) ∧ Hid (Fr No W0 wx))
        case first =>
          have hst : (wc.drew.cell? ⟨w.heap.size, 0, none⟩ = some (.int .u8 op) ∧ wc.drew.cell? ⟨w.heap.size, 1, none⟩ = some (.int .u8 dst) ∧ wc.drew.cell? ⟨w.heap.size, 2, none⟩ = some (.int .u8 src) ∧ wc.drew.cell? ⟨w.heap.size, 3, none⟩ = some (.int .i16 off) ∧ wc.drew.cell? ⟨w.heap.size, 4, none⟩ = some (.int .i32 imm) ∧ Hid (Fr No W0 wc.drew)) := HK0.out _ HF2.out.drew
          go_region_held3 (fun W => W.cell? ⟨w.heap.size, 0, none⟩ = some (.int .u8 op) ∧ W.cell? ⟨w.heap.size, 1, none⟩ = some (.int .u8 dst) ∧ W.cell? ⟨w.heap.size, 2, none⟩ = some (.int .u8 src) ∧ W.cell? ⟨w.heap.size, 3, none⟩ = some (.int .i16 off) ∧ W.cell? ⟨w.heap.size, 4, none⟩ = some (.int .i32 imm) ∧ Hid (Fr No W0 W))
            (first | assumption | exact HK.out _ _ (by assumption) (by assumption))
            (first
              | (go_at_call 65; (with_reducible refine (HZ.out _).mono ?_); rintro e w3 ⟨rfl, hf3⟩)
              | (go_at_call 32; (with_reducible refine (HN.out _ _ (by omega) (by omega)).mono ?_); rintro e w4 ⟨rfl, hf4⟩)
              | (go_at_call 31; (with_reducible refine (HR.out _ _ (by omega)).mono ?_); rintro e w5 ⟨rfl, hf5⟩))
          all_goals go_wp2_with fail
          all_goals go_meet
          all_goals exact ⟨by apply congrArg Value.string; apply ByteArray.ext; simp [bA, ByteArray.data_append], by (iterate 3 (refine Fr.trans ?_ (by assumption))); exact HF2.out.drew⟩
        case rest =>
          obtain ⟨rfl, HF3⟩ := hcut
          clear a0 a1 a2 HF2
          have sZ2 : (bA (itoaN zz ++ [32] ++ regN dst ++ [32])).size ≤ 1000 := by
            rw [bA_size] at sZ sD ⊢
            have := dec_len20 (n := dst) (by omega)
            have h2 := itoa_len_le (n := zz) (m := 19) (by omega) (by omega)
            simp only [List.length_append, regN, List.length_cons, List.length_nil]
            omega
          generalize itoaN zz ++ [32] ++ regN dst ++ [32] = ZZ at *
          have x0 := addB (⟨#[110, 101, 103]⟩) (bA W3) (Nat.le_trans (by first | assumption | decide : (⟨#[110, 101, 103]⟩ : ByteArray).size ≤ 1000) (by decide)) (Nat.le_trans (by first | assumption | decide : (bA W3 : ByteArray).size ≤ 1000) (by decide))
          have x1 := addB (⟨#[110, 101, 103]⟩ ++ bA W3) (bA (regN dst)) (Nat.le_trans (szA (by first | assumption | decide : (⟨#[110, 101, 103]⟩ : ByteArray).size ≤ 1000) (by first | assumption | decide : (bA W3 : ByteArray).size ≤ 1000)) (by decide)) (Nat.le_trans (by first | assumption | decide : (bA (regN dst) : ByteArray).size ≤ 1000) (by decide))
          have y0 := addB (bA N) (bA W3) (Nat.le_trans (by first | assumption | decide : (bA N : ByteArray).size ≤ 1000) (by decide)) (Nat.le_trans (by first | assumption | decide : (bA W3 : ByteArray).size ≤ 1000) (by decide))
          have y1 := addB (bA N ++ bA W3) (bA (regN dst)) (Nat.le_trans (szA (by first | assumption | decide : (bA N : ByteArray).size ≤ 1000) (by first | assumption | decide : (bA W3 : ByteArray).size ≤ 1000)) (by decide)) (Nat.le_trans (by first | assumption | decide : (bA (regN dst) : ByteArray).size ≤ 1000) (by decide))
          have y2 := addB (bA N ++ bA W3 ++ bA (regN dst)) (⟨#[32]⟩) (Nat.le_trans (szA (szA (by first | assumption | decide : (bA N : ByteArray).size ≤ 1000) (by first | assumption | decide : (bA W3 : ByteArray).size ≤ 1000)) (by first | assumption | decide : (bA (regN dst) : ByteArray).size ≤ 1000)) (by decide)) (Nat.le_trans (by first | assumption | decide : (⟨#[32]⟩ : ByteArray).size ≤ 1000) (by decide))
          have y3 := addB (bA N ++ bA W3 ++ bA (regN dst) ++ ⟨#[32]⟩) (bA M) (Nat.le_trans (szA (szA (szA (by first | assumption | decide : (bA N : ByteArray).size ≤ 1000) (by first | assumption | decide : (bA W3 : ByteArray).size ≤ 1000)) (by first | assumption | decide : (bA (regN dst) : ByteArray).size ≤ 1000)) (by first | assumption | decide : (⟨#[32]⟩ : ByteArray).size ≤ 1000)) (by decide)) (Nat.le_trans (by first | assumption | decide : (bA M : ByteArray).size ≤ 1000) (by decide))
          have y4 := addB (bA N ++ bA W3 ++ bA (regN dst) ++ ⟨#[32]⟩ ++ bA M) (⟨#[32]⟩) (Nat.le_trans (szA (szA (szA (szA (by first | assumption | decide : (bA N : ByteArray).size ≤ 1000) (by first | assumption | decide : (bA W3 : ByteArray).size ≤ 1000)) (by first | assumption | decide : (bA (regN dst) : ByteArray).size ≤ 1000)) (by first | assumption | decide : (⟨#[32]⟩ : ByteArray).size ≤ 1000)) (by first | assumption | decide : (bA M : ByteArray).size ≤ 1000)) (by decide)) (Nat.le_trans (by first | assumption | decide : (⟨#[32]⟩ : ByteArray).size ≤ 1000) (by decide))
          have y5 := addB (bA N ++ bA W3 ++ bA (regN dst) ++ ⟨#[32]⟩ ++ bA M ++ ⟨#[32]⟩) (bA (signN off)) (Nat.le_trans (szA (szA (szA (szA (szA (by first | assumption | decide : (bA N : ByteArray).size ≤ 1000) (by first | assumption | decide : (bA W3 : ByteArray).size ≤ 1000)) (by first | assumption | decide : (bA (regN dst) : ByteArray).size ≤ 1000)) (by first | assumption | decide : (⟨#[32]⟩ : ByteArray).size ≤ 1000)) (by first | assumption | decide : (bA M : ByteArray).size ≤ 1000)) (by first | assumption | decide : (⟨#[32]⟩ : ByteArray).size ≤ 1000)) (by decide)) (Nat.le_trans (by first | assumption | decide : (bA (signN off) : ByteArray).size ≤ 1000) (by decide))
          have z0 := addB (⟨#[106, 97, 32]⟩) (bA (signN off)) (Nat.le_trans (by first | assumption | decide : (⟨#[106, 97, 32]⟩ : ByteArray).size ≤ 1000) (by decide)) (Nat.le_trans (by first | assumption | decide : (bA (signN off) : ByteArray).size ≤ 1000) (by decide))
          have p0 := addB (⟨#[99, 97, 108, 108, 32]⟩) (bA (itoaN imm)) (Nat.le_trans (by first | assumption | decide : (⟨#[99, 97, 108, 108, 32]⟩ : ByteArray).size ≤ 1000) (by decide)) (Nat.le_trans (by first | assumption | decide : (bA (itoaN imm) : ByteArray).size ≤ 1000) (by decide))
          have l0 := addB (⟨#[108, 100, 120]⟩) (bA ZZ) (Nat.le_trans (by first | assumption | decide : (⟨#[108, 100, 120]⟩ : ByteArray).size ≤ 1000) (by decide)) (Nat.le_trans (by first | assumption | decide : (bA ZZ : ByteArray).size ≤ 1000) (by decide))
          have l1 := addB (⟨#[108, 100, 120]⟩ ++ bA ZZ) (bA (regN src)) (Nat.le_trans (szA (by first | assumption | decide : (⟨#[108, 100, 120]⟩ : ByteArray).size ≤ 1000) (by first | assumption | decide : (bA ZZ : ByteArray).size ≤ 1000)) (by decide)) (Nat.le_trans (by first | assumption | decide : (bA (regN src) : ByteArray).size ≤ 1000) (by decide))
          have l2 := addB (⟨#[108, 100, 120]⟩ ++ bA ZZ ++ bA (regN src)) (⟨#[32]⟩) (Nat.le_trans (szA (szA (by first | assumption | decide : (⟨#[108, 100, 120]⟩ : ByteArray).size ≤ 1000) (by first | assumption | decide : (bA ZZ : ByteArray).size ≤ 1000)) (by first | assumption | decide : (bA (regN src) : ByteArray).size ≤ 1000)) (by decide)) (Nat.le_trans (by first | assumption | decide : (⟨#[32]⟩ : ByteArray).size ≤ 1000) (by decide))
          have l3 := addB (⟨#[108, 100, 120]⟩ ++ bA ZZ ++ bA (regN src) ++ ⟨#[32]⟩) (bA (itoaN off)) (Nat.le_trans (szA (szA (szA (by first | assumption | decide : (⟨#[108, 100, 120]⟩ : ByteArray).size ≤ 1000) (by first | assumption | decide : (bA ZZ : ByteArray).size ≤ 1000)) (by first | assumption | decide : (bA (regN src) : ByteArray).size ≤ 1000)) (by first | assumption | decide : (⟨#[32]⟩ : ByteArray).size ≤ 1000)) (by decide)) (Nat.le_trans (by first | assumption | decide : (bA (itoaN off) : ByteArray).size ≤ 1000) (by decide))
          have m0 := addB (⟨#[115, 116]⟩) (bA ZZ) (Nat.le_trans (by first | assumption | decide : (⟨#[115, 116]⟩ : ByteArray).size ≤ 1000) (by decide)) (Nat.le_trans (by first | assumption | decide : (bA ZZ : ByteArray).size ≤ 1000) (by decide))
          have m1 := addB (⟨#[115, 116]⟩ ++ bA ZZ) (bA (itoaN off)) (Nat.le_trans (szA (by first | assumption | decide : (⟨#[115, 116]⟩ : ByteArray).size ≤ 1000) (by first | assumption | decide : (bA ZZ : ByteArray).size ≤ 1000)) (by decide)) (Nat.le_trans (by first | assumption | decide : (bA (itoaN off) : ByteArray).size ≤ 1000) (by decide))
          have m2 := addB (⟨#[115, 116]⟩ ++ bA ZZ ++ bA (itoaN off)) (⟨#[32]⟩) (Nat.le_trans (szA (szA (by first | assumption | decide : (⟨#[115, 116]⟩ : ByteArray).size ≤ 1000) (by first | assumption | decide : (bA ZZ : ByteArray).size ≤ 1000)) (by first | assumption | decide : (bA (itoaN off) : ByteArray).size ≤ 1000)) (by decide)) (Nat.le_trans (by first | assumption | decide : (⟨#[32]⟩ : ByteArray).size ≤ 1000) (by decide))
          have m3 := addB (⟨#[115, 116]⟩ ++ bA ZZ ++ bA (itoaN off) ++ ⟨#[32]⟩) (bA (itoaN imm)) (Nat.le_trans (szA (szA (szA (by first | assumption | decide : (⟨#[115, 116]⟩ : ByteArray).size ≤ 1000) (by first | assumption | decide : (bA ZZ : ByteArray).size ≤ 1000)) (by first | assumption | decide : (bA (itoaN off) : ByteArray).size ≤ 1000)) (by first | assumption | decide : (⟨#[32]⟩ : ByteArray).size ≤ 1000)) (by decide)) (Nat.le_trans (by first | assumption | decide : (bA (itoaN imm) : ByteArray).size ≤ 1000) (by decide))
          have n0 := addB (⟨#[115, 116, 120]⟩) (bA ZZ) (Nat.le_trans (by first | assumption | decide : (⟨#[115, 116, 120]⟩ : ByteArray).size ≤ 1000) (by decide)) (Nat.le_trans (by first | assumption | decide : (bA ZZ : ByteArray).size ≤ 1000) (by decide))
          have n1 := addB (⟨#[115, 116, 120]⟩ ++ bA ZZ) (bA (itoaN off)) (Nat.le_trans (szA (by first | assumption | decide : (⟨#[115, 116, 120]⟩ : ByteArray).size ≤ 1000) (by first | assumption | decide : (bA ZZ : ByteArray).size ≤ 1000)) (by decide)) (Nat.le_trans (by first | assumption | decide : (bA (itoaN off) : ByteArray).size ≤ 1000) (by decide))
          have n2 := addB (⟨#[115, 116, 120]⟩ ++ bA ZZ ++ bA (itoaN off)) (⟨#[32]⟩) (Nat.le_trans (szA (szA (by first | assumption | decide : (⟨#[115, 116, 120]⟩ : ByteArray).size ≤ 1000) (by first | assumption | decide : (bA ZZ : ByteArray).size ≤ 1000)) (by first | assumption | decide : (bA (itoaN off) : ByteArray).size ≤ 1000)) (by decide)) (Nat.le_trans (by first | assumption | decide : (⟨#[32]⟩ : ByteArray).size ≤ 1000) (by decide))
          have n3 := addB (⟨#[115, 116, 120]⟩ ++ bA ZZ ++ bA (itoaN off) ++ ⟨#[32]⟩) (bA (regN src)) (Nat.le_trans (szA (szA (szA (by first | assumption | decide : (⟨#[115, 116, 120]⟩ : ByteArray).size ≤ 1000) (by first | assumption | decide : (bA ZZ : ByteArray).size ≤ 1000)) (by first | assumption | decide : (bA (itoaN off) : ByteArray).size ≤ 1000)) (by first | assumption | decide : (⟨#[32]⟩ : ByteArray).size ≤ 1000)) (by decide)) (Nat.le_trans (by first | assumption | decide : (bA (regN src) : ByteArray).size ≤ 1000) (by decide))
          obtain ⟨k0, k1, k2, k3, k4⟩ := H0.out _ HF3.out
          go_wp2_with (first
            | (go_at_call 57; (with_reducible refine (HA.out _).mono ?_); rintro e w2 ⟨rfl, rfl⟩)
            | (go_at_call 59; (with_reducible refine (HJ.out _).mono ?_); rintro e w2 ⟨rfl, rfl⟩)
            | (go_at_call 58; (with_reducible refine (HL.out _).mono ?_); rintro e w2 ⟨rfl, rfl⟩)
            | (go_at_call 61; (with_reducible refine (HT.out _).mono ?_); rintro e w2 ⟨rfl, rfl⟩)
            | (go_at_call 60; (with_reducible refine (HP.out _).mono ?_); rintro e w2 ⟨rfl, rfl⟩)
            | (go_at_call 64; (with_reducible refine (HC.out _).mono ?_); rintro e w2 ⟨rfl, rfl⟩)
            | (go_at_call 32; (with_reducible refine (HN.out _ _ (by omega) (by omega)).mono ?_); rintro e w4 ⟨rfl, hf4⟩)
            | (go_at_call 67; (with_reducible refine (HS.out _).mono ?_); rintro e w6 ⟨rfl, hf6⟩)
            | (go_at_call 31; (with_reducible refine (HR.out _ _ (by omega)).mono ?_); rintro e w5 ⟨rfl, hf5⟩))
          all_goals (try clear q1 q2 q3 q4 q5)
          all_goals (first
            | (go_ret; exact ⟨by rw [← HX.out]; first | rfl | (apply congrArg Ending.returned; apply congrArg Value.string; apply ByteArray.ext; simp [bA, ByteArray.data_append, oneB, *]), by first | exact HF0.out.trans HF3.out | exact (HF0.out.trans HF3.out).trans (by assumption)⟩)
            | skip)
          all_goals (have hst : (wc.drew.cell? ⟨w.heap.size, 0, none⟩ = some (.int .u8 op) ∧ wc.drew.cell? ⟨w.heap.size, 1, none⟩ = some (.int .u8 dst) ∧ wc.drew.cell? ⟨w.heap.size, 2, none⟩ = some (.int .u8 src) ∧ wc.drew.cell? ⟨w.heap.size, 3, none⟩ = some (.int .i16 off) ∧ wc.drew.cell? ⟨w.heap.size, 4, none⟩ = some (.int .i32 imm) ∧ Hid (Fr No W0 wc.drew)) := HK0.out _ HF3.out.drew)
          all_goals clear k0 k1 k2 k3 k4
          all_goals go_region_held3 (fun W => W.cell? ⟨w.heap.size, 0, none⟩ = some (.int .u8 op) ∧ W.cell? ⟨w.heap.size, 1, none⟩ = some (.int .u8 dst) ∧ W.cell? ⟨w.heap.size, 2, none⟩ = some (.int .u8 src) ∧ W.cell? ⟨w.heap.size, 3, none⟩ = some (.int .i16 off) ∧ W.cell? ⟨w.heap.size, 4, none⟩ = some (.int .i32 imm) ∧ Hid (Fr No W0 W))
            (first | assumption | exact HK.out _ _ (by assumption) (by assumption))
            (first
              | (go_at_call 66; (with_reducible refine (HM.out _).mono ?_); rintro e w3 ⟨rfl, rfl⟩)
              | (go_at_call 67; (with_reducible refine (HS.out _).mono ?_); rintro e w6 ⟨rfl, hf6⟩)
              | (go_at_call 32; (with_reducible refine (HN.out _ _ (by omega) (by omega)).mono ?_); rintro e w4 ⟨rfl, hf4⟩)
              | (go_at_call 31; (with_reducible refine (HR.out _ _ (by omega)).mono ?_); rintro e w5 ⟨rfl, hf5⟩))
          all_goals go_wp2_with fail
          all_goals go_ret
          all_goals (have HE := HX.out; clear HX)
          all_goals exact ⟨by rw [← HE]; first | (apply congrArg Ending.returned; apply congrArg Value.string; apply ByteArray.ext; simp [bA, ByteArray.data_append, oneB, *]), HF0.out.trans (by first | (refine Fr.trans ?_ (by assumption); exact HF3.out.drew) | (refine Fr.trans ?_ (by assumption); refine Fr.trans ?_ (by assumption); exact HF3.out.drew))⟩

/-- the line of a slot -/
theorem one_any (i : Ins) (hi : i.ok) (w : World) : Calls Tryz.prog 29 #[i.agg] w fun e w' => e = .returned (.string (bA (lineI i))) ∧ Fr No w w' := by
  have := one_walk i.op i.dst i.src i.off i.imm hi.op hi.dst hi.src hi.off hi.imm w
  rw [← one_line] at this
  exact this
end Go.Proofs.YthkdokkpiaaljaaGreatDoor
