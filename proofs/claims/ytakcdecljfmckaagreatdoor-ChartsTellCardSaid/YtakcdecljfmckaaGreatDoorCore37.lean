/- firewallref31.Show. (Printed by mkrshow.py.) firewallref04: Ends, Jumps, Always, Behind, Second. -/
import Derived.Test.YtakcdecljfmckaaGreatDoorCore36
import Derived.Test.YtakcdecljfmckaaGreatDoorCore14
import Derived.Test.YtakcdecljfmckaaGreatDoorCore3
set_option linter.all false
set_option linter.unusedVariables false
set_option linter.unusedSimpArgs false
namespace Go.Proofs.YtakcdecljfmckaaGreatDoor
open Go.RowKit

theorem bA_toApp (a b : List UInt8) : (bA a ++ bA b) = bA (a ++ b) := bA_app a b
theorem showUp_room {bs : List Blk} {d : Nat → Int} (hS : Small bs) (hd : Doms (nxM bs) bs.length d) : ∀ i, i ≤ bs.length → (showUp bs d i).length ≤ 101 * i := by
  intro i
  induction i with
  | zero => intro _; simp [showUp]
  | succ i ih =>
    intro hi
    have hb : bs[i]? = some (bs[i]'(by omega)) := List.getElem?_eq_getElem _
    have h1 := hS.blk i _ hb
    have h2 := hd.val (v := i) (by omega)
    have hl := hS.len
    rw [showUp_succ, List.length_append, List.getD_eq_getElem?_getD, hb]
    have h3 := (blk_room i (bs[i]'(by omega)) (d i) (by omega) (by omega) (by omega) (by omega) h1.2.2.1 (fun k hk => by have := h1.2.2.2 k hk; omega)).2.1
    have h4 := ih (by omega)
    simp only [Option.getD_some]
    omega
theorem loops_room {W : List (Nat × Nat)} (hW : ∀ p ∈ W, p.1 ≤ 1000 ∧ p.2 ≤ 1000) : ∀ j, j ≤ W.length → (loopsT (W.take j)).length ≤ 41 * j := by
  intro j
  induction j with
  | zero => intro _; simp [loopsT]
  | succ j ih =>
    intro hj
    have hp : W[j]? = some (W[j]'(by omega)) := List.getElem?_eq_getElem _
    have h1 := hW _ (List.getElem_mem (show j < W.length by omega))
    have h2 := (loop_room (W[j]'(by omega)) (by omega) (by omega)).2.1
    rw [List.take_add_one, hp]
    simp only [Option.toList_some]
    rw [loopsT_snoc, List.length_append]
    have := ih (by omega)
    omega
theorem nextT_take (L : List Nat) (k : Nat) : (nextT (L.take k)).length ≤ (nextT L).length := by
  have : nextT L = nextT (L.take k) ++ nextT (L.drop k) := by unfold nextT; rw [← List.flatMap_append, List.take_append_drop]
  rw [this, List.length_append]
  omega
theorem bA_room {z : Int} (h : -1000000 ≤ z) (h2 : z ≤ 1000000) : (bA (itoaN z)).size ≤ 1000 := by
  rw [bA_size]
  have := itoa8 h h2
  omega

set_option maxRecDepth 100000 in
set_option maxHeartbeats 8000000 in
theorem rshow_any (bs : List Blk) (bv : Value) (d : Nat → Int) (w : World) (hv : BlksAt w bv bs) (hG : Graph bs) (hS : Small bs) (hd : Doms (nxM bs) bs.length d) :
    Calls Tryz.prog 17 #[bv] w fun e w' => e = .returned (.string (bA (showB bs d))) ∧ Fr No w w' := by
  have HDO := Lib.hid (rdoms_any bs bv d w hv hG hd)
  have HLO : Hid (∀ W, Fr No w W → Calls Tryz.prog 16 #[bv] W fun e w' => ∃ v, e = .returned v ∧ w'.ownsRow W.heap.size 45 2 v (waysM bs d).length (pflat (waysM bs d)) ∧ Fr No W w') := fun W hf => rloops_any bs bv d W (hv.fr hf) hG hd
  have HDEC : Hid (∀ (z : Int), -1000000 < z → z < 1000000 → ∀ W, Calls Tryz.prog 36 #[.int .i64 z] W fun e w' => e = .returned (.string (bA (itoaN z))) ∧ W = w') := fun z h1 h2 W => decimal_any z h1 h2 W
  have HUB := Lib.hid (showUp_room hS hd)
  have HSM := Lib.hid hS
  have HDV : Hid (∀ v, v < bs.length → -1 ≤ d v ∧ d v < bs.length) := fun v hv => hd.val hv
  have HWM : Hid (∀ p ∈ waysM bs d, p.1 ≤ 1000 ∧ p.2 ≤ 1000) := fun p hp => by
    obtain ⟨h1, h2, -⟩ := waysM_mem hp
    have h3 := hG.nx _ _ h2
    have h4 := hS.len
    omega
  have HWL : Hid ((waysM bs d).length ≤ 200) := by
    have h := waysUp_len hG.n2 (bs := bs) (d := d) bs.length
    have h4 := hS.len
    unfold waysM
    exact Lib.hid (by omega)
  have HSB : Hid (showB bs d = showUp bs d bs.length ++ loopsT (waysM bs d)) := Lib.hid rfl
  obtain ⟨gb, cb, rfl, hbk⟩ := hv
  have HBK := Lib.hid hbk
  have hN64 := hS.len
  obtain ⟨N, hN⟩ : ∃ N, bs.length = N := ⟨_, rfl⟩
  rw [hN] at HDO HLO HUB HDV HSB hN64 ⊢
  have HN := Lib.hid hN
  have H64 := Lib.hid hN64
  clear hG hS hd hN hbk hN64
  go_enter Tryz.func17, Tryz.ntmps17
  go_wp2_with (go_at_call 15; (with_reducible refine (HDO.out).mono ?_); rintro e W0 ⟨gd, cd, rfl, hdc, hf0⟩; have HDC := Lib.hid hdc; have HF0 := Lib.hid hf0; clear hdc hf0)
  clear HDO
  go_loopw [3, 5] (fun sv iv wr => ∃ i : Nat, sv = .string (bA (showUp bs d i)) ∧ iv = .int .i64 (i : Int) ∧ i ≤ N ∧ Hid (Fr No W0 wr)) (fun _ iv _ => N - (intOf iv).toNat)
  case atStart => exact ⟨0, rfl, rfl, Nat.zero_le _, Fr.refl _ _⟩
  case round =>
    obtain ⟨i, rfl, rfl, hi, HF⟩ := hrel
    have h64 := H64.out
    by_cases hlt : i < N
    · obtain ⟨b, hb⟩ : ∃ b, bs[i]? = some b := ⟨bs[i]'(by rw [HN.out]; exact hlt), List.getElem?_eq_getElem _⟩
      obtain ⟨m0, m1, nv, m2, m3⟩ := HBK.out i b hb
      have hsm := HSM.out.blk i b hb
      obtain ⟨an, cn, hnv⟩ := m3.form
      subst hnv
      have HM0 : Hid (∀ W, Fr No wr W → W.cell? ⟨gb, i * 3, none⟩ = some (.int .i64 (b.fr : Int)) ∧ W.cell? ⟨gb, i * 3 + 1, none⟩ = some (.int .i64 (b.to : Int)) ∧ W.cell? ⟨gd, i, none⟩ = some (.int .i64 (d i))) := fun W hf => ⟨((HF0.out.trans HF.out).trans hf).cell m0 id, ((HF0.out.trans HF.out).trans hf).cell m1 id, (HF.out.trans hf).cell (HDC.out i hlt) id⟩
      have hdv := HDV.out i hlt
      have HSN : Hid (showUp bs d (i + 1) = showUp bs d i ++ (headT i b (d i) ++ nextT b.next ++ [10])) := by
        rw [showUp_succ, List.getD_eq_getElem?_getD, hb, ← blk_line]
        exact Lib.hid rfl
      have hub := HUB.out i hi
      have HROOM := Lib.hid (blk_room i b (d i) (by omega) (by omega) (by omega) (by omega) hsm.2.2.1 (fun k hk => by have := hsm.2.2.2 k hk; omega)).2.1
      have HDi := Lib.hid (HDEC.out (i : Int) (by omega) (by omega))
      have HDf := Lib.hid (HDEC.out (b.fr : Int) (by omega) (by omega))
      have HDt := Lib.hid (HDEC.out (b.to : Int) (by omega) (by omega))
      have HDd := Lib.hid (HDEC.out (d i) (by omega) (by omega))
      have zI := bA_room (z := (i : Int)) (by omega) (by omega)
      have zF := bA_room (z := (b.fr : Int)) (by omega) (by omega)
      have zT := bA_room (z := (b.to : Int)) (by omega) (by omega)
      have zD := bA_room (z := d i) (by omega) (by omega)
      have zS : (bA (showUp bs d i)).size ≤ 20000 := by rw [bA_size]; omega
      obtain ⟨L, hL⟩ : ∃ L, b.next = L := ⟨_, rfl⟩
      rw [hL] at m2 m3 HSN hsm
      obtain ⟨q, hq⟩ : ∃ q, L.length = q := ⟨_, rfl⟩
      rw [hq] at m2 m3
      have HQ := Lib.hid hq
      have HQ2 : Hid (q ≤ 2 ∧ ∀ n ∈ L, n ≤ 1000) := Lib.hid ⟨by rw [← hq]; exact hsm.2.2.1, hsm.2.2.2⟩
      have HIN := Lib.hid hlt
      have HM2 : Hid (∀ W, Fr No w W → W.cell? ⟨gb, i * 3 + 2, none⟩ = some (.slice an q cn)) := fun W hf => hf.cell m2 id
      have HCE : Hid (∀ W, Fr No w W → ∀ (k x : Nat), L[k]? = some x → ∃ g2, an = some ⟨g2, 0, none⟩ ∧ W.cell? ⟨g2, k, none⟩ = some (.int .i64 (x : Int))) := fun W hf k x hx => by
        rcases m3 with ⟨h1, _⟩ | ⟨g2, c2, h2, hc2⟩
        · rw [h1] at hx; simp at hx
        · injection h2 with h2 _ _
          exact ⟨g2, h2, hf.cell (i64_cell hc2 hx) id⟩
      have HS2 : Hid (bA (showUp bs d i) ++ ⟨#[98, 108, 111, 99, 107, 32]⟩ ++ bA (itoaN (i : Int)) ++ ⟨#[32]⟩ ++ bA (itoaN (b.fr : Int)) ++ ⟨#[32]⟩ ++ bA (itoaN (b.to : Int)) ++ ⟨#[32, 110, 101, 97, 114, 32]⟩ ++ bA (itoaN (d i)) ++ ⟨#[32, 110, 101, 120, 116]⟩ = bA (showUp bs d i ++ headT i b (d i))) := by
        show bA (showUp bs d i) ++ bA [98, 108, 111, 99, 107, 32] ++ bA (itoaN (i : Int)) ++ bA [32] ++ bA (itoaN (b.fr : Int)) ++ bA [32] ++ bA (itoaN (b.to : Int)) ++ bA [32, 110, 101, 97, 114, 32] ++ bA (itoaN (d i)) ++ bA [32, 110, 101, 120, 116] = _
        rw [bA_app, bA_app, bA_app, bA_app, bA_app, bA_app, bA_app, bA_app, bA_app]
        unfold headT
        simp only [List.append_assoc]
      have HLEN : Hid ((showUp bs d i ++ headT i b (d i)).length ≤ 7000) := by
        have h1 := HROOM.out
        rw [blk_line] at h1
        simp only [List.length_append] at h1 ⊢
        exact Lib.hid (by omega)
      have HLENN : Hid ((showUp bs d i ++ headT i b (d i)).length + (nextT L).length ≤ 7000) := by
        have h1 := HROOM.out
        rw [blk_line, hL] at h1
        simp only [List.length_append] at h1 ⊢
        exact Lib.hid (by omega)
      obtain ⟨X0, hX0⟩ : ∃ X0, showUp bs d i ++ headT i b (d i) = X0 := ⟨_, rfl⟩
      have HX0 : Hid (showUp bs d (i + 1) = X0 ++ nextT L ++ [10]) := Lib.hid (by rw [HSN.out, ← hX0]; simp only [List.append_assoc])
      rw [hX0] at HS2 HLEN HLENN
      have r1 : (i : Int) < (N : Int) := by omega
      have r0 : (0 : Int) ≤ (i : Int) := by omega
      clear hb m0 m1 m2 m3 hL hq hlt hsm hdv hub HSN HROOM hX0
      generalize hSS : bA (showUp bs d i) = S at *
      clear hSS
      generalize bA (itoaN (i : Int)) = I at *
      generalize bA (itoaN (b.fr : Int)) = F at *
      generalize bA (itoaN (b.to : Int)) = T at *
      generalize bA (itoaN (d i)) = D at *
      generalize d i = di at *
      generalize b.fr = bf at *
      generalize b.to = bt at *
      have ad0 := addB (S) (⟨#[98, 108, 111, 99, 107, 32]⟩) (Nat.le_trans (by first | assumption | decide : (S : ByteArray).size ≤ 20000) (by decide)) (Nat.le_trans (by first | assumption | decide : (⟨#[98, 108, 111, 99, 107, 32]⟩ : ByteArray).size ≤ 1000) (by decide))
      have ad1 := addB (S ++ ⟨#[98, 108, 111, 99, 107, 32]⟩) (I) (Nat.le_trans (szA (by first | assumption | decide : (S : ByteArray).size ≤ 20000) (by first | assumption | decide : (⟨#[98, 108, 111, 99, 107, 32]⟩ : ByteArray).size ≤ 1000)) (by decide)) (Nat.le_trans (by first | assumption | decide : (I : ByteArray).size ≤ 1000) (by decide))
      have ad2 := addB (S ++ ⟨#[98, 108, 111, 99, 107, 32]⟩ ++ I) (⟨#[32]⟩) (Nat.le_trans (szA (szA (by first | assumption | decide : (S : ByteArray).size ≤ 20000) (by first | assumption | decide : (⟨#[98, 108, 111, 99, 107, 32]⟩ : ByteArray).size ≤ 1000)) (by first | assumption | decide : (I : ByteArray).size ≤ 1000)) (by decide)) (Nat.le_trans (by first | assumption | decide : (⟨#[32]⟩ : ByteArray).size ≤ 1000) (by decide))
      have ad3 := addB (S ++ ⟨#[98, 108, 111, 99, 107, 32]⟩ ++ I ++ ⟨#[32]⟩) (F) (Nat.le_trans (szA (szA (szA (by first | assumption | decide : (S : ByteArray).size ≤ 20000) (by first | assumption | decide : (⟨#[98, 108, 111, 99, 107, 32]⟩ : ByteArray).size ≤ 1000)) (by first | assumption | decide : (I : ByteArray).size ≤ 1000)) (by first | assumption | decide : (⟨#[32]⟩ : ByteArray).size ≤ 1000)) (by decide)) (Nat.le_trans (by first | assumption | decide : (F : ByteArray).size ≤ 1000) (by decide))
      have ad4 := addB (S ++ ⟨#[98, 108, 111, 99, 107, 32]⟩ ++ I ++ ⟨#[32]⟩ ++ F) (⟨#[32]⟩) (Nat.le_trans (szA (szA (szA (szA (by first | assumption | decide : (S : ByteArray).size ≤ 20000) (by first | assumption | decide : (⟨#[98, 108, 111, 99, 107, 32]⟩ : ByteArray).size ≤ 1000)) (by first | assumption | decide : (I : ByteArray).size ≤ 1000)) (by first | assumption | decide : (⟨#[32]⟩ : ByteArray).size ≤ 1000)) (by first | assumption | decide : (F : ByteArray).size ≤ 1000)) (by decide)) (Nat.le_trans (by first | assumption | decide : (⟨#[32]⟩ : ByteArray).size ≤ 1000) (by decide))
      have ad5 := addB (S ++ ⟨#[98, 108, 111, 99, 107, 32]⟩ ++ I ++ ⟨#[32]⟩ ++ F ++ ⟨#[32]⟩) (T) (Nat.le_trans (szA (szA (szA (szA (szA (by first | assumption | decide : (S : ByteArray).size ≤ 20000) (by first | assumption | decide : (⟨#[98, 108, 111, 99, 107, 32]⟩ : ByteArray).size ≤ 1000)) (by first | assumption | decide : (I : ByteArray).size ≤ 1000)) (by first | assumption | decide : (⟨#[32]⟩ : ByteArray).size ≤ 1000)) (by first | assumption | decide : (F : ByteArray).size ≤ 1000)) (by first | assumption | decide : (⟨#[32]⟩ : ByteArray).size ≤ 1000)) (by decide)) (Nat.le_trans (by first | assumption | decide : (T : ByteArray).size ≤ 1000) (by decide))
      have ad6 := addB (S ++ ⟨#[98, 108, 111, 99, 107, 32]⟩ ++ I ++ ⟨#[32]⟩ ++ F ++ ⟨#[32]⟩ ++ T) (⟨#[32, 110, 101, 97, 114, 32]⟩) (Nat.le_trans (szA (szA (szA (szA (szA (szA (by first | assumption | decide : (S : ByteArray).size ≤ 20000) (by first | assumption | decide : (⟨#[98, 108, 111, 99, 107, 32]⟩ : ByteArray).size ≤ 1000)) (by first | assumption | decide : (I : ByteArray).size ≤ 1000)) (by first | assumption | decide : (⟨#[32]⟩ : ByteArray).size ≤ 1000)) (by first | assumption | decide : (F : ByteArray).size ≤ 1000)) (by first | assumption | decide : (⟨#[32]⟩ : ByteArray).size ≤ 1000)) (by first | assumption | decide : (T : ByteArray).size ≤ 1000)) (by decide)) (Nat.le_trans (by first | assumption | decide : (⟨#[32, 110, 101, 97, 114, 32]⟩ : ByteArray).size ≤ 1000) (by decide))
      have ad7 := addB (S ++ ⟨#[98, 108, 111, 99, 107, 32]⟩ ++ I ++ ⟨#[32]⟩ ++ F ++ ⟨#[32]⟩ ++ T ++ ⟨#[32, 110, 101, 97, 114, 32]⟩) (D) (Nat.le_trans (szA (szA (szA (szA (szA (szA (szA (by first | assumption | decide : (S : ByteArray).size ≤ 20000) (by first | assumption | decide : (⟨#[98, 108, 111, 99, 107, 32]⟩ : ByteArray).size ≤ 1000)) (by first | assumption | decide : (I : ByteArray).size ≤ 1000)) (by first | assumption | decide : (⟨#[32]⟩ : ByteArray).size ≤ 1000)) (by first | assumption | decide : (F : ByteArray).size ≤ 1000)) (by first | assumption | decide : (⟨#[32]⟩ : ByteArray).size ≤ 1000)) (by first | assumption | decide : (T : ByteArray).size ≤ 1000)) (by first | assumption | decide : (⟨#[32, 110, 101, 97, 114, 32]⟩ : ByteArray).size ≤ 1000)) (by decide)) (Nat.le_trans (by first | assumption | decide : (D : ByteArray).size ≤ 1000) (by decide))
      have ad8 := addB (S ++ ⟨#[98, 108, 111, 99, 107, 32]⟩ ++ I ++ ⟨#[32]⟩ ++ F ++ ⟨#[32]⟩ ++ T ++ ⟨#[32, 110, 101, 97, 114, 32]⟩ ++ D) (⟨#[32, 110, 101, 120, 116]⟩) (Nat.le_trans (szA (szA (szA (szA (szA (szA (szA (szA (by first | assumption | decide : (S : ByteArray).size ≤ 20000) (by first | assumption | decide : (⟨#[98, 108, 111, 99, 107, 32]⟩ : ByteArray).size ≤ 1000)) (by first | assumption | decide : (I : ByteArray).size ≤ 1000)) (by first | assumption | decide : (⟨#[32]⟩ : ByteArray).size ≤ 1000)) (by first | assumption | decide : (F : ByteArray).size ≤ 1000)) (by first | assumption | decide : (⟨#[32]⟩ : ByteArray).size ≤ 1000)) (by first | assumption | decide : (T : ByteArray).size ≤ 1000)) (by first | assumption | decide : (⟨#[32, 110, 101, 97, 114, 32]⟩ : ByteArray).size ≤ 1000)) (by first | assumption | decide : (D : ByteArray).size ≤ 1000)) (by decide)) (Nat.le_trans (by first | assumption | decide : (⟨#[32, 110, 101, 120, 116]⟩ : ByteArray).size ≤ 1000) (by decide))
      clear zS zI zF zT zD
      go_upto_region 6 with fail
      have HFX : Hid (Fr No wr wr.drew) := (Fr.refl _ _).drew
      have HK : Hid (∀ W, Hid (Fr No wr W) → ((W.cell? ⟨gb, i * 3, none⟩ = some (.int .i64 (bf : Int)) ∧ W.cell? ⟨gb, i * 3 + 1, none⟩ = some (.int .i64 (bt : Int)) ∧ W.cell? ⟨gd, i, none⟩ = some (.int .i64 di)) ∧ Hid (Fr No wr W))) := fun W h => ⟨HM0.out _ h.out, h⟩
      have H0 := HK.out _ HFX
      go_region_held3 (fun W => (W.cell? ⟨gb, i * 3, none⟩ = some (.int .i64 (bf : Int)) ∧ W.cell? ⟨gb, i * 3 + 1, none⟩ = some (.int .i64 (bt : Int)) ∧ W.cell? ⟨gd, i, none⟩ = some (.int .i64 di)) ∧ Hid (Fr No wr W)) (first | assumption | exact HK.out _ (by assumption)) (first
        | (go_at_call 36; (with_reducible refine (HDi.out _).mono ?_); rintro e w5 ⟨rfl, rfl⟩)
        | (go_at_call 36; (with_reducible refine (HDf.out _).mono ?_); rintro e w5 ⟨rfl, rfl⟩)
        | (go_at_call 36; (with_reducible refine (HDt.out _).mono ?_); rintro e w5 ⟨rfl, rfl⟩)
        | (go_at_call 36; (with_reducible refine (HDd.out _).mono ?_); rintro e w5 ⟨rfl, rfl⟩))
      rw [HS2.out]
      have HF6 : Hid (Fr No W0 wr.drew) := HF.out.trans HFX.out
      clear H0 HK HM0 HS2 HDi HDf HDt HDd ad0 ad1 ad2 ad3 ad4 ad5 ad6 ad7 ad8 HFX HF
      generalize wr.drew = W6 at *
      go_wp2_with fail
      go_loopw [3, 6] (fun sv kv wr' => ∃ k : Nat, sv = .string (bA (X0 ++ nextT (L.take k))) ∧ kv = .int .i64 (k : Int) ∧ k ≤ q ∧ Hid (Fr No W0 wr')) (fun _ kv _ => q - (intOf kv).toNat)
      case atStart => exact ⟨0, by simp [nextT], rfl, Nat.zero_le _, HF6.out⟩
      case round =>
        obtain ⟨k, rfl, rfl, hk, HG⟩ := hrel
        have c2 := HM2.out _ (HF0.out.trans HG.out)
        have hq2 := HQ2.out.1
        have hin := HIN.out
        by_cases hlt : k < q
        · obtain ⟨x, hx⟩ : ∃ x, L[k]? = some x := ⟨L[k]'(by rw [HQ.out]; exact hlt), List.getElem?_eq_getElem _⟩
          obtain ⟨g2, hg2, k2⟩ := HCE.out _ (HF0.out.trans HG.out) k x hx
          subst hg2
          have hx1 := HQ2.out.2 x (List.mem_of_getElem? hx)
          have HDx := Lib.hid (HDEC.out (x : Int) (by omega) (by omega))
          have zX := bA_room (z := (x : Int)) (by omega) (by omega)
          have zS : (bA (X0 ++ nextT (L.take k))).size ≤ 150000 := by
            rw [bA_size, List.length_append]
            have h1 := HLENN.out
            have h2 := nextT_take L k
            omega
          have HE : Hid (bA (X0 ++ nextT (L.take k)) ++ ⟨#[32]⟩ ++ bA (itoaN (x : Int)) = bA (X0 ++ nextT (L.take (k + 1)))) := by
            rw [List.take_add_one, hx]
            simp only [Option.toList_some]
            rw [nextT_snoc]
            show bA (X0 ++ nextT (L.take k)) ++ bA [32] ++ bA (itoaN (x : Int)) = _
            rw [bA_app, bA_app]
            simp only [List.append_assoc]
            exact Lib.hid rfl
          have HKQ := Lib.hid hlt
          have k1 : (k : Int) < (q : Int) := by omega
          have kq : (0 : Int) ≤ (k : Int) := by omega
          clear hx hlt
          generalize bA (X0 ++ nextT (L.take k)) = S at *
          generalize bA (itoaN (x : Int)) = X at *
          have ae0 := addB (S) (⟨#[32]⟩) (Nat.le_trans (by first | assumption | decide : (S : ByteArray).size ≤ 150000) (by decide)) (Nat.le_trans (by first | assumption | decide : (⟨#[32]⟩ : ByteArray).size ≤ 1000) (by decide))
          have ae1 := addB (S ++ ⟨#[32]⟩) (X) (Nat.le_trans (szA (by first | assumption | decide : (S : ByteArray).size ≤ 150000) (by first | assumption | decide : (⟨#[32]⟩ : ByteArray).size ≤ 1000)) (by decide)) (Nat.le_trans (by first | assumption | decide : (X : ByteArray).size ≤ 1000) (by decide))
          clear zX zS
          go_wp2_with (go_at_call 36; (with_reducible refine (HDx.out _).mono ?_); rintro e w5 ⟨rfl, rfl⟩)
          go_roundw
          case rel => exact ⟨k + 1, by rw [← HE.out], by go_num, by have := HKQ.out; omega, HG.out⟩
          case measure => (have := HKQ.out; simp [intOf] <;> omega)
        · obtain rfl : k = q := by omega
          have k1 : ¬ (k : Int) < (k : Int) := by omega
          have e1 : L.take k = L := by rw [← HQ.out]; exact List.take_length
          rw [e1]
          have zS : (bA (X0 ++ nextT L)).size ≤ 150000 := by
            rw [bA_size, List.length_append]
            have h1 := HLENN.out
            omega
          have HE : Hid (bA (X0 ++ nextT L) ++ ⟨#[10]⟩ = bA (showUp bs d (i + 1))) := by
            rw [HX0.out]
            show bA (X0 ++ nextT L) ++ bA [10] = _
            rw [bA_app]
          clear hlt e1
          generalize bA (X0 ++ nextT L) = S at *
          have ag := addB S ⟨#[10]⟩ (Nat.le_trans zS (by decide)) (by decide)
          clear zS
          go_wp2_with fail
          go_roundw
          case rel => exact ⟨i + 1, by rw [← HE.out], by go_num, by omega, HG.out⟩
          case measure => simp [intOf] <;> omega
    · obtain rfl : i = N := by omega
      have r1 : ¬ (i : Int) < (i : Int) := by omega
      have HLO1 := Lib.hid (HLO.out wr (HF0.out.trans HF.out))
      have hub := HUB.out i (Nat.le_refl _)
      obtain ⟨W, hW⟩ : ∃ W, waysM bs d = W := ⟨_, rfl⟩
      rw [hW] at HLO1 HWM HWL HSB
      have HLR : Hid (∀ j, j ≤ W.length → (loopsT (W.take j)).length ≤ 41 * j) := loops_room HWM.out
      obtain ⟨m, hm⟩ : ∃ m, W.length = m := ⟨_, rfl⟩
      rw [hm] at HLO1 HWL HLR
      have HM := Lib.hid hm
      have hm2 : m ≤ 200 := HWL.out
      obtain ⟨X0, hX0⟩ : ∃ X0, showUp bs d i = X0 := ⟨_, rfl⟩
      rw [hX0] at hub HSB ⊢
      have HX0 : Hid (X0.length ≤ 7000) := Lib.hid (by omega)
      clear hlt hW hm hX0 hub
      go_wp2_with (go_at_call 16; (with_reducible refine (HLO1.out).mono ?_); rintro e W3 ⟨lv, rfl, hlo, hf3⟩; obtain ⟨aw, cw, rfl⟩ := ownsRow_any hlo; have HO := Lib.hid hlo; have HF3 := Lib.hid ((HF0.out.trans HF.out).trans hf3); clear hlo hf3)
      go_loopw [3, 8] (fun sv jv wr' => ∃ j : Nat, sv = .string (bA (X0 ++ loopsT (W.take j))) ∧ jv = .int .i64 (j : Int) ∧ j ≤ m ∧ Hid (Fr No W3 wr')) (fun _ jv _ => m - (intOf jv).toNat)
      case atStart => exact ⟨0, by simp [loopsT], rfl, Nat.zero_le _, Fr.refl _ _⟩
      case round =>
        obtain ⟨j, rfl, rfl, hj, HG⟩ := hrel
        by_cases hlt : j < m
        · obtain ⟨p, hp⟩ : ∃ p, W[j]? = some p := ⟨W[j]'(by rw [HM.out]; exact hlt), List.getElem?_eq_getElem _⟩
          have hp1 := HWM.out p (List.mem_of_getElem? hp)
          obtain ⟨gv, cv, hgw⟩ := ownsRow_form HO.out (by omega)
          injection hgw with hg1 hg2 hg3
          clear hg2
          subst hg1 hg3
          obtain ⟨x1, x2⟩ := pflat_get hp
          have hco := ownsRow_cells HO.out
          have k1 : wr.cell? ⟨gv, j * 2, none⟩ = some (.int .i64 (p.1 : Int)) := HG.out.cell (by have := hco.1 _ _ x1; rwa [Nat.zero_add] at this) id
          have k2 : wr.cell? ⟨gv, j * 2 + 1, none⟩ = some (.int .i64 (p.2 : Int)) := HG.out.cell (by have := hco.1 _ _ x2; rwa [Nat.zero_add] at this) id
          have HDa := Lib.hid (HDEC.out (p.1 : Int) (by omega) (by omega))
          have HDb := Lib.hid (HDEC.out (p.2 : Int) (by omega) (by omega))
          have zA := bA_room (z := (p.1 : Int)) (by omega) (by omega)
          have zB := bA_room (z := (p.2 : Int)) (by omega) (by omega)
          have zS : (bA (X0 ++ loopsT (W.take j))).size ≤ 150000 := by
            rw [bA_size, List.length_append]
            have h1 := HLR.out j hj
            have h2 := HX0.out
            omega
          have HE : Hid (bA (X0 ++ loopsT (W.take j)) ++ ⟨#[108, 111, 111, 112, 32]⟩ ++ bA (itoaN (p.1 : Int)) ++ ⟨#[32]⟩ ++ bA (itoaN (p.2 : Int)) ++ ⟨#[10]⟩ = bA (X0 ++ loopsT (W.take (j + 1)))) := by
            rw [List.take_add_one, hp]
            simp only [Option.toList_some]
            rw [loopsT_snoc, loop_line]
            show bA (X0 ++ loopsT (W.take j)) ++ bA [108, 111, 111, 112, 32] ++ bA (itoaN (p.1 : Int)) ++ bA [32] ++ bA (itoaN (p.2 : Int)) ++ bA [10] = _
            rw [bA_app, bA_app, bA_app, bA_app, bA_app]
            simp only [List.append_assoc]
          have r1 : (j : Int) < (m : Int) := by omega
          have r0 : (0 : Int) ≤ (j : Int) := by omega
          have HJM := Lib.hid hlt
          clear hp hp1 x1 x2 hco hlt
          generalize bA (X0 ++ loopsT (W.take j)) = S at *
          generalize bA (itoaN (p.1 : Int)) = A at *
          generalize bA (itoaN (p.2 : Int)) = B at *
          generalize p.1 = pa at *
          generalize p.2 = pb at *
          have af0 := addB (S) (⟨#[108, 111, 111, 112, 32]⟩) (Nat.le_trans (by first | assumption | decide : (S : ByteArray).size ≤ 150000) (by decide)) (Nat.le_trans (by first | assumption | decide : (⟨#[108, 111, 111, 112, 32]⟩ : ByteArray).size ≤ 1000) (by decide))
          have af1 := addB (S ++ ⟨#[108, 111, 111, 112, 32]⟩) (A) (Nat.le_trans (szA (by first | assumption | decide : (S : ByteArray).size ≤ 150000) (by first | assumption | decide : (⟨#[108, 111, 111, 112, 32]⟩ : ByteArray).size ≤ 1000)) (by decide)) (Nat.le_trans (by first | assumption | decide : (A : ByteArray).size ≤ 1000) (by decide))
          have af2 := addB (S ++ ⟨#[108, 111, 111, 112, 32]⟩ ++ A) (⟨#[32]⟩) (Nat.le_trans (szA (szA (by first | assumption | decide : (S : ByteArray).size ≤ 150000) (by first | assumption | decide : (⟨#[108, 111, 111, 112, 32]⟩ : ByteArray).size ≤ 1000)) (by first | assumption | decide : (A : ByteArray).size ≤ 1000)) (by decide)) (Nat.le_trans (by first | assumption | decide : (⟨#[32]⟩ : ByteArray).size ≤ 1000) (by decide))
          have af3 := addB (S ++ ⟨#[108, 111, 111, 112, 32]⟩ ++ A ++ ⟨#[32]⟩) (B) (Nat.le_trans (szA (szA (szA (by first | assumption | decide : (S : ByteArray).size ≤ 150000) (by first | assumption | decide : (⟨#[108, 111, 111, 112, 32]⟩ : ByteArray).size ≤ 1000)) (by first | assumption | decide : (A : ByteArray).size ≤ 1000)) (by first | assumption | decide : (⟨#[32]⟩ : ByteArray).size ≤ 1000)) (by decide)) (Nat.le_trans (by first | assumption | decide : (B : ByteArray).size ≤ 1000) (by decide))
          have af4 := addB (S ++ ⟨#[108, 111, 111, 112, 32]⟩ ++ A ++ ⟨#[32]⟩ ++ B) (⟨#[10]⟩) (Nat.le_trans (szA (szA (szA (szA (by first | assumption | decide : (S : ByteArray).size ≤ 150000) (by first | assumption | decide : (⟨#[108, 111, 111, 112, 32]⟩ : ByteArray).size ≤ 1000)) (by first | assumption | decide : (A : ByteArray).size ≤ 1000)) (by first | assumption | decide : (⟨#[32]⟩ : ByteArray).size ≤ 1000)) (by first | assumption | decide : (B : ByteArray).size ≤ 1000)) (by decide)) (Nat.le_trans (by first | assumption | decide : (⟨#[10]⟩ : ByteArray).size ≤ 1000) (by decide))
          clear zS zA zB
          have HK : Hid (∀ W, Hid (Fr No wr W) → ((W.cell? ⟨gv, j * 2, none⟩ = some (.int .i64 (pa : Int)) ∧ W.cell? ⟨gv, j * 2 + 1, none⟩ = some (.int .i64 (pb : Int))) ∧ Hid (Fr No wr W))) := fun W h => ⟨⟨h.out.cell k1 id, h.out.cell k2 id⟩, h⟩
          have HFX : Hid (Fr No wr wr.drew) := (Fr.refl _ _).drew
          have H0 := HK.out _ HFX
          go_upto_region 16 with fail
          go_region_held3 (fun W => (W.cell? ⟨gv, j * 2, none⟩ = some (.int .i64 (pa : Int)) ∧ W.cell? ⟨gv, j * 2 + 1, none⟩ = some (.int .i64 (pb : Int))) ∧ Hid (Fr No wr W)) (first | assumption | exact HK.out _ (by assumption)) (first
            | (go_at_call 36; (with_reducible refine (HDa.out _).mono ?_); rintro e w5 ⟨rfl, rfl⟩)
            | (go_at_call 36; (with_reducible refine (HDb.out _).mono ?_); rintro e w5 ⟨rfl, rfl⟩))
          clear H0 HK k1 k2
          go_wp2_with fail
          go_roundw
          case rel => exact ⟨j + 1, by rw [← HE.out], by go_num, by have := HJM.out; omega, HG.out.trans HFX.out⟩
          case measure => (have := HJM.out; simp [intOf] <;> omega)
        · obtain rfl : j = m := by omega
          have r1 : ¬ (j : Int) < (j : Int) := by omega
          have e1 : W.take j = W := by rw [← HM.out]; exact List.take_length
          rw [e1]
          clear hlt e1
          go_wp2_with fail
          go_ret
          exact ⟨by rw [HSB.out]; rfl, HF3.out.trans HG.out⟩
end Go.Proofs.YtakcdecljfmckaaGreatDoor

namespace Go.Proofs.YtakcdecljfmckaaGreatDoor
open Go.RowKit

set_option maxHeartbeats 400000 in
theorem rends_any (i : Ins) (h : i.op < 256) (w : World) : Calls Tryz.prog 63 #[i.agg] w fun e w' => e = .returned (.bool (endsM i)) ∧ Fr No w w' := by
  have HJ : Hid (∀ W, Calls Tryz.prog 82 #[.int .u8 i.op] W fun e w' => e = .returned (.bool (jumpB i.op)) ∧ W = w') := fun W => jump_any i.op h W
  have HC : Hid (∀ W, Calls Tryz.prog 83 #[.int .u8 i.op] W fun e w' => e = .returned (.int .i64 (codeN i.op)) ∧ W = w') := fun W => code_any i.op h W
  have q1 : ((codeN i.op : Int) == 144) = (codeN i.op == 144) := beq_nat _ 144
  obtain ⟨R, hR⟩ : ∃ R, endsM i = R := ⟨_, rfl⟩
  have HR : Hid (R = (jumpB i.op && codeN i.op == 144)) := hR.symm
  rw [hR]
  clear hR h
  unfold Ins.agg
  generalize jumpB i.op = J at *
  generalize (codeN i.op == 144) = C at *
  generalize codeN i.op = k at *
  generalize i.op = o at *
  cases J <;> cases C
  all_goals go_enter Tryz.func63, Tryz.ntmps63
  all_goals go_wp2_with (first
    | (go_at_call 82; (with_reducible refine (HJ.out _).mono ?_); rintro e w9 ⟨rfl, rfl⟩)
    | (go_at_call 83; (with_reducible refine (HC.out _).mono ?_); rintro e w9 ⟨rfl, rfl⟩))
  all_goals go_ret
  all_goals exact ⟨by rw [HR.out]; rfl, (Fr.refl _ _).alloc _⟩

set_option maxHeartbeats 400000 in
theorem rjumps_any (i : Ins) (h : i.op < 256) (w : World) : Calls Tryz.prog 62 #[i.agg] w fun e w' => e = .returned (.bool (jumpsM i)) ∧ Fr No w w' := by
  have HJ : Hid (∀ W, Calls Tryz.prog 82 #[.int .u8 i.op] W fun e w' => e = .returned (.bool (jumpB i.op)) ∧ W = w') := fun W => jump_any i.op h W
  have HC : Hid (∀ W, Calls Tryz.prog 83 #[.int .u8 i.op] W fun e w' => e = .returned (.int .i64 (codeN i.op)) ∧ W = w') := fun W => code_any i.op h W
  have q1 : ((codeN i.op : Int) != 144) = (codeN i.op != 144) := by rw [bne, bne]; exact congrArg (fun b => !b) (beq_nat _ 144)
  have q2 : ((codeN i.op : Int) != 128) = (codeN i.op != 128) := by rw [bne, bne]; exact congrArg (fun b => !b) (beq_nat _ 128)
  obtain ⟨R, hR⟩ : ∃ R, jumpsM i = R := ⟨_, rfl⟩
  have HR : Hid (R = (jumpB i.op && codeN i.op != 128 && codeN i.op != 144)) := hR.symm
  rw [hR]
  clear hR h
  unfold Ins.agg
  generalize jumpB i.op = J at *
  generalize (codeN i.op != 144) = C at *
  generalize (codeN i.op != 128) = D at *
  generalize codeN i.op = k at *
  generalize i.op = o at *
  cases J <;> cases C <;> cases D
  all_goals go_enter Tryz.func62, Tryz.ntmps62
  all_goals go_wp2_with (first
    | (go_at_call 82; (with_reducible refine (HJ.out _).mono ?_); rintro e w9 ⟨rfl, rfl⟩)
    | (go_at_call 83; (with_reducible refine (HC.out _).mono ?_); rintro e w9 ⟨rfl, rfl⟩))
  all_goals go_ret
  all_goals exact ⟨by rw [HR.out]; rfl, (Fr.refl _ _).alloc _⟩

theorem always_eq (i : Ins) : alwaysM i = (jumpB i.op && codeN i.op == 0) := by
  unfold alwaysM jumpsM
  by_cases h : codeN i.op = 0
  · rw [h]; cases jumpB i.op <;> rfl
  · rw [show (codeN i.op == 0) = false from by simpa using h]; simp
set_option maxHeartbeats 400000 in
theorem ralways_any (i : Ins) (h : i.op < 256) (w : World) : Calls Tryz.prog 64 #[i.agg] w fun e w' => e = .returned (.bool (alwaysM i)) ∧ Fr No w w' := by
  have HJ : Hid (∀ W, Calls Tryz.prog 82 #[.int .u8 i.op] W fun e w' => e = .returned (.bool (jumpB i.op)) ∧ W = w') := fun W => jump_any i.op h W
  have HC : Hid (∀ W, Calls Tryz.prog 83 #[.int .u8 i.op] W fun e w' => e = .returned (.int .i64 (codeN i.op)) ∧ W = w') := fun W => code_any i.op h W
  have q1 : ((codeN i.op : Int) == 0) = (codeN i.op == 0) := beq_nat _ 0
  obtain ⟨R, hR⟩ : ∃ R, alwaysM i = R := ⟨_, rfl⟩
  have HR : Hid (R = (jumpB i.op && codeN i.op == 0)) := by rw [← hR]; exact always_eq i
  rw [hR]
  clear hR h
  unfold Ins.agg
  generalize jumpB i.op = J at *
  generalize (codeN i.op == 0) = C at *
  generalize codeN i.op = k at *
  generalize i.op = o at *
  cases J <;> cases C
  all_goals go_enter Tryz.func64, Tryz.ntmps64
  all_goals go_wp2_with (first
    | (go_at_call 82; (with_reducible refine (HJ.out _).mono ?_); rintro e w9 ⟨rfl, rfl⟩)
    | (go_at_call 83; (with_reducible refine (HC.out _).mono ?_); rintro e w9 ⟨rfl, rfl⟩))
  all_goals go_ret
  all_goals exact ⟨by rw [HR.out]; rfl, (Fr.refl _ _).alloc _⟩

/-- a slot's fields, where they lie -/
theorem src_cells {w : World} {l : List Ins} {g off : Nat} (hc : CellsAt w g off (iflat l)) {W : World} (hf : Fr No w W) {pc : Nat} (h : pc < l.length) :
    W.cell? ⟨g, off + pc * 5, none⟩ = some (.int .u8 (insAt l pc).op) ∧ W.cell? ⟨g, off + pc * 5 + 1, none⟩ = some (.int .u8 (insAt l pc).dst) ∧ W.cell? ⟨g, off + pc * 5 + 2, none⟩ = some (.int .u8 (insAt l pc).src) ∧ W.cell? ⟨g, off + pc * 5 + 3, none⟩ = some (.int .i16 (insAt l pc).off) ∧ W.cell? ⟨g, off + pc * 5 + 4, none⟩ = some (.int .i32 (insAt l pc).imm) := ins_cells (hf.cells hc id) h
/-- a slot's opcode, where it lies -/
theorem op_cell {w : World} {l : List Ins} {a : Option Addr} {c : Nat} (hv : InsAt w (.slice a l.length c) l) {pc : Nat} (h : pc < l.length) : ∃ g o, a = some ⟨g, o, none⟩ ∧ w.cell? ⟨g, o + pc * 5, none⟩ = some (.int .u8 (insAt l pc).op) := by
  rcases hv with ⟨h1, h2⟩ | ⟨g, off, cap, h1, hc⟩
  · rw [h1] at h; exact absurd h (Nat.not_lt_zero _)
  · injection h1 with h1 _ _
    exact ⟨g, off, h1, (ins_cells hc h).1⟩
set_option maxHeartbeats 400000 in
theorem behind_any (l : List Ins) (v : Value) (pc : Nat) (w : World) (hv : InsAt w v l) (hl : l.length ≤ 100000) (hpc : pc < l.length) :
    Calls Tryz.prog 26 #[v, .int .i64 (pc : Int)] w fun e w' => e = .returned (.int .i64 (behM l pc : Nat)) ∧ w = w' := by
  obtain ⟨a, c, rfl⟩ := hv.form
  obtain ⟨g, o, rfl, k0⟩ := op_cell hv hpc
  obtain ⟨n, hn⟩ : ∃ n, l.length = n := ⟨_, rfl⟩
  rw [hn] at hl hpc ⊢
  clear hn hv
  have p1 : (pc : Int) < (n : Int) := by omega
  have p0 : (0 : Int) ≤ (pc : Int) := by omega
  by_cases h24 : (insAt l pc).op = 24
  · have e : behM l pc = pc + 2 := by unfold behM sizeM; rw [if_pos h24]
    rw [h24] at k0
    rw [e]
    clear e h24
    go_enter Tryz.func26, Tryz.ntmps26
    go_wp2_with fail
    go_ret
    exact ⟨rfl, rfl⟩
  · have e : behM l pc = pc + 1 := by unfold behM sizeM; rw [if_neg h24]
    have q1 : (((insAt l pc).op : Int) == 24) = false := by rw [beq_eq_false_iff_ne]; omega
    rw [e]
    clear e h24
    generalize (insAt l pc).op = op at *
    go_enter Tryz.func26, Tryz.ntmps26
    go_wp2_with fail
    go_ret
    exact ⟨rfl, rfl⟩

/-- a slot that no instruction begins at -/
theorem second_plain {l : List Ins} {a pc : Nat} (hpc : pc < l.length) (h1 : a < l.length → a ∈ starts l) (h2 : a = 0 ∨ ∃ q ∈ starts l, q < pc ∧ behM l q = a) (h3 : ¬ a < pc) : decide (pc < a) = !(starts l).contains pc := by
  by_cases e : a = pc
  · subst e
    rw [List.contains_iff_mem.2 (h1 hpc), decide_eq_false (Nat.lt_irrefl _)]
    rfl
  · have hlt : pc < a := by omega
    rw [decide_eq_true (by omega)]
    cases hc : (starts l).contains pc with
    | false => rfl
    | true =>
      exfalso
      rcases h2 with rfl | ⟨q, hq, hqp, hqa⟩
      · omega
      · have := starts_sep hq (List.contains_iff_mem.1 hc) hqp
        omega
set_option maxHeartbeats 400000 in
theorem second_any (l : List Ins) (v : Value) (pc : Nat) (w : World) (hv : InsAt w v l) (hl : l.length ≤ 100000) (hpc : pc < l.length) :
    Calls Tryz.prog 81 #[v, .int .i64 (pc : Int)] w fun e w' => e = .returned (.bool (!(starts l).contains pc)) ∧ w = w' := by
  have HB : Hid (∀ a : Nat, a < l.length → Calls Tryz.prog 26 #[v, .int .i64 (a : Int)] w fun e w' => e = .returned (.int .i64 (behM l a : Nat)) ∧ w = w') := fun a ha => behind_any l v a w hv hl ha
  obtain ⟨a, c, rfl⟩ := hv.form
  have HPC := Lib.hid hpc
  clear hv hl hpc
  generalize (Value.slice a l.length c) = sv at *
  have HSP : Hid (∀ a : Nat, (a < l.length → a ∈ starts l) → (a = 0 ∨ ∃ q ∈ starts l, q < pc ∧ behM l q = a) → ¬ a < pc → decide (pc < a) = !(starts l).contains pc) := fun a h1 h2 h3 => second_plain HPC.out h1 h2 h3
  obtain ⟨sc, hsc⟩ : ∃ sc, (!(starts l).contains pc) = sc := ⟨_, rfl⟩
  rw [hsc] at HSP ⊢
  clear hsc
  go_enter Tryz.func81, Tryz.ntmps81
  go_wp2_with fail
  go_loopw [5] (fun av wr => wr = w ∧ ∃ a : Nat, av = .int .i64 (a : Int) ∧ Hid (a < l.length → a ∈ starts l) ∧ Hid (a = 0 ∨ ∃ q ∈ starts l, q < pc ∧ behM l q = a)) (fun av _ => pc - (intOf av).toNat)
  case atStart => exact ⟨rfl, 0, rfl, fun h => starts_zero h, .inl rfl⟩
  case round =>
    obtain ⟨rfl, a, rfl, HS, HQ⟩ := hrel
    by_cases hlt : a < pc
    · have p1 : (a : Int) < (pc : Int) := by omega
      have hal : a < l.length := by have := HPC.out; omega
      have HC := Lib.hid (HB.out a hal)
      have hb := behM_pos l a
      have HM := Lib.hid (And.intro hlt (And.intro hb (HS.out hal)))
      clear hlt hal hb
      go_wp2_with (go_at_call 26; (with_reducible refine (HC.out).mono ?_); rintro e w9 ⟨rfl, rfl⟩)
      go_roundw
      case rel => exact ⟨trivial, behM l a, rfl, fun h => starts_next HM.out.2.2 h, .inr ⟨a, HM.out.2.2, HM.out.1, rfl⟩⟩
      case measure => (have := HM.out.1; have := HM.out.2.1; simp [intOf] <;> omega)
    · have p1 : ¬ (a : Int) < (pc : Int) := by omega
      have HR := Lib.hid (HSP.out a HS.out HQ.out hlt)
      clear hlt
      go_wp2_with fail
      go_ret
      exact ⟨congrArg (fun b => Ending.returned (Value.bool b)) HR.out, rfl⟩
end Go.Proofs.YtakcdecljfmckaaGreatDoor
