/- firewallref03.Show, walked. -/
import Derived.Test.YthkdokkpiaaljaaGreatDoorCore35
import Derived.Test.YthkdokkpiaaljaaGreatDoorCore7
import Derived.Test.YthkdokkpiaaljaaGreatDoorCore37
import Derived.Deep.QuietTactic
import Derived.BigQuiet
set_option linter.all false
set_option linter.unusedVariables false
set_option linter.unusedSimpArgs false
namespace Go.Proofs.YthkdokkpiaaljaaGreatDoor
open Go.RowKit

/-- how far a text is laid -/
def ShowIs (l : List Ins) (k : Nat) (S : List UInt8) : Prop := S ++ showL (l.drop k) = showL l

set_option maxRecDepth 100000 in
set_option maxHeartbeats 8000000 in
theorem refshow_any (v : Value) (l : List Ins) (w : World) (h : InsAt w v l) (hok : ∀ i ∈ l, i.ok) (hn : l.length ≤ 300) : Calls Tryz.prog 12 #[v] w fun e w' => e = .returned (.string (bA (showL l))) ∧ Fr No w w' := by
  rcases h with ⟨rfl, a, c, rfl⟩ | ⟨g, off, cap, rfl, hc⟩
  · go_enter Tryz.func12, Tryz.ntmps12
    go_wp2_with fail
    refine wp_loop_rounds 1 ?_
    rw [rounds_succ]
    go_wp2_with fail
    go_ret
    exact ⟨rfl, Fr.refl _ _⟩
  have HC := Lib.hid hc
  have HOK := Lib.hid hok
  have HCE : Hid (∀ W, Fr No w W → CellsAt W g off (iflat l)) := fun W hW => hW.cells hc id
  have HNN := Lib.hid hn
  obtain ⟨n, hln⟩ : ∃ n, l.length = n := ⟨_, rfl⟩
  have HN := Lib.hid hln
  rw [hln] at hn ⊢
  have HCK : Hid (∀ (i : Ins) W, i.ok → Calls Tryz.prog 28 #[i.agg, .bool true] W fun e w' => e = .returned (.int .i64 (checkI i true)) ∧ Fr No W w') := fun i W hi => refcheck_any i true hi W
  have HNU : Hid (∀ (n : Int) W, -9223372036854775808 < n → n ≤ 9223372036854775807 → Calls Tryz.prog 32 #[.int .i64 n] W fun e w' => e = .returned (.string (bA (itoaN n))) ∧ Fr No W w') := fun n W h h2 => refnumber_any n h h2 W
  have HR : Hid (∀ (n : Nat) W, n < 256 → Calls Tryz.prog 31 #[.int .u8 n] W fun e w' => e = .returned (.string (bA (regN n))) ∧ Fr No W w') := fun n W h => refreg_any n h W
  clear hc hln hok
  go_enter Tryz.func12, Tryz.ntmps12
  go_wp2_with fail
  go_loopw [3, 4] (fun s3 s4 wr => ∃ (k : Nat) (S : List UInt8), k ≤ n ∧ s3 = .string (bA S) ∧ s4 = .int .i64 k ∧ Hid (ShowIs l k S) ∧ Hid (Fr No w wr)) (fun _ s4 _ => n - (intOf s4).toNat)
  case atStart => exact ⟨0, [], Nat.zero_le _, rfl, rfl, rfl, Fr.refl _ _⟩
  case round =>
    obtain ⟨k, S, hk, rfl, rfl, HI, HF⟩ := hrel
    by_cases hlt : k < n
    · obtain ⟨x, hx⟩ : ∃ x, l[k]? = some x := ⟨_, List.getElem?_eq_getElem (by rw [HN.out]; exact hlt)⟩
      have hxo := HOK.out x (List.mem_of_getElem? hx)
      have HX := Lib.hid hx
      have HXO := Lib.hid hxo
      have sS : (bA S).size ≤ 20000 := show_room HOK.out HNN.out HI.out
      have sL : (bA (lineI x)).size ≤ 1000 := line_room x hxo
      have sD : (bA (regN x.dst)).size ≤ 1000 := by rw [bA_size]; exact reg_len1 hxo.dst
      have t0 : (bA (itoaN x.op)).size ≤ 1000 := by rw [bA_size]; have := hxo.op; exact itoa_len1 (by omega) (by omega)
      have t1 : (bA (itoaN x.dst)).size ≤ 1000 := by rw [bA_size]; have := hxo.dst; exact itoa_len1 (by omega) (by omega)
      have t2 : (bA (itoaN x.src)).size ≤ 1000 := by rw [bA_size]; have := hxo.src; exact itoa_len1 (by omega) (by omega)
      have t3 : (bA (itoaN x.off)).size ≤ 1000 := by rw [bA_size]; have := hxo.off; exact itoa_len1 (by omega) (by omega)
      have t4 : (bA (itoaN x.imm)).size ≤ 1000 := by rw [bA_size]; have := hxo.imm; exact itoa_len1 (by omega) (by omega)
      obtain ⟨c0, c1, c2, c3, c4⟩ := ins_cell (HCE.out _ HF.out) hx
      have HONE : Hid (∀ W, Calls Tryz.prog 29 #[.agg #[.int .u8 x.op, .int .u8 x.dst, .int .u8 x.src, .int .i16 x.off, .int .i32 x.imm]] W fun e w' => e = .returned (.string (bA (lineI x))) ∧ Fr No W w') := fun W => one_any x hxo W
      have HCX : Hid (∀ W, Calls Tryz.prog 28 #[.agg #[.int .u8 x.op, .int .u8 x.dst, .int .u8 x.src, .int .i16 x.off, .int .i32 x.imm], .bool true] W fun e w' => e = .returned (.int .i64 (checkI x true)) ∧ Fr No W w') := fun W => HCK.out x W hxo
      have bo := hxo.op; have bd := hxo.dst; have bs := hxo.src; have bf := hxo.off; have bm := hxo.imm
      have q1 : ((x.op : Int) != 24) = (x.op != 24) := by have := beq_nat x.op 24; rw [bne, bne]; exact congrArg _ this
      have q2 : ((x.src : Int) == 1) = (x.src == 1) := beq_nat x.src 1
      obtain ⟨mB, hmB⟩ : ∃ b, (checkI x true == 0) = b := ⟨_, rfl⟩
      obtain ⟨b24, hb24⟩ : ∃ b, (x.op == 24) = b := ⟨_, rfl⟩
      obtain ⟨b1, hb1⟩ : ∃ b, (x.src == 1) = b := ⟨_, rfl⟩
      have q1' : ((x.op : Int) != 24) = !b24 := by rw [q1, bne, hb24]
      rw [hb1] at q2
      have HMB := Lib.hid hmB
      have H24 := Lib.hid hb24
      have HS1 := Lib.hid hb1
      have hzn : (k : Int) < (n : Int) := by omega
      obtain ⟨z, hz⟩ : ∃ z : Bool, (mB && (match l[k + 1]? with | some j => halfB j b1 | none => false)) = z := ⟨_, rfl⟩
      have HZ := Lib.hid hz
      clear hx hxo q1 hb24 hb1 hz
      go_upto_region 6 with fail
      obtain ⟨W1, hW1⟩ : ∃ W1, W1 = wr.alloc (.cells #[.int .u8 x.op, .int .u8 x.dst, .int .u8 x.src, .int .i16 x.off, .int .i32 x.imm] 51) := ⟨_, rfl⟩
      have H1 : Hid (∀ W, Fr No W1 W → W.cell? ⟨wr.heap.size, 0, none⟩ = some (.int .u8 x.op) ∧ W.cell? ⟨wr.heap.size, 1, none⟩ = some (.int .u8 x.dst) ∧ W.cell? ⟨wr.heap.size, 2, none⟩ = some (.int .u8 x.src) ∧ W.cell? ⟨wr.heap.size, 3, none⟩ = some (.int .i16 x.off) ∧ W.cell? ⟨wr.heap.size, 4, none⟩ = some (.int .i32 x.imm)) := fun W hW => by
        subst hW1
        refine ⟨hW.cell ?_ id, hW.cell ?_ id, hW.cell ?_ id, hW.cell ?_ id, hW.cell ?_ id⟩ <;> go_simp
      have HF1 : Hid (Fr No w W1) := by rw [hW1]; exact HF.out.alloc _
      rw [← hW1]
      clear hW1 c0 c1 c2 c3 c4
      obtain ⟨g0, g1, g2, g3, g4⟩ := H1.out W1 (Fr.refl _ _)
      go_upto_region 7 with (go_at_call 28; (with_reducible refine (HCX.out _).mono ?_); rintro e w2 ⟨rfl, hf2⟩; have HF2 := Lib.hid hf2; clear g0 g1 g2 g3 g4 hf2)
      obtain ⟨g0, g1, g2, g3, g4⟩ := H1.out w2 HF2.out
      have HB : Hid (∀ W, Fr No W1 W → W.cell? ⟨wr.heap.size, 0, none⟩ = some (.int .u8 x.op) ∧ W.cell? ⟨wr.heap.size, 1, none⟩ = some (.int .u8 x.dst) ∧ W.cell? ⟨wr.heap.size, 2, none⟩ = some (.int .u8 x.src) ∧ W.cell? ⟨wr.heap.size, 3, none⟩ = some (.int .i16 x.off) ∧ W.cell? ⟨wr.heap.size, 4, none⟩ = some (.int .i32 x.imm) ∧ Hid (Fr No W1 W)) := fun W hW => by
        obtain ⟨a0, a1, a2, a3, a4⟩ := H1.out W hW
        exact ⟨a0, a1, a2, a3, a4, hW⟩
      have HK : Hid (∀ W W', Fr No W W' → (W.cell? ⟨wr.heap.size, 0, none⟩ = some (.int .u8 x.op) ∧ W.cell? ⟨wr.heap.size, 1, none⟩ = some (.int .u8 x.dst) ∧ W.cell? ⟨wr.heap.size, 2, none⟩ = some (.int .u8 x.src) ∧ W.cell? ⟨wr.heap.size, 3, none⟩ = some (.int .i16 x.off) ∧ W.cell? ⟨wr.heap.size, 4, none⟩ = some (.int .i32 x.imm) ∧ Hid (Fr No W1 W)) → (W'.cell? ⟨wr.heap.size, 0, none⟩ = some (.int .u8 x.op) ∧ W'.cell? ⟨wr.heap.size, 1, none⟩ = some (.int .u8 x.dst) ∧ W'.cell? ⟨wr.heap.size, 2, none⟩ = some (.int .u8 x.src) ∧ W'.cell? ⟨wr.heap.size, 3, none⟩ = some (.int .i16 x.off) ∧ W'.cell? ⟨wr.heap.size, 4, none⟩ = some (.int .i32 x.imm) ∧ Hid (Fr No W1 W'))) := fun W W' hf h => HB.out W' (h.2.2.2.2.2.out.trans hf)
      have HEND : Hid (mB = false ∨ b24 = true → (z = false) → ShowIs l (k + 1) (S ++ rawI x ++ [10])) := fun h hz => show_C HI.out HX.out (by
        rw [HMB.out, H24.out, HS1.out]
        rcases h with h | h
        · exact .inl h
        · cases mB with
          | false => exact .inl rfl
          | true =>
            refine .inr ⟨h, fun j hj => ?_⟩
            have := HZ.out
            rw [hj, hz] at this
            exact this)
      by_cases hA : mB = true ∧ b24 = false
      · obtain ⟨rfl, rfl⟩ := hA
        have HS2 := Lib.hid (show_A HI.out HX.out HMB.out H24.out)
        have a0 := addB (bA S) (bA (lineI x)) (Nat.le_trans (by first | assumption | decide : (bA S : ByteArray).size ≤ 20000) (by decide)) (Nat.le_trans (by first | assumption | decide : (bA (lineI x) : ByteArray).size ≤ 1000) (by decide))
        have a1 := addB (bA S ++ bA (lineI x)) (⟨#[10]⟩) (Nat.le_trans (szA (by first | assumption | decide : (bA S : ByteArray).size ≤ 20000) (by first | assumption | decide : (bA (lineI x) : ByteArray).size ≤ 1000)) (by decide)) (Nat.le_trans (by first | assumption | decide : (⟨#[10]⟩ : ByteArray).size ≤ 1000) (by decide))
        clear HZ HEND
        go_wp2_with (go_at_call 29; (with_reducible refine (HONE.out _).mono ?_); rintro e w3 ⟨rfl, hf3⟩)
        go_roundw
        case rel => exact ⟨k + 1, S ++ lineI x ++ [10], by omega, by rw [← bA_app, ← bA_app]; rfl, by go_num, HS2.out, HF1.out.trans (HF2.out.trans hf3)⟩
        case measure => simp [intOf] <;> omega
      · have HA : Hid (mB = false ∨ b24 = true) := by
          cases mB
          · exact .inl rfl
          · cases b24
            · exact absurd ⟨rfl, rfl⟩ hA
            · exact .inr rfl
        clear hA
        go_cut [25] from 20 to 25 (fun s wx => s = .bool false ∧ w2 = wx)
        case first =>
          rcases HA.out with rfl | rfl
          · go_wp2_with fail
            go_meet
            exact ⟨rfl, rfl⟩
          · cases mB
            all_goals go_wp2_with fail
            all_goals go_meet
            all_goals exact ⟨rfl, rfl⟩
        obtain ⟨rfl, rfl⟩ := hcut
        go_upto_region 9 with fail
        clear g0 g1 g2 g3 g4
        go_cut [49] from 31 to 49 (fun s wx => s = .bool z ∧ Hid (Fr No W1 wx))
        case first => as_aux_lemma =>
          cases mB with
          | false =>
            have hz : z = false := HZ.out.symm
            subst hz
            go_quiet (fail)
            all_goals go_wp2_with fail
            all_goals go_meet
            all_goals exact ⟨rfl, HF2.out.drewN _⟩
          | true =>
            by_cases hl2 : k + 1 < n
            · obtain ⟨y, hy⟩ : ∃ y, l[k + 1]? = some y := ⟨_, List.getElem?_eq_getElem (by rw [HN.out]; exact hl2)⟩
              have hz : halfB y b1 = z := by have := HZ.out; rw [hy] at this; exact this
              have HY := Lib.hid hy
              have HHF : Hid (∀ W, Calls Tryz.prog 30 #[.agg #[.int .u8 y.op, .int .u8 y.dst, .int .u8 y.src, .int .i16 y.off, .int .i32 y.imm], .bool b1] W fun e w' => e = .returned (.bool (halfB y b1)) ∧ Fr No W w') := fun W => half_any y b1 W
              rw [hz] at HHF
              clear hz hy
              have hq : decide ((k : Int) + 1 < (n : Int)) = true := by simp; omega
              have hq2 : (0 : Int) ≤ (k : Int) + 1 := by omega
              have hq3 : (k : Int) + 1 < (n : Int) := by omega
              have hq4 : ((k : Int) + 1).toNat = k + 1 := by omega
              have hq5 : IntKind.i64.wrap ((k : Int) + 1) = (k : Int) + 1 := IntWalk.i64_in _ (by omega)
              have HBJ : Hid (∀ W, Fr No W1 W → (W.cell? ⟨wr.heap.size, 0, none⟩ = some (.int .u8 x.op) ∧ W.cell? ⟨wr.heap.size, 1, none⟩ = some (.int .u8 x.dst) ∧ W.cell? ⟨wr.heap.size, 2, none⟩ = some (.int .u8 x.src) ∧ W.cell? ⟨wr.heap.size, 3, none⟩ = some (.int .i16 x.off) ∧ W.cell? ⟨wr.heap.size, 4, none⟩ = some (.int .i32 x.imm)) ∧ (W.cell? ⟨g, off + (k + 1) * 5, none⟩ = some (.int .u8 y.op) ∧ W.cell? ⟨g, off + (k + 1) * 5 + 1, none⟩ = some (.int .u8 y.dst) ∧ W.cell? ⟨g, off + (k + 1) * 5 + 2, none⟩ = some (.int .u8 y.src) ∧ W.cell? ⟨g, off + (k + 1) * 5 + 3, none⟩ = some (.int .i16 y.off) ∧ W.cell? ⟨g, off + (k + 1) * 5 + 4, none⟩ = some (.int .i32 y.imm)) ∧ Hid (Fr No W1 W)) := fun W hW => by
                obtain ⟨a0, a1, a2, a3, a4⟩ := H1.out W hW
                obtain ⟨j0, j1, j2, j3, j4⟩ := ins_cell (HCE.out _ (HF1.out.trans hW)) HY.out
                exact ⟨⟨a0, a1, a2, a3, a4⟩, ⟨j0, j1, j2, j3, j4⟩, hW⟩
              have HKJ : Hid (∀ W W', Fr No W W' → ((W.cell? ⟨wr.heap.size, 0, none⟩ = some (.int .u8 x.op) ∧ W.cell? ⟨wr.heap.size, 1, none⟩ = some (.int .u8 x.dst) ∧ W.cell? ⟨wr.heap.size, 2, none⟩ = some (.int .u8 x.src) ∧ W.cell? ⟨wr.heap.size, 3, none⟩ = some (.int .i16 x.off) ∧ W.cell? ⟨wr.heap.size, 4, none⟩ = some (.int .i32 x.imm)) ∧ (W.cell? ⟨g, off + (k + 1) * 5, none⟩ = some (.int .u8 y.op) ∧ W.cell? ⟨g, off + (k + 1) * 5 + 1, none⟩ = some (.int .u8 y.dst) ∧ W.cell? ⟨g, off + (k + 1) * 5 + 2, none⟩ = some (.int .u8 y.src) ∧ W.cell? ⟨g, off + (k + 1) * 5 + 3, none⟩ = some (.int .i16 y.off) ∧ W.cell? ⟨g, off + (k + 1) * 5 + 4, none⟩ = some (.int .i32 y.imm)) ∧ Hid (Fr No W1 W)) → ((W'.cell? ⟨wr.heap.size, 0, none⟩ = some (.int .u8 x.op) ∧ W'.cell? ⟨wr.heap.size, 1, none⟩ = some (.int .u8 x.dst) ∧ W'.cell? ⟨wr.heap.size, 2, none⟩ = some (.int .u8 x.src) ∧ W'.cell? ⟨wr.heap.size, 3, none⟩ = some (.int .i16 x.off) ∧ W'.cell? ⟨wr.heap.size, 4, none⟩ = some (.int .i32 x.imm)) ∧ (W'.cell? ⟨g, off + (k + 1) * 5, none⟩ = some (.int .u8 y.op) ∧ W'.cell? ⟨g, off + (k + 1) * 5 + 1, none⟩ = some (.int .u8 y.dst) ∧ W'.cell? ⟨g, off + (k + 1) * 5 + 2, none⟩ = some (.int .u8 y.src) ∧ W'.cell? ⟨g, off + (k + 1) * 5 + 3, none⟩ = some (.int .i16 y.off) ∧ W'.cell? ⟨g, off + (k + 1) * 5 + 4, none⟩ = some (.int .i32 y.imm)) ∧ Hid (Fr No W1 W'))) := fun W W' hf h => HBJ.out W' (h.2.2.out.trans hf)
              have hst : (w2.drew.cell? ⟨wr.heap.size, 0, none⟩ = some (.int .u8 x.op) ∧ w2.drew.cell? ⟨wr.heap.size, 1, none⟩ = some (.int .u8 x.dst) ∧ w2.drew.cell? ⟨wr.heap.size, 2, none⟩ = some (.int .u8 x.src) ∧ w2.drew.cell? ⟨wr.heap.size, 3, none⟩ = some (.int .i16 x.off) ∧ w2.drew.cell? ⟨wr.heap.size, 4, none⟩ = some (.int .i32 x.imm)) ∧ (w2.drew.cell? ⟨g, off + (k + 1) * 5, none⟩ = some (.int .u8 y.op) ∧ w2.drew.cell? ⟨g, off + (k + 1) * 5 + 1, none⟩ = some (.int .u8 y.dst) ∧ w2.drew.cell? ⟨g, off + (k + 1) * 5 + 2, none⟩ = some (.int .u8 y.src) ∧ w2.drew.cell? ⟨g, off + (k + 1) * 5 + 3, none⟩ = some (.int .i16 y.off) ∧ w2.drew.cell? ⟨g, off + (k + 1) * 5 + 4, none⟩ = some (.int .i32 y.imm)) ∧ Hid (Fr No W1 w2.drew) := HBJ.out _ HF2.out.drew
              go_region_held3 (fun W => (W.cell? ⟨wr.heap.size, 0, none⟩ = some (.int .u8 x.op) ∧ W.cell? ⟨wr.heap.size, 1, none⟩ = some (.int .u8 x.dst) ∧ W.cell? ⟨wr.heap.size, 2, none⟩ = some (.int .u8 x.src) ∧ W.cell? ⟨wr.heap.size, 3, none⟩ = some (.int .i16 x.off) ∧ W.cell? ⟨wr.heap.size, 4, none⟩ = some (.int .i32 x.imm)) ∧ (W.cell? ⟨g, off + (k + 1) * 5, none⟩ = some (.int .u8 y.op) ∧ W.cell? ⟨g, off + (k + 1) * 5 + 1, none⟩ = some (.int .u8 y.dst) ∧ W.cell? ⟨g, off + (k + 1) * 5 + 2, none⟩ = some (.int .u8 y.src) ∧ W.cell? ⟨g, off + (k + 1) * 5 + 3, none⟩ = some (.int .i16 y.off) ∧ W.cell? ⟨g, off + (k + 1) * 5 + 4, none⟩ = some (.int .i32 y.imm)) ∧ Hid (Fr No W1 W)) (first | assumption | exact HKJ.out _ _ (by assumption) (by assumption)) (first | (go_at_call 30; (with_reducible refine (HHF.out _).mono ?_); rintro e w3 ⟨rfl, hf3⟩))
              all_goals go_wp2_with fail
              all_goals go_meet
              all_goals exact ⟨rfl, by first | exact HF2.out.drew.trans (by assumption) | exact HF2.out.drew⟩
            · have hz : z = false := by
                have := HZ.out
                rw [List.getElem?_eq_none (by rw [HN.out]; omega)] at this
                exact this.symm
              subst hz
              have hq : decide ((k : Int) + 1 < (n : Int)) = false := by simp; omega
              go_quiet (fail)
              all_goals go_wp2_with fail
              all_goals go_meet
              all_goals exact ⟨rfl, HF2.out.drewN _⟩
        case rest =>
          obtain ⟨rfl, HF3⟩ := hcut
          cases z with
          | false => as_aux_lemma =>
            have HS2 := Lib.hid (HEND.out HA.out rfl)
            clear HZ HEND HA q1' q2 hmB
            have a0 := addB (bA S) (⟨#[114, 97, 119, 32]⟩) (Nat.le_trans (by first | assumption | decide : (bA S : ByteArray).size ≤ 20000) (by decide)) (Nat.le_trans (by first | assumption | decide : (⟨#[114, 97, 119, 32]⟩ : ByteArray).size ≤ 1000) (by decide))
            have a1 := addB (bA S ++ ⟨#[114, 97, 119, 32]⟩) (bA (itoaN x.op)) (Nat.le_trans (szA (by first | assumption | decide : (bA S : ByteArray).size ≤ 20000) (by first | assumption | decide : (⟨#[114, 97, 119, 32]⟩ : ByteArray).size ≤ 1000)) (by decide)) (Nat.le_trans (by first | assumption | decide : (bA (itoaN x.op) : ByteArray).size ≤ 1000) (by decide))
            have a2 := addB (bA S ++ ⟨#[114, 97, 119, 32]⟩ ++ bA (itoaN x.op)) (⟨#[32]⟩) (Nat.le_trans (szA (szA (by first | assumption | decide : (bA S : ByteArray).size ≤ 20000) (by first | assumption | decide : (⟨#[114, 97, 119, 32]⟩ : ByteArray).size ≤ 1000)) (by first | assumption | decide : (bA (itoaN x.op) : ByteArray).size ≤ 1000)) (by decide)) (Nat.le_trans (by first | assumption | decide : (⟨#[32]⟩ : ByteArray).size ≤ 1000) (by decide))
            have a3 := addB (bA S ++ ⟨#[114, 97, 119, 32]⟩ ++ bA (itoaN x.op) ++ ⟨#[32]⟩) (bA (itoaN x.dst)) (Nat.le_trans (szA (szA (szA (by first | assumption | decide : (bA S : ByteArray).size ≤ 20000) (by first | assumption | decide : (⟨#[114, 97, 119, 32]⟩ : ByteArray).size ≤ 1000)) (by first | assumption | decide : (bA (itoaN x.op) : ByteArray).size ≤ 1000)) (by first | assumption | decide : (⟨#[32]⟩ : ByteArray).size ≤ 1000)) (by decide)) (Nat.le_trans (by first | assumption | decide : (bA (itoaN x.dst) : ByteArray).size ≤ 1000) (by decide))
            have a4 := addB (bA S ++ ⟨#[114, 97, 119, 32]⟩ ++ bA (itoaN x.op) ++ ⟨#[32]⟩ ++ bA (itoaN x.dst)) (⟨#[32]⟩) (Nat.le_trans (szA (szA (szA (szA (by first | assumption | decide : (bA S : ByteArray).size ≤ 20000) (by first | assumption | decide : (⟨#[114, 97, 119, 32]⟩ : ByteArray).size ≤ 1000)) (by first | assumption | decide : (bA (itoaN x.op) : ByteArray).size ≤ 1000)) (by first | assumption | decide : (⟨#[32]⟩ : ByteArray).size ≤ 1000)) (by first | assumption | decide : (bA (itoaN x.dst) : ByteArray).size ≤ 1000)) (by decide)) (Nat.le_trans (by first | assumption | decide : (⟨#[32]⟩ : ByteArray).size ≤ 1000) (by decide))
            have a5 := addB (bA S ++ ⟨#[114, 97, 119, 32]⟩ ++ bA (itoaN x.op) ++ ⟨#[32]⟩ ++ bA (itoaN x.dst) ++ ⟨#[32]⟩) (bA (itoaN x.src)) (Nat.le_trans (szA (szA (szA (szA (szA (by first | assumption | decide : (bA S : ByteArray).size ≤ 20000) (by first | assumption | decide : (⟨#[114, 97, 119, 32]⟩ : ByteArray).size ≤ 1000)) (by first | assumption | decide : (bA (itoaN x.op) : ByteArray).size ≤ 1000)) (by first | assumption | decide : (⟨#[32]⟩ : ByteArray).size ≤ 1000)) (by first | assumption | decide : (bA (itoaN x.dst) : ByteArray).size ≤ 1000)) (by first | assumption | decide : (⟨#[32]⟩ : ByteArray).size ≤ 1000)) (by decide)) (Nat.le_trans (by first | assumption | decide : (bA (itoaN x.src) : ByteArray).size ≤ 1000) (by decide))
            have a6 := addB (bA S ++ ⟨#[114, 97, 119, 32]⟩ ++ bA (itoaN x.op) ++ ⟨#[32]⟩ ++ bA (itoaN x.dst) ++ ⟨#[32]⟩ ++ bA (itoaN x.src)) (⟨#[32]⟩) (Nat.le_trans (szA (szA (szA (szA (szA (szA (by first | assumption | decide : (bA S : ByteArray).size ≤ 20000) (by first | assumption | decide : (⟨#[114, 97, 119, 32]⟩ : ByteArray).size ≤ 1000)) (by first | assumption | decide : (bA (itoaN x.op) : ByteArray).size ≤ 1000)) (by first | assumption | decide : (⟨#[32]⟩ : ByteArray).size ≤ 1000)) (by first | assumption | decide : (bA (itoaN x.dst) : ByteArray).size ≤ 1000)) (by first | assumption | decide : (⟨#[32]⟩ : ByteArray).size ≤ 1000)) (by first | assumption | decide : (bA (itoaN x.src) : ByteArray).size ≤ 1000)) (by decide)) (Nat.le_trans (by first | assumption | decide : (⟨#[32]⟩ : ByteArray).size ≤ 1000) (by decide))
            have a7 := addB (bA S ++ ⟨#[114, 97, 119, 32]⟩ ++ bA (itoaN x.op) ++ ⟨#[32]⟩ ++ bA (itoaN x.dst) ++ ⟨#[32]⟩ ++ bA (itoaN x.src) ++ ⟨#[32]⟩) (bA (itoaN x.off)) (Nat.le_trans (szA (szA (szA (szA (szA (szA (szA (by first | assumption | decide : (bA S : ByteArray).size ≤ 20000) (by first | assumption | decide : (⟨#[114, 97, 119, 32]⟩ : ByteArray).size ≤ 1000)) (by first | assumption | decide : (bA (itoaN x.op) : ByteArray).size ≤ 1000)) (by first | assumption | decide : (⟨#[32]⟩ : ByteArray).size ≤ 1000)) (by first | assumption | decide : (bA (itoaN x.dst) : ByteArray).size ≤ 1000)) (by first | assumption | decide : (⟨#[32]⟩ : ByteArray).size ≤ 1000)) (by first | assumption | decide : (bA (itoaN x.src) : ByteArray).size ≤ 1000)) (by first | assumption | decide : (⟨#[32]⟩ : ByteArray).size ≤ 1000)) (by decide)) (Nat.le_trans (by first | assumption | decide : (bA (itoaN x.off) : ByteArray).size ≤ 1000) (by decide))
            have a8 := addB (bA S ++ ⟨#[114, 97, 119, 32]⟩ ++ bA (itoaN x.op) ++ ⟨#[32]⟩ ++ bA (itoaN x.dst) ++ ⟨#[32]⟩ ++ bA (itoaN x.src) ++ ⟨#[32]⟩ ++ bA (itoaN x.off)) (⟨#[32]⟩) (Nat.le_trans (szA (szA (szA (szA (szA (szA (szA (szA (by first | assumption | decide : (bA S : ByteArray).size ≤ 20000) (by first | assumption | decide : (⟨#[114, 97, 119, 32]⟩ : ByteArray).size ≤ 1000)) (by first | assumption | decide : (bA (itoaN x.op) : ByteArray).size ≤ 1000)) (by first | assumption | decide : (⟨#[32]⟩ : ByteArray).size ≤ 1000)) (by first | assumption | decide : (bA (itoaN x.dst) : ByteArray).size ≤ 1000)) (by first | assumption | decide : (⟨#[32]⟩ : ByteArray).size ≤ 1000)) (by first | assumption | decide : (bA (itoaN x.src) : ByteArray).size ≤ 1000)) (by first | assumption | decide : (⟨#[32]⟩ : ByteArray).size ≤ 1000)) (by first | assumption | decide : (bA (itoaN x.off) : ByteArray).size ≤ 1000)) (by decide)) (Nat.le_trans (by first | assumption | decide : (⟨#[32]⟩ : ByteArray).size ≤ 1000) (by decide))
            have a9 := addB (bA S ++ ⟨#[114, 97, 119, 32]⟩ ++ bA (itoaN x.op) ++ ⟨#[32]⟩ ++ bA (itoaN x.dst) ++ ⟨#[32]⟩ ++ bA (itoaN x.src) ++ ⟨#[32]⟩ ++ bA (itoaN x.off) ++ ⟨#[32]⟩) (bA (itoaN x.imm)) (Nat.le_trans (szA (szA (szA (szA (szA (szA (szA (szA (szA (by first | assumption | decide : (bA S : ByteArray).size ≤ 20000) (by first | assumption | decide : (⟨#[114, 97, 119, 32]⟩ : ByteArray).size ≤ 1000)) (by first | assumption | decide : (bA (itoaN x.op) : ByteArray).size ≤ 1000)) (by first | assumption | decide : (⟨#[32]⟩ : ByteArray).size ≤ 1000)) (by first | assumption | decide : (bA (itoaN x.dst) : ByteArray).size ≤ 1000)) (by first | assumption | decide : (⟨#[32]⟩ : ByteArray).size ≤ 1000)) (by first | assumption | decide : (bA (itoaN x.src) : ByteArray).size ≤ 1000)) (by first | assumption | decide : (⟨#[32]⟩ : ByteArray).size ≤ 1000)) (by first | assumption | decide : (bA (itoaN x.off) : ByteArray).size ≤ 1000)) (by first | assumption | decide : (⟨#[32]⟩ : ByteArray).size ≤ 1000)) (by decide)) (Nat.le_trans (by first | assumption | decide : (bA (itoaN x.imm) : ByteArray).size ≤ 1000) (by decide))
            have a10 := addB (bA S ++ ⟨#[114, 97, 119, 32]⟩ ++ bA (itoaN x.op) ++ ⟨#[32]⟩ ++ bA (itoaN x.dst) ++ ⟨#[32]⟩ ++ bA (itoaN x.src) ++ ⟨#[32]⟩ ++ bA (itoaN x.off) ++ ⟨#[32]⟩ ++ bA (itoaN x.imm)) (⟨#[10]⟩) (Nat.le_trans (szA (szA (szA (szA (szA (szA (szA (szA (szA (szA (by first | assumption | decide : (bA S : ByteArray).size ≤ 20000) (by first | assumption | decide : (⟨#[114, 97, 119, 32]⟩ : ByteArray).size ≤ 1000)) (by first | assumption | decide : (bA (itoaN x.op) : ByteArray).size ≤ 1000)) (by first | assumption | decide : (⟨#[32]⟩ : ByteArray).size ≤ 1000)) (by first | assumption | decide : (bA (itoaN x.dst) : ByteArray).size ≤ 1000)) (by first | assumption | decide : (⟨#[32]⟩ : ByteArray).size ≤ 1000)) (by first | assumption | decide : (bA (itoaN x.src) : ByteArray).size ≤ 1000)) (by first | assumption | decide : (⟨#[32]⟩ : ByteArray).size ≤ 1000)) (by first | assumption | decide : (bA (itoaN x.off) : ByteArray).size ≤ 1000)) (by first | assumption | decide : (⟨#[32]⟩ : ByteArray).size ≤ 1000)) (by first | assumption | decide : (bA (itoaN x.imm) : ByteArray).size ≤ 1000)) (by decide)) (Nat.le_trans (by first | assumption | decide : (⟨#[10]⟩ : ByteArray).size ≤ 1000) (by decide))
            have w0 : IntKind.i64.wrap (x.op : Int) = x.op := IntWalk.i64_in _ (by omega)
            have w1 : IntKind.i64.wrap (x.dst : Int) = x.dst := IntWalk.i64_in _ (by omega)
            have w2' : IntKind.i64.wrap (x.src : Int) = x.src := IntWalk.i64_in _ (by omega)
            have w3 : IntKind.i64.wrap x.off = x.off := IntWalk.i64_in _ (by omega)
            have w4 : IntKind.i64.wrap x.imm = x.imm := IntWalk.i64_in _ (by omega)
            go_upto_region 14 with fail
            have hst : wc.drew.cell? ⟨wr.heap.size, 0, none⟩ = some (.int .u8 x.op) ∧ wc.drew.cell? ⟨wr.heap.size, 1, none⟩ = some (.int .u8 x.dst) ∧ wc.drew.cell? ⟨wr.heap.size, 2, none⟩ = some (.int .u8 x.src) ∧ wc.drew.cell? ⟨wr.heap.size, 3, none⟩ = some (.int .i16 x.off) ∧ wc.drew.cell? ⟨wr.heap.size, 4, none⟩ = some (.int .i32 x.imm) ∧ Hid (Fr No W1 wc.drew) := HB.out _ HF3.out.drew
            clear HB H1
            go_region_held3 (fun W => W.cell? ⟨wr.heap.size, 0, none⟩ = some (.int .u8 x.op) ∧ W.cell? ⟨wr.heap.size, 1, none⟩ = some (.int .u8 x.dst) ∧ W.cell? ⟨wr.heap.size, 2, none⟩ = some (.int .u8 x.src) ∧ W.cell? ⟨wr.heap.size, 3, none⟩ = some (.int .i16 x.off) ∧ W.cell? ⟨wr.heap.size, 4, none⟩ = some (.int .i32 x.imm) ∧ Hid (Fr No W1 W)) (first | assumption | exact HK.out _ _ (by assumption) (by assumption)) (first
              | (go_at_call 32; (with_reducible refine (HNU.out _ _ (by omega) (by omega)).mono ?_); rintro e w4 ⟨rfl, hf4⟩)
              | (go_at_call 31; (with_reducible refine (HR.out _ _ (by omega)).mono ?_); rintro e w5 ⟨rfl, hf5⟩))
            all_goals clear a0 a1 a2 a3 a4 a5 a6 a7 a8 a9 a10
            all_goals go_wp2_with fail
            all_goals go_roundw
            case rel => exact ⟨k + 1, S ++ rawI x ++ [10], by omega, by apply congrArg Value.string; apply ByteArray.ext; simp [bA, ByteArray.data_append, rawI, joinW], by go_num, HS2.out, HF1.out.trans (by (iterate 5 (refine Fr.trans ?_ (by assumption))); exact HF3.out.drew)⟩
            case measure => simp [intOf] <;> omega
          | true =>
            have hmt : mB = true := by
              have := HZ.out
              cases mB
              · exact absurd this (by simp)
              · rfl
            subst hmt
            have hl2 : k + 1 < n := by
              have := HZ.out
              rcases Nat.lt_or_ge (k + 1) n with h | h
              · exact h
              · rw [List.getElem?_eq_none (by rw [HN.out]; exact h)] at this
                exact absurd this (by simp)
            obtain ⟨y, hy⟩ : ∃ y, l[k + 1]? = some y := ⟨_, List.getElem?_eq_getElem (by rw [HN.out]; exact hl2)⟩
            have hz : halfB y b1 = true := by have := HZ.out; rw [hy] at this; simpa using this
            have h24 : b24 = true := by
              rcases HA.out with h | h
              · exact absurd h (by simp)
              · exact h
            have HS2 := Lib.hid (show_B HI.out HX.out hy HMB.out (by rw [H24.out, h24]) (by rw [HS1.out]; exact hz))
            have hyo := HOK.out y (List.mem_of_getElem? hy)
            have HY := Lib.hid hy
            have hw := wide_lt x y
            have sw : (bA (decN (wideN x y))).size ≤ 1000 := by rw [bA_size]; have := dec_len20 hw; omega
            have HWD : Hid (∀ W, Calls Tryz.prog 34 #[.agg #[.int .u8 x.op, .int .u8 x.dst, .int .u8 x.src, .int .i16 x.off, .int .i32 x.imm], .agg #[.int .u8 y.op, .int .u8 y.dst, .int .u8 y.src, .int .i16 y.off, .int .i32 y.imm]] W fun e w' => e = .returned (.int .u64 (wideN x y)) ∧ Fr No W w') := fun W => wide_any x y W
            have HDG : Hid (∀ W, Calls Tryz.prog 33 #[.int .u64 (wideN x y)] W fun e w' => e = .returned (.string (bA (decN (wideN x y)))) ∧ Fr No W w') := fun W => digits_any _ hw W
            have HBJ : Hid (∀ W, Fr No W1 W → (W.cell? ⟨wr.heap.size, 0, none⟩ = some (.int .u8 x.op) ∧ W.cell? ⟨wr.heap.size, 1, none⟩ = some (.int .u8 x.dst) ∧ W.cell? ⟨wr.heap.size, 2, none⟩ = some (.int .u8 x.src) ∧ W.cell? ⟨wr.heap.size, 3, none⟩ = some (.int .i16 x.off) ∧ W.cell? ⟨wr.heap.size, 4, none⟩ = some (.int .i32 x.imm)) ∧ (W.cell? ⟨g, off + (k + 1) * 5, none⟩ = some (.int .u8 y.op) ∧ W.cell? ⟨g, off + (k + 1) * 5 + 1, none⟩ = some (.int .u8 y.dst) ∧ W.cell? ⟨g, off + (k + 1) * 5 + 2, none⟩ = some (.int .u8 y.src) ∧ W.cell? ⟨g, off + (k + 1) * 5 + 3, none⟩ = some (.int .i16 y.off) ∧ W.cell? ⟨g, off + (k + 1) * 5 + 4, none⟩ = some (.int .i32 y.imm)) ∧ Hid (Fr No W1 W)) := fun W hW => by
              obtain ⟨a0, a1, a2, a3, a4⟩ := H1.out W hW
              obtain ⟨j0, j1, j2, j3, j4⟩ := ins_cell (HCE.out _ (HF1.out.trans hW)) HY.out
              exact ⟨⟨a0, a1, a2, a3, a4⟩, ⟨j0, j1, j2, j3, j4⟩, hW⟩
            have HKJ : Hid (∀ W W', Fr No W W' → ((W.cell? ⟨wr.heap.size, 0, none⟩ = some (.int .u8 x.op) ∧ W.cell? ⟨wr.heap.size, 1, none⟩ = some (.int .u8 x.dst) ∧ W.cell? ⟨wr.heap.size, 2, none⟩ = some (.int .u8 x.src) ∧ W.cell? ⟨wr.heap.size, 3, none⟩ = some (.int .i16 x.off) ∧ W.cell? ⟨wr.heap.size, 4, none⟩ = some (.int .i32 x.imm)) ∧ (W.cell? ⟨g, off + (k + 1) * 5, none⟩ = some (.int .u8 y.op) ∧ W.cell? ⟨g, off + (k + 1) * 5 + 1, none⟩ = some (.int .u8 y.dst) ∧ W.cell? ⟨g, off + (k + 1) * 5 + 2, none⟩ = some (.int .u8 y.src) ∧ W.cell? ⟨g, off + (k + 1) * 5 + 3, none⟩ = some (.int .i16 y.off) ∧ W.cell? ⟨g, off + (k + 1) * 5 + 4, none⟩ = some (.int .i32 y.imm)) ∧ Hid (Fr No W1 W)) → ((W'.cell? ⟨wr.heap.size, 0, none⟩ = some (.int .u8 x.op) ∧ W'.cell? ⟨wr.heap.size, 1, none⟩ = some (.int .u8 x.dst) ∧ W'.cell? ⟨wr.heap.size, 2, none⟩ = some (.int .u8 x.src) ∧ W'.cell? ⟨wr.heap.size, 3, none⟩ = some (.int .i16 x.off) ∧ W'.cell? ⟨wr.heap.size, 4, none⟩ = some (.int .i32 x.imm)) ∧ (W'.cell? ⟨g, off + (k + 1) * 5, none⟩ = some (.int .u8 y.op) ∧ W'.cell? ⟨g, off + (k + 1) * 5 + 1, none⟩ = some (.int .u8 y.dst) ∧ W'.cell? ⟨g, off + (k + 1) * 5 + 2, none⟩ = some (.int .u8 y.src) ∧ W'.cell? ⟨g, off + (k + 1) * 5 + 3, none⟩ = some (.int .i16 y.off) ∧ W'.cell? ⟨g, off + (k + 1) * 5 + 4, none⟩ = some (.int .i32 y.imm)) ∧ Hid (Fr No W1 W'))) := fun W W' hf h => HBJ.out W' (h.2.2.out.trans hf)
            have HSRC : Hid ((x.src == 1) = b1) := HS1.out
            have HPF : Hid (¬ x.src = 1 → pairI x y = joinW [[108, 100, 105, 109, 109], regN x.dst, decN (wideN x y)]) := fun h => by unfold pairI; rw [if_neg h]
            generalize wideN x y = wd at *
            obtain ⟨g0, g1, g2, g3, g4⟩ := H1.out wc HF3.out
            clear HZ HEND HA q1' hmB hy hyo hw hz h24
            have w4 : IntKind.i64.wrap x.imm = x.imm := IntWalk.i64_in _ (by omega)
            have hq2 : (0 : Int) ≤ (k : Int) + 1 := by omega
            have hq3 : (k : Int) + 1 < (n : Int) := by omega
            have hq4 : ((k : Int) + 1).toNat = k + 1 := by omega
            have hq5 : IntKind.i64.wrap ((k : Int) + 1) = (k : Int) + 1 := IntWalk.i64_in _ (by omega)
            cases b1 with
            | true => as_aux_lemma =>
              have hs1 : x.src = 1 := by simpa using HSRC.out
              have HP : Hid (pairI x y = joinW [[108, 100, 109, 97, 112], regN x.dst, itoaN x.imm]) := by unfold pairI; rw [if_pos hs1]; exact Lib.hid rfl
              clear hs1
              have a0 := addB (bA S) (⟨#[108, 100, 109, 97, 112, 32]⟩) (Nat.le_trans (by first | assumption | decide : (bA S : ByteArray).size ≤ 20000) (by decide)) (Nat.le_trans (by first | assumption | decide : (⟨#[108, 100, 109, 97, 112, 32]⟩ : ByteArray).size ≤ 1000) (by decide))
              have a1 := addB (bA S ++ ⟨#[108, 100, 109, 97, 112, 32]⟩) (bA (regN x.dst)) (Nat.le_trans (szA (by first | assumption | decide : (bA S : ByteArray).size ≤ 20000) (by first | assumption | decide : (⟨#[108, 100, 109, 97, 112, 32]⟩ : ByteArray).size ≤ 1000)) (by decide)) (Nat.le_trans (by first | assumption | decide : (bA (regN x.dst) : ByteArray).size ≤ 1000) (by decide))
              have a2 := addB (bA S ++ ⟨#[108, 100, 109, 97, 112, 32]⟩ ++ bA (regN x.dst)) (⟨#[32]⟩) (Nat.le_trans (szA (szA (by first | assumption | decide : (bA S : ByteArray).size ≤ 20000) (by first | assumption | decide : (⟨#[108, 100, 109, 97, 112, 32]⟩ : ByteArray).size ≤ 1000)) (by first | assumption | decide : (bA (regN x.dst) : ByteArray).size ≤ 1000)) (by decide)) (Nat.le_trans (by first | assumption | decide : (⟨#[32]⟩ : ByteArray).size ≤ 1000) (by decide))
              have a3 := addB (bA S ++ ⟨#[108, 100, 109, 97, 112, 32]⟩ ++ bA (regN x.dst) ++ ⟨#[32]⟩) (bA (itoaN x.imm)) (Nat.le_trans (szA (szA (szA (by first | assumption | decide : (bA S : ByteArray).size ≤ 20000) (by first | assumption | decide : (⟨#[108, 100, 109, 97, 112, 32]⟩ : ByteArray).size ≤ 1000)) (by first | assumption | decide : (bA (regN x.dst) : ByteArray).size ≤ 1000)) (by first | assumption | decide : (⟨#[32]⟩ : ByteArray).size ≤ 1000)) (by decide)) (Nat.le_trans (by first | assumption | decide : (bA (itoaN x.imm) : ByteArray).size ≤ 1000) (by decide))
              have a4 := addB (bA S ++ ⟨#[108, 100, 109, 97, 112, 32]⟩ ++ bA (regN x.dst) ++ ⟨#[32]⟩ ++ bA (itoaN x.imm)) (⟨#[10]⟩) (Nat.le_trans (szA (szA (szA (szA (by first | assumption | decide : (bA S : ByteArray).size ≤ 20000) (by first | assumption | decide : (⟨#[108, 100, 109, 97, 112, 32]⟩ : ByteArray).size ≤ 1000)) (by first | assumption | decide : (bA (regN x.dst) : ByteArray).size ≤ 1000)) (by first | assumption | decide : (⟨#[32]⟩ : ByteArray).size ≤ 1000)) (by first | assumption | decide : (bA (itoaN x.imm) : ByteArray).size ≤ 1000)) (by decide)) (Nat.le_trans (by first | assumption | decide : (⟨#[10]⟩ : ByteArray).size ≤ 1000) (by decide))
              go_upto_region 11 with fail
              clear g0 g1 g2 g3 g4
              have hst : wc.drew.cell? ⟨wr.heap.size, 0, none⟩ = some (.int .u8 x.op) ∧ wc.drew.cell? ⟨wr.heap.size, 1, none⟩ = some (.int .u8 x.dst) ∧ wc.drew.cell? ⟨wr.heap.size, 2, none⟩ = some (.int .u8 x.src) ∧ wc.drew.cell? ⟨wr.heap.size, 3, none⟩ = some (.int .i16 x.off) ∧ wc.drew.cell? ⟨wr.heap.size, 4, none⟩ = some (.int .i32 x.imm) ∧ Hid (Fr No W1 wc.drew) := HB.out _ HF3.out.drew
              go_region_held3 (fun W => W.cell? ⟨wr.heap.size, 0, none⟩ = some (.int .u8 x.op) ∧ W.cell? ⟨wr.heap.size, 1, none⟩ = some (.int .u8 x.dst) ∧ W.cell? ⟨wr.heap.size, 2, none⟩ = some (.int .u8 x.src) ∧ W.cell? ⟨wr.heap.size, 3, none⟩ = some (.int .i16 x.off) ∧ W.cell? ⟨wr.heap.size, 4, none⟩ = some (.int .i32 x.imm) ∧ Hid (Fr No W1 W)) (first | assumption | exact HK.out _ _ (by assumption) (by assumption)) (first
              | (go_at_call 32; (with_reducible refine (HNU.out _ _ (by omega) (by omega)).mono ?_); rintro e w4 ⟨rfl, hf4⟩)
              | (go_at_call 31; (with_reducible refine (HR.out _ _ (by omega)).mono ?_); rintro e w5 ⟨rfl, hf5⟩))
              all_goals clear a0 a1 a2 a3 a4
              all_goals go_wp2_with fail
              all_goals go_roundw
              case rel => exact ⟨k + 1 + 1, S ++ pairI x y ++ [10], by omega, by rw [HP.out]; apply congrArg Value.string; apply ByteArray.ext; simp [bA, ByteArray.data_append, joinW], by go_num, HS2.out, HF1.out.trans (by (iterate 2 (refine Fr.trans ?_ (by assumption))); exact HF3.out.drew)⟩
              case measure => simp [intOf] <;> omega
            | false => as_aux_lemma =>
              have hs1 : ¬ x.src = 1 := by simpa using HSRC.out
              have HP : Hid (pairI x y = joinW [[108, 100, 105, 109, 109], regN x.dst, decN wd]) := HPF.out hs1
              clear hs1
              have a0 := addB (bA S) (⟨#[108, 100, 105, 109, 109, 32]⟩) (Nat.le_trans (by first | assumption | decide : (bA S : ByteArray).size ≤ 20000) (by decide)) (Nat.le_trans (by first | assumption | decide : (⟨#[108, 100, 105, 109, 109, 32]⟩ : ByteArray).size ≤ 1000) (by decide))
              have a1 := addB (bA S ++ ⟨#[108, 100, 105, 109, 109, 32]⟩) (bA (regN x.dst)) (Nat.le_trans (szA (by first | assumption | decide : (bA S : ByteArray).size ≤ 20000) (by first | assumption | decide : (⟨#[108, 100, 105, 109, 109, 32]⟩ : ByteArray).size ≤ 1000)) (by decide)) (Nat.le_trans (by first | assumption | decide : (bA (regN x.dst) : ByteArray).size ≤ 1000) (by decide))
              have a2 := addB (bA S ++ ⟨#[108, 100, 105, 109, 109, 32]⟩ ++ bA (regN x.dst)) (⟨#[32]⟩) (Nat.le_trans (szA (szA (by first | assumption | decide : (bA S : ByteArray).size ≤ 20000) (by first | assumption | decide : (⟨#[108, 100, 105, 109, 109, 32]⟩ : ByteArray).size ≤ 1000)) (by first | assumption | decide : (bA (regN x.dst) : ByteArray).size ≤ 1000)) (by decide)) (Nat.le_trans (by first | assumption | decide : (⟨#[32]⟩ : ByteArray).size ≤ 1000) (by decide))
              have a3 := addB (bA S ++ ⟨#[108, 100, 105, 109, 109, 32]⟩ ++ bA (regN x.dst) ++ ⟨#[32]⟩) (bA (decN wd)) (Nat.le_trans (szA (szA (szA (by first | assumption | decide : (bA S : ByteArray).size ≤ 20000) (by first | assumption | decide : (⟨#[108, 100, 105, 109, 109, 32]⟩ : ByteArray).size ≤ 1000)) (by first | assumption | decide : (bA (regN x.dst) : ByteArray).size ≤ 1000)) (by first | assumption | decide : (⟨#[32]⟩ : ByteArray).size ≤ 1000)) (by decide)) (Nat.le_trans (by first | assumption | decide : (bA (decN wd) : ByteArray).size ≤ 1000) (by decide))
              have a4 := addB (bA S ++ ⟨#[108, 100, 105, 109, 109, 32]⟩ ++ bA (regN x.dst) ++ ⟨#[32]⟩ ++ bA (decN wd)) (⟨#[10]⟩) (Nat.le_trans (szA (szA (szA (szA (by first | assumption | decide : (bA S : ByteArray).size ≤ 20000) (by first | assumption | decide : (⟨#[108, 100, 105, 109, 109, 32]⟩ : ByteArray).size ≤ 1000)) (by first | assumption | decide : (bA (regN x.dst) : ByteArray).size ≤ 1000)) (by first | assumption | decide : (⟨#[32]⟩ : ByteArray).size ≤ 1000)) (by first | assumption | decide : (bA (decN wd) : ByteArray).size ≤ 1000)) (by decide)) (Nat.le_trans (by first | assumption | decide : (⟨#[10]⟩ : ByteArray).size ≤ 1000) (by decide))
              go_upto_region 12 with fail
              clear g0 g1 g2 g3 g4
              have hst : (wc.drew.cell? ⟨wr.heap.size, 0, none⟩ = some (.int .u8 x.op) ∧ wc.drew.cell? ⟨wr.heap.size, 1, none⟩ = some (.int .u8 x.dst) ∧ wc.drew.cell? ⟨wr.heap.size, 2, none⟩ = some (.int .u8 x.src) ∧ wc.drew.cell? ⟨wr.heap.size, 3, none⟩ = some (.int .i16 x.off) ∧ wc.drew.cell? ⟨wr.heap.size, 4, none⟩ = some (.int .i32 x.imm)) ∧ (wc.drew.cell? ⟨g, off + (k + 1) * 5, none⟩ = some (.int .u8 y.op) ∧ wc.drew.cell? ⟨g, off + (k + 1) * 5 + 1, none⟩ = some (.int .u8 y.dst) ∧ wc.drew.cell? ⟨g, off + (k + 1) * 5 + 2, none⟩ = some (.int .u8 y.src) ∧ wc.drew.cell? ⟨g, off + (k + 1) * 5 + 3, none⟩ = some (.int .i16 y.off) ∧ wc.drew.cell? ⟨g, off + (k + 1) * 5 + 4, none⟩ = some (.int .i32 y.imm)) ∧ Hid (Fr No W1 wc.drew) := HBJ.out _ HF3.out.drew
              go_region_held3 (fun W => (W.cell? ⟨wr.heap.size, 0, none⟩ = some (.int .u8 x.op) ∧ W.cell? ⟨wr.heap.size, 1, none⟩ = some (.int .u8 x.dst) ∧ W.cell? ⟨wr.heap.size, 2, none⟩ = some (.int .u8 x.src) ∧ W.cell? ⟨wr.heap.size, 3, none⟩ = some (.int .i16 x.off) ∧ W.cell? ⟨wr.heap.size, 4, none⟩ = some (.int .i32 x.imm)) ∧ (W.cell? ⟨g, off + (k + 1) * 5, none⟩ = some (.int .u8 y.op) ∧ W.cell? ⟨g, off + (k + 1) * 5 + 1, none⟩ = some (.int .u8 y.dst) ∧ W.cell? ⟨g, off + (k + 1) * 5 + 2, none⟩ = some (.int .u8 y.src) ∧ W.cell? ⟨g, off + (k + 1) * 5 + 3, none⟩ = some (.int .i16 y.off) ∧ W.cell? ⟨g, off + (k + 1) * 5 + 4, none⟩ = some (.int .i32 y.imm)) ∧ Hid (Fr No W1 W)) (first | assumption | exact HKJ.out _ _ (by assumption) (by assumption)) (first
              | (go_at_call 32; (with_reducible refine (HNU.out _ _ (by omega) (by omega)).mono ?_); rintro e w4 ⟨rfl, hf4⟩)
              | (go_at_call 31; (with_reducible refine (HR.out _ _ (by omega)).mono ?_); rintro e w5 ⟨rfl, hf5⟩)
              | (go_at_call 34; (with_reducible refine (HWD.out _).mono ?_); rintro e w6 ⟨rfl, hf6⟩)
              | (go_at_call 33; (with_reducible refine (HDG.out _).mono ?_); rintro e w7 ⟨rfl, hf7⟩))
              all_goals clear a0 a1 a2 a3 a4
              all_goals go_wp2_with fail
              all_goals go_roundw
              case rel => exact ⟨k + 1 + 1, S ++ pairI x y ++ [10], by omega, by rw [HP.out]; apply congrArg Value.string; apply ByteArray.ext; simp [bA, ByteArray.data_append, joinW], by go_num, HS2.out, HF1.out.trans (by (iterate 3 (refine Fr.trans ?_ (by assumption))); exact HF3.out.drew)⟩
              case measure => simp [intOf] <;> omega
    · obtain rfl : k = n := by omega
      have he : S = showL l := by
        have := HI.out
        unfold ShowIs at this
        rw [List.drop_of_length_le (by rw [HN.out]; exact Nat.le_refl _)] at this
        simpa [showL] using this
      have HE := Lib.hid he
      clear he
      go_wp2_with fail
      go_ret
      exact ⟨by rw [HE.out]; rfl, HF.out⟩
end Go.Proofs.YthkdokkpiaaljaaGreatDoor
