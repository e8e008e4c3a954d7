/- ChartsTell. The listed variables of package lines and of Go's library: what a row's condition gives; a world that meets it. A world that meets the listed variables; the wrap of a row that lists them. -/
import Derived.Test.YtakcdecljfmckaaGreatDoorCore37
import Derived.Test.YtakcdecljfmckaaGreatDoorCore43
import Derived.Test.YtakcdecljfmckaaGreatDoorCore46
import Derived.Test.YtakcdecljfmckaaGreatDoorCore13
import Derived.ProofKit
import Derived.LaidMore
import Derived.OpenShut
import Derived.Stop.Joined
import Derived.Stop.LaidErr
import Derived.Lay
import Derived.PinnedBridge
import Derived.Lib.LaidU8T
import Derived.Lib.LaidTab
import Derived.Shelf.Vars
import Derived.HandedShaped
set_option linter.all false
set_option linter.unusedVariables false
set_option linter.unusedSimpArgs false
namespace Go.Proofs.YtakcdecljfmckaaGreatDoor
open Go.RowKit

theorem part_pair0 (a b : Int) (w : World) : (part 3 #[.int .i64 a, .int .i64 b] (0 * 1)).run Tryz.prog w = .ok (.int .i64 a) w := by kernel_rfl
theorem part_pair1 (a b : Int) (w : World) : (part 3 #[.int .i64 a, .int .i64 b] ((0 + 1) * 1)).run Tryz.prog w = .ok (.int .i64 b) w := by kernel_rfl
set_option maxRecDepth 100000 in
theorem pair_neq (a b : Int) (w : World) : (binOp .neq 45 (.agg #[.int .i64 a, .int .i64 b]) (.agg #[.int .i64 a, .int .i64 b])).run Tryz.prog w = .ok (.bool false) w := by
  have hS : Tryz.prog.underlying 45 = some (.array 2 3) := Tryz.underlying45
  have u3 := Tryz.underlying3
  have z3 := Tryz.sizeOf3
  have e0 : ∀ (D : Nat) (x : Int) W, (Op.equalIn (D + 1) 3 (.int .i64 x) (.int .i64 x)).run Tryz.prog W = .ok true W := fun D x W => by rw [run_equalIn_int W D _ _ _ _ _ u3]; simp
  rw [run_neq_struct, show (10000 : Nat) = 9998 + 1 + 1 from rfl]
  generalize (9998 : Nat) = D
  rw [Op.equalIn]
  simp only [Sem.run_bind, run_underlying hS, Result.andThen_ok, z3, Std.Legacy.Range.forIn_eq_forIn_range']
  have hr : List.range' 0 2 1 = [0, 0 + 1] := rfl
  show ((Sem.run Tryz.prog (forIn (List.range' 0 2 1) _ _) w).andThen _).andThen _ = _
  rw [hr]
  simp only [List.forIn_cons, List.forIn_nil, Sem.run_bind, part_pair0, part_pair1, Result.andThen_ok, e0, Bool.not_true, Bool.false_eq_true, if_false, Sem.run_pure, Bool.not_true]

/-! ### rows that are none -/
set_option maxHeartbeats 400000 in
theorem sames_nil (w : World) : Calls Tryz.prog 12 #[.slice none 0 0, .slice none 0 0] w fun e w' => e = .returned (.bool true) ∧ Fr No w w' := by
  go_enter Tryz.func12, Tryz.ntmps12
  go_wp2_with fail
  refine wp_loop_rounds 1 ?_
  rw [rounds_succ]
  go_wp2_with fail
  go_ret
  exact ⟨rfl, Fr.refl _ _⟩
set_option maxHeartbeats 400000 in
theorem idxf_nil (f : Value) (w : World) : Calls Tryz.prog 33 #[.slice none 0 0, f] w fun e w' => e = .returned (.int .i64 (-1)) ∧ Fr No w w' := by
  go_enter Tryz.func33, Tryz.ntmps33
  go_wp2_with fail
  refine wp_loop_rounds 1 ?_
  rw [rounds_succ]
  go_wp2_with fail
  go_ret
  exact ⟨rfl, Fr.refl _ _⟩
set_option maxHeartbeats 400000 in
theorem at_nil (pc : Int) (w : World) : Calls Tryz.prog 13 #[.slice none 0 0, .int .i64 pc] w fun e w' => e = .returned (.int .i64 (-1)) ∧ Fr No w w' := by
  have HF1 : Hid (Fr No w (w.alloc (.cells #[.int .i64 pc] 3))) := (Fr.refl _ _).alloc _
  go_enter Tryz.func13, Tryz.ntmps13
  go_wp2_with (go_at_call 33; (with_reducible refine (idxf_nil _ _).mono ?_); rintro e w' ⟨rfl, hf⟩)
  go_ret
  exact ⟨rfl, HF1.out.trans hf⟩

set_option maxRecDepth 100000 in
set_option maxHeartbeats 8000000 in
theorem ctell_any (l : List Ins) (v : Value) (maps pc : Int) (w : World) (hv : InsAt w v l) (hok : ∀ i ∈ l, i.ok) (hT : LT w) : Calls Tryz.prog 3 #[v, .int .i64 maps, .int .i64 pc] w fun e w' => e = .returned (.bool true) ∧ Fr No w w' := by
  have HCH : Hid (∀ W, Fr No w W → Calls Tryz.prog 6 #[] W fun e w' => e = .returned (.bool true) ∧ Fr No W w') := fun W hf => charted_any W (hT.fr hf)
  obtain ⟨a0, c0, rfl⟩ := hv.form
  by_cases hbig : 64 < l.length
  · obtain ⟨n, hn⟩ : ∃ n, l.length = n := ⟨_, rfl⟩
    rw [hn] at hbig ⊢
    have g0 : (64 : Int) < (n : Int) := by omega
    clear hv hok hT hn hbig
    go_enter Tryz.func3, Tryz.ntmps3
    go_wp2_with (go_at_call 6; (with_reducible refine (HCH.out _ (Fr.refl _ _)).mono ?_); rintro e w1 ⟨rfl, hf1⟩)
    go_ret
    exact ⟨rfl, hf1⟩
  have hl : l.length ≤ 100000 := by omega
  have g0 : ¬ (64 : Int) < (l.length : Int) := by omega
  have HB : Hid (∀ W, Fr No w W → Calls Tryz.prog 7 #[.slice a0 l.length c0, .int .i64 maps] W (BlocksTo l maps W)) := fun W hf => blocks_any l _ maps W (hv.fr hf) hok hl
  have HX : Hid (∀ W, Fr No w W → Calls Tryz.prog 8 #[.slice a0 l.length c0, .int .i64 maps] W (BlocksTo l maps W)) := fun W hf => rblocks_any l _ maps W (hv.fr hf) hok hl
  have HD : Hid (∀ W, Fr No w W → Calls Tryz.prog 9 #[.slice a0 l.length c0, .int .i64 maps] W (DomsTo l maps W)) := fun W hf => doms_any l _ maps W (hv.fr hf) hok hl
  have HL : Hid (∀ W, Fr No w W → Calls Tryz.prog 10 #[.slice a0 l.length c0, .int .i64 maps] W (LoopsTo l maps W)) := fun W hf => loops_any l _ maps W (hv.fr hf) hok hl
  have HS : Hid (∀ W, Fr No w W → Calls Tryz.prog 11 #[.slice a0 l.length c0, .int .i64 maps] W (CShowTo l maps W)) := fun W hf => cshow_any l _ maps W (hv.fr hf) hok hl (hT.fr hf)
  unfold BlocksTo at HB HX
  unfold DomsTo at HD
  unfold LoopsTo at HL
  unfold CShowTo at HS
  obtain ⟨q2, hq2⟩ : ∃ q, (checkM l maps false).2 = q := ⟨_, rfl⟩
  rw [hq2] at HB HX HD HL HS
  by_cases hz : q2 = 0
  case neg =>
    have e1 : (q2 != 0) = true := by simpa using hz
    have e2 : (q2 != q2) = false := by simp
    have e3 : ((-1 : Int) != (-1 : Int)) = false := by decide
    have HB1 : Hid (∀ W, Fr No w W → Calls Tryz.prog 7 #[.slice a0 l.length c0, .int .i64 maps] W fun e w' => e = .returned (.tuple #[.slice none 0 0, .int .i64 q2]) ∧ Fr No W w') := fun W hf => (HB.out W hf).mono fun e w' h => by
      rcases h with ⟨-, h2⟩ | ⟨h1, -⟩
      · exact h2
      · exact absurd h1 hz
    have HX1 : Hid (∀ W, Fr No w W → Calls Tryz.prog 8 #[.slice a0 l.length c0, .int .i64 maps] W fun e w' => e = .returned (.tuple #[.slice none 0 0, .int .i64 q2]) ∧ Fr No W w') := fun W hf => (HX.out W hf).mono fun e w' h => by
      rcases h with ⟨-, h2⟩ | ⟨h1, -⟩
      · exact h2
      · exact absurd h1 hz
    have HD1 : Hid (∀ W, Fr No w W → Calls Tryz.prog 9 #[.slice a0 l.length c0, .int .i64 maps] W fun e w' => e = .returned (.tuple #[.slice none 0 0, .int .i64 q2]) ∧ Fr No W w') := fun W hf => (HD.out W hf).mono fun e w' h => by
      rcases h with ⟨-, h2⟩ | ⟨h1, -⟩
      · exact h2
      · exact absurd h1 hz
    have HL1 : Hid (∀ W, Fr No w W → Calls Tryz.prog 10 #[.slice a0 l.length c0, .int .i64 maps] W fun e w' => e = .returned (.tuple #[.slice none 0 0, .int .i64 q2]) ∧ Fr No W w') := fun W hf => (HL.out W hf).mono fun e w' h => by
      rcases h with ⟨-, h2⟩ | ⟨h1, -⟩
      · exact h2
      · exact absurd h1 hz
    have HS1 : Hid (∀ W, Fr No w W → Calls Tryz.prog 11 #[.slice a0 l.length c0, .int .i64 maps] W fun e w' => e = .returned (.tuple #[.string ⟨#[]⟩, .int .i64 q2]) ∧ Fr No W w') := fun W hf => (HS.out W hf).mono fun e w' h => by
      rcases h with ⟨-, h2⟩ | ⟨h1, -⟩
      · exact h2
      · exact absurd h1 hz
    have HSN : Hid (∀ W, Calls Tryz.prog 12 #[.slice none 0 0, .slice none 0 0] W fun e w' => e = .returned (.bool true) ∧ Fr No W w') := sames_nil
    have HA1 : Hid (∀ W, Calls Tryz.prog 13 #[.slice none 0 0, .int .i64 pc] W fun e w' => e = .returned (.int .i64 (-1)) ∧ Fr No W w') := fun W => at_nil pc W
    have HA2 : Hid (∀ W, Calls Tryz.prog 14 #[.slice none 0 0, .int .i64 pc] W fun e w' => e = .returned (.int .i64 (-1)) ∧ W = w') := fun W => rat_any none 0 0 0 pc [] W (fun h => absurd h (Nat.lt_irrefl _)) rfl (Nat.zero_le _) (fun k b hk => by simp at hk)
    clear HB HX HD HL HS hv hok hl hT hq2 hz hbig
    have HF : Hid (Fr No w w) := Fr.refl _ _
    go_enter Tryz.func3, Tryz.ntmps3
    go_wp2_with (first
      | (go_at_call 7; (with_reducible refine (HB1.out _ HF.out).mono ?_); rintro e w1 ⟨rfl, hf1⟩; have HF := Lib.hid (HF.out.trans hf1))
      | (go_at_call 8; (with_reducible refine (HX1.out _ HF.out).mono ?_); rintro e w1 ⟨rfl, hf1⟩; have HF := Lib.hid (HF.out.trans hf1))
      | (go_at_call 9; (with_reducible refine (HD1.out _ HF.out).mono ?_); rintro e w1 ⟨rfl, hf1⟩; have HF := Lib.hid (HF.out.trans hf1))
      | (go_at_call 10; (with_reducible refine (HL1.out _ HF.out).mono ?_); rintro e w1 ⟨rfl, hf1⟩; have HF := Lib.hid (HF.out.trans hf1))
      | (go_at_call 11; (with_reducible refine (HS1.out _ HF.out).mono ?_); rintro e w1 ⟨rfl, hf1⟩; have HF := Lib.hid (HF.out.trans hf1))
      | (go_at_call 12; (with_reducible refine (HSN.out _).mono ?_); rintro e w1 ⟨rfl, hf1⟩; have HF := Lib.hid (HF.out.trans hf1))
      | (go_at_call 13; (with_reducible refine (HA1.out _).mono ?_); rintro e w1 ⟨rfl, hf1⟩; have HF := Lib.hid (HF.out.trans hf1))
      | (go_at_call 14; (with_reducible refine (HA2.out _).mono ?_); rintro e w1 ⟨rfl, rfl⟩)
      | (go_at_call 6; (with_reducible refine (HCH.out _ HF.out).mono ?_); rintro e w1 ⟨rfl, hf1⟩; have HF := Lib.hid (HF.out.trans hf1)))
    go_ret
    exact ⟨rfl, HF.out⟩
  subst hz
  have HW : Hid (Whole l maps) := whole hq2
  have HG : Hid (Graph (blocksM l)) := HW.out.graph
  have HSM : Hid (Small (blocksM l)) := HW.out.small
  obtain ⟨bs, hbs⟩ : ∃ bs, blocksM l = bs := ⟨_, rfl⟩
  rw [hbs] at HB HX HD HL HS HG HSM
  obtain ⟨N, hN⟩ : ∃ N, bs.length = N := ⟨_, rfl⟩
  have HN := Lib.hid hN
  have HB1 : Hid (∀ W, Fr No w W → Calls Tryz.prog 7 #[.slice a0 l.length c0, .int .i64 maps] W fun e w' => ∃ g c, e = .returned (.tuple #[.slice (some ⟨g, 0, none⟩) N c, .int .i64 0]) ∧ BlksAt w' (.slice (some ⟨g, 0, none⟩) N c) bs ∧ Fr No W w') := fun W hf => (HB.out W hf).mono fun e w' h => by
    rcases h with ⟨h1, -⟩ | ⟨-, bv, h2, h3, h4⟩
    · exact absurd rfl h1
    · obtain ⟨g, c, rfl⟩ := h3.form
      rw [hN] at h2 h3
      exact ⟨g, c, h2, h3, h4⟩
  have HX1 : Hid (∀ W, Fr No w W → Calls Tryz.prog 8 #[.slice a0 l.length c0, .int .i64 maps] W fun e w' => ∃ g c, e = .returned (.tuple #[.slice (some ⟨g, 0, none⟩) N c, .int .i64 0]) ∧ BlksAt w' (.slice (some ⟨g, 0, none⟩) N c) bs ∧ Fr No W w') := fun W hf => (HX.out W hf).mono fun e w' h => by
    rcases h with ⟨h1, -⟩ | ⟨-, bv, h2, h3, h4⟩
    · exact absurd rfl h1
    · obtain ⟨g, c, rfl⟩ := h3.form
      rw [hN] at h2 h3
      exact ⟨g, c, h2, h3, h4⟩
  have HD1 : Hid (∀ W, Fr No w W → Calls Tryz.prog 9 #[.slice a0 l.length c0, .int .i64 maps] W fun e w' => ∃ (d : Nat → Int) (g c : Nat), e = .returned (.tuple #[.slice (some ⟨g, 0, none⟩) N c, .int .i64 0]) ∧ Doms (nxM bs) N d ∧ ZF w' g N d ∧ Fr No W w') := fun W hf => (HD.out W hf).mono fun e w' h => by
    rcases h with ⟨h1, -⟩ | ⟨-, d, g, c, h2, h3, h4, h5⟩
    · exact absurd rfl h1
    · rw [hN] at h2 h3 h4
      exact ⟨d, g, c, h2, h3, h4, h5⟩
  have HL1 : Hid (∀ W, Fr No w W → Calls Tryz.prog 10 #[.slice a0 l.length c0, .int .i64 maps] W fun e w' => ∃ (d : Nat → Int) (g : Option Addr) (c : Nat), e = .returned (.tuple #[.slice g (waysM bs d).length c, .int .i64 0]) ∧ Doms (nxM bs) N d ∧ w'.ownsRow 0 45 2 (.slice g (waysM bs d).length c) (waysM bs d).length (pflat (waysM bs d)) ∧ Fr No W w') := fun W hf => (HL.out W hf).mono fun e w' h => by
    rcases h with ⟨h1, -⟩ | ⟨-, d, v, h2, h3, ⟨g, c, rfl⟩, h5, h6⟩
    · exact absurd rfl h1
    · rw [hN] at h3
      exact ⟨d, g, c, h2, h3, h5 0 (Nat.zero_le _), h6⟩
  have HS1 : Hid (∀ W, Fr No w W → Calls Tryz.prog 11 #[.slice a0 l.length c0, .int .i64 maps] W fun e w' => ∃ d : Nat → Int, e = .returned (.tuple #[.string (bA (showB bs d)), .int .i64 0]) ∧ Doms (nxM bs) N d ∧ Fr No W w') := fun W hf => (HS.out W hf).mono fun e w' h => by
    rcases h with ⟨h1, -⟩ | ⟨-, d, h2, h3, h4⟩
    · exact absurd rfl h1
    · rw [hN] at h2
      exact ⟨d, h3, h2, h4⟩
  have HSE : Hid (∀ W va vb, BlksAt W va bs → BlksAt W vb bs → Calls Tryz.prog 12 #[va, vb] W fun e w' => e = .returned (.bool true) ∧ Fr No W w') := fun W va vb h1 h2 => sames_any bs va vb W h1 h2 HG.out.len (fun k b hk => by have := (HSM.out.blk k b hk).2.2.1; omega)
  have HAR : Hid (∀ W g c, BlksAt W (.slice (some ⟨g, 0, none⟩) N c) bs → RowAt W g bs) := fun W g c h k b hk => by
    obtain ⟨g2, c2, h1, h2⟩ := h
    injection h1 with h1 _ _
    injection h1 with h1
    injection h1 with h1 _ _
    subst h1
    obtain ⟨x1, x2, nv, x3, -⟩ := h2 k b hk
    exact ⟨x1, x2, nv, x3⟩
  have HA1 : Hid (∀ W g c, BlksAt W (.slice (some ⟨g, 0, none⟩) N c) bs → Calls Tryz.prog 13 #[.slice (some ⟨g, 0, none⟩) N c, .int .i64 pc] W fun e w' => e = .returned (.int .i64 (atB bs pc)) ∧ Fr No W w') := fun W g c h => at_row g N c pc bs W HN.out (by have := HG.out.len; rw [HN.out] at this; omega) (HAR.out W g c h)
  have HA2 : Hid (∀ W g c, BlksAt W (.slice (some ⟨g, 0, none⟩) N c) bs → Calls Tryz.prog 14 #[.slice (some ⟨g, 0, none⟩) N c, .int .i64 pc] W fun e w' => e = .returned (.int .i64 (atB bs pc)) ∧ W = w') := fun W g c h => rat_any (some ⟨g, 0, none⟩) g N c pc bs W (fun _ => rfl) HN.out (by have := HG.out.len; rw [HN.out] at this; omega) (HAR.out W g c h)
  have HRD : Hid (∀ W g c d, BlksAt W (.slice (some ⟨g, 0, none⟩) N c) bs → Doms (nxM bs) N d → Calls Tryz.prog 15 #[.slice (some ⟨g, 0, none⟩) N c] W fun e w' => ∃ g2 c2, e = .returned (.slice (some ⟨g2, 0, none⟩) N c2) ∧ (∀ k, k < N → w'.cell? ⟨g2, k, none⟩ = some (.int .i64 (d k))) ∧ Fr No W w') := fun W g c d h hd => by
    have := rdoms_any bs _ d W h HG.out (by rw [hN]; exact hd)
    rw [hN] at this
    exact this
  have HRL : Hid (∀ W g c d, BlksAt W (.slice (some ⟨g, 0, none⟩) N c) bs → Doms (nxM bs) N d → Calls Tryz.prog 16 #[.slice (some ⟨g, 0, none⟩) N c] W fun e w' => ∃ a c, e = .returned (.slice a (waysM bs d).length c) ∧ w'.ownsRow W.heap.size 45 2 (.slice a (waysM bs d).length c) (waysM bs d).length (pflat (waysM bs d)) ∧ Fr No W w') := fun W g c d h hd => (rloops_any bs _ d W h HG.out (by rw [hN]; exact hd)).mono fun e w' h => by
    obtain ⟨v, h1, h2, h3⟩ := h
    obtain ⟨a, c, rfl⟩ := ownsRow_any h2
    exact ⟨a, c, h1, h2, h3⟩
  have HRS : Hid (∀ W g c d, BlksAt W (.slice (some ⟨g, 0, none⟩) N c) bs → Doms (nxM bs) N d → Calls Tryz.prog 17 #[.slice (some ⟨g, 0, none⟩) N c] W fun e w' => e = .returned (.string (bA (showB bs d))) ∧ Fr No W w') := fun W g c d h hd => rshow_any bs _ d W h HG.out HSM.out (by rw [hN]; exact hd)
  have hN64 : N ≤ 64 := by rw [← hN]; exact HSM.out.len
  have HWLB : Hid (∀ d, (waysM bs d).length ≤ 200) := fun d => by
    have h := waysUp_len HG.out.n2 (bs := bs) (d := d) bs.length
    rw [hN] at h
    unfold waysM
    rw [hN]
    omega
  clear HB HX HD HL HS hv hok hl hT hq2 hbig hbs hN
  obtain ⟨n, hn⟩ : ∃ n, l.length = n := ⟨_, rfl⟩
  rw [hn] at g0 HB1 HX1 HD1 HL1 HS1 ⊢
  clear hn
  obtain ⟨z, hz⟩ : ∃ z, atB bs pc = z := ⟨_, rfl⟩
  rw [hz] at HA1 HA2
  clear hz
  have e0 : ((0 : Int) != (0 : Int)) = false := by decide
  have ez : (z != z) = false := by simp
  have eN : ((N : Int) != (N : Int)) = false := by simp
  have H64 := Lib.hid hN64
  go_enter Tryz.func3, Tryz.ntmps3
  go_upto_region 8 with (first
    | (go_at_call 7; (with_reducible refine (HB1.out _ (Fr.refl _ _)).mono ?_); rintro e w1 ⟨g1, c1, rfl, hb1, hf1⟩; have HF1 := Lib.hid hf1; have HQ1 := Lib.hid hb1; clear hf1 hb1)
    | (go_at_call 8; (with_reducible refine (HX1.out _ HF1.out).mono ?_); rintro e w2 ⟨g2, c2, rfl, hb1, hf1⟩; have HF2 := Lib.hid (HF1.out.trans hf1); have HQ2 := Lib.hid hb1; have HQ1 := Lib.hid (HQ1.out.fr hf1); clear hf1 hb1)
    | (go_at_call 9; (with_reducible refine (HD1.out _ HF2.out).mono ?_); rintro e w3 ⟨d3, g3, c3, rfl, hd3, hz3, hf1⟩; have HF3 := Lib.hid (HF2.out.trans hf1); have HDM := Lib.hid hd3; have HZ3 := Lib.hid hz3; have HQ2 := Lib.hid (HQ2.out.fr hf1); have HQ1 := Lib.hid (HQ1.out.fr hf1); clear hf1 hd3 hz3)
    | (go_at_call 10; (with_reducible refine (HL1.out _ HF3.out).mono ?_); rintro e w4 ⟨d4, a4, c4, rfl, hd4, ho4, hf1⟩; have HF4 := Lib.hid (HF3.out.trans hf1); have HDW := Lib.hid hd4; have HO4 := Lib.hid ho4; have HZ3 := Lib.hid (HZ3.out.fr hf1); have HQ2 := Lib.hid (HQ2.out.fr hf1); have HQ1 := Lib.hid (HQ1.out.fr hf1); clear hf1 hd4 ho4)
    | (go_at_call 11; (with_reducible refine (HS1.out _ HF4.out).mono ?_); rintro e w5 ⟨d5, rfl, hd5, hf1⟩; have HF5 := Lib.hid (HF4.out.trans hf1); have HDS := Lib.hid hd5; have HO4 := Lib.hid (ownsRow_fr HO4.out hf1 (fun _ _ => id)); have HZ3 := Lib.hid (HZ3.out.fr hf1); have HQ2 := Lib.hid (HQ2.out.fr hf1); have HQ1 := Lib.hid (HQ1.out.fr hf1); clear hf1 hd5))
  have HWB := HWLB.out d4
  obtain ⟨W, hW⟩ : ∃ W, waysM bs d4 = W := ⟨_, rfl⟩
  have HRL4 := Lib.hid (fun W g c h => HRL.out W g c d4 h HDW.out)
  rw [hW] at HO4 HWB HRL4 ⊢
  obtain ⟨m, hm⟩ : ∃ m, W.length = m := ⟨_, rfl⟩
  rw [hm] at HO4 HWB HRL4 ⊢
  have HM := Lib.hid hm
  have HRS5 := Lib.hid (fun W g c h => HRS.out W g c d5 h HDS.out)
  have HRD3 := Lib.hid (fun W g c h => HRD.out W g c d3 h HDM.out)
  obtain ⟨ST, hST⟩ : ∃ ST, bA (showB bs d5) = ST := ⟨_, rfl⟩
  rw [hST] at HRS5 ⊢
  have em : ((m : Int) != (m : Int)) = false := by simp
  have es : (ST.toList != ST.toList) = false := by simp
  clear hW hm hST HB1 HX1 HD1 HL1 HS1 HRD HRL HRS HDW HDS HDM HW HG HAR
  have HFa : Hid (Fr No w5 w5) := Fr.refl _ _
  go_upto_region 12 with (first
    | (go_at_call 12; (with_reducible refine (HSE.out _ _ _ (HQ1.out.fr HFa.out) (HQ2.out.fr HFa.out)).mono ?_); rintro e w6 ⟨rfl, hf1⟩; have HFa := Lib.hid (HFa.out.trans hf1); clear hf1)
    | (go_at_call 13; (with_reducible refine (HA1.out _ _ _ (HQ1.out.fr HFa.out)).mono ?_); rintro e w6 ⟨rfl, hf1⟩; have HFa := Lib.hid (HFa.out.trans hf1); clear hf1)
    | (go_at_call 14; (with_reducible refine (HA2.out _ _ _ (HQ2.out.fr HFa.out)).mono ?_); rintro e w7 ⟨rfl, rfl⟩))
  go_wp2_with (first
    | (go_at_call 15; (with_reducible refine (HRD3.out _ _ _ (HQ2.out.fr HFa.out)).mono ?_); rintro e w8 ⟨gy, cy, rfl, hcy, hf1⟩; have HCY := Lib.hid hcy; have HFa := Lib.hid (HFa.out.trans hf1); clear hf1 hcy)
    | (go_at_call 16; (with_reducible refine (HRL4.out _ _ _ (HQ2.out.fr HFa.out)).mono ?_); rintro e w9 ⟨av, cv, rfl, hov, hf1⟩; have HOV := Lib.hid hov; have HCY := Lib.hid (fun k hk => hf1.cell (HCY.out k hk) id); have HFa := Lib.hid (HFa.out.trans hf1); clear hf1 hov)
    | (go_at_call 17; (with_reducible refine (HRS5.out _ _ _ (HQ2.out.fr HFa.out)).mono ?_); rintro e wz ⟨rfl, hf1⟩; have HOV := Lib.hid (ownsRow_fr HOV.out hf1 (fun _ _ => id)); have HCY := Lib.hid (fun k hk => hf1.cell (HCY.out k hk) id); have HFa := Lib.hid (HFa.out.trans hf1); clear hf1))
  have HZA : Hid (ZF wz g3 N d3) := HZ3.out.fr HFa.out
  have HOA : Hid (wz.ownsRow 0 45 2 (.slice a4 m c4) m (pflat W)) := ownsRow_fr HO4.out HFa.out (fun _ _ => id)
  have HFW : Hid (Fr No w wz) := HF5.out.trans HFa.out
  clear HRD3 HRL4 HRS5 HSE HA1 HA2
  go_loopw [19] (fun kv wr => ∃ k : Nat, kv = .int .i64 (k : Int) ∧ k ≤ N ∧ Hid (Fr No wz wr)) (fun kv _ => N - (intOf kv).toNat)
  case atStart => exact ⟨0, rfl, Nat.zero_le _, Fr.refl _ _⟩
  case round =>
    obtain ⟨k, rfl, hk, HFK⟩ := hrel
    have h64 := H64.out
    by_cases hlt : k < N
    · have k0 := (HZA.out.fr HFK.out k hlt).1
      have k1 := HFK.out.cell (HCY.out k hlt) id
      have q1 : (d3 k != d3 k) = false := by simp
      have r1 : (k : Int) < (N : Int) := by omega
      have r0 : (0 : Int) ≤ (k : Int) := by omega
      have HKN := Lib.hid hlt
      clear hlt
      generalize d3 k = dk at *
      go_upto_region 18 with fail
      go_quiet (fail)
      go_wp2_with fail
      go_roundw
      case rel => exact ⟨k + 1, by go_num, by have := HKN.out; omega, HFK.out.drewN _⟩
      case measure => (have := HKN.out; simp [intOf] <;> omega)
    · obtain rfl : k = N := by omega
      have r1 : ¬ (k : Int) < (k : Int) := by omega
      clear hlt
      go_wp2_with fail
      go_loopw [20] (fun jv wr => ∃ j : Nat, jv = .int .i64 (j : Int) ∧ j ≤ m ∧ Hid (Fr No wz wr)) (fun jv _ => m - (intOf jv).toNat)
      case atStart => exact ⟨0, rfl, Nat.zero_le _, HFK.out⟩
      case round =>
        clear HFK
        obtain ⟨j, rfl, hj, HFJ⟩ := hrel
        by_cases hlt : j < m
        · obtain ⟨p, hp⟩ : ∃ p, W[j]? = some p := ⟨W[j]'(by rw [HM.out]; exact hlt), List.getElem?_eq_getElem _⟩
          obtain ⟨x1, x2⟩ := pflat_get hp
          obtain ⟨gv, cv2, hgv⟩ := ownsRow_form HOV.out (by omega)
          injection hgv with hg1 hg2 hg3
          clear hg2
          subst hg1 hg3
          obtain ⟨gw, cw2, hgw⟩ := ownsRow_form HOA.out (by omega)
          injection hgw with hg1 hg2 hg3
          clear hg2
          subst hg1 hg3
          have ho1 := (ownsRow_cells HOV.out).1
          have ho2 := (ownsRow_cells HOA.out).1
          have k1 : wr.cell? ⟨gv, j * 2, none⟩ = some (.int .i64 (p.1 : Int)) := HFJ.out.cell (by have := ho1 _ _ x1; rwa [Nat.zero_add] at this) id
          have k2 : wr.cell? ⟨gv, j * 2 + 1, none⟩ = some (.int .i64 (p.2 : Int)) := HFJ.out.cell (by have := ho1 _ _ x2; rwa [Nat.zero_add] at this) id
          have k3 : wr.cell? ⟨gw, j * 2, none⟩ = some (.int .i64 (p.1 : Int)) := HFJ.out.cell (by have := ho2 _ _ x1; rwa [Nat.zero_add] at this) id
          have k4 : wr.cell? ⟨gw, j * 2 + 1, none⟩ = some (.int .i64 (p.2 : Int)) := HFJ.out.cell (by have := ho2 _ _ x2; rwa [Nat.zero_add] at this) id
          have pn := pair_neq (p.1 : Int) (p.2 : Int)
          have r2 : (j : Int) < (m : Int) := by omega
          have r0 : (0 : Int) ≤ (j : Int) := by omega
          have HJM := Lib.hid hlt
          clear hp x1 x2 ho1 ho2 hlt
          generalize (p.1 : Int) = pa at *
          generalize (p.2 : Int) = pb at *
          go_upto_region 23 with fail
          go_quiet (fail)
          go_wp2_with fail
          go_roundw
          case rel => exact ⟨j + 1, by go_num, by have := HJM.out; omega, HFJ.out.drewN _⟩
          case measure => (have := HJM.out; simp [intOf] <;> omega)
        · obtain rfl : j = m := by omega
          have r2 : ¬ (j : Int) < (j : Int) := by omega
          clear hlt
          go_wp2_with (go_at_call 6; (with_reducible refine (HCH.out _ (HFW.out.trans HFJ.out)).mono ?_); rintro e wq ⟨rfl, hf8⟩)
          go_ret
          exact ⟨rfl, (HFW.out.trans HFJ.out).trans hf8⟩
end Go.Proofs.YtakcdecljfmckaaGreatDoor

namespace Go.Proofs.YtakcdecljfmckaaGreatDoor
open Go.ChangeShapes Go.WideShapes Go.ChangeAt Go.WideMaps Go.WideElems Go.RowKit

def laidL : List (String × DataW Unit) := [("math/bits.deBruijn32tab", Rows.laid_math_bits_deBruijn32tab), ("math/bits.deBruijn64tab", Rows.laid_math_bits_deBruijn64tab), ("internal/strconv.uint64pow10", Rows.laid_internal_strconv_uint64pow10), ("unicode/utf8.acceptRanges", Rows.laid_unicode_utf8_acceptRanges), ("strconv.ErrRange", Rows.laid_strconv_ErrRange), ("strconv.ErrSyntax", Rows.laid_strconv_ErrSyntax),
  ("firewall/lines.ariths", Rows.laid_firewall_lines_ariths), ("firewall/lines.jumps", Rows.laid_firewall_lines_jumps), ("firewall/lines.sizes", Rows.laid_firewall_lines_sizes), ("unicode/utf8.first", Rows.laid_unicode_utf8_first)]

section
variable {H : Type} {enc : TypeId × Value → H} {P : Program} {w : World} {base : Nat} {sp : Nat → Bool} {held : Bool}
theorem strs_of_agg {fuel n : Nat} {t e : TypeId} {cs : List Value} {L : List (List UInt8)} {p : List MemPlace} (ht : P.underlying t = some (.array n e)) (he : P.underlying e = some .string) (hce : P.cellsOf e = 1)
    (h : DataW.trod enc P w base sp held fuel t cs = some (.agg (L.map fun s => .lit (.string s)), p)) : ∀ (j : Nat) (u : Value), (strs L)[j]? = some u → cs[j]? = some u := by
  obtain ⟨xs, m, _, ex, hl0, hl, hel⟩ := DataW.trod_array ht h
  simp only [Prod.mk.injEq, DataW.agg.injEq] at ex
  intro j u hj
  have hjL : j < L.length := by
    have := (List.getElem?_eq_some_iff.1 hj).1
    simpa [strs] using this
  have hxl : xs.length = L.length := by
    have := congrArg List.length ex.1
    simpa using this.symm
  have hE := hel j (by omega)
  rw [hce, Nat.mul_one, List.getElem?_eq_getElem (by omega)] at hE
  obtain ⟨s, e1, e2, _⟩ := DataW.trod_string he hE
  have e3 : (xs.map (·.1))[j]? = (L.map fun s => (DataW.lit (.string s) : DataW H))[j]? := by rw [ex.1]
  rw [List.getElem?_map, List.getElem?_map, List.getElem?_eq_getElem (by omega : j < xs.length), List.getElem?_eq_getElem hjL, e2] at e3
  simp only [Option.map_some, Option.some.injEq, DataW.lit.injEq, Lit.string.injEq] at e3
  have hu : u = .string s := by
    simp only [strs, List.getElem?_map, List.getElem?_eq_getElem hjL, Option.map_some, Option.some.injEq] at hj
    rw [← hj, ← e3]
    rfl
  have h0 : ((cs.drop j).take 1)[0]? = some (.string s) := by rw [e1]; rfl
  rw [hu]
  simpa using h0
theorem u8L_read {m : Nat} {e : TypeId} (he : P.underlying e = some (.int .u8)) (hce : P.cellsOf e = 1) : ∀ (n : Nat) (cs : List Value) (xs : List (DataW Unit × List MemPlace)), cs.length = n → xs.length = n →
    (∀ (i : Nat), i < n → DataW.trod (fun _ => ()) P w base sp held m e ((cs.drop (i * P.cellsOf e)).take (P.cellsOf e)) = xs[i]?) → u8L cs = some (xs.map (·.1)) ∧ xs.flatMap (·.2) = []
  | 0, cs, xs, hc, hx, _ => by
    have h1 := List.eq_nil_of_length_eq_zero hc
    have h2 := List.eq_nil_of_length_eq_zero hx
    subst h1 h2
    exact ⟨rfl, rfl⟩
  | n + 1, [], _, hc, _, _ => by simp at hc
  | n + 1, _ :: _, [], _, hx, _ => by simp at hx
  | n + 1, c :: cs, x :: xs, hc, hx, h => by
    have h0 := h 0 (by omega)
    rw [hce] at h0
    obtain ⟨z, e1, e2, _⟩ := DataW.trod_int he (show DataW.trod (fun _ => ()) P w base sp held m e [c] = some x from h0)
    cases e1
    subst e2
    obtain ⟨i1, i2⟩ := u8L_read he hce n cs xs (by simpa using hc) (by simpa using hx) (fun i hi => by
      have := h (i + 1) (by omega)
      rw [hce] at this ⊢
      simpa using this)
    exact ⟨by simp [u8L, i1], by simp [i2]⟩
end
theorem arr3_of {W : World} {base m : Nat} {sp : Nat → Bool} {held : Bool} {v : Value} {z : DataW Unit × List MemPlace} (h : elemAt (fun _ => ()) Tryz.prog W base sp held m 158 v = some z) : arr3 v = some z := by
  unfold elemAt at h
  split at h
  · rename_i hf
    obtain ⟨xs, k, _, ex, hl0, hl, hel⟩ := DataW.trod_array Tryz.underlying158 h
    have c3 : Tryz.prog.cellsOf 158 = 3 := by kernel_rfl
    have c1 : Tryz.prog.cellsOf 5 = 1 := by kernel_rfl
    rw [c3] at hl0
    obtain ⟨i1, i2⟩ := u8L_read Tryz.underlying5 c1 3 v.cells.toList xs hl0 hl hel
    have hv : ∃ ys, v = .agg ys := by
      cases v with
      | agg ys => exact ⟨ys, rfl⟩
      | _ => exfalso; revert hf; unfold Value.formed; simp [Tryz.underlying158]
    obtain ⟨ys, rfl⟩ := hv
    show (u8L ys.toList).map _ = _
    have : u8L ys.toList = some (xs.map (·.1)) := i1
    rw [this, ex, i2]
    rfl
  · cases h

theorem reads_strs {W : World} {n : String} {g t e k : Nat} {L : List (List UInt8)} (h : Lib.VarReads Tryz.prog W n (.agg (L.map fun s => .lit (.string s)))) (hg : Tryz.prog.globalNamed n = some g) (ht : (Tryz.prog.globals[g]?).map (·.type) = some t) (hu : Tryz.prog.underlying t = some (.array k e)) (he : Tryz.prog.underlying e = some .string) (hce : Tryz.prog.cellsOf e = 1) : CellsAt W g 0 (strs L) := by
  obtain ⟨g0, t0, cs, fuel, p, hg0, ht0, hv, hd⟩ := h
  obtain rfl := Option.some.inj (hg.symm.trans hg0)
  obtain rfl := Option.some.inj (ht.symm.trans ht0)
  intro j u hj
  have := strs_of_agg hu he hce hd j u hj
  rw [Nat.zero_add, World.var?_cell hg hv j, ← Array.getElem?_toList]
  exact this
theorem typ_err (u : TypeId) (h : Tryz.prog.typeName? 3 u = some "*errors.errorString") : u = 216 := by
  have e : "*" ++ "errors.errorString" = "*errors.errorString" := by decide
  exact typeName_ptr_named (nm := "errors.errorString") (by rw [e]; kernel_rfl) (by kernel_rfl) (by decide) u (by rw [e]; exact h)

theorem at_reads {W : World} (h : laidMet Tryz.prog laidL W) (i : Nat) {n : String} {d : DataW Unit} (e : laidL[i]? = some (n, d)) : Lib.VarReads Tryz.prog W n d := Lib.laidMet.reads h (List.mem_of_getElem? e)
theorem at_back {W : World} (h : laidMet Tryz.prog laidL W) (i : Nat) {n : String} {d : DataW Unit} (e : laidL.reverse[i]? = some (n, d)) : Lib.VarReads Tryz.prog W n d := Lib.laidMet.reads h (List.mem_reverse.1 (List.mem_of_getElem? e))
theorem cell0 {W : World} {n : String} {g : Nat} {cs : Array Value} {v : Value} (hg : Tryz.prog.globalNamed n = some g) (hv : W.var? Tryz.prog n = some cs) (hc : cs.toList = [v]) : W.cell? ⟨g, 0, none⟩ = some v := by
  have := World.var?_cell hg hv 0
  rw [this, ← Array.getElem?_toList, hc]
  rfl

set_option maxRecDepth 100000 in
theorem lt_of_laid {W : World} (h0 : laidMetH Tryz.prog laidL W) (hs : W.ShapedOpen Tryz.prog) : LT W := by
  rw [MakeChecks.laidMetH_plain _ _ _ (by kernel_rfl)] at h0
  constructor
  · exact reads_strs (n := "firewall/lines.jumps") (L := jumpN) (at_back h0 2 (by kernel_rfl)) (by kernel_rfl) (by kernel_rfl) Tryz.underlying184 Tryz.underlying9 (by kernel_rfl)
  · exact reads_strs (n := "firewall/lines.ariths") (L := arithN) (at_back h0 3 (by kernel_rfl)) (by kernel_rfl) (by kernel_rfl) Tryz.underlying183 Tryz.underlying9 (by kernel_rfl)
  · exact Lib.tabIs_of_head (g := 6) (by kernel_rfl) (by kernel_rfl) Tryz.underlying205 Tryz.underlying60 (by kernel_rfl) (by kernel_rfl) (Go.laidMet.tail (Go.laidMet.tail h0))
  · exact Go.Proofs.cell_of_shapedOpen_int (zero := #[.int .i64 0]) (t := 3) hs (of_decide_eq_true (by kernel_rfl)) (by kernel_rfl) rfl (by kernel_rfl) (by kernel_rfl) Tryz.underlying3
  · obtain ⟨a, s, hv, _⟩ := laid_sentinel (g := 7) (tp := 216) (Go.laidMet.tail (Go.laidMet.tail (Go.laidMet.tail (Go.laidMet.tail (Go.laidMet.tail h0))))) (by kernel_rfl) (by kernel_rfl) (Tryz.underlying124) typ_err Tryz.underlying216 Tryz.underlying218 rfl rfl Tryz.underlying9 (by kernel_rfl) (by kernel_rfl)
    exact ⟨_, _, hv⟩
  · obtain ⟨a, s, hv, _⟩ := laid_sentinel (g := 8) (tp := 216) (Go.laidMet.tail (Go.laidMet.tail (Go.laidMet.tail (Go.laidMet.tail h0)))) (by kernel_rfl) (by kernel_rfl) (Tryz.underlying124) typ_err Tryz.underlying216 Tryz.underlying218 rfl rfl Tryz.underlying9 (by kernel_rfl) (by kernel_rfl)
    exact ⟨_, _, hv⟩
  · exact utf8Tabs_of_readsT (U8Types.of196 Tryz.laysValid) ⟨by kernel_rfl, by kernel_rfl, by kernel_rfl, by kernel_rfl, by kernel_rfl, by kernel_rfl, by kernel_rfl⟩ (Pinned.utf8First_eq ▸ at_back h0 0 (n := "unicode/utf8.first") (d := Pinned.utf8First) (by kernel_rfl)) (at_reads h0 3 (n := "unicode/utf8.acceptRanges") (d := Lib.acceptData) (by kernel_rfl))
  · obtain ⟨g0, t0, cs, fuel, p, hg0, ht0, hv, hd⟩ := at_back h0 1 (n := "firewall/lines.sizes") (d := lsizeD) (by kernel_rfl)
    obtain rfl := Option.some.inj ((show Tryz.prog.globalNamed "firewall/lines.sizes" = some 2 by kernel_rfl).symm.trans hg0)
    obtain rfl := Option.some.inj ((show (Tryz.prog.globals[2]?).map (·.type) = some 179 by kernel_rfl).symm.trans ht0)
    rcases Go.WideElems.open_map Tryz.underlying179 hd with ⟨_, hx⟩ | ⟨bm, es, clock, m, rfl, hcs, hb, _, F, hx⟩
    · simp [lsizeD] at hx
    simp only [Prod.mk.injEq] at hx
    refine ⟨bm, es.size, cell0 (n := "firewall/lines.sizes") (by kernel_rfl) hv hcs, ?_⟩
    have := World.ownsMap_of_fit hb F (fun x _ z hz => arr3_of hz)
    rw [← hx.1] at this
    exact this
end Go.Proofs.YtakcdecljfmckaaGreatDoor

namespace Go.Proofs.YtakcdecljfmckaaGreatDoor
open Go.ChangeShapes Go.WideShapes Go.ChangeAt Go.WideMaps Go.WideElems Go.RowKit

def greatL : List (String × DataW Unit) := [("unicode/utf8.first", Rows.laid_unicode_utf8_first)]
/-- the world: what the door lays, and the great table -/
noncomputable def witW (os : Os) : World := (World.doorLaid Tryz.prog 400 os).layVars Tryz.prog greatL
theorem witW_os (os : Os) : (witW os).os = os := World.layVars_os _ _ _
/-- the blocks of the listed variables: more where package insns is reached -/
def witB : List Nat := (List.range (19
  )).filter (· != 0)

set_option maxRecDepth 100000 in
theorem wit_met (os : Os) (args : Array Value) : laidMetH Tryz.prog laidL ((witW os).forCall (fun _ _ => 0) ⟨#[], args, []⟩).memory := by
  rw [MakeChecks.laidMetH_plain _ _ _ (by kernel_rfl)]
  have e1 : (laidL.filter fun x => ["unicode/utf8.first"].contains x.1) = greatL := by kernel_rfl
  refine laidMet_layVars (w0 := World.doorLaid Tryz.prog 400 os) ["unicode/utf8.first"] witB ?_ ?_ ?_ ?_
  · rw [e1]; rfl
  · rw [e1]; kernel_rfl
  · rw [e1]; kernel_rfl
  · exact LaidIn.of_run witB 8 (by kernel_rfl) (by kernel_rfl) (by kernel_rfl) (by kernel_rfl)

/-- the plain wrap for a row that lists variables, the world's shape handed on too -/
theorem returns_listed {H : Type} {enc : TypeId × Value → H} {a : Assume} {C : Checked} {os : Os} {f : FuncId} {fn : Func} {s : ChangeSpec} {conds : List PathCond} {apart fresh handsOn again : Bool} {X : World → Array Value → Prop}
    (hX : ∀ (w w' : World) (args : Array Value), w.heap = w'.heap → X w args → X w' args)
    (own : ownKnob C.prog.godebug = none) (started : os.Started) (noInit : C.prog.inits.idxOf? f = none) (hfn : C.prog.funcs[f]? = some fn)
    (witness : ∃ (w : World) (tape : Tape) (i : Input), w.os = os ∧ (w.forCall tape i).Shaped C.prog ∧ i.vars = [] ∧ Input.okWide C.prog (w.forCall tape i) .any w.heap.size f i ∧
      ((s.pre enc C.prog fn conds apart (w.forCall tape i).memory i.args ∧ X (w.forCall tape i).memory i.args) ∧ sizedMet enc C.prog fn (OpenSpec.ofChange s) apart (w.forCall tape i).memory i.args) ∧ a.holds C.prog (lone (Frame.enter C.prog f i.args .normal) [] (w.forCall tape i)))
    (contract : ∀ (W : World) (base : Nat) (args : Array Value) (ds gs : List (DataW H)) (before : List MemPlace),
      (∀ (j : Nat) t v, fn.params[j]? = some t → args[j]? = some v → Value.okWide C.prog W .any base t v) →
      DataW.Whole enc C.prog fn.params.toList s.vars apart W args.toList ds gs before → X W args → W.ShapedOpen C.prog →
      Calls C.prog f args W fun e W' => ∃ v, e = .returned v ∧ s.post enc C.prog fn apart fresh handsOn again W args v W') :
    ReturnsInHanded a C os f .any (fun w args => (s.pre enc C.prog fn conds apart w args ∧ X w args) ∧ sizedMet enc C.prog fn (OpenSpec.ofChange s) apart w args) (s.post enc C.prog fn apart fresh handsOn again) :=
  returnsInHanded_of_calls own started noInit witness fun w tape i _ hsh _ hok hpre _ => by
    obtain ⟨_, _, _, fn', hfn', _, _, _, _, hval⟩ := hok
    obtain rfl : fn' = fn := Option.some.inj (hfn'.symm.trans hfn)
    obtain ⟨⟨⟨ds, gs, before, hw, _⟩, hx⟩, _⟩ := hpre
    refine (contract (w.forCall tape i) w.heap.size i.args ds gs before hval (DataW.Whole.of_heap (w' := w.forCall tape i) (by rfl) hw) (hX _ _ _ (by rfl) hx) hsh).mono fun e W' ⟨v, he, hp⟩ => ?_
    subst he
    exact ChangeSpec.post_blind hp
end Go.Proofs.YtakcdecljfmckaaGreatDoor
