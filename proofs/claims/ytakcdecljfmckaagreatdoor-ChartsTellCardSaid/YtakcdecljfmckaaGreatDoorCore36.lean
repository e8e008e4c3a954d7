/- charts.Show. firewallref31: decimal; a line's text, plain. -/
import Derived.Test.YtakcdecljfmckaaGreatDoorCore35
import Derived.Test.YtakcdecljfmckaaGreatDoorCore24
set_option linter.all false
set_option linter.unusedVariables false
set_option linter.unusedSimpArgs false
namespace Go.Proofs.YtakcdecljfmckaaGreatDoor
open Go.RowKit

/-- numbers that a text may tell -/
structure Small (bs : List Blk) : Prop where
  len : bs.length ≤ 64
  blk : ∀ (k : Nat) (b : Blk), bs[k]? = some b → b.fr ≤ 1000 ∧ b.to ≤ 1000 ∧ b.next.length ≤ 2 ∧ ∀ n ∈ b.next, n ≤ 1000
theorem Whole.small {l : List Ins} {maps : Int} (h : Whole l maps) : Small (blocksM l) := by
  have g := h.graph
  have h2 := cutM_len (l := l) (F := frontB l) (starts l)
  have h3 : (starts l).length ≤ l.length := firstsM_len
  have h4 := h.most
  have h5 : (cutsM l).length ≤ (starts l).length := h2
  refine ⟨by rw [blocksM_len]; omega, fun k b hk => ?_⟩
  have hkl := (List.getElem?_eq_some_iff.1 hk).1
  have hnx : nxM (blocksM l) k = b.next := by unfold nxM; rw [List.getD_eq_getElem?_getD, hk]; rfl
  cases hB : (cutsM l)[k]? with
  | none =>
    unfold blocksM at hk
    rw [List.getElem?_map, hB] at hk
    simp at hk
  | some c =>
    have hk2 := hk
    rw [blocksM_get hB, Option.some.injEq] at hk2
    have h6 := h.cut.tiles.le.2 c (List.mem_of_getElem? hB)
    have h7 := h.cut.la c (List.mem_of_getElem? hB)
    have h8 := starts_lt h7.2.2.2.1
    refine ⟨by rw [← hk2]; show c.fr ≤ 1000; omega, by rw [← hk2]; show c.to ≤ 1000; omega, by rw [← hnx]; exact g.n2 k, fun n hn => ?_⟩
    rw [← hnx] at hn
    have := g.nx k n hn
    have := blocksM_len l
    omega
theorem Doms.val {nx : Nat → List Nat} {N : Nat} {d : Nat → Int} (h : Doms nx N d) {v : Nat} (hv : v < N) : -1 ≤ d v ∧ d v < N := by
  by_cases h0 : v = 0
  · rw [h0, h.root]; omega
  · obtain ⟨y, h1, h2, -⟩ := h.up v hv h0
    omega
theorem waysM_mem {bs : List Blk} {d : Nat → Int} {p : Nat × Nat} (h : p ∈ waysM bs d) : p.1 < bs.length ∧ p.2 ∈ nxM bs p.1 ∧ Up d p.2 p.1 := by
  unfold waysM waysUp at h
  obtain ⟨i, hi, h⟩ := List.mem_flatMap.1 h
  unfold rowW at h
  obtain ⟨n, hn, rfl⟩ := List.mem_map.1 h
  obtain ⟨h1, h2⟩ := List.mem_filter.1 hn
  exact ⟨List.mem_range.1 hi, h1, @of_decide_eq_true _ (Classical.propDecidable _) h2⟩
theorem pflat_get : ∀ {W : List (Nat × Nat)} {j : Nat} {p : Nat × Nat}, W[j]? = some p → (pflat W)[j * 2]? = some (.int .i64 (p.1 : Int)) ∧ (pflat W)[j * 2 + 1]? = some (.int .i64 (p.2 : Int))
  | [], j, p, h => by simp at h
  | q :: W, 0, p, h => by
    simp only [List.getElem?_cons_zero, Option.some.injEq] at h
    subst h
    exact ⟨rfl, rfl⟩
  | q :: W, j + 1, p, h => by
    have h2 := pflat_get (W := W) (j := j) (by simpa using h)
    simp only [pflat, List.flatMap_cons] at h2 ⊢
    refine ⟨?_, ?_⟩
    · rw [List.getElem?_append_right (by simp; omega), show (j + 1) * 2 - [Value.int IntKind.i64 (q.1 : Int), .int .i64 (q.2 : Int)].length = j * 2 by simp; omega]
      exact h2.1
    · rw [List.getElem?_append_right (by simp; omega), show (j + 1) * 2 + 1 - [Value.int IntKind.i64 (q.1 : Int), .int .i64 (q.2 : Int)].length = j * 2 + 1 by simp; omega]
      exact h2.2
/-- what Show tells -/
def CShowTo (l : List Ins) (maps : Int) (w : World) (e : Ending) (w' : World) : Prop :=
  ((checkM l maps false).2 ≠ 0 ∧ e = .returned (.tuple #[.string ⟨#[]⟩, .int .i64 (checkM l maps false).2]) ∧ Fr No w w') ∨
  ((checkM l maps false).2 = 0 ∧ ∃ d : Nat → Int, Doms (nxM (blocksM l)) (blocksM l).length d ∧ e = .returned (.tuple #[.string (bA (showB (blocksM l) d)), .int .i64 0]) ∧ Fr No w w')

set_option maxRecDepth 100000 in
set_option maxHeartbeats 4000000 in
theorem cshow_any (l : List Ins) (v : Value) (maps : Int) (w : World) (hv : InsAt w v l) (hok : ∀ i ∈ l, i.ok) (hl : l.length ≤ 100000) (hT : LT w) : Calls Tryz.prog 11 #[v, .int .i64 maps] w (CShowTo l maps w) := by
  have HB := Lib.hid (blocks_any l v maps w hv hok hl)
  obtain ⟨a0, c0, rfl⟩ := hv.form
  unfold CShowTo
  unfold BlocksTo at HB
  obtain ⟨q2, hq2⟩ : ∃ q, (checkM l maps false).2 = q := ⟨_, rfl⟩
  rw [hq2] at HB ⊢
  by_cases hz : q2 = 0
  case neg =>
    have HZ := Lib.hid hz
    have e1 : (q2 != 0) = true := by simpa using hz
    have HB1 : Hid (Calls Tryz.prog 7 #[.slice a0 l.length c0, .int .i64 maps] w fun e w' => e = .returned (.tuple #[.slice none 0 0, .int .i64 q2]) ∧ Fr No w w') := (HB.out).mono fun e w' h => by
      rcases h with ⟨-, h2⟩ | ⟨h1, -⟩
      · exact h2
      · exact absurd h1 hz
    clear HB hv hok hl hq2 hz hT
    go_enter Tryz.func11, Tryz.ntmps11
    go_wp2_with (go_at_call 7; (with_reducible refine (HB1.out).mono ?_); rintro e w1 ⟨rfl, hf1⟩)
    go_ret2
    exact .inl ⟨HZ.out, rfl, hf1⟩
  subst hz
  have HG : Hid (Graph (blocksM l)) := (whole hq2).graph
  have HSM : Hid (Small (blocksM l)) := (whole hq2).small
  have HT := Lib.hid hT
  have HB1 : Hid (Calls Tryz.prog 7 #[.slice a0 l.length c0, .int .i64 maps] w fun e w' => ∃ g c, e = .returned (.tuple #[.slice (some ⟨g, 0, none⟩) (blocksM l).length c, .int .i64 0]) ∧ BlksAt w' (.slice (some ⟨g, 0, none⟩) (blocksM l).length c) (blocksM l) ∧ Fr No w w') := (HB.out).mono fun e w' h => by
    rcases h with ⟨h1, -⟩ | ⟨-, bv, h2, h3, h4⟩
    · exact absurd rfl h1
    · obtain ⟨g, c, rfl⟩ := h3.form
      exact ⟨g, c, h2, h3, h4⟩
  generalize blocksM l = bs at *
  obtain ⟨N, hN⟩ : ∃ N, bs.length = N := ⟨_, rfl⟩
  have HN := Lib.hid hN
  have HNR : Hid (∀ g c W, BlksAt W (.slice (some ⟨g, 0, none⟩) N c) bs → Calls Tryz.prog 30 #[.slice (some ⟨g, 0, none⟩) N c] W fun e w' => ∃ (d : Nat → Int) (g cap : Nat), e = .returned (.slice (some ⟨g, 0, none⟩) N cap) ∧ Doms (nxM bs) N d ∧ ZF w' g N d ∧ Fr No W w') := fun g c W h => by
    have h2 := near_of bs _ W h HG.out
    unfold NearTo at h2
    rw [hN] at h2
    exact h2
  have HWY : Hid (∀ g c gd cd d W, BlksAt W (.slice (some ⟨g, 0, none⟩) N c) bs → ZF W gd N d → Doms (nxM bs) N d → Calls Tryz.prog 31 #[.slice (some ⟨g, 0, none⟩) N c, .slice (some ⟨gd, 0, none⟩) N cd] W fun e w' => ∃ a c, e = .returned (.slice a (waysM bs d).length c) ∧ w'.ownsRow W.heap.size 45 2 (.slice a (waysM bs d).length c) (waysM bs d).length (pflat (waysM bs d)) ∧ Fr No W w') := fun g c gd cd d W h1 h2 h3 => by
    rw [← hN] at h2 h3
    have h4 := ways_of bs _ d gd cd W h1 HG.out h2 h3
    rw [hN] at h4
    refine h4.mono fun e w' h => ?_
    obtain ⟨v, h5, h6⟩ := h
    obtain ⟨a, c, rfl⟩ := ownsRow_any h6.own
    exact ⟨a, c, h5, h6.own, h6.fr⟩
  have hN64 : N ≤ 64 := by rw [← hN]; exact HSM.out.len
  rw [hN] at HB1 ⊢
  clear HB hv hok hl hq2 hN hT
  go_enter Tryz.func11, Tryz.ntmps11
  go_wp2_with (first
    | (go_at_call 7; (with_reducible refine (HB1.out).mono ?_); rintro e w1 ⟨g1, c1, rfl, hb1, hf1⟩)
    | (go_at_call 30; (with_reducible refine (HNR.out _ _ _ hb1).mono ?_); rintro e W0 ⟨d, gd, cd, rfl, hd1, hd2, hf2⟩; have HBL := Lib.hid (hb1.fr hf2); have HF0 := Lib.hid (hf1.trans hf2); have HDM := Lib.hid hd1; have HDZ := Lib.hid hd2; clear hd1 hd2 hf2))
  clear hb1 hf1 HB1 HNR
  have HUB : Hid (∀ i, i ≤ N → (showUp bs d i).length ≤ 101 * i) := by
    intro i
    induction i with
    | zero => intro _; simp [showUp]
    | succ i ih =>
      intro hi
      have hb : bs[i]? = some (bs[i]'(by rw [HN.out]; exact hi)) := List.getElem?_eq_getElem _
      have h1 := HSM.out.blk i _ hb
      have h2 := HDM.out.val (v := i) (by omega)
      rw [showUp_succ, List.length_append, List.getD_eq_getElem?_getD, hb]
      have h3 := (blk_room i (bs[i]'(by rw [HN.out]; exact hi)) (d i) (by omega) (by omega) (by omega) (by omega) h1.2.2.1 (fun k hk => by have := h1.2.2.2 k hk; omega)).2.1
      have h4 := ih (by omega)
      simp only [Option.getD_some]
      omega
  go_loopw [9, 27] (fun v ix wr => ∃ i : Nat, ix = .int .i64 i ∧ i ≤ N ∧ v = .string (bA (showUp bs d i)) ∧ Hid (Fr No W0 wr)) (fun _ ix _ => N - (intOf ix).toNat)
  case atStart => exact ⟨0, rfl, Nat.zero_le _, rfl, Fr.refl _ _⟩
  case round =>
    obtain ⟨i, rfl, hi, rfl, HF⟩ := hrel
    by_cases hlt : i < N
    · obtain ⟨b, hb⟩ : ∃ b, bs[i]? = some b := ⟨bs[i]'(by rw [HN.out]; exact hlt), List.getElem?_eq_getElem _⟩
      obtain ⟨gg, cc, hgg, hbk⟩ := HBL.out
      injection hgg with hg1 hg2 hg3
      clear hg2
      injection hg1 with hg1
      injection hg1 with hg1 _ _
      subst hg1 hg3
      obtain ⟨m0, m1, nv, m2, m3⟩ := (hbk i b hb).fr HF.out
      obtain ⟨an, cn, rfl⟩ := m3.form
      have d0 := ((HDZ.out.fr HF.out) i hlt).1
      have r1 : (i : Int) < (N : Int) := by omega
      have r0 : (0 : Int) ≤ (i : Int) := by omega
      have HSB := Lib.hid (HSM.out.blk i b hb)
      have HNV := Lib.hid m3
      have HDV := Lib.hid (HDM.out.val hlt)
      have HSU := Lib.hid (showUp_succ bs d i)
      rw [show bs.getD i ⟨0, 0, []⟩ = b from by rw [List.getD_eq_getElem?_getD, hb]; rfl] at HSU
      have HIN := Lib.hid hlt
      have HUI := Lib.hid (HUB.out i hi)
      clear hb hbk m3 hlt
      go_upto_region 9 with fail
      have HF1 : Hid (Fr No wr (wr.alloc (.cells #[.int .i64 (b.fr : Int), .int .i64 (b.to : Int), .slice an b.next.length cn] 48))) := (Fr.refl _ _).alloc _
      have HXC := Lib.hid (CellsAt.new wr [.int .i64 (b.fr : Int), .int .i64 (b.to : Int), .slice an b.next.length cn] 48)
      have d1 := HF1.out.cell d0 id
      generalize wr.alloc (.cells #[.int .i64 (b.fr : Int), .int .i64 (b.to : Int), .slice an b.next.length cn] 48) = W1 at *
      generalize wr.heap.size = bx at *
      have c0 : W1.cell? ⟨bx, 0, none⟩ = some (.int .i64 (b.fr : Int)) := HXC.out 0 _ rfl
      have c1' : W1.cell? ⟨bx, 1, none⟩ = some (.int .i64 (b.to : Int)) := HXC.out 1 _ rfl
      have c2 : W1.cell? ⟨bx, 2, none⟩ = some (.slice an b.next.length cn) := HXC.out 2 _ rfl
      have HL : Hid (∀ W t, Fr No (W1.alloc (.cells #[.iface 9 (.string ⟨#[98, 108, 111, 99, 107]⟩), .iface 3 (.int .i64 (i : Int)), .iface 3 (.int .i64 (b.fr : Int)), .iface 3 (.int .i64 (b.to : Int)), .iface 9 (.string ⟨#[110, 101, 97, 114]⟩), .iface 3 (.int .i64 (d i)), .iface 9 (.string ⟨#[110, 101, 120, 116]⟩), .iface 31 (.slice an b.next.length cn)] t)) W → Calls Tryz.prog 32 #[.slice (some ⟨W1.heap.size, 0, none⟩) 8 8] W fun e w' => e = .returned (.string (bA (lineT (blkArgs i b (d i))))) ∧ Fr No W1 w') := fun W t hf => by
        have h1 := HSB.out
        have h2 := HDV.out
        have h3 := HIN.out
        have h4 : N ≤ 64 := hN64
        have h5 := blk_room i b (d i) (by omega) (by omega) (by omega) (by omega) h1.2.2.1 (fun k hk => by have := h1.2.2.2 k hk; omega)
        refine (line_any (blkArgs i b (d i)) _ _ ((args8 t (HNV.out.fr HF1.out) (by omega) (by omega) (by omega) (by omega) (fun k hk => by have := h1.2.2.2 k hk; omega)).fr hf) (by simp [blkArgs]) (by omega) (by omega) (HT.out.fr (((HF0.out.trans HF.out).trans HF1.out).trans (((Fr.refl _ _).alloc _).trans hf)))).mono ?_
        rintro e w' ⟨h6, h7⟩
        exact ⟨h6, ((Fr.refl No W1).alloc _).trans (hf.trans h7)⟩
      have ad : ∀ W, (Op.stringOp .add (bA (showUp bs d i)) (bA (lineT (blkArgs i b (d i))))).run Tryz.prog W = .ok (.string (bA (showUp bs d (i + 1)))) W := fun W => by
        rw [HSU.out]
        have h1 := HSB.out
        have h2 := HDV.out
        have h3 := HIN.out
        have h4 : N ≤ 64 := hN64
        have h5 := blk_room i b (d i) (by omega) (by omega) (by omega) (by omega) h1.2.2.1 (fun k hk => by have := h1.2.2.2 k hk; omega)
        exact add_str _ _ (by have := HUI.out; omega) (by omega) W
      generalize d i = dd at *
      generalize lineT (blkArgs i b dd) = LT1 at *
      generalize bA (showUp bs d i) = S0 at *
      generalize hS1 : bA (showUp bs d (i + 1)) = S1 at *
      have HS1E := Lib.hid hS1
      clear hS1
      generalize b.fr = bf at *
      generalize b.to = bt at *
      clear HUI HSU HSB HDV m0 m1 m2 d0
      have HK : Hid (∀ W, Hid (Fr No W1 W) → (W.cell? ⟨bx, 0, none⟩ = some (.int .i64 (bf : Int)) ∧ W.cell? ⟨bx, 1, none⟩ = some (.int .i64 (bt : Int)) ∧ W.cell? ⟨bx, 2, none⟩ = some (.slice an b.next.length cn) ∧ W.cell? ⟨gd, i, none⟩ = some (.int .i64 dd) ∧ Hid (Fr No W1 W))) := fun W h => ⟨h.out.cell c0 id, h.out.cell c1' id, h.out.cell c2 id, h.out.cell d1 id, h⟩
      have HFX : Hid (Fr No W1 W1.drew) := (Fr.refl _ _).drew
      have H0 := HK.out _ HFX
      go_region_held3 (fun W => W.cell? ⟨bx, 0, none⟩ = some (.int .i64 (bf : Int)) ∧ W.cell? ⟨bx, 1, none⟩ = some (.int .i64 (bt : Int)) ∧ W.cell? ⟨bx, 2, none⟩ = some (.slice an b.next.length cn) ∧ W.cell? ⟨gd, i, none⟩ = some (.int .i64 dd) ∧ Hid (Fr No W1 W)) (first | assumption | exact HK.out _ (by assumption) | exact HK.out _ (Lib.hid (((Fr.refl No W1).alloc _).drew))) (first | (go_at_call 32; refine (HL.out _ _ ((Fr.refl _ _).drew)).mono ?_; rintro e w5 ⟨rfl, hf5⟩; have HF5 : Hid (Fr No W1 w5) := Lib.hid hf5))
      have HFE : Hid (Fr No W0 w5) := (HF.out.trans HF1.out).trans HF5.out
      clear c0 c1' c2 d1 ad
      go_wp2_with fail
      go_roundw
      case rel => exact ⟨i + 1, by go_num, by have := HIN.out; omega, by rw [HS1E.out], HFE.out⟩
      case measure => (have := HIN.out; simp [intOf] <;> omega)
    · obtain rfl : i = N := by omega
      have HWA : Hid (Calls Tryz.prog 31 #[.slice (some ⟨g1, 0, none⟩) i c1, .slice (some ⟨gd, 0, none⟩) i cd] wr fun e w' => ∃ a c, e = .returned (.slice a (waysM bs d).length c) ∧ w'.ownsRow wr.heap.size 45 2 (.slice a (waysM bs d).length c) (waysM bs d).length (pflat (waysM bs d)) ∧ Fr No wr w') := HWY.out _ _ _ _ d _ (HBL.out.fr HF.out) (HDZ.out.fr HF.out) HDM.out
      have HUI := Lib.hid (HUB.out i (Nat.le_refl _))
      have HWM : Hid (∀ p ∈ waysM bs d, p.1 ≤ 1000 ∧ p.2 ≤ 1000) := fun p hp => by
        obtain ⟨h1, h2, -⟩ := waysM_mem hp
        have h3 := HG.out.nx _ _ h2
        rw [HN.out] at h1 h3
        omega
      have HWL : Hid ((waysM bs d).length ≤ 200) := by
        have h := waysUp_len HG.out.n2 (bs := bs) (d := d) bs.length
        rw [HN.out] at h
        unfold waysM
        rw [HN.out]
        exact Lib.hid (by omega)
      have HSB : Hid (showB bs d = showUp bs d i ++ loopsT (waysM bs d)) := by unfold showB; rw [HN.out]; exact Lib.hid rfl
      clear hlt
      generalize waysM bs d = WL at *
      obtain ⟨m, hm⟩ : ∃ m, WL.length = m := ⟨_, rfl⟩
      rw [hm] at HWA HWL
      have HM := Lib.hid hm
      have hm2 : m ≤ 200 := HWL.out
      clear hm
      generalize showUp bs d i = SU at *
      go_wp2_with (go_at_call 31; (with_reducible refine (HWA.out).mono ?_); rintro e w3 ⟨aw, cw, rfl, ho3, hf3⟩; have HO := Lib.hid ho3; have HF3 := Lib.hid (HF.out.trans hf3); clear ho3 hf3)
      have HLB : Hid (∀ j, j ≤ m → (loopsT (WL.take j)).length ≤ 41 * j) := by
        intro j
        induction j with
        | zero => intro _; simp [loopsT]
        | succ j ih =>
          intro hj
          have hp : WL[j]? = some (WL[j]'(by rw [HM.out]; exact hj)) := List.getElem?_eq_getElem _
          have h1 := HWM.out _ (List.getElem_mem (show j < WL.length by rw [HM.out]; exact hj))
          have h2 := (loop_room (WL[j]'(by rw [HM.out]; exact hj)) (by omega) (by omega)).2.1
          rw [List.take_add_one, hp]
          simp only [Option.toList_some]
          rw [loopsT_snoc, List.length_append]
          have := ih (by omega)
          omega
      go_loopw [9, 60] (fun v ix wr => ∃ j : Nat, ix = .int .i64 j ∧ j ≤ m ∧ v = .string (bA (SU ++ loopsT (WL.take j))) ∧ Hid (Fr No w3 wr)) (fun _ ix _ => m - (intOf ix).toNat)
      case atStart => exact ⟨0, rfl, Nat.zero_le _, by simp [loopsT], Fr.refl _ _⟩
      case round =>
        obtain ⟨j, rfl, hj, rfl, HFJ⟩ := hrel
        by_cases hlt : j < m
        · obtain ⟨p, hp⟩ : ∃ p, WL[j]? = some p := ⟨WL[j]'(by rw [HM.out]; exact hlt), List.getElem?_eq_getElem _⟩
          have HPB := Lib.hid (HWM.out p (List.mem_of_getElem? hp))
          obtain ⟨gw, cw2, hgw⟩ := ownsRow_form HO.out (by omega)
          injection hgw with hg1 hg2 hg3
          clear hg2
          subst hg1 hg3
          obtain ⟨q1, q2⟩ := pflat_get hp
          have hco := ownsRow_cells HO.out
          have k1 : wr.cell? ⟨gw, j * 2, none⟩ = some (.int .i64 (p.1 : Int)) := HFJ.out.cell (by have := hco.1 _ _ q1; rwa [Nat.zero_add] at this) id
          have k2 : wr.cell? ⟨gw, j * 2 + 1, none⟩ = some (.int .i64 (p.2 : Int)) := HFJ.out.cell (by have := hco.1 _ _ q2; rwa [Nat.zero_add] at this) id
          have HTK : Hid (SU ++ loopsT (WL.take (j + 1)) = (SU ++ loopsT (WL.take j)) ++ lineT (loopArgs p)) := by rw [List.take_add_one, hp]; simp only [Option.toList_some]; rw [loopsT_snoc, List.append_assoc]; exact Lib.hid rfl
          have HLJ := Lib.hid (HLB.out j hj)
          have HJM := Lib.hid hlt
          have HLR := Lib.hid (loop_room p (by have := HPB.out; omega) (by have := HPB.out; omega))
          have HL : Hid (∀ W (t : TypeId), Fr No wr W → Calls Tryz.prog 32 #[.slice (some ⟨W.heap.size, 0, none⟩) 3 3] (W.alloc (.cells #[.iface 9 (.string ⟨#[108, 111, 111, 112]⟩), .iface 3 (.int .i64 (p.1 : Int)), .iface 3 (.int .i64 (p.2 : Int))] t)) fun e w' => e = .returned (.string (bA (lineT (loopArgs p)))) ∧ Fr No W w') := fun W t hf => by
            have h1 := HPB.out
            have h5 := HLR.out
            refine (line_any (loopArgs p) _ _ (args3 t (by omega) (by omega)) (by simp [loopArgs]) (by omega) (by omega) (HT.out.fr (((((HF0.out.trans HF3.out).trans HFJ.out).trans hf)).alloc _))).mono ?_
            rintro e w' ⟨h6, h7⟩
            exact ⟨h6, ((Fr.refl No W).alloc _).trans h7⟩
          have ad : ∀ W, (Op.stringOp .add (bA (SU ++ loopsT (WL.take j))) (bA (lineT (loopArgs p)))).run Tryz.prog W = .ok (.string (bA (SU ++ loopsT (WL.take (j + 1))))) W := fun W => by
            rw [HTK.out]
            exact add_str _ _ (by rw [List.length_append]; have := HUI.out; have := HLJ.out; omega) (by have := HLR.out; omega) W
          generalize hS1 : bA (SU ++ loopsT (WL.take (j + 1))) = S1 at *
          have HS1E := Lib.hid hS1
          generalize bA (SU ++ loopsT (WL.take j)) = S0 at *
          generalize lineT (loopArgs p) = LT1 at *
          generalize p.1 = pa at *
          generalize p.2 = pb at *
          clear hS1 q1 q2 hco hp hlt HTK HLJ HLR HPB
          go_upto_region 14 with fail
          have HFW : Hid (Fr No wr (wr.alloc (.cells #[.int .i64 (pa : Int), .int .i64 (pb : Int)] 45))) := (Fr.refl _ _).alloc _
          have HXC := Lib.hid (CellsAt.new wr [.int .i64 (pa : Int), .int .i64 (pb : Int)] 45)
          generalize wr.alloc (.cells #[.int .i64 (pa : Int), .int .i64 (pb : Int)] 45) = W1 at *
          generalize wr.heap.size = bx at *
          have c0' : W1.cell? ⟨bx, 0, none⟩ = some (.int .i64 (pa : Int)) := HXC.out 0 _ rfl
          have c1' : W1.cell? ⟨bx, 1, none⟩ = some (.int .i64 (pb : Int)) := HXC.out 1 _ rfl
          have HL2 : Hid (Calls Tryz.prog 32 #[.slice (some ⟨W1.heap.size, 0, none⟩) 3 3] (W1.alloc (.cells #[.iface 9 (.string ⟨#[108, 111, 111, 112]⟩), .iface 3 (.int .i64 (pa : Int)), .iface 3 (.int .i64 (pb : Int))] 20)) fun e w' => e = .returned (.string (bA LT1)) ∧ Fr No W1 w') := HL.out W1 _ HFW.out
          clear HL k1 k2
          go_wp2_with (go_at_call 32; (with_reducible refine (HL2.out).mono ?_); rintro e w5 ⟨rfl, hf5⟩; have HF5 := Lib.hid ((HFJ.out.trans HFW.out).trans hf5))
          go_roundw
          case rel => exact ⟨j + 1, by go_num, by have := HJM.out; omega, by rw [HS1E.out], HF5.out⟩
          case measure => (have := HJM.out; simp [intOf] <;> omega)
        · obtain rfl : j = m := by omega
          have e1 : WL.take j = WL := by rw [← HM.out]; exact List.take_length
          have HFN : Hid (Fr No w wr) := (HF0.out.trans HF3.out).trans HFJ.out
          rw [e1]
          clear hlt e1
          go_wp2_with fail
          go_ret2
          refine .inr ⟨by first | rfl | trivial, d, HDM.out, ?_, HFN.out⟩
          rw [HSB.out]
          rfl
end Go.Proofs.YtakcdecljfmckaaGreatDoor

namespace Go.Proofs.YtakcdecljfmckaaGreatDoor
open Go.RowKit

theorem joinW_cons : ∀ (a : List UInt8) (ws : List (List UInt8)), joinW (a :: ws) = a ++ ws.flatMap (fun w => 32 :: w)
  | a, [] => by simp [joinW]
  | a, b :: ws => by
    show a ++ 32 :: joinW (b :: ws) = _
    rw [joinW_cons b ws]
    simp
def headT (i : Nat) (b : Blk) (d : Int) : List UInt8 := [98, 108, 111, 99, 107, 32] ++ itoaN i ++ [32] ++ itoaN b.fr ++ [32] ++ itoaN b.to ++ [32, 110, 101, 97, 114, 32] ++ itoaN d ++ [32, 110, 101, 120, 116]
def nextT (L : List Nat) : List UInt8 := L.flatMap fun k : Nat => 32 :: itoaN (k : Int)
theorem nextT_snoc (L : List Nat) (k : Nat) : nextT (L ++ [k]) = nextT L ++ (32 :: itoaN (k : Int)) := by simp [nextT]
theorem blk_line (i : Nat) (b : Blk) (d : Int) : lineT (blkArgs i b d) = headT i b d ++ nextT b.next ++ [10] := by
  unfold lineT lineWs blkArgs headT nextT
  simp only [List.flatMap_cons, List.flatMap_nil, LArg.words, List.cons_append, List.nil_append, List.append_nil]
  rw [joinW_cons]
  simp [List.flatMap_cons, List.flatMap_map]
theorem loop_line (p : Nat × Nat) : lineT (loopArgs p) = [108, 111, 111, 112, 32] ++ itoaN p.1 ++ [32] ++ itoaN p.2 ++ [10] := by
  unfold lineT lineWs loopArgs
  simp only [List.flatMap_cons, List.flatMap_nil, LArg.words, List.cons_append, List.nil_append, List.append_nil]
  rw [joinW_cons]
  simp
theorem itoaN_nat (n : Nat) (h : n < 1000000) : itoaN (n : Int) = Lib.decDigits n := by
  unfold itoaN
  rw [if_neg (by omega), Int.toNat_natCast, decN_dec (by omega)]
theorem itoaN_neg (m : Nat) (h0 : 0 < m) (h : m < 1000000) : itoaN (-(m : Int)) = 45 :: Lib.decDigits m := by
  unfold itoaN
  rw [if_pos (by omega), Int.natAbs_neg, Int.natAbs_natCast, decN_dec (by omega)]

set_option maxRecDepth 100000 in
set_option maxHeartbeats 4000000 in
theorem decimal_nat (n : Nat) : n < 1000000 → ∀ w : World, Calls Tryz.prog 36 #[.int .i64 (n : Int)] w fun e w' => e = .returned (.string (bA (Lib.decDigits n))) ∧ w = w' := by
  induction n using Nat.strongRecOn with
  | ind n ih =>
    intro hn w
    by_cases h10 : n < 10
    · clear ih hn
      rcases (by omega : n = 0 ∨ n = 1 ∨ n = 2 ∨ n = 3 ∨ n = 4 ∨ n = 5 ∨ n = 6 ∨ n = 7 ∨ n = 8 ∨ n = 9) with rfl | rfl | rfl | rfl | rfl | rfl | rfl | rfl | rfl | rfl
      all_goals rw [Lib.decDigits_one (by decide)]
      all_goals clear h10
      all_goals go_enter Tryz.func36, Tryz.ntmps36
      all_goals go_wp2_with fail
      all_goals go_ret
      all_goals exact ⟨by kernel_rfl, rfl⟩
    · have e := Lib.decDigits.eq_1 n
      rw [dif_neg h10] at e
      rw [e]
      have HA : Hid (∀ W, Calls Tryz.prog 36 #[.int .i64 ((n / 10 : Nat) : Int)] W fun e w' => e = .returned (.string (bA (Lib.decDigits (n / 10)))) ∧ W = w') := fun W => ih (n / 10) (by omega) (by omega) W
      have HB : Hid (∀ W, Calls Tryz.prog 36 #[.int .i64 ((n % 10 : Nat) : Int)] W fun e w' => e = .returned (.string (bA (Lib.decDigits (n % 10)))) ∧ W = w') := fun W => ih (n % 10) (by omega) (by omega) W
      have q1 : (n : Int).tdiv 10 = ((n / 10 : Nat) : Int) := by rw [Int.tdiv_eq_ediv_of_nonneg (by omega)]; omega
      have q2 : (n : Int).tmod 10 = ((n % 10 : Nat) : Int) := by rw [Int.tmod_eq_emod_of_nonneg (by omega)]; omega
      have q3 : (n : Int) / 10 = ((n / 10 : Nat) : Int) := by omega
      have q4 : (n : Int) % 10 = ((n % 10 : Nat) : Int) := by omega
      have q5 : wrap64 ((n / 10 : Nat) : Int) = ((n / 10 : Nat) : Int) := IntWalk.wrap64_in _ (by omega)
      have q6 : wrap64 ((n % 10 : Nat) : Int) = ((n % 10 : Nat) : Int) := IntWalk.wrap64_in _ (by omega)
      have l1 : (bA (Lib.decDigits (n / 10))).size ≤ 1000 := by
        rw [bA_size, ← itoaN_nat _ (by omega)]
        have := itoa8 (z := ((n / 10 : Nat) : Int)) (by omega) (by omega)
        omega
      have l2 : (bA (Lib.decDigits (n % 10))).size ≤ 1000 := by
        rw [bA_size, ← itoaN_nat _ (by omega)]
        have := itoa8 (z := ((n % 10 : Nat) : Int)) (by omega) (by omega)
        omega
      have ad := addB (bA (Lib.decDigits (n / 10))) (bA (Lib.decDigits (n % 10))) (by omega) (by omega)
      have HE : Hid (bA (Lib.decDigits (n / 10)) ++ bA (Lib.decDigits (n % 10)) = bA (Lib.decDigits (n / 10) ++ [UInt8.ofNat (48 + n % 10)])) := by
        rw [bA_app, Lib.decDigits_one (i := n % 10) (by omega)]
        exact Lib.hid rfl
      have g0 : ¬ (n : Int) < 0 := by omega
      have g1 : ¬ (n : Int) < 10 := by omega
      obtain ⟨D, hD⟩ : ∃ D, bA (Lib.decDigits (n / 10) ++ [UInt8.ofNat (48 + n % 10)]) = D := ⟨_, rfl⟩
      rw [hD] at HE ⊢
      clear hD e ih l1 l2 hn h10
      generalize bA (Lib.decDigits (n / 10)) = A at *
      generalize bA (Lib.decDigits (n % 10)) = B at *
      generalize n / 10 = n1 at *
      generalize n % 10 = n2 at *
      go_enter Tryz.func36, Tryz.ntmps36
      go_wp2_with (first
        | (go_at_call 36; (with_reducible refine (HA.out _).mono ?_); rintro e w9 ⟨rfl, rfl⟩)
        | (go_at_call 36; (with_reducible refine (HB.out _).mono ?_); rintro e w9 ⟨rfl, rfl⟩))
      go_ret
      exact ⟨by rw [← HE.out]; rfl, rfl⟩

set_option maxHeartbeats 400000 in
theorem decimal_any (z : Int) (h1 : -1000000 < z) (h2 : z < 1000000) (w : World) : Calls Tryz.prog 36 #[.int .i64 z] w fun e w' => e = .returned (.string (bA (itoaN z))) ∧ w = w' := by
  by_cases h0 : z < 0
  · obtain ⟨m, rfl⟩ : ∃ m : Nat, z = -(m : Int) := ⟨z.natAbs, by omega⟩
    rw [itoaN_neg m (by omega) (by omega)]
    have HD : Hid (∀ W, Calls Tryz.prog 36 #[.int .i64 (m : Int)] W fun e w' => e = .returned (.string (bA (Lib.decDigits m))) ∧ W = w') := fun W => decimal_nat m (by omega) W
    have q1 : wrap64 (- (-(m : Int))) = (m : Int) := by rw [IntWalk.wrap64_in _ (by omega)]; omega
    have q2 : - (-(m : Int)) = (m : Int) := by omega
    have l1 : (bA (Lib.decDigits m)).size ≤ 1000 := by
      rw [bA_size, ← itoaN_nat _ (by omega)]
      have := itoa8 (z := (m : Int)) (by omega) (by omega)
      omega
    have ad : ∀ W, (Op.stringOp .add ⟨#[45]⟩ (bA (Lib.decDigits m))).run Tryz.prog W = .ok (.string (bA (45 :: Lib.decDigits m))) W := fun W => by
      have h := addB (bA [45]) (bA (Lib.decDigits m)) (by decide) (by omega) W
      rw [bA_app] at h
      exact h
    generalize bA (45 :: Lib.decDigits m) = R at *
    generalize bA (Lib.decDigits m) = D at *
    have HM : Hid (0 < m ∧ m < 1000000) := Lib.hid (by omega)
    clear l1
    go_enter Tryz.func36, Tryz.ntmps36
    go_wp2_with (go_at_call 36; (with_reducible refine (HD.out _).mono ?_); rintro e w9 ⟨rfl, rfl⟩)
    go_ret
    exact ⟨rfl, rfl⟩
  · obtain ⟨n, rfl⟩ : ∃ n : Nat, z = (n : Int) := ⟨z.toNat, by omega⟩
    rw [itoaN_nat n (by omega)]
    exact decimal_nat n (by omega) w
end Go.Proofs.YtakcdecljfmckaaGreatDoor
