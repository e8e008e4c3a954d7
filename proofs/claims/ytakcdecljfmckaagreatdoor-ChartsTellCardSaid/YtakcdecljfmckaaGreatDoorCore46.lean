/- firewalllaw31.blocks, of blocks that are the same; the chapter's program, plain. firewalllaw28.first, and what is plain of CorpusTexts. firewalllaw31.charted. -/
import Derived.Test.YtakcdecljfmckaaGreatDoorCore36
import Derived.Test.YtakcdecljfmckaaGreatDoorCore44
import Derived.Test.YtakcdecljfmckaaGreatDoorCore45
import Derived.Test.YtakcdecljfmckaaGreatDoorCore35
import Derived.Test.YtakcdecljfmckaaGreatDoorCore8
set_option linter.all false
set_option linter.unusedVariables false
set_option linter.unusedSimpArgs false
namespace Go.Proofs.YtakcdecljfmckaaGreatDoor
open Go.RowKit

set_option maxRecDepth 100000 in
set_option maxHeartbeats 4000000 in
theorem sames_any (bs : List Blk) (va vb : Value) (w : World) (ha : BlksAt w va bs) (hb : BlksAt w vb bs) (hn : bs.length ≤ 1000) (hn2 : ∀ (k : Nat) (b : Blk), bs[k]? = some b → b.next.length ≤ 1000) :
    Calls Tryz.prog 12 #[va, vb] w fun e w' => e = .returned (.bool true) ∧ Fr No w w' := by
  obtain ⟨ga, ca, rfl, ha⟩ := ha
  obtain ⟨gb, cb, rfl, hb⟩ := hb
  have HA := Lib.hid ha
  have HB := Lib.hid hb
  have HN2 := Lib.hid hn2
  obtain ⟨N, hN⟩ : ∃ N, bs.length = N := ⟨_, rfl⟩
  have HN := Lib.hid hN
  rw [hN] at hn ⊢
  clear ha hb hn2 hN
  go_enter Tryz.func12, Tryz.ntmps12
  go_wp2_with fail
  go_loopw [5] (fun ix wr => ∃ i : Nat, ix = .int .i64 i ∧ i ≤ N ∧ Hid (Fr No w wr)) (fun ix _ => N - (intOf ix).toNat)
  case atStart => exact ⟨0, rfl, Nat.zero_le _, Fr.refl _ _⟩
  case round =>
    obtain ⟨i, rfl, hi, HF⟩ := hrel
    by_cases hlt : i < N
    · obtain ⟨b, hbi⟩ : ∃ b, bs[i]? = some b := ⟨bs[i]'(by rw [HN.out]; exact hlt), List.getElem?_eq_getElem _⟩
      obtain ⟨a0, a1, na, a2, a3⟩ := (HA.out i b hbi).fr HF.out
      obtain ⟨b0, b1, nb, b2, b3⟩ := (HB.out i b hbi).fr HF.out
      have hnl := HN2.out i b hbi
      obtain ⟨aa, ac, rfl⟩ := a3.form
      obtain ⟨ba, bc, rfl⟩ := b3.form
      have HNA := Lib.hid a3
      have HNB := Lib.hid b3
      have HCA : Hid (∀ W, Fr No wr W → W.cell? ⟨ga, i * 3 + 2, none⟩ = some (.slice aa b.next.length ac) ∧ W.cell? ⟨gb, i * 3 + 2, none⟩ = some (.slice ba b.next.length bc)) := fun W hf => ⟨hf.cell a2 id, hf.cell b2 id⟩
      have r1 : (i : Int) < (N : Int) := by omega
      have r0 : (0 : Int) ≤ (i : Int) := by omega
      have q0 : ((b.fr : Int) != (b.fr : Int)) = false := by simp
      have q1 : ((b.to : Int) != (b.to : Int)) = false := by simp
      have q2 : ((b.next.length : Int) != (b.next.length : Int)) = false := by simp
      have HIN := Lib.hid hlt
      clear hbi a3 b3 hlt
      obtain ⟨L, hL⟩ : ∃ L, b.next = L := ⟨_, rfl⟩
      rw [hL] at HNA HNB a2 b2 hnl q2 HCA
      obtain ⟨m, hm⟩ : ∃ m, L.length = m := ⟨_, rfl⟩
      rw [hm] at a2 b2 hnl q2 HCA
      have HM := Lib.hid hm
      clear hL hm
      generalize b.fr = bf at *
      generalize b.to = bt at *
      go_upto_region 6 with fail
      go_quiet (fail)
      have HFD : Hid (Fr No wr (wr.drewN nq)) := (Fr.refl _ _).drewN _
      generalize wr.drewN nq = W1 at *
      obtain ⟨z1, z2⟩ := HCA.out W1 HFD.out
      clear a0 a1 a2 b0 b1 b2 q0 q1 q2
      go_wp2_with fail
      clear z1 z2
      go_loopw [6] (fun jx wr' => ∃ j : Nat, jx = .int .i64 j ∧ j ≤ m ∧ Hid (Fr No wr wr')) (fun jx _ => m - (intOf jx).toNat)
      case atStart => exact ⟨0, rfl, Nat.zero_le _, HFD.out⟩
      case round =>
        obtain ⟨j, rfl, hj, HFJ⟩ := hrel
        obtain ⟨z1, z2⟩ := HCA.out _ HFJ.out
        by_cases hlt : j < m
        · obtain ⟨x, hx⟩ : ∃ x, L[j]? = some x := ⟨L[j]'(by rw [HM.out]; exact hlt), List.getElem?_eq_getElem _⟩
          have hna := HNA.out
          have hnb := HNB.out
          rcases hna with ⟨h1, _⟩ | ⟨g2, c2, h2, hc2⟩
          · rw [h1] at hx; simp at hx
          rcases hnb with ⟨h1, _⟩ | ⟨g3, c3, h3, hc3⟩
          · rw [h1] at hx; simp at hx
          injection h2 with h2 h5 h4
          injection h3 with h3 h6 h7
          clear h5 h6
          subst h2 h4 h3 h7
          have k0 := HFJ.out.cell (i64_cell hc2 hx) id
          have k1 := HFJ.out.cell (i64_cell hc3 hx) id
          have q3 : ((x : Int) != (x : Int)) = false := by simp
          have s1 : (j : Int) < (m : Int) := by omega
          have s0 : (0 : Int) ≤ (j : Int) := by omega
          have HJM := Lib.hid hlt
          clear hx hc2 hc3 hlt
          go_upto_region 11 with fail
          go_quiet (fail)
          go_wp2_with fail
          go_roundw
          case rel => exact ⟨j + 1, by go_num, by have := HJM.out; omega, HFJ.out.drewN _⟩
          case measure => (have := HJM.out; simp [intOf] <;> omega)
        · obtain rfl : j = m := by omega
          have hin : i < N := HIN.out
          have HFF : Hid (Fr No w wr) := HF.out.trans HFJ.out
          clear hlt
          go_wp2_with fail
          go_roundw
          case rel => exact ⟨i + 1, by go_num, by omega, HFF.out⟩
          case measure => simp [intOf] <;> omega
    · obtain rfl : i = N := by omega
      go_wp2_with fail
      go_ret
      exact ⟨rfl, HF.out⟩

/-! ### the chapter's program -/
def sumP : List Ins := (readS (linesT cL1)).1
theorem sum_read : readS (linesT cL1) = (sumP, 0, 0) := by decide +kernel
def sumB : List Blk := [⟨0, 2, [1]⟩, ⟨2, 5, [2, 1]⟩, ⟨5, 6, []⟩]
theorem sum_check : checkM sumP 0 false = (0, 0) := by decide +kernel
theorem sum_blocks : blocksM sumP = sumB := by decide +kernel
theorem sum_len : sumP.length = 6 ∧ (linesT cL1).length ≤ 1000 := by decide +kernel
theorem sum_nx : nxM sumB 0 = [1] ∧ nxM sumB 1 = [2, 1] ∧ nxM sumB 2 = [] := ⟨rfl, rfl, rfl⟩
theorem sum_doms {d : Nat → Int} (h : Doms (nxM sumB) 3 d) : d 0 = -1 ∧ d 1 = 0 ∧ d 2 = 1 := by
  have h0 := h.root
  have h1 : d 1 = 0 := by
    obtain ⟨y, hy, hyN, hne⟩ := h.up 1 (by decide) (by decide)
    have : y ≠ 2 := by
      rintro rfl
      refine (h.cut 1 2 (by decide) (.one hy)).2.2 ?_
      exact .step (.start (by decide)) (show 1 ∈ nxM sumB 0 by rw [sum_nx.1]; decide) (by decide)
    have : y = 0 := by omega
    rw [hy, this]
    rfl
  have hc : Cuts (nxM sumB) 1 2 := by
    have key : ∀ v, LedTo (nxM sumB) (· = 1) v → v = 0 := by
      intro v hv
      induction hv with
      | start _ => rfl
      | step hu hv hw ih =>
        subst ih
        rw [sum_nx.1, List.mem_singleton] at hv
        exact absurd hv hw
    intro hl
    have := key 2 hl
    omega
  have h2 : d 2 = 1 := by
    obtain ⟨y, hy, hyN, hne⟩ := h.up 2 (by decide) (by decide)
    rcases (h.all 2 1 (by decide) (by decide) hc).split hy with h3 | h3
    · rw [hy, ← h3]; rfl
    · have h4 : y = 0 ∨ y = 1 := by omega
      rcases h4 with rfl | rfl
      · exact absurd h3.has (by omega)
      · exact hy
  exact ⟨h0, h1, h2⟩
theorem sum_ways {d : Nat → Int} (h : Doms (nxM sumB) 3 d) : waysM sumB d = [(1, 1)] := by
  obtain ⟨h0, h1, h2⟩ := sum_doms h
  have u1 : ¬ Up d 1 0 := by
    rintro (h3 | h3)
    · omega
    · exact absurd h3.has (by omega)
  have u2 : ¬ Up d 2 1 := by
    rintro (h3 | h3)
    · omega
    · rcases h3.split (show d 1 = ((0 : Nat) : Int) by rw [h1]; rfl) with h4 | h4
      · omega
      · exact absurd h4.has (by omega)
  have u3 : Up d 1 1 := .inl rfl
  unfold waysM
  show waysUp sumB d 3 = _
  rw [waysUp_succ, waysUp_succ, waysUp_succ, sum_nx.1, sum_nx.2.1, sum_nx.2.2]
  have e0 : waysUp sumB d 0 = [] := rfl
  have e1 := rowW_no (bs := sumB) (L := []) u1
  have e2 := rowW_no (bs := sumB) (L := []) u2
  have e3 := rowW_yes (bs := sumB) (L := [2]) u3
  have e4 : ∀ i, rowW sumB d i [] = [] := fun i => rfl
  simp only [List.nil_append, List.cons_append] at e1 e2 e3
  rw [e0, e1, e3, e2, e4, e4, e4]
  rfl
def sumText : List UInt8 := [98, 108, 111, 99, 107, 32, 48, 32, 48, 32, 50, 32, 110, 101, 97, 114, 32, 45, 49, 32, 110, 101, 120, 116, 32, 49, 10, 98, 108, 111, 99, 107, 32, 49, 32, 50, 32, 53, 32, 110, 101, 97, 114, 32, 48, 32, 110, 101, 120, 116, 32, 50, 32, 49, 10, 98, 108, 111, 99, 107, 32, 50, 32, 53, 32, 54, 32, 110, 101, 97, 114, 32, 49, 32, 110, 101, 120, 116, 10, 108, 111, 111, 112, 32, 49, 32, 49, 10]
theorem sum_text {d : Nat → Int} (h : Doms (nxM sumB) 3 d) : showB sumB d = sumText := by
  obtain ⟨h0, h1, h2⟩ := sum_doms h
  unfold showB
  rw [sum_ways h]
  show showUp sumB d 3 ++ _ = _
  have e0 : showUp sumB d 0 = [] := rfl
  rw [showUp_succ, showUp_succ, showUp_succ, h0, h1, h2, e0]
  decide +kernel
end Go.Proofs.YtakcdecljfmckaaGreatDoor

namespace Go.Proofs.YtakcdecljfmckaaGreatDoor
open Go.RowKit

theorem bA_same (C d : List UInt8) : ((bA C).toList == d) = (C == d) := by rw [show bA C = (⟨C.toArray⟩ : ByteArray) from rfl, Lib.toList_data]
/-- Each text is as Show has it. -/
theorem texts_show : (cTexts.all fun T => (readS T).2.1 == 0 && (readS T).2.2 == 0 && showL (readS T).1 == T && decide (T.length ≤ 1000)) = true := by decide +kernel
theorem texts_len : cTexts.length = 13 ∧ cNames.length = 13 := by decide +kernel
theorem names_unlike : (List.range 13).all (fun i => (List.range 13).all fun j => (cNames.getD i [] == cNames.getD j []) == (i == j)) = true := by decide +kernel
theorem text_at (k : Nat) (hk : k < 13) : ∃ N T p, cNames[k]? = some N ∧ cTexts[k]? = some T ∧ readS T = (p, 0, 0) ∧ showL p = T ∧ T.length ≤ 1000 ∧ (∀ i ∈ p, i.ok) ∧ p.length ≤ 64 ∧ N.length ≤ 100 := by
  obtain ⟨l1, l2⟩ := texts_len
  have h := texts_show
  rw [List.all_eq_true] at h
  have ht : cTexts[k]? = some cTexts[k] := List.getElem?_eq_getElem (by omega)
  have hn : cNames[k]? = some cNames[k] := List.getElem?_eq_getElem (by omega)
  have := h _ (List.mem_of_getElem? ht)
  simp only [Bool.and_eq_true, beq_iff_eq, decide_eq_true_eq] at this
  obtain ⟨⟨⟨h1, h2⟩, h3⟩, h4⟩ := this
  have hN : (cNames.all fun N => decide (N.length ≤ 100)) = true := by decide +kernel
  rw [List.all_eq_true] at hN
  have hN := of_decide_eq_true (hN _ (List.mem_of_getElem? hn))
  rcases readS_ok cTexts[k] (by omega) with ⟨l, e, hl, ho⟩ | ⟨a, b, e, ha, _⟩
  · rw [e] at h3
    exact ⟨_, _, l, hn, ht, e, h3, h4, ho, hl, hN⟩
  · rw [e] at h1
    dsimp only at h1
    omega
theorem unlike (i j : Nat) (hi : i < 13) (hj : j < 13) (N M : List UInt8) (hN : cNames[i]? = some N) (hM : cNames[j]? = some M) : (N == M) = (i == j) := by
  have h := names_unlike
  rw [List.all_eq_true] at h
  have h := h i (List.mem_range.mpr hi)
  rw [List.all_eq_true] at h
  have h := h j (List.mem_range.mpr hj)
  rw [List.getD_eq_getElem?_getD, List.getD_eq_getElem?_getD, hN, hM] at h
  simpa using h

end Go.Proofs.YtakcdecljfmckaaGreatDoor

namespace Go.Proofs.YtakcdecljfmckaaGreatDoor
open Go.RowKit

theorem sum_ok : ∀ i ∈ sumP, i.ok := by
  rcases readS_ok (linesT cL1) (by have := sum_len.2; omega) with ⟨l, h1, -, h2⟩ | ⟨k, e, h1, h2, -⟩
  · rw [sum_read] at h1
    injection h1 with h1 _
    rw [h1]
    exact h2
  · rw [sum_read] at h1
    injection h1 with _ h1
    injection h1 with h1 _
    omega

theorem sum_next : ∀ (k : Nat) (b : Blk), sumB[k]? = some b → b.next.length ≤ 1000 := list3 (P := fun _ (b : Blk) => b.next.length ≤ 1000) (by decide) (by decide) (by decide)
theorem sum_ref (W : World) (t1 t2 t3 : TypeId) : BlksAt (((W.alloc (.cells #[.int .i64 1] t1)).alloc (.cells #[.int .i64 2, .int .i64 1] t2)).alloc (.cells #[.int .i64 0, .int .i64 2, .slice (some ⟨W.heap.size, 0, none⟩) 1 1, .int .i64 2, .int .i64 5, .slice (some ⟨W.heap.size + 1, 0, none⟩) 2 2, .int .i64 5, .int .i64 6, .slice none 0 0] t3)) (.slice (some ⟨W.heap.size + 1 + 1, 0, none⟩) 3 3) sumB := by
  have e1 : ∀ (w : World) o, (w.alloc o).heap.size = w.heap.size + 1 := fun w o => Array.size_push _
  have k1 := CellsAt.new W [.int .i64 1] t1
  have k2 := CellsAt.new (W.alloc (.cells #[.int .i64 1] t1)) [.int .i64 2, .int .i64 1] t2
  have k3 := CellsAt.new ((W.alloc (.cells #[.int .i64 1] t1)).alloc (.cells #[.int .i64 2, .int .i64 1] t2)) [.int .i64 0, .int .i64 2, .slice (some ⟨W.heap.size, 0, none⟩) 1 1, .int .i64 2, .int .i64 5, .slice (some ⟨W.heap.size + 1, 0, none⟩) 2 2, .int .i64 5, .int .i64 6, .slice none 0 0] t3
  rw [e1] at k2
  rw [e1, e1] at k3
  have f1 : Fr No (W.alloc (.cells #[.int .i64 1] t1)) (((W.alloc (.cells #[.int .i64 1] t1)).alloc (.cells #[.int .i64 2, .int .i64 1] t2)).alloc (.cells #[.int .i64 0, .int .i64 2, .slice (some ⟨W.heap.size, 0, none⟩) 1 1, .int .i64 2, .int .i64 5, .slice (some ⟨W.heap.size + 1, 0, none⟩) 2 2, .int .i64 5, .int .i64 6, .slice none 0 0] t3)) := ((Fr.refl _ _).alloc _).alloc _
  have f2 : Fr No ((W.alloc (.cells #[.int .i64 1] t1)).alloc (.cells #[.int .i64 2, .int .i64 1] t2)) (((W.alloc (.cells #[.int .i64 1] t1)).alloc (.cells #[.int .i64 2, .int .i64 1] t2)).alloc (.cells #[.int .i64 0, .int .i64 2, .slice (some ⟨W.heap.size, 0, none⟩) 1 1, .int .i64 2, .int .i64 5, .slice (some ⟨W.heap.size + 1, 0, none⟩) 2 2, .int .i64 5, .int .i64 6, .slice none 0 0] t3)) := (Fr.refl _ _).alloc _
  have h1 := f1.cells k1 id
  have h2 := f2.cells k2 id
  refine ⟨_, 3, rfl, ?_⟩
  refine list3 ⟨k3 0 _ rfl, k3 1 _ rfl, _, k3 2 _ rfl, .inr ⟨_, 1, rfl, h1⟩⟩ ⟨k3 3 _ rfl, k3 4 _ rfl, _, k3 5 _ rfl, .inr ⟨_, 2, rfl, h2⟩⟩ ⟨k3 6 _ rfl, k3 7 _ rfl, _, k3 8 _ rfl, .inl ⟨rfl, rfl⟩⟩

set_option maxRecDepth 100000 in
set_option maxHeartbeats 4000000 in
theorem charted_any (w : World) (hT : LT w) : Calls Tryz.prog 6 #[] w fun e w' => e = .returned (.bool true) ∧ Fr No w w' := by
  have HA := Lib.hid (call_any w)
  have HT := Lib.hid hT
  obtain ⟨B0, hB0⟩ : ∃ B, bA [97, 110, 115, 119, 101, 114] = B := ⟨_, rfl⟩
  obtain ⟨B1, hB1⟩ : ∃ B, bA [115, 117, 109] = B := ⟨_, rfl⟩
  obtain ⟨TX, hTX⟩ : ∃ B, bA (linesT cL1) = B := ⟨_, rfl⟩
  obtain ⟨ST, hST⟩ : ∃ B, bA sumText = B := ⟨_, rfl⟩
  have q0 : (B0.toList == ([115, 117, 109] : List UInt8)) = false := by rw [← hB0, bA_same]; rfl
  have q1 : (B1.toList == ([115, 117, 109] : List UInt8)) = true := by rw [← hB1, bA_same]; rfl
  have q2 : (ST.toList == ([98, 108, 111, 99, 107, 32, 48, 32, 48, 32, 50, 32, 110, 101, 97, 114, 32, 45, 49, 32, 110, 101, 120, 116, 32, 49, 10, 98, 108, 111, 99, 107, 32, 49, 32, 50, 32, 53, 32, 110, 101, 97, 114, 32, 48, 32, 110, 101, 120, 116, 32, 50, 32, 49, 10, 98, 108, 111, 99, 107, 32, 50, 32, 53, 32, 54, 32, 110, 101, 97, 114, 32, 49, 32, 110, 101, 120, 116, 10, 108, 111, 111, 112, 32, 49, 32, 49, 10] : List UInt8)) = true := by rw [← hST, bA_same]; decide +kernel
  have HRD : Hid (∀ W, LT W → Calls Tryz.prog 21 #[.string TX] W fun e w' => ∃ g c, e = .returned (.tuple #[.slice g 6 c, .int .i64 0, .int .i64 0]) ∧ InsAt w' (.slice g 6 c) sumP ∧ Fr No W w') := fun W h => by
    have h1 := lread_any (linesT cL1) (by have := sum_len.2; omega) W h
    rw [sum_read, hTX] at h1
    refine h1.mono ?_
    rintro e w' ⟨lv, h2, h3, h4⟩
    obtain ⟨a, c, rfl⟩ := h3.form
    rw [sum_len.1] at h2 h3
    exact ⟨a, c, h2, h3, h4⟩
  have HBL : Hid (∀ g c W, InsAt W (.slice g 6 c) sumP → Calls Tryz.prog 7 #[.slice g 6 c, .int .i64 0] W fun e w' => ∃ gb cb, e = .returned (.tuple #[.slice (some ⟨gb, 0, none⟩) 3 cb, .int .i64 0]) ∧ BlksAt w' (.slice (some ⟨gb, 0, none⟩) 3 cb) sumB ∧ Fr No W w') := fun g c W h => by
    refine (blocks_any sumP _ 0 W h sum_ok (by rw [sum_len.1]; decide)).mono ?_
    rintro e w' (⟨h1, -⟩ | ⟨-, bv, h2, h3, h4⟩)
    · exact absurd (by rw [sum_check]) h1
    · rw [sum_blocks] at h3
      obtain ⟨gb, cb, rfl⟩ := h3.form
      exact ⟨gb, cb, h2, h3, h4⟩
  have HDM : Hid (∀ g c W, InsAt W (.slice g 6 c) sumP → Calls Tryz.prog 9 #[.slice g 6 c, .int .i64 0] W fun e w' => ∃ gd cd, e = .returned (.tuple #[.slice (some ⟨gd, 0, none⟩) 3 cd, .int .i64 0]) ∧ (w'.cell? ⟨gd, 0, none⟩ = some (.int .i64 (-1)) ∧ w'.cell? ⟨gd, 1, none⟩ = some (.int .i64 0) ∧ w'.cell? ⟨gd, 2, none⟩ = some (.int .i64 1)) ∧ Fr No W w') := fun g c W h => by
    refine (doms_any sumP _ 0 W h sum_ok (by rw [sum_len.1]; decide)).mono ?_
    rintro e w' (⟨h1, -⟩ | ⟨-, d, gd, cd, h2, h3, h4, h5⟩)
    · exact absurd (by rw [sum_check]) h1
    · rw [sum_blocks] at h2 h3 h4
      obtain ⟨d0, d1, d2⟩ := sum_doms h3
      have z0 := (h4 0 (by decide)).1
      have z1 := (h4 1 (by decide)).1
      have z2 := (h4 2 (by decide)).1
      rw [d0] at z0
      rw [d1] at z1
      rw [d2] at z2
      exact ⟨gd, cd, h2, ⟨z0, z1, z2⟩, h5⟩
  have HLP : Hid (∀ g c W, InsAt W (.slice g 6 c) sumP → Calls Tryz.prog 10 #[.slice g 6 c, .int .i64 0] W fun e w' => ∃ gw cw, e = .returned (.tuple #[.slice (some ⟨gw, 0, none⟩) 1 cw, .int .i64 0]) ∧ (w'.cell? ⟨gw, 0, none⟩ = some (.int .i64 1) ∧ w'.cell? ⟨gw, 1, none⟩ = some (.int .i64 1)) ∧ Fr No W w') := fun g c W h => by
    refine (loops_any sumP _ 0 W h sum_ok (by rw [sum_len.1]; decide)).mono ?_
    rintro e w' (⟨h1, -⟩ | ⟨-, d, v, h2, h3, -, h5, h6⟩)
    · exact absurd (by rw [sum_check]) h1
    · rw [sum_blocks] at h3 h5
      rw [sum_ways h3] at h5
      have h7 := h5 0 (Nat.zero_le _)
      obtain ⟨gw, cw, rfl⟩ := ownsRow_form h7 (by decide)
      have h8 := (ownsRow_cells h7).1
      exact ⟨gw, cw, h2, ⟨h8 0 _ rfl, h8 1 _ rfl⟩, h6⟩
  have HSH : Hid (∀ g c W, LT W → InsAt W (.slice g 6 c) sumP → Calls Tryz.prog 11 #[.slice g 6 c, .int .i64 0] W fun e w' => e = .returned (.tuple #[.string ST, .int .i64 0]) ∧ Fr No W w') := fun g c W hT h => by
    refine (cshow_any sumP _ 0 W h sum_ok (by rw [sum_len.1]; decide) hT).mono ?_
    rintro e w' (⟨h1, -⟩ | ⟨-, d, h3, h2, h4⟩)
    · exact absurd (by rw [sum_check]) h1
    · rw [sum_blocks] at h2 h3
      rw [sum_text h3, hST] at h2
      exact ⟨h2, h4⟩
  have pe : ∀ W, (binOp .eql 45 (.agg #[.int .i64 1, .int .i64 1]) (.agg #[.int .i64 1, .int .i64 1])).run Tryz.prog W = .ok (.bool true) W := fun W => by kernel_rfl
  have H0 := Lib.hid hB0
  have H1 := Lib.hid hB1
  have H2 := Lib.hid hTX
  clear hT hB0 hB1 hTX hST
  go_enter Tryz.func6, Tryz.ntmps6
  go_wp2_with (go_at_call 20; (with_reducible refine HA.out.mono ?_); rintro e w1 ⟨g, gm, rfl, -, -, -, hf, hall⟩; have HF := Lib.hid hf; clear hf; obtain ⟨a, -⟩ := hall; obtain ⟨_, _, _, _, _, _, _, e0, _⟩ := a 0 _ _ rfl rfl; obtain ⟨_, _, _, _, _, _, _, e1, _⟩ := a 1 _ _ rfl rfl; have n0 := e0 0 _ rfl; have n1 := e1 0 _ rfl; have t1 := e1 1 _ rfl; clear a e0 e1)
  rw [H0.out] at n0
  rw [H1.out] at n1
  rw [H2.out] at t1
  have n0' : w1.cell? ⟨g, 0, none⟩ = some (.string B0) := n0
  have n1' : w1.cell? ⟨g, 9, none⟩ = some (.string B1) := n1
  have t1' : w1.cell? ⟨g, 10, none⟩ = some (.string TX) := t1
  clear n0 n1 t1
  refine wp_loop_rounds 2 ?_
  rw [rounds_succ]
  go_wp2_with fail
  rw [rounds_succ]
  go_wp2_with (first
    | (go_at_call 21; (with_reducible refine (HRD.out _ (HT.out.fr HF.out)).mono ?_); rintro e w2 ⟨gp, cp, rfl, hp, hf2⟩; have HP := Lib.hid hp; have HF2 := Lib.hid (HF.out.trans hf2); clear hp hf2)
    | (go_at_call 7; (with_reducible refine (HBL.out _ _ _ HP.out).mono ?_); rintro e w3 ⟨gb, cb, rfl, hb, hf3⟩; have HB := Lib.hid hb; have HF3 := Lib.hid hf3; clear hb hf3)
    | (go_at_call 9; (with_reducible refine (HDM.out _ _ _ (HP.out.fr HF3.out)).mono ?_); rintro e w4 ⟨gd, cd, rfl, hd, hf4⟩; have HD := Lib.hid hd; have HF4 := Lib.hid hf4; clear hd hf4)
    | (go_at_call 10; (with_reducible refine (HLP.out _ _ _ (HP.out.fr (HF3.out.trans HF4.out))).mono ?_); rintro e w5 ⟨gw, cw, rfl, hw, hf5⟩; have HW := Lib.hid hw; have HF5 := Lib.hid hf5; clear hw hf5)
    | (go_at_call 11; (with_reducible refine (HSH.out _ _ _ (HT.out.fr (((HF2.out.trans HF3.out).trans HF4.out).trans HF5.out)) (HP.out.fr ((HF3.out.trans HF4.out).trans HF5.out))).mono ?_); rintro e w6 ⟨rfl, hf6⟩; have HF6 := Lib.hid hf6; clear hf6)
    | (go_at_call 12; (refine (sames_any sumB _ _ _ (HB.out.fr (((((HF4.out.trans HF5.out).trans HF6.out).alloc _).alloc _).alloc _)) (sum_ref _ _ _ _) (by decide) sum_next).mono ?_); rintro e w7 ⟨rfl, hf7⟩; have HF7 : Hid (Fr No w6 w7) := Lib.hid (((((Fr.refl No w6).alloc _).alloc _).alloc _).trans hf7); clear hf7; have z0 := (HF5.out.trans (HF6.out.trans HF7.out)).cell HD.out.1 id; have z1 := (HF5.out.trans (HF6.out.trans HF7.out)).cell HD.out.2.1 id; have z2 := (HF5.out.trans (HF6.out.trans HF7.out)).cell HD.out.2.2 id; have z3 := (HF6.out.trans HF7.out).cell HW.out.1 id; have z4 := (HF6.out.trans HF7.out).cell HW.out.2 id))
  go_ret
  exact ⟨rfl, (((((HF2.out.trans HF3.out).trans HF4.out).trans HF5.out).trans HF6.out).trans HF7.out)⟩
end Go.Proofs.YtakcdecljfmckaaGreatDoor
