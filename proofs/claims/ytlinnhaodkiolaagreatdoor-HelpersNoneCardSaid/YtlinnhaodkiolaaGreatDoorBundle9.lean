/- memory: Copy: a memory of its own, with the same bytes. The cells of a region among regions. maps: are the maps' regions in a memory? maps: hold. maps: what New and Copy hold while they gather the tables. No condition. -/
import Derived.Test.YtlinnhaodkiolaaGreatDoorBundle7
import Derived.Test.YtlinnhaodkiolaaGreatDoorBundle8
import Derived.Deep.RegionWith
import Derived.Test.YtlinnhaodkiolaaGreatDoorBundle6
namespace Go.Proofs.YtlinnhaodkiolaaGreatDoor
open Go.RowKit

/-- k regions have bytes of their own -/
structure CopyInv (w : World) (l : List HReg) (b bl cap : Nat) (k : Nat) (l' : List HReg) (wr : World) : Prop where
  len : l'.length = k
  eq : l'.map (·.r) = (l.take k).map (·.r)
  fr : Fr No w wr
  lo : w.heap.size ≤ bl
  lob : w.heap.size ≤ b
  ne : bl ≠ b
  lt : bl < wr.heap.size
  made : wr.cell? ⟨b, 0, none⟩ = some (.bool true)
  cell : wr.cell? ⟨b, 1, none⟩ = some (.slice (some ⟨bl, 0, none⟩) l.length cap)
  cells : CellsAt wr bl 0 (flat (l' ++ l.drop k))
  opened : Open wr bl 0 (l.length * 3)
  here : ∀ x ∈ l', x.here wr ∧ w.heap.size ≤ x.g ∧ x.g < wr.heap.size ∧ x.g ≠ b ∧ x.g ≠ bl
  nodup : (l'.map (·.g)).Nodup

theorem flat_swap (a c : List HReg) (x y : HReg) (h : y.r = x.r) : flat (a ++ y :: c) = (flat (a ++ x :: c)).set (a.length * 3 + 1) (.slice (some ⟨y.g, 0, none⟩) y.r.data.length y.cap) := by
  have e : ∀ z, flat (a ++ z :: c) = flat a ++ (z.cells ++ flat c) := fun z => by simp [flat]
  rw [e, e, ← flat_length a, List.set_append_right _ _ (by omega), Nat.add_sub_cancel_left]
  simp [HReg.cells, h]

theorem CopyInv.step {w wr W w1 : World} {l l' : List HReg} {b bl cap k gg cap2 : Nat} (h : CopyInv w l b bl cap k l' wr) {x : HReg} (hx : l[k]? = some x) (hW : Fr No wr W) (hF : Fr No W w1)
    (hgg : W.heap.size ≤ gg) (hlt : gg < w1.heap.size) (hc : CellsAt w1 gg 0 (u8s x.r.data)) (ho : Open w1 gg 0 x.r.data.length) (hcap : x.r.data.length ≤ cap2) :
    CopyInv w l b bl cap (k + 1) (l' ++ [⟨x.r, gg, cap2⟩]) (w1.setCell ⟨bl, k * 3 + 1, none⟩ (.slice (some ⟨gg, 0, none⟩) x.r.data.length cap2)) := by
  obtain ⟨hk, hxe⟩ := List.getElem?_eq_some_iff.1 hx
  have hfr := hW.trans hF
  have hz := hW.size
  have hbw : b < wr.heap.size := World.block_lt_of_cell? wr _ h.made
  have hlt2 := h.lt
  have hdrop : l.drop k = x :: l.drop (k + 1) := by rw [List.drop_eq_getElem_cons hk, hxe]
  have hcells := hfr.cells h.cells id
  have h1 : w1.cell? ⟨bl, k * 3 + 1, none⟩ = some (.slice (some ⟨x.g, 0, none⟩) x.r.data.length x.cap) := by
    have := hcells (k * 3 + 1) (.slice (some ⟨x.g, 0, none⟩) x.r.data.length x.cap) (by
      have := flat_get (l' ++ l.drop k) k 1 (by simp [h.len]; omega) (by omega)
      rw [this]
      have e : (l' ++ l.drop k)[k]'(by simp [h.len]; omega) = x := by
        rw [List.getElem_append_right (by rw [h.len]; exact Nat.le_refl _)]
        simp [h.len, hxe]
      simp [e, HReg.cells])
    rwa [Nat.zero_add] at this
  have other : ∀ a : Addr, a.block ≠ bl → ∀ u, (w1.setCell ⟨bl, k * 3 + 1, none⟩ u).cell? a = w1.cell? a := fun a ha u => World.cell?_setCell_other _ _ _ _ (by
    intro e; exact ha (by rw [← e]))
  refine ⟨by simp [h.len], ?_, ?_, h.lo, h.lob, h.ne, ?_, ?_, ?_, ?_, ?_, ?_, ?_⟩
  · rw [List.map_append, h.eq, List.take_add_one, List.map_append, hx]; rfl
  · refine ⟨hfr.os.trans h.fr.os, hfr.tape.trans h.fr.tape, hfr.output.trans h.fr.output, by have := (h.fr.trans hfr).size; simpa using this, fun c hc' _ => ?_⟩
    have := h.lo
    rw [Below.heap_setCell _ _ _ _ (by show c ≠ bl; omega)]
    exact (h.fr.trans hfr).block c hc' id
  · have := hfr.size; rw [World.size_setCell]; omega
  · rw [other _ (fun e => h.ne e.symm)]; exact hfr.cell h.made id
  · rw [other _ (fun e => h.ne e.symm)]; exact hfr.cell h.cell id
  · rw [hdrop] at hcells
    have e : l' ++ [(⟨x.r, gg, cap2⟩ : HReg)] ++ l.drop (k + 1) = l' ++ (⟨x.r, gg, cap2⟩ : HReg) :: l.drop (k + 1) := by simp
    rw [e, flat_swap l' _ x ⟨x.r, gg, cap2⟩ rfl, h.len]
    intro j u hj
    rw [List.getElem?_set] at hj
    rw [Nat.zero_add]
    split at hj
    · rename_i e1
      split at hj
      · subst e1
        rw [World.cell?_setCell_same _ _ _ h1]
        exact hj
      · cases hj
    · rename_i e1
      rw [World.cell?_setCell_other _ _ _ _ (by simp <;> omega)]
      have := hcells j u hj
      rwa [Nat.zero_add] at this
  · intro j hj
    rw [World.frozen?_setCell]
    exact (hfr.opened h.lt h.opened id) j hj
  · intro y hy
    rw [List.mem_append] at hy
    rcases hy with hy | hy
    · obtain ⟨a1, a2, a3, a4, a5⟩ := h.here y hy
      have old : ∀ i u, (w1.setCell ⟨bl, k * 3 + 1, none⟩ u).cell? ⟨y.g, i, none⟩ = wr.cell? ⟨y.g, i, none⟩ := fun i u => by
        rw [other _ a5]; exact World.cell?_of_block (w := wr) (hfr.block y.g a3 id)
      refine ⟨⟨fun j v hj => ?_, fun j hj => ?_, a1.cap⟩, a2, by have := hfr.size; rw [World.size_setCell]; omega, a4, a5⟩
      · rw [old]; exact a1.bytes j v hj
      · rw [World.frozen?_setCell, World.frozen?_of_block (w := wr) (hfr.block y.g a3 id)]; exact a1.opened j hj
    · simp only [List.mem_singleton] at hy
      subst hy
      have n1 : gg ≠ bl := by omega
      have n2 : gg ≠ b := by omega
      refine ⟨⟨fun j v hj => ?_, fun j hj => ?_, hcap⟩, by have := h.lo; show w.heap.size ≤ gg; omega, by simpa using hlt, n2, n1⟩
      · rw [other _ n1]; exact hc j v hj
      · rw [World.frozen?_setCell]; exact ho j hj
  · rw [List.map_append, List.nodup_append]
    refine ⟨h.nodup, by simp, ?_⟩
    intro a ha c hc'
    simp only [List.map_cons, List.map_nil, List.mem_singleton] at hc'
    obtain ⟨y, hy, rfl⟩ := List.mem_map.1 ha
    have := (h.here y hy).2.2.1
    omega

theorem CopyInv.mem {w wr : World} {l l' : List HReg} {b bl cap : Nat} (h : CopyInv w l b bl cap l.length l' wr) (hwf : WF (l.map (·.r))) : MemAt wr b (l.map (·.r)) (Made w wr) := by
  have e : l'.map (·.r) = l.map (·.r) := by rw [h.eq, List.take_length]
  refine ⟨_, l', e, by rw [e]; exact hwf, h.made, h.cell, .inr ⟨bl, cap, by rw [h.len], h.lt, ?_, ?_, fun x hx => (h.here x hx).2.2.2.2⟩, fun x hx => (h.here x hx).1, fun x hx => (h.here x hx).2.2.2.1, fun x hx => ⟨(h.here x hx).2.1, (h.here x hx).2.2.1⟩, h.nodup, ?_, ?_, ⟨h.lob, World.block_lt_of_cell? wr _ h.made⟩⟩
  · have := h.cells
    simpa using this
  · have := h.opened
    rw [h.len]; exact this
  · simp [Value.ownBlock, h.ne]
  · intro k hk
    simp [Value.ownBlock] at hk
    subst hk
    exact ⟨h.lo, h.lt⟩

theorem CopyInv.start {w w1 : World} {l : List HReg} {bl cap : Nat} (h : ClonePost l.length (flat l) w 3 (.returned (.slice (some ⟨bl, 0, none⟩) l.length cap)) w1) :
    CopyInv w l w1.heap.size bl cap 0 [] (w1.alloc (.cells #[.bool true, .slice (some ⟨bl, 0, none⟩) l.length cap] 92)) := by
  obtain ⟨gg, cap', he, h1, h2, h3, h4, h5, h6⟩ := h
  cases he
  refine ⟨rfl, by simp, h6.alloc _, h1, h6.size, by omega, by simp; omega, by rw [World.cell?_alloc_new]; rfl, by rw [World.cell?_alloc_new]; rfl, ?_, ?_, by simp, by simp⟩
  · exact ((Fr.refl No w1).alloc _).cells (by simpa using h3) id
  · exact ((Fr.refl No w1).alloc _).opened h2 h4 id

set_option maxRecDepth 100000 in
set_option maxHeartbeats 2000000 in
theorem copy_walk (b bl0 n cap0 : Nat) (l : List HReg) (w : World) (hmade : w.cell? ⟨b, 0, none⟩ = some (.bool true)) (hcell : w.cell? ⟨b, 1, none⟩ = some (.slice (some ⟨bl0, 0, none⟩) n cap0))
    (hn : l.length = n) (h1n : 1 ≤ n) (hc : CellsAt w bl0 0 (flat l)) (hh : ∀ x ∈ l, CellsAt w x.g 0 (u8s x.r.data)) (hm : n ≤ 1000000) (hd : ∀ x ∈ l, 1 ≤ x.r.data.length ∧ x.r.data.length ≤ 140737488355328) :
    Calls Tryz.prog 19 #[.pointer (some ⟨b, 0, none⟩)] w fun e w' => ∃ b' bl cap l', e = .returned (.pointer (some ⟨b', 0, none⟩)) ∧ CopyInv w l b' bl cap n l' w' := by
  have HN := Lib.hid (none_made b w hmade)
  have HL := Lib.hid hn
  have HH : Hid _ := hh
  have HD : Hid _ := hd
  have HCl := Lib.hid (clone_regs bl0 n cap0 l w hn h1n hm hc)
  clear hc hn hh hd
  go_enter Tryz.func19, Tryz.ntmps19
  go_wp2_with (first | (go_at_call 26; refine HN.out.mono ?_; rintro e w' ⟨rfl, rfl⟩))
  refine HCl.out.mono ?_
  rintro e w1 hp
  obtain ⟨bl, cap, rfl, -⟩ := id hp
  have HS : Hid (CopyInv w l w1.heap.size bl cap 0 [] (w1.alloc (.cells #[.bool true, .slice (some ⟨bl, 0, none⟩) n cap] 92))) := by
    have h2 := HL.out
    subst h2
    exact CopyInv.start hp
  go_wp2_with fail
  generalize w1.heap.size = B at *
  have hfB : B ≠ bl := fun e => HS.out.ne e.symm
  clear hp
  generalize w1.alloc (.cells #[.bool true, .slice (some ⟨bl, 0, none⟩) n cap] 92) = W0 at *
  have kW0 := HS.out.cell
  rw [HL.out] at kW0
  go_wp2_with fail
  go_loopw [4, 19] (fun _ i wr => ∃ (k : Nat) (l' : List HReg), k ≤ n ∧ i = .int .i64 k ∧ Hid (CopyInv w l B bl cap k l' wr)) (fun _ i _ => n - (intOf i).toNat)
  case atStart => exact ⟨0, [], Nat.zero_le _, rfl, HS⟩
  case round =>
    obtain ⟨k, l', hk, rfl, HI⟩ := hrel
    by_cases hlt : k < n
    · obtain ⟨x, hx⟩ : ∃ x, l[k]? = some x := ⟨l[k]'(by rw [HL.out]; exact hlt), List.getElem?_eq_getElem _⟩
      have hkl : k < l.length := by rw [HL.out]; exact hlt
      have hxk : l[k] = x := by rw [List.getElem?_eq_getElem hkl] at hx; exact Option.some.inj hx
      have hxm : x ∈ l := List.mem_of_getElem? hx
      have kB := HI.out.cell
      rw [HL.out] at kB
      have kc : wr.cell? ⟨bl, k * 3 + 1, none⟩ = some (.slice (some ⟨x.g, 0, none⟩) x.r.data.length x.cap) := by
        have := HI.out.cells (k * 3 + 1) (.slice (some ⟨x.g, 0, none⟩) x.r.data.length x.cap) (by
          have := flat_get (l' ++ l.drop k) k 1 (by simp [HI.out.len]; omega) (by omega)
          rw [this]
          have e : (l' ++ l.drop k)[k]'(by simp [HI.out.len]; omega) = x := by
            rw [List.getElem_append_right (by rw [HI.out.len]; exact Nat.le_refl _)]
            simp [HI.out.len, hxk]
          simp [e, HReg.cells])
        rwa [Nat.zero_add] at this
      have kf : wr.frozen? ⟨bl, k * 3 + 1, none⟩ = false := by
        have := HI.out.opened (k * 3 + 1) (by omega)
        rwa [Nat.zero_add] at this
      have HCB : Hid (∀ W, Fr No wr W → Calls Tryz.prog 33 #[.slice (some ⟨x.g, 0, none⟩) x.r.data.length x.cap] W fun e w2 => ∃ gg cap2, e = .returned (.slice (some ⟨gg, 0, none⟩) x.r.data.length cap2) ∧ w2.cell? ⟨B, 1, none⟩ = some (.slice (some ⟨bl, 0, none⟩) n cap) ∧
          w2.cell? ⟨bl, k * 3 + 1, none⟩ = some (.slice (some ⟨x.g, 0, none⟩) x.r.data.length x.cap) ∧ w2.frozen? ⟨bl, k * 3 + 1, none⟩ = false ∧
          Hid (CopyInv w l B bl cap (k + 1) (l' ++ [⟨x.r, gg, cap2⟩]) (w2.setCell ⟨bl, k * 3 + 1, none⟩ (.slice (some ⟨gg, 0, none⟩) x.r.data.length cap2)))) := fun W hW => by
        have hdx := HD.out x hxm
        refine (clone_bytes x.g x.r.data.length x.cap x.r.data W rfl hdx.1 hdx.2 ((HI.out.fr.trans hW).cells (HH.out x hxm) id)).mono ?_
        rintro e w2 ⟨gg, cap2, rfl, p1, p2, p3, p4, p5, p6⟩
        have hf := hW.trans p6
        rw [Nat.mul_one] at p4
        exact ⟨gg, cap2, rfl, hf.cell kB id, hf.cell kc id, (hf.frozen kc id).trans kf, HI.out.step hx hW p6 p1 p2 p3 p4 p5⟩
      generalize x.r.data.length = dl at *
      generalize x.g = g at *
      generalize x.cap = dc at *
      clear hx hxm hxk hkl
      go_wp2_with fail
      have hF0 : ∀ W, W.os = wr.os → W.tape = wr.tape → W.output = wr.output → W.heap = wr.heap → Fr No wr W := fun W h1 h2 h3 h4 => ⟨h1, h2, h3, by rw [h4]; exact Nat.le_refl _, fun _ _ _ => by rw [h4]⟩
      go_region_with (go_at_call 33; refine (HCB.out _ (by exact hF0 _ rfl rfl rfl rfl)).mono ?_; rintro e w2 ⟨gg, cap2, rfl, e1, e2, e3, HN2⟩)
      all_goals
        go_wp2_with fail
        go_roundw
        case rel => exact ⟨k + 1, _, by omega, by go_num, HN2⟩
        case measure => simp [intOf] <;> omega
    · obtain rfl : k = n := by omega
      go_wp2_with fail
      go_ret
      exact ⟨_, _, _, _, rfl, HI.out⟩

set_option maxHeartbeats 1000000 in
theorem clone_zero (g c : Nat) (w : World) : Calls Tryz.prog 32 #[.slice (some ⟨g, 0, none⟩) 0 c] w fun e w' => e = .returned (.slice (some ⟨w.heap.size, 0, none⟩) 0 0) ∧ w' = w.alloc (.cells #[] 90) := by
  have kn := fun w => slice_nil_ne_reg w ⟨g, 0, none⟩ 0 c
  go_enter Tryz.func32, Tryz.ntmps32
  go_wp2_with fail
  go_ret
  exact ⟨rfl, rfl⟩

set_option maxHeartbeats 1000000 in
theorem copy_zero (b bl cap : Nat) (w : World) (hmade : w.cell? ⟨b, 0, none⟩ = some (.bool true)) (hcell : w.cell? ⟨b, 1, none⟩ = some (.slice (some ⟨bl, 0, none⟩) 0 cap)) :
    Calls Tryz.prog 19 #[.pointer (some ⟨b, 0, none⟩)] w fun e w' => e = .returned (.pointer (some ⟨w.heap.size + 1, 0, none⟩)) ∧ w' = (w.alloc (.cells #[] 90)).alloc (.cells #[.bool true, .slice (some ⟨w.heap.size, 0, none⟩) 0 0] 92) := by
  have HN := Lib.hid (none_made b w hmade)
  go_enter Tryz.func19, Tryz.ntmps19
  go_wp2_with (first | (go_at_call 26; refine HN.out.mono ?_; rintro e w' ⟨rfl, rfl⟩) | (go_at_call 32; refine (clone_zero _ _ _).mono ?_; rintro e w' ⟨rfl, rfl⟩))
  refine wp_loop_rounds 1 ?_
  rw [rounds_succ]
  go_wp2_with fail
  go_ret
  exact ⟨rfl, rfl⟩

set_option maxHeartbeats 1000000 in
theorem copy_empty (b : Nat) (w : World) (hmade : w.cell? ⟨b, 0, none⟩ = some (.bool true)) (hcell : w.cell? ⟨b, 1, none⟩ = some (.slice none 0 0)) :
    Calls Tryz.prog 19 #[.pointer (some ⟨b, 0, none⟩)] w fun e w' => e = .returned (.pointer (some ⟨w.heap.size, 0, none⟩)) ∧ w' = w.alloc (.cells #[.bool true, .slice none 0 0] 92) := by
  have HN := Lib.hid (none_made b w hmade)
  go_enter Tryz.func19, Tryz.ntmps19
  go_wp2_with (first | (go_at_call 26; refine HN.out.mono ?_; rintro e w' ⟨rfl, rfl⟩) | (go_at_call 32; refine (clone_nil _).mono ?_; rintro e w' ⟨rfl, rfl⟩))
  refine wp_loop_rounds 1 ?_
  rw [rounds_succ]
  go_wp2_with fail
  go_ret
  exact ⟨rfl, rfl⟩

/-- a copy: a memory of its own, with the same bytes -/
theorem copy_any {S : Nat → Prop} {w : World} {b : Nat} {m : List Reg} (h : MemAt w b m S) (hm : m.length ≤ 1000000) (hd : ∀ r ∈ m, r.data.length ≤ 140737488355328) :
    Calls Tryz.prog 19 #[.pointer (some ⟨b, 0, none⟩)] w fun e w' => ∃ b', e = .returned (.pointer (some ⟨b', 0, none⟩)) ∧ Fr No w w' ∧ MemAt w' b' m (Made w w') := by
  obtain ⟨v, l, rfl, h⟩ := h
  rcases h.list with ⟨rfl, rfl⟩ | ⟨bl, cap, rfl, hlt, hc, ho, hne⟩
  · refine (copy_empty b w h.made h.cell).mono ?_
    rintro e w' ⟨rfl, rfl⟩
    exact ⟨_, rfl, (Fr.refl _ _).alloc _, new_none_mem w _ (Fr.refl _ _)⟩
  · rcases Nat.eq_zero_or_pos l.length with h0 | h0
    · obtain rfl := List.eq_nil_of_length_eq_zero h0
      refine (copy_zero b bl cap w h.made h.cell).mono ?_
      rintro e w' ⟨rfl, rfl⟩
      have hf : Fr No w ((w.alloc (.cells #[] 90)).alloc (.cells #[.bool true, .slice (some ⟨w.heap.size, 0, none⟩) 0 0] 92)) := ((Fr.refl _ _).alloc _).alloc _
      have e1 : (w.alloc (.cells #[] 90)).heap.size = w.heap.size + 1 := by simp
      refine ⟨_, rfl, hf, .slice (some ⟨w.heap.size, 0, none⟩) 0 0, [], rfl, ⟨by simp, by simp, by simp⟩, by rw [← e1, World.cell?_alloc_new]; rfl, by rw [← e1, World.cell?_alloc_new]; rfl, .inr ⟨w.heap.size, 0, rfl, by simp; omega, fun j v hj => by simp [flat] at hj, fun j hj => by simp at hj, by simp⟩, by simp, by simp, by simp, by simp, by simp [Value.ownBlock], ?_, ?_⟩
      · intro k hk
        simp [Value.ownBlock] at hk
        subst hk
        exact ⟨Nat.le_refl _, by simp; omega⟩
      · exact ⟨by omega, by simp⟩
    · refine (copy_walk b bl l.length cap l w h.made h.cell rfl h0 hc (fun x hx => (h.here x hx).bytes) (by simpa using hm) (fun x hx => ⟨(h.wf.ok x.r (List.mem_map_of_mem hx)).some, hd x.r (List.mem_map_of_mem hx)⟩)).mono ?_
      rintro e w' ⟨b', bl', cap', l', rfl, hi⟩
      exact ⟨b', rfl, hi.fr, hi.mem h.wf⟩

set_option maxHeartbeats 400000 in
theorem copy_none (p : Value) (w : World) (hnone : Calls Tryz.prog 26 #[p] w fun e w' => e = .returned (.bool true) ∧ w = w') :
    Calls Tryz.prog 19 #[p] w fun e w' => e = .returned (.pointer none) ∧ w = w' := by
  have HN := Lib.hid hnone; clear hnone
  go_enter Tryz.func19, Tryz.ntmps19
  go_wp2_with (go_at_call 26; refine HN.out.mono ?_; rintro e w' ⟨rfl, rfl⟩)
  go_ret
  exact ⟨rfl, rfl⟩

end Go.Proofs.YtlinnhaodkiolaaGreatDoor

namespace Go.Proofs.YtlinnhaodkiolaaGreatDoor
open Go.RowKit

/-- a region's three cells -/
theorem areg_cells {w : World} {g off : Nat} {m : List Reg} (h : CellsAt w g off (aflat m)) {k : Nat} {r : Reg} (hr : m[k]? = some r) :
    w.cell? ⟨g, off + k * 3, none⟩ = some (.int .u64 r.base) ∧ w.cell? ⟨g, off + k * 3 + 1, none⟩ = some (.string ⟨r.data.toArray⟩) ∧ w.cell? ⟨g, off + k * 3 + 2, none⟩ = some (.bool r.free) := by
  obtain ⟨hk, hx⟩ := List.getElem?_eq_some_iff.1 hr
  have c0 := h (k * 3 + 0) _ (aflat_get m k 0 hk (by omega))
  have c1 := h (k * 3 + 1) _ (aflat_get m k 1 hk (by omega))
  have c2 := h (k * 3 + 2) _ (aflat_get m k 2 hk (by omega))
  rw [hx] at c0 c1 c2
  exact ⟨c0, c1, c2⟩

theorem areg_cells0 {w : World} {g : Nat} {m : List Reg} (h : CellsAt w g 0 (aflat m)) {k : Nat} {r : Reg} (hr : m[k]? = some r) :
    w.cell? ⟨g, k * 3, none⟩ = some (.int .u64 r.base) ∧ w.cell? ⟨g, k * 3 + 1, none⟩ = some (.string ⟨r.data.toArray⟩) ∧ w.cell? ⟨g, k * 3 + 2, none⟩ = some (.bool r.free) := by
  have := areg_cells h hr
  simpa using this

end Go.Proofs.YtlinnhaodkiolaaGreatDoor

namespace Go.Proofs.YtlinnhaodkiolaaGreatDoor
open Go.RowKit

/-- is a region of a memory the one that is asked for? -/
def fits (x y : Reg) : Bool := decide (y.base = x.base ∧ y.data.length = x.data.length ∧ y.free = true)

set_option maxHeartbeats 400000 in
theorem hold1_base (bx : Nat) (xb yb : Int) (yd : ByteArray) (yf : Bool) (w : World) (h0 : w.cell? ⟨bx, 0, none⟩ = some (.int .u64 xb)) (hne : (yb == xb) = false) :
    Calls Tryz.prog 51 #[.agg #[.int .u64 yb, .string yd, .bool yf], .pointer (some ⟨bx, 0, none⟩)] w fun e w' => e = .returned (.bool false) ∧ Fr No w w' := by
  have h0' : (w.alloc (.cells #[.int .u64 yb, .string yd, .bool yf] 59)).cell? ⟨bx, 0, none⟩ = some (.int .u64 xb) := ((Fr.refl No w).alloc _).cell h0 id
  go_enter Tryz.func51, Tryz.ntmps51
  go_wp2_with fail
  go_ret
  exact ⟨rfl, (Fr.refl _ _).alloc _⟩

set_option maxHeartbeats 400000 in
theorem hold1_len (bx yl xl : Nat) (xb yb : Int) (xd yd : ByteArray) (yf : Bool) (w : World) (h0 : w.cell? ⟨bx, 0, none⟩ = some (.int .u64 xb)) (h1 : w.cell? ⟨bx, 1, none⟩ = some (.string xd)) (he : (yb == xb) = true) (sx : xd.size = xl) (sy : yd.size = yl) (t : Bool) (hl : (yl == xl) = t) (hl2 : ((yl : Int) == (xl : Int)) = t) (r : Bool) (hr : (t && yf) = r) :
    Calls Tryz.prog 51 #[.agg #[.int .u64 yb, .string yd, .bool yf], .pointer (some ⟨bx, 0, none⟩)] w fun e w' => e = .returned (.bool r) ∧ Fr No w w' := by
  have h0' : (w.alloc (.cells #[.int .u64 yb, .string yd, .bool yf] 59)).cell? ⟨bx, 0, none⟩ = some (.int .u64 xb) := ((Fr.refl No w).alloc _).cell h0 id
  have h1' : (w.alloc (.cells #[.int .u64 yb, .string yd, .bool yf] 59)).cell? ⟨bx, 1, none⟩ = some (.string xd) := ((Fr.refl No w).alloc _).cell h1 id
  cases t with
  | false =>
    obtain rfl : r = false := hr.symm
    clear hr
    go_enter Tryz.func51, Tryz.ntmps51
    go_wp2_with fail
    go_ret
    exact ⟨rfl, (Fr.refl _ _).alloc _⟩
  | true =>
    obtain rfl : yf = r := hr
    go_enter Tryz.func51, Tryz.ntmps51
    go_wp2_with fail
    go_ret
    exact ⟨rfl, (Fr.refl _ _).alloc _⟩

theorem hold1_any (bx : Nat) (x y : Reg) (w : World) (h0 : w.cell? ⟨bx, 0, none⟩ = some (.int .u64 x.base)) (h1 : w.cell? ⟨bx, 1, none⟩ = some (.string ⟨x.data.toArray⟩)) :
    Calls Tryz.prog 51 #[.agg #[.int .u64 y.base, .string ⟨y.data.toArray⟩, .bool y.free], .pointer (some ⟨bx, 0, none⟩)] w fun e w' => e = .returned (.bool (fits x y)) ∧ Fr No w w' := by
  unfold fits
  by_cases hb : y.base = x.base
  · refine hold1_len bx y.data.length x.data.length _ _ _ _ _ w h0 h1 (by simpa using hb) rfl rfl (decide (y.data.length = x.data.length)) ?_ ?_ _ ?_
    · rw [Bool.eq_iff_iff]; simp
    · rw [Bool.eq_iff_iff]; simp; omega
    · rw [Bool.eq_iff_iff]; simp [hb]
  · have e : decide (y.base = x.base ∧ y.data.length = x.data.length ∧ y.free = true) = false := by simp [hb]
    rw [e]
    exact hold1_base bx _ _ _ _ w h0 (by simpa using hb)

set_option maxHeartbeats 1000000 in
theorem idxf_regs (g off n c f : Nat) (lb : Value) (l : List Reg) (p : Reg → Bool) (w : World) (hn : l.length = n) (hm : n ≤ 1000000) (hc : CellsAt w g off (aflat l)) (he : ∀ args w, (callFunc f args).run Tryz.prog w = .ok (.enter f args) w)
    (hp : ∀ x ∈ l, ∀ W, Fr No w W → Calls Tryz.prog f #[.agg #[.int .u64 x.base, .string ⟨x.data.toArray⟩, .bool x.free], lb] W fun e w' => e = .returned (.bool (p x)) ∧ Fr No W w') :
    Calls Tryz.prog 35 #[.slice (some ⟨g, off, none⟩) n c, .func (.func f) #[] #[lb]] w fun e w' => e = .returned (.int .i64 (optI (l.findIdx? p))) ∧ Fr No w w' := by
  have HC := Lib.hid hc
  have HN := Lib.hid hn
  have HP := Lib.hid hp
  clear hc hn hp
  go_enter Tryz.func35, Tryz.ntmps35
  go_wp2_with fail
  go_loopw [8] (fun i wr => ∃ k : Nat, k ≤ n ∧ i = .int .i64 k ∧ Hid (Fr No w wr) ∧ Hid (∀ (j : Nat) x, j < k → l[j]? = some x → p x = false)) (fun i _ => n - (intOf i).toNat)
  case atStart => exact ⟨0, Nat.zero_le _, rfl, Fr.refl _ _, fun j _ h => absurd h (Nat.not_lt_zero _)⟩
  case round =>
    obtain ⟨k, hk, rfl, HF, HJ⟩ := hrel
    by_cases hlt : k < n
    · obtain ⟨x, hx⟩ : ∃ x, l[k]? = some x := ⟨l[k]'(by rw [HN.out]; exact hlt), List.getElem?_eq_getElem _⟩
      obtain ⟨k0, k1, k2⟩ := areg_cells (HF.out.cells HC.out id) hx
      have HX := Lib.hid hx
      have HPX := Lib.hid (HP.out x (List.mem_of_getElem? hx) wr HF.out)
      obtain ⟨t, ht⟩ : ∃ t, p x = t := ⟨_, rfl⟩
      rw [ht] at HPX
      have HT := Lib.hid ht
      clear ht hx
      cases t with
      | true =>
        have HFI : Hid (l.findIdx? p = some k) := Lib.hid (by
          rw [List.findIdx?_eq_some_iff_getElem]
          have hkl : k < l.length := by rw [HN.out]; exact hlt
          have := HX.out
          rw [List.getElem?_eq_getElem hkl] at this
          refine ⟨hkl, by rw [Option.some.inj this]; exact HT.out, fun j hj => ?_⟩
          have := HJ.out j _ hj (List.getElem?_eq_getElem (by omega))
          simpa using this)
        go_wp2_with fail
        refine (HPX.out).mono ?_
        rintro e w5 ⟨rfl, hf5⟩
        go_wp2_with fail
        go_ret
        exact ⟨by rw [HFI.out]; rfl, HF.out.trans hf5⟩
      | false =>
        have HJ2 : Hid (∀ (j : Nat) y, j < k + 1 → l[j]? = some y → p y = false) := fun j y hj hy => by
          by_cases e : j = k
          · subst e
            rw [HX.out] at hy
            obtain rfl := Option.some.inj hy
            exact HT.out
          · exact HJ.out j y (by omega) hy
        go_wp2_with fail
        refine (HPX.out).mono ?_
        rintro e w5 ⟨rfl, hf5⟩
        go_wp2_with fail
        go_roundw
        case rel => exact ⟨k + 1, by omega, by go_num, HF.out.trans hf5, HJ2⟩
        case measure => simp [intOf] <;> omega
    · obtain rfl : k = n := by omega
      have HFI : Hid (l.findIdx? p = none) := Lib.hid (by
        rw [List.findIdx?_eq_none_iff]
        intro x hx
        obtain ⟨j, hj, rfl⟩ := List.getElem_of_mem hx
        exact HJ.out j _ (by rw [← HN.out]; exact hj) (List.getElem?_eq_getElem hj))
      go_wp2_with fail
      go_ret
      exact ⟨by rw [HFI.out]; rfl, HF.out⟩

set_option maxHeartbeats 400000 in
theorem idxf_regs_zero (a : Option Addr) (c : Nat) (fv : Value) (w : World) :
    Calls Tryz.prog 35 #[.slice a 0 c, fv] w fun e w' => e = .returned (.int .i64 (optI none)) ∧ Fr No w w' := by
  go_enter Tryz.func35, Tryz.ntmps35
  go_wp2_with fail
  refine wp_loop_rounds 1 ?_
  rw [rounds_succ]
  go_wp2_with fail
  go_ret
  exact ⟨rfl, Fr.refl _ _⟩

set_option maxHeartbeats 400000 in
theorem contf_regs (v fv : Value) (o : Option Nat) (w : World) (h : Calls Tryz.prog 35 #[v, fv] w fun e w' => e = .returned (.int .i64 (optI o)) ∧ Fr No w w') :
    Calls Tryz.prog 21 #[v, fv] w fun e w' => e = .returned (.bool (geI o)) ∧ Fr No w w' := by
  have H := Lib.hid h
  clear h
  cases o with
  | none =>
    have H1 : Hid (Calls Tryz.prog 35 #[v, fv] w fun e w' => e = .returned (.int .i64 (-1)) ∧ Fr No w w') := H.out
    go_enter Tryz.func21, Tryz.ntmps21
    go_wp2_with fail
    refine (H1.out).mono ?_
    rintro e w' ⟨rfl, hf⟩
    go_wp2_with fail
    go_ret
    exact ⟨rfl, hf⟩
  | some p =>
    have H1 : Hid (Calls Tryz.prog 35 #[v, fv] w fun e w' => e = .returned (.int .i64 p) ∧ Fr No w w') := H.out
    have q : decide ((p : Int) ≥ 0) = true := by simp
    go_enter Tryz.func21, Tryz.ntmps21
    go_wp2_with fail
    refine (H1.out).mono ?_
    rintro e w' ⟨rfl, hf⟩
    go_wp2_with fail
    go_ret
    exact ⟨rfl, hf⟩

theorem geI_find {α : Type} (l : List α) (p : α → Bool) : geI (l.findIdx? p) = l.any p := by
  cases hf : l.findIdx? p with
  | none =>
    rw [List.findIdx?_eq_none_iff] at hf
    have : l.any p = false := by rw [List.any_eq_false]; intro x hx; simpa using hf x hx
    rw [this]; rfl
  | some i =>
    rw [List.findIdx?_eq_some_iff_getElem] at hf
    obtain ⟨hi, h1, _⟩ := hf
    have : l.any p = true := by
      rw [List.any_eq_true]
      exact ⟨l[i], List.getElem_mem hi, h1⟩
    rw [this]; rfl

/-- is x among the regions? -/
theorem contf_hold (bx : Nat) (x : Reg) (v : Value) (l : List Reg) (w : World) (h : RegsAt w v l) (hm : l.length ≤ 1000000) (h0 : w.cell? ⟨bx, 0, none⟩ = some (.int .u64 x.base)) (h1 : w.cell? ⟨bx, 1, none⟩ = some (.string ⟨x.data.toArray⟩)) :
    Calls Tryz.prog 21 #[v, .func (.func 51) #[] #[.pointer (some ⟨bx, 0, none⟩)]] w fun e w' => e = .returned (.bool (l.any (fits x))) ∧ Fr No w w' := by
  rw [← geI_find]
  rcases h.2 with ⟨rfl, a, c, rfl⟩ | ⟨g, off, cap, rfl, hc⟩
  · exact contf_regs _ _ none w (idxf_regs_zero a c _ w)
  · exact contf_regs _ _ _ w (idxf_regs g off l.length cap 51 (.pointer (some ⟨bx, 0, none⟩)) l (fits x) w rfl hm hc (enters_of Tryz.func51 (by kernel_rfl) rfl) (fun y _ W hW => hold1_any bx x y W (hW.cell h0 id) (hW.cell h1 id)))

end Go.Proofs.YtlinnhaodkiolaaGreatDoor

namespace Go.Proofs.YtlinnhaodkiolaaGreatDoor
open Go.RowKit

def holdsB (rs m : List Reg) : Bool := rs.all fun x => m.any (fits x)
def errI (b : Bool) : Int := if b = true then 0 else 2

set_option maxHeartbeats 400000 in
theorem hold_none (lv mp : Value) (w : World) (hcopy : Calls Tryz.prog 19 #[mp] w fun e w' => e = .returned (.pointer none) ∧ w = w') :
    Calls Tryz.prog 34 #[lv, mp] w fun e w' => e = .returned (.int .i64 1) ∧ w = w' := by
  have H := Lib.hid hcopy
  clear hcopy
  go_enter Tryz.func34, Tryz.ntmps34
  go_wp2_with (go_at_call 19; (with_reducible refine (H.out).mono ?_); rintro e w' ⟨rfl, rfl⟩)
  go_ret
  exact ⟨rfl, rfl⟩

set_option maxRecDepth 100000 in
set_option maxHeartbeats 1000000 in
theorem hold_walk (lv mp : Value) (rs m : List Reg) (w : World) (hm : m.length ≤ 1000000) (hrs : rs.length ≤ 1000000)
    (hcopy : Calls Tryz.prog 19 #[mp] w fun e w' => (∃ b', e = .returned (.pointer (some ⟨b', 0, none⟩))) ∧ Fr No w w')
    (hreg : ∀ W, Fr No w W → Calls Tryz.prog 50 #[mp] W fun e w' => ∃ u, e = .returned u ∧ RegsAt w' u m ∧ Fr No W w')
    (hmr : ∀ W, Fr No w W → Calls Tryz.prog 39 #[lv] W fun e w' => ∃ u, e = .returned u ∧ RegsAt w' u rs ∧ Fr No W w') :
    Calls Tryz.prog 34 #[lv, mp] w fun e w' => e = .returned (.int .i64 (errI (holdsB rs m))) ∧ Fr No w w' := by
  have HCOPY := Lib.hid hcopy
  have HREG := Lib.hid hreg
  have HMR := Lib.hid hmr
  clear hcopy hreg hmr
  go_enter Tryz.func34, Tryz.ntmps34
  go_wp2_with fail
  refine (HCOPY.out).mono ?_
  rintro e w1 ⟨⟨b', rfl⟩, hf1⟩
  have HF1 := Lib.hid hf1
  clear hf1
  go_wp2_with fail
  refine (HREG.out w1 HF1.out).mono ?_
  rintro e w2 ⟨u, rfl, hu, hf2⟩
  have HF2 := Lib.hid (HF1.out.trans hf2)
  have HU := Lib.hid hu
  clear hf2 hu
  go_wp2_with fail
  refine (HMR.out w2 HF2.out).mono ?_
  rintro e w3 ⟨v, rfl, hv, hf3⟩
  have HF3 := Lib.hid (HF2.out.trans hf3)
  have HU3 : Hid (RegsAt w3 u m) := HU.out.fr hf3
  clear hf3 HU HREG HMR HCOPY HF1 HF2
  obtain ⟨hty, ⟨rfl, a, c, rfl⟩ | ⟨g, off, cap, rfl, hc⟩⟩ := hv
  · go_wp2_with fail
    refine wp_loop_rounds 1 ?_
    rw [rounds_succ]
    go_wp2_with fail
    go_ret
    exact ⟨rfl, HF3.out⟩
  · have HC := Lib.hid hc
    obtain ⟨n, hn⟩ : ∃ n, rs.length = n := ⟨_, rfl⟩
    rw [hn] at hrs ⊢
    have HN := Lib.hid hn
    clear hc hty hn
    go_wp2_with fail
    go_loopw [16] (fun i wr => ∃ k : Nat, k ≤ n ∧ i = .int .i64 k ∧ Hid (Fr No w3 wr) ∧ Hid (∀ (j : Nat) x, j < k → rs[j]? = some x → m.any (fits x) = true)) (fun i _ => n - (intOf i).toNat)
    case atStart => exact ⟨0, Nat.zero_le _, rfl, Fr.refl _ _, fun j _ h => absurd h (Nat.not_lt_zero _)⟩
    case round =>
      obtain ⟨k, hk, rfl, HF, HJ⟩ := hrel
      by_cases hlt : k < n
      · obtain ⟨x, hx⟩ : ∃ x, rs[k]? = some x := ⟨rs[k]'(by rw [HN.out]; exact hlt), List.getElem?_eq_getElem _⟩
        obtain ⟨k0, k1, k2⟩ := areg_cells (HF.out.cells HC.out id) hx
        have HX := Lib.hid hx
        have HCT : Hid (Calls Tryz.prog 21 #[u, .func (.func 51) #[] #[.pointer (some ⟨wr.heap.size, 0, none⟩)]] (wr.alloc (.cells #[.int .u64 x.base, .string ⟨x.data.toArray⟩, .bool x.free] 59)) fun e w' => e = .returned (.bool (m.any (fits x))) ∧ Fr No wr w') :=
          Lib.hid ((contf_hold wr.heap.size x u m _ (HU3.out.fr (HF.out.trans ((Fr.refl _ _).alloc _))) hm (by rw [World.cell?_alloc_new]; rfl) (by rw [World.cell?_alloc_new]; rfl)).mono fun e w' ⟨he, hf⟩ => ⟨he, ((Fr.refl _ _).alloc _).trans hf⟩)
        obtain ⟨t, ht⟩ : ∃ t, m.any (fits x) = t := ⟨_, rfl⟩
        rw [ht] at HCT
        have HT := Lib.hid ht
        clear ht hx
        cases t with
        | true =>
          have HJ2 : Hid (∀ (j : Nat) y, j < k + 1 → rs[j]? = some y → m.any (fits y) = true) := fun j y hj hy => by
            by_cases e : j = k
            · subst e
              rw [HX.out] at hy
              obtain rfl := Option.some.inj hy
              exact HT.out
            · exact HJ.out j y (by omega) hy
          go_wp2_with fail
          refine (HCT.out).mono ?_
          rintro e w5 ⟨rfl, hf5⟩
          go_wp2_with fail
          go_roundw
          case rel => exact ⟨k + 1, by omega, by go_num, HF.out.trans hf5, HJ2⟩
          case measure => simp [intOf] <;> omega
        | false =>
          have HR : Hid (errI (holdsB rs m) = 2) := Lib.hid (by
            have : holdsB rs m = false := by
              unfold holdsB
              rw [List.all_eq_false]
              exact ⟨x, List.mem_of_getElem? HX.out, by rw [HT.out]; simp⟩
            rw [this]; rfl)
          go_wp2_with fail
          refine (HCT.out).mono ?_
          rintro e w5 ⟨rfl, hf5⟩
          go_wp2_with fail
          go_ret
          exact ⟨by rw [HR.out]; rfl, HF3.out.trans (HF.out.trans hf5)⟩
      · obtain rfl : k = n := by omega
        have HR : Hid (errI (holdsB rs m) = 0) := Lib.hid (by
          have : holdsB rs m = true := by
            unfold holdsB
            rw [List.all_eq_true]
            intro x hx
            obtain ⟨j, hj, rfl⟩ := List.getElem_of_mem hx
            exact HJ.out j _ (by rw [← HN.out]; exact hj) (List.getElem?_eq_getElem hj)
          rw [this]; rfl)
        go_wp2_with fail
        go_ret
        exact ⟨by rw [HR.out]; rfl, HF3.out.trans HF.out⟩

/-- a memory that may be told and copied -/
def MemOk (m : List Reg) : Prop := m.length ≤ 1000000 ∧ ∀ r ∈ m, r.data.length ≤ 140737488355328

theorem mregsOf_length (l : List MapD) : (mregsOf l).length ≤ 4 := by
  unfold mregsOf
  split
  · rename_i h
    rw [mregs_length]
    exact ((mayL_iff l).1 h).1
  · simp

theorem hold_any {T : Nat → Prop} {w : World} {mb : Nat} {m : List Reg} (hm : MemAt w mb m T) (hok : MemOk m) (v : Value) (l : List MapD) (h : MapsIn w v l) (hl : l.length ≤ 1000000) :
    Calls Tryz.prog 34 #[v, .pointer (some ⟨mb, 0, none⟩)] w fun e w' => e = .returned (.int .i64 (errI (holdsB (mregsOf l) m))) ∧ Fr No w w' := by
  refine hold_walk v _ (mregsOf l) m w hok.1 (by have := mregsOf_length l; omega) ((copy_any hm hok.1 hok.2).mono ?_) (fun W hW => regions_any (hm.fr hW (fun _ _ => id)) hok.1) (fun W hW => mregions_any v l W (h.fr hW) hl)
  rintro e w' ⟨b', he, hf, _⟩
  exact ⟨⟨b', he⟩, hf⟩

end Go.Proofs.YtlinnhaodkiolaaGreatDoor

namespace Go.Proofs.YtlinnhaodkiolaaGreatDoor
open Go.RowKit

theorem Tryz.info_str : (Tryz.prog.info? 9).map (fun i => (i.zero, i.size, i.bytes)) = some (some (.string ⟨#[]⟩), 1, 16) := by kernel_rfl
theorem Tryz.info_table : (Tryz.prog.info? 78).map (fun i => (i.zero, i.size, i.bytes)) = some (some .nilIface, 1, 16) := by kernel_rfl

theorem make_hash (n : Nat) (hn : n ≤ 1000000) (w : World) : (Instr.makeSlice 82 (.int .i64 n) (.int .i64 n)).run Tryz.prog w = .ok (.slice (some ⟨w.heap.size, 0, none⟩) n n) (w.alloc (.cells (strs (List.replicate n [])).toArray 9)) := by
  obtain ⟨i0, hi, hz0, hz1, hz2⟩ := info_parts Tryz.info_str
  have h := run_make (P := Tryz.prog) w 82 9 i0 (.string ⟨#[]⟩) Tryz.underlying82 hi hz0 .i64 .i64 n n (by omega) (by omega) (by rw [hz2]; omega) (by omega)
  rw [h, hz1]
  clear h hn
  simp only [Int.toNat_natCast, Nat.mul_one]
  have e : ∀ A B : Array Value, A = B → (Result.ok (Value.slice (some ⟨w.heap.size, 0, none⟩) n n) (w.alloc (.cells A 9)) : Result Value) = .ok (.slice (some ⟨w.heap.size, 0, none⟩) n n) (w.alloc (.cells B 9)) := fun A B h => by rw [h]
  refine e _ _ ?_
  apply Array.ext'
  simp [madeCells, strs, Value.cells, Nat.mod_one]
  apply List.ext_getElem?
  intro j
  simp only [List.getElem?_replicate]
  by_cases hj : j < n <;> simp [hj]

theorem MapsIn.to {S : Nat → Prop} {w w' : World} {v : Value} {l : List MapD} (h : MapsIn w v l) (hf : Fr S w w') (hn : ∀ k, v.ownBlock = some k → ¬ S k) : MapsIn w' v l := by
  rcases h with h | ⟨g, off, cap, rfl, hc⟩
  · exact .inl h
  · exact .inr ⟨g, off, cap, rfl, hf.cells hc (hn _ rfl)⟩

/-- a slice that begins a block -/
def Heads (v : Value) : Prop := ∀ a n c, v = .slice (some a) n c → a = ⟨a.block, 0, none⟩

/-- k tables are gathered -/
structure NewI (w : World) (b mb : Nat) (lv : Value) (ds : List MapD) (ts : List Tab) (k : Nat) (tabs : List HTab) (v : Value) (wr : World) : Prop where
  fr : Fr No w wr
  lo : w.heap.size ≤ b
  c0 : wr.cell? ⟨b, 0, none⟩ = some (.bool true)
  c1 : wr.cell? ⟨b, 1, none⟩ = some lv
  c2 : wr.cell? ⟨b, 2, none⟩ = some v
  c3 : wr.cell? ⟨b, 3, none⟩ = some (.pointer (some ⟨mb, 0, none⟩))
  free : wr.frozen? ⟨b, 2, none⟩ = false
  maps : MapsIn wr lv ds
  eqt : tabs.map (·.t) = ts.take k
  own : wr.ownsRow w.heap.size 78 1 v k (tabs.map HTab.cell)
  ok : ∀ x ∈ tabs, x.t.ok
  here : ∀ x ∈ tabs, x.t.d.kind = 2 → x.here wr ∧ w.heap.size ≤ x.h ∧ x.h ≠ b ∧ lv.ownBlock ≠ some x.h
  apart : tabs.Pairwise fun x y => x.t.d.kind = 2 → y.t.d.kind = 2 → x.h ≠ y.h
  ne : ∀ g, v.ownBlock = some g → g ≠ b ∧ (∀ x ∈ tabs, x.t.d.kind = 2 → g ≠ x.h) ∧ lv.ownBlock ≠ some g
  nel : lv.ownBlock ≠ some b

theorem NewI.lt {w wr : World} {b mb k : Nat} {lv v : Value} {ds : List MapD} {ts : List Tab} {tabs : List HTab} (h : NewI w b mb lv ds ts k tabs v wr) : b < wr.heap.size := World.block_lt_of_cell? wr _ h.c0

theorem NewI.to {w wr W : World} {b mb k : Nat} {lv v : Value} {ds : List MapD} {ts : List Tab} {tabs : List HTab} (h : NewI w b mb lv ds ts k tabs v wr) (hf : Fr No wr W) : NewI w b mb lv ds ts k tabs v W where
  fr := h.fr.trans hf
  lo := h.lo
  c0 := hf.cell h.c0 id
  c1 := hf.cell h.c1 id
  c2 := hf.cell h.c2 id
  c3 := hf.cell h.c3 id
  free := by rw [hf.frozen h.c2 id]; exact h.free
  maps := h.maps.fr hf
  eqt := h.eqt
  own := ownsRow_fr h.own hf (fun _ _ => id)
  ok := h.ok
  here := fun x hx h2 => ⟨(h.here x hx h2).1.fr hf id (by have := (h.ok x hx).bounds; omega), (h.here x hx h2).2⟩
  apart := h.apart
  ne := h.ne
  nel := h.nel

theorem MapsIn.lt {w : World} {v : Value} {l : List MapD} (h : MapsIn w v l) (h0 : 0 < l.length) {g : Nat} (hg : v.ownBlock = some g) : g < w.heap.size := by
  rcases h with ⟨rfl, _⟩ | ⟨g', off, cap, rfl, hc⟩
  · simp at h0
  · simp [Value.ownBlock] at hg
    subst hg
    exact World.block_lt_of_cell? w _ (hc (0 * 4 + 0) _ (mflat_get l 0 0 h0 (by omega)))

/-- one table more -/
theorem NewI.step {w wr W w1 : World} {b mb k g cap : Nat} {lv v : Value} {ds : List MapD} {ts : List Tab} {tabs : List HTab} (h : NewI w b mb lv ds ts k tabs v wr) (x : HTab) (hx : ts[k]? = some x.t) (hok : x.t.ok) (h0 : 0 < ds.length) (hW : Fr No wr W)
    (hh : x.t.d.kind = 2 → x.here W ∧ wr.heap.size ≤ x.h ∧ x.h < W.heap.size) (own : w1.ownsRow w.heap.size 78 1 (.slice (some ⟨g, 0, none⟩) (k + 1) cap) (k + 1) (tabs.map HTab.cell ++ [x.cell])) (hf : Fr (OwnOf v) W w1)
    (hg : v.ownBlock = some g ∨ W.heap.size ≤ g) :
    NewI w b mb lv ds ts (k + 1) (tabs ++ [x]) (.slice (some ⟨g, 0, none⟩) (k + 1) cap) (w1.setCell ⟨b, 2, none⟩ (.slice (some ⟨g, 0, none⟩) (k + 1) cap)) := by
  have hs := h.to hW
  have hbW := hs.lt
  have hsz := hW.size
  have hblt := h.lt
  have hvb : ∀ q, OwnOf v q → q ≠ b := fun q hq => (h.ne q hq).1
  have hgb : g ≠ b := by
    rcases hg with hg | hg
    · exact (h.ne g hg).1
    · omega
  have hlvlt : ∀ q, lv.ownBlock = some q → q < wr.heap.size := fun q hq => h.maps.lt h0 hq
  have hgl : lv.ownBlock ≠ some g := by
    rcases hg with hg | hg
    · exact (h.ne g hg).2.2
    · intro e; have := hlvlt g e; omega
  have hS : Fr (fun q => OwnOf v q ∨ q = b) W (w1.setCell ⟨b, 2, none⟩ (.slice (some ⟨g, 0, none⟩) (k + 1) cap)) := (hf.mono (fun _ _ hk => .inl hk) : Fr (fun q => OwnOf v q ∨ q = b) W w1).setCell (p := ⟨b, 2, none⟩) (.inr (.inr rfl)) _
  have hnb : ¬ OwnOf v b := fun hb => hvb b hb rfl
  have hhere : ∀ y : HTab, y.here W → y.t.ok → y.h ≠ b → (¬ OwnOf v y.h) → y.here (w1.setCell ⟨b, 2, none⟩ (.slice (some ⟨g, 0, none⟩) (k + 1) cap)) := fun y hy hyo h1 h2 =>
    hy.fr hS (fun hq => hq.elim h2 h1) (by have := hyo.bounds; omega)
  have hltb : ∀ y ∈ tabs, y.t.d.kind = 2 → y.h < wr.heap.size := fun y hy h2 => (h.here y hy h2).1.lt (by have := (h.ok y hy).bounds; omega)
  have hxv : x.t.d.kind = 2 → ¬ OwnOf v x.h := fun h2 hq => by
    have := (h.own.lt x.h hq).2
    have := (hh h2).2.1
    omega
  refine ⟨?_, h.lo, ?_, ?_, ?_, ?_, ?_, ?_, ?_, ?_, ?_, ?_, ?_, ?_, h.nel⟩
  · have a1 : Fr (From w) w w1 := (h.fr.trans hW).any.trans (hf.mono fun q _ hq => by have := (h.own.lt q hq).1; exact this)
    exact (a1.setCell (p := ⟨b, 2, none⟩) (.inl h.lo) _).ours
  · rw [World.cell?_setCell_other _ _ _ _ (by simp)]
    exact hf.cell hs.c0 hnb
  · rw [World.cell?_setCell_other _ _ _ _ (by simp)]
    exact hf.cell hs.c1 hnb
  · have := hf.cell hs.c2 hnb
    exact World.cell?_setCell_same _ _ _ (by rw [this])
  · rw [World.cell?_setCell_other _ _ _ _ (by simp)]
    exact hf.cell hs.c3 hnb
  · rw [World.frozen?_setCell, hf.frozen hs.c2 hnb]
    exact hs.free
  · exact hs.maps.to hS (fun q hq hor => hor.elim (fun ho => (h.ne q ho).2.2 hq) (fun e => h.nel (e ▸ hq)))
  · rw [List.map_append, h.eqt, List.take_add_one, hx]; rfl
  · rw [List.map_append]
    refine ownsRow_fr own ((Fr.refl (fun q => q = b) w1).setCell (p := ⟨b, 2, none⟩) (.inr rfl) _) (fun q hq e => ?_)
    simp [Value.ownBlock] at hq
    exact hgb (hq.trans e)
  · intro y hy
    rcases List.mem_append.1 hy with hy | hy
    · exact h.ok y hy
    · rw [List.mem_singleton.1 hy]; exact hok
  · intro y hy h2
    rcases List.mem_append.1 hy with hy | hy
    · obtain ⟨a1, a2, a3, a4⟩ := hs.here y hy h2
      exact ⟨hhere y a1 (h.ok y hy) a3 (fun hq => (h.ne _ hq).2.1 y hy h2 rfl), a2, a3, a4⟩
    · obtain rfl := List.mem_singleton.1 hy
      obtain ⟨a1, a2, a3⟩ := hh h2
      have := h.fr.size
      exact ⟨hhere y a1 hok (by omega) (hxv h2), by omega, by omega, fun e => by have := hlvlt _ e; omega⟩
  · rw [List.pairwise_append]
    refine ⟨h.apart, by simp, fun y hy z hz hy2 hz2 => ?_⟩
    obtain rfl := List.mem_singleton.1 hz
    have := hltb y hy hy2
    have := (hh hz2).2.1
    omega
  · intro q hq
    simp [Value.ownBlock] at hq
    subst hq
    refine ⟨hgb, fun y hy h2 => ?_, hgl⟩
    rcases List.mem_append.1 hy with hy | hy
    · rcases hg with hg | hg
      · exact (h.ne g hg).2.1 y hy h2
      · have := hltb y hy h2; omega
    · obtain rfl := List.mem_singleton.1 hy
      rcases hg with hg | hg
      · exact fun e => hxv h2 (e ▸ hg)
      · have := (hh h2).2.2; omega

/-- what maps of its own, made since w, a call hands back -/
def MadeMaps (w : World) (b mb : Nat) (S : List Tab) (R : Nat → Prop) (w' : World) : Prop :=
  ∃ A H, MapsAt w' b mb S A H ∧ (∀ k, A k → (w.heap.size ≤ k ∧ k < w'.heap.size) ∨ R k) ∧ (∀ k, H k → w.heap.size ≤ k ∧ k < w'.heap.size)

theorem NewI.done {w wr : World} {b mb : Nat} {lv v : Value} {ds : List MapD} {ts : List Tab} {tabs : List HTab} {R : Nat → Prop} (h : NewI w b mb lv ds ts ds.length tabs v wr) (hts : ts.map (·.d) = ds) (h4 : ds.length ≤ 4) (hl : ∀ g, lv.ownBlock = some g → (w.heap.size ≤ g ∧ g < wr.heap.size) ∨ R g)
    (hR : ∀ k, R k → k < w.heap.size) (hlh : Heads lv) : MadeMaps w b mb ts R wr := by
  have hb := h.lt
  have hlen : ts.length = ds.length := by rw [← hts]; simp
  have htabs : tabs.map (·.t) = ts := by rw [h.eqt, List.take_of_length_le (by omega)]
  have htl : tabs.length = ds.length := by rw [← hlen, ← htabs]; simp
  have hmaps : tabs.map (fun x => x.t.d) = ds := by rw [← hts, ← htabs, List.map_map]; rfl
  refine ⟨fun k => k = b ∨ lv.ownBlock = some k ∨ v.ownBlock = some k, fun k => ∃ x ∈ tabs, x.t.d.kind = 2 ∧ k = x.h, ⟨tabs, htabs, h.c0, h.c3, ⟨lv, v, h.c1, h.c2, ?_⟩, h.ok, fun x hx h2 => ⟨(h.here x hx h2).1, x, hx, h2, rfl⟩, h.apart, .inl rfl, by omega, ?_⟩, ?_, ?_⟩
  · have hm := h.maps
    rcases Nat.eq_zero_or_pos ds.length with h0 | h0
    · have hd := List.eq_nil_of_length_eq_zero h0
      have ht0 : tabs = [] := List.eq_nil_of_length_eq_zero (by omega)
      obtain ⟨a, c, hv⟩ := hm.form
      rw [h0] at hv
      have ho := h.own
      rw [h0] at ho
      rcases ho.2 with ⟨rfl, _⟩ | ⟨g, cap, cur, rfl, _⟩
      · exact .inl ⟨ht0, a, c, _, _, hv, rfl⟩
      · exact .inl ⟨ht0, a, c, _, _, hv, rfl⟩
    · obtain ⟨gt, ct, hv, _, hcells⟩ := cells_of_owns h.own h0
      rcases hm with ⟨hd, _⟩ | ⟨gl, off, cl, hlv, hc⟩
      · rw [hd] at h0; simp at h0
      · have := hlh _ _ _ hlv
        simp at this
        subst this
        exact .inr ⟨gl, cl, gt, ct, by rw [hlv, htl], by rw [hv, htl], by rw [hmaps]; exact hc, hcells, .inr (.inl (by rw [hlv]; rfl)), .inr (.inr (by rw [hv]; rfl))⟩
  · rintro k hk ⟨x, hx, h2, rfl⟩
    rcases hk with hk | hk | hk
    · exact (h.here x hx h2).2.2.1 hk
    · exact (h.here x hx h2).2.2.2 hk
    · exact (h.ne _ hk).2.1 x hx h2 rfl
  · rintro k (rfl | hk | hk)
    · exact .inl ⟨h.lo, hb⟩
    · exact hl k hk
    · exact .inl (h.own.lt k hk)
  · rintro k ⟨x, hx, h2, rfl⟩
    exact ⟨(h.here x hx h2).2.1, (h.here x hx h2).1.lt (by have := (h.ok x hx).bounds; omega)⟩

end Go.Proofs.YtlinnhaodkiolaaGreatDoor
