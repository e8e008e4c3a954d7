/- memory: Regions: the list of the regions, anew. -/
import Derived.Test.YtlinnhaodkiolaaMem5
import Derived.Test.YtlinnhaodkiolaaNew2
import Derived.Deep.AppendLies
import Derived.OwnWalk
namespace Go.Proofs.Ytlinnhaodkiolaa
open Go.RowKit

theorem Try.info_areg : (Try.prog.info? 88).map (fun i => (i.zero, i.size, i.bytes)) = some (some (.agg #[.int .u64 0, .string ⟨#[]⟩, .bool false]), 3, 32) := by kernel_rfl

/-- k regions are told -/
structure RgnInv (w : World) (m : List Reg) (k : Nat) (v : Value) (wr : World) : Prop where
  fr : Fr No w wr
  own : wr.ownsRow w.heap.size 88 3 v k (aflat (m.take k))

theorem RgnInv.start (w : World) (m : List Reg) : RgnInv w m 0 (.slice none 0 0) w := ⟨Fr.refl _ _, World.ownsRow_nil _ _ _ _⟩

theorem RgnInv.step {w wr w1 : World} {m : List Reg} {k : Nat} {v : Value} {r : Reg} {o1 o2 : Obj} {gg cap : Nat} (h : RgnInv w m k v wr) (hr : m[k]? = some r)
    (hown : w1.ownsRow w.heap.size 88 3 (.slice (some ⟨gg, 0, none⟩) (k + 1) cap) (k + 1) (aflat (m.take k) ++ [.int .u64 r.base, .string ⟨r.data.toArray⟩, .bool r.free]))
    (hgrow : ((wr.alloc o1).alloc o2).grownBy w1 v.ownBlock) : RgnInv w m (k + 1) (.slice (some ⟨gg, 0, none⟩) (k + 1) cap) w1 where
  fr := by
    have hz := hgrow.size
    simp at hz
    have hw := h.fr.size
    refine ⟨hgrow.os.trans h.fr.os, hgrow.tape.trans h.fr.tape, hgrow.output.trans h.fr.output, by omega, fun b hb _ => ?_⟩
    rw [hgrow.block b (by simp; omega) (fun e => by have := (h.own.lt _ e.symm).1; omega), Below.heap_alloc _ _ _ (by simp; omega), Below.heap_alloc _ _ _ (by omega)]
    exact h.fr.block b hb id
  own := by
    rw [List.take_add_one, hr]
    simpa [aflat, Reg.cells] using hown

set_option maxRecDepth 100000 in
set_option maxHeartbeats 1000000 in
theorem regions_walk (b bl n cap : Nat) (l : List HReg) (w : World) (hmade : w.cell? ⟨b, 0, none⟩ = some (.bool true)) (hcell : w.cell? ⟨b, 1, none⟩ = some (.slice (some ⟨bl, 0, none⟩) n cap))
    (hn : l.length = n) (hc : CellsAt w bl 0 (flat l)) (hh : ∀ x ∈ l, CellsAt w x.g 0 (u8s x.r.data)) (hm : n ≤ 1000000) :
    Calls Try.prog 49 #[.pointer (some ⟨b, 0, none⟩)] w fun e w' => ∃ v, e = .returned v ∧ RgnInv w (l.map (·.r)) n v w' := by
  have HN := Lib.hid (none_made b w hmade)
  have HC := Lib.hid hc
  have HL := Lib.hid hn
  have HH : Hid _ := hh
  clear hc hn hh
  obtain ⟨i0, hi, hz0, hz1, hz2⟩ := info_parts Try.info_areg
  go_enter Try.func49, Try.ntmps49
  go_wp2_with (go_at_call 28; refine HN.out.mono ?_; rintro e w' ⟨rfl, rfl⟩)
  go_loopw [3, 13] (fun v i wr => ∃ (k : Nat), k ≤ n ∧ i = .int .i64 k ∧ Hid (RgnInv w (l.map (·.r)) k v wr)) (fun v i _ => n - (intOf i).toNat)
  case atStart => exact ⟨0, Nat.zero_le _, rfl, RgnInv.start w _⟩
  case round =>
    obtain ⟨k, hk, rfl, HI⟩ := hrel
    by_cases hlt : k < n
    · obtain ⟨x, hx⟩ : ∃ x, l[k]? = some x := ⟨l[k]'(by rw [HL.out]; exact hlt), List.getElem?_eq_getElem _⟩
      have kc : wr.cell? ⟨bl, k * 3, none⟩ = some (.int .u64 x.r.base) ∧ wr.cell? ⟨bl, k * 3 + 1, none⟩ = some (.slice (some ⟨x.g, 0, none⟩) x.r.data.length x.cap) ∧ wr.cell? ⟨bl, k * 3 + 2, none⟩ = some (.bool x.r.free) := by
        have hkl : k < l.length := by rw [HL.out]; exact hlt
        have hxk : l[k] = x := by rw [List.getElem?_eq_getElem hkl] at hx; exact Option.some.inj hx
        have hcw := HI.out.fr.cells HC.out id
        have c0 := hcw (k * 3 + 0) _ (flat_get l k 0 hkl (by omega))
        have c1 := hcw (k * 3 + 1) _ (flat_get l k 1 hkl (by omega))
        have c2 := hcw (k * 3 + 2) _ (flat_get l k 2 hkl (by omega))
        simp only [Nat.zero_add] at c0 c1 c2
        rw [hxk] at c0 c1 c2
        exact ⟨c0, c1, c2⟩
      obtain ⟨k0, k1, k2⟩ := kc
      have hxm : x ∈ l := List.mem_of_getElem? hx
      have hr : (l.map (·.r))[k]? = some x.r := by simp [hx]
      have HS : Hid (∀ (w1 : World) (o1 o2 : Obj) (gg cap : Nat), w1.ownsRow w.heap.size 88 3 (.slice (some ⟨gg, 0, none⟩) (k + 1) cap) (k + 1) (aflat ((l.map (·.r)).take k) ++ [.int .u64 x.r.base, .string ⟨x.r.data.toArray⟩, .bool x.r.free]) →
        ((wr.alloc o1).alloc o2).grownBy w1 u3.ownBlock → RgnInv w (l.map (·.r)) (k + 1) (.slice (some ⟨gg, 0, none⟩) (k + 1) cap) w1) := fun w1 o1 o2 gg cap h1 h2 => HI.out.step hr h1 h2
      have hown := HI.out.own
      generalize aflat ((l.map (·.r)).take k) = told at HS hown
      have HV : Hid (∀ o, (convert 43 9 (.slice (some ⟨x.g, 0, none⟩) x.r.data.length x.cap)).run Try.prog (wr.alloc o) = .ok (.string ⟨x.r.data.toArray⟩) (wr.alloc o)) := fun o => 
        str_at ((HI.out.fr.alloc o).cells (HH.out x hxm) id) x.cap
      generalize (⟨x.r.data.toArray⟩ : ByteArray) = S at HS HV
      generalize x.r.base = base at *
      generalize x.r.free = free at *
      generalize x.r.data.length = dl at *
      generalize x.cap = dc at *
      generalize x.g = g at *
      have hcv := HV.out
      have hbase : w.heap.size ≤ wr.heap.size := HI.out.fr.size
      clear hr hx hxm
      have HO := Lib.hid hown
      clear hown
      have H1 : ∀ o1 : Obj, ((wr.alloc o1).alloc (.cells #[.int .u64 base, .string S, .bool free] 88)).heap[wr.heap.size + 1]? = some (.cells #[.int .u64 base, .string S, .bool free] 88 (0, 0)) := fun o1 => by
        have := heap_alloc_new (wr.alloc o1) (.cells #[.int .u64 base, .string S, .bool free] 88)
        rw [show (wr.alloc o1).heap.size = wr.heap.size + 1 by simp] at this
        exact this
      go_wp2_with (at_builtin; refine wpList_append_lies _ rfl _ _ 68 rfl w.heap.size 88 i0 _ 3 32 Try.underlying68 hi hz0 hz1 hz2 rfl (by decide) u3 k told rfl ((HO.out.alloc _).alloc _) ⟨wr.heap.size + 1, 0, none⟩ 1 1 [.int .u64 base, .string S, .bool free] rfl rfl (World.news_of_block (cs := #[.int .u64 base, .string S, .bool free]) (t := 88) (fr := (0, 0)) (H1 _)) (by simp [Value.oneCell']) (by omega) (by unfold maxLen; omega) (by omega) (by simp; omega) (wr.heap.size + 2) (by simp) ?_; intro gg cap2 w1 hown2 hgrow hat hlt2)
      go_roundw
      case rel => exact ⟨k + 1, by omega, by go_num, HS.out w1 _ _ gg cap2 hown2 hgrow⟩
      case measure => simp [intOf] <;> omega
    · obtain rfl : k = n := by omega
      go_wp2_with fail
      go_ret
      exact ⟨_, rfl, HI.out⟩


set_option maxHeartbeats 1000000 in
theorem regions_empty (b : Nat) (w : World) (hmade : w.cell? ⟨b, 0, none⟩ = some (.bool true)) (hcell : w.cell? ⟨b, 1, none⟩ = some (.slice none 0 0)) :
    Calls Try.prog 49 #[.pointer (some ⟨b, 0, none⟩)] w fun e w' => e = .returned (.slice none 0 0) ∧ w = w' := by
  have HN := Lib.hid (none_made b w hmade)
  go_enter Try.func49, Try.ntmps49
  go_wp2_with (go_at_call 28; refine HN.out.mono ?_; rintro e w' ⟨rfl, rfl⟩)
  refine wp_loop_rounds 1 ?_
  rw [rounds_succ]
  go_wp2_with fail
  go_ret
  exact ⟨rfl, rfl⟩

theorem cells_of_owns {w : World} {base size n : Nat} {t : TypeId} {v : Value} {xs : List Value} (h : w.ownsRow base t size v n xs) (hn : 0 < n) : ∃ g cap, v = .slice (some ⟨g, 0, none⟩) n cap ∧ base ≤ g ∧ CellsAt w g 0 xs := by
  rcases h.2 with ⟨_, h0⟩ | ⟨g, cap, cur, hv, hb, hg, _, _, _, hx⟩
  · omega
  · refine ⟨g, cap, hv, hb, fun j u hj => ?_⟩
    rw [Nat.zero_add, cell_of_row w g j cur t _ hg]
    rw [← hx, List.getElem?_take] at hj
    split at hj
    · simpa using hj
    · cases hj

theorem RgnInv.regs {w w' : World} {m : List Reg} {v : Value} (h : RgnInv w m m.length v w') (hm : ∀ r ∈ m, r.typed) : RegsAt w' v m := by
  have ho := h.own
  rw [List.take_length] at ho
  rcases Nat.eq_zero_or_pos m.length with h0 | h0
  · obtain rfl := List.eq_nil_of_length_eq_zero h0
    rcases ho.2 with ⟨rfl, _⟩ | ⟨g, cap, cur, rfl, _⟩
    · exact ⟨hm, .inl ⟨rfl, _, _, rfl⟩⟩
    · exact ⟨hm, .inl ⟨rfl, _, _, rfl⟩⟩
  · obtain ⟨g, cap, rfl, _, hc⟩ := cells_of_owns ho h0
    exact ⟨hm, .inr ⟨g, 0, cap, rfl, hc⟩⟩

theorem RegsAt.fr {w w' : World} {v : Value} {m : List Reg} (h : RegsAt w v m) (hf : Fr No w w') : RegsAt w' v m := by
  rcases h.2 with h2 | ⟨g, off, cap, e, hc⟩
  · exact ⟨h.1, .inl h2⟩
  · exact ⟨h.1, .inr ⟨g, off, cap, e, hf.cells hc id⟩⟩

theorem WF.typed {m : List Reg} (h : WF m) : ∀ r ∈ m, r.typed := fun r hr => by
  have o := h.ok r hr
  have := o.high
  unfold Reg.len at this
  exact ⟨o.low, by omega, o.small⟩

/-- the regions told, as they stand -/
theorem regions_any {S : Nat → Prop} {w : World} {b : Nat} {m : List Reg} (h : MemAt w b m S) (hm : m.length ≤ 1000000) :
    Calls Try.prog 49 #[.pointer (some ⟨b, 0, none⟩)] w fun e w' => ∃ v, e = .returned v ∧ RegsAt w' v m ∧ Fr No w w' := by
  obtain ⟨v, l, rfl, h⟩ := h
  rcases h.list with ⟨rfl, rfl⟩ | ⟨bl, cap, rfl, hlt, hc, ho, hne⟩
  · refine (regions_empty b w h.made h.cell).mono ?_
    rintro e w' ⟨rfl, rfl⟩
    exact ⟨_, rfl, ⟨by simp, .inl ⟨rfl, _, _, rfl⟩⟩, Fr.refl _ _⟩
  · refine (regions_walk b bl l.length cap l w h.made h.cell rfl hc (fun x hx => (h.here x hx).bytes) (by simpa using hm)).mono ?_
    rintro e w' ⟨v, rfl, hi⟩
    have hi' : RgnInv w (l.map (·.r)) (l.map (·.r)).length v w' := by simpa using hi
    exact ⟨v, rfl, hi'.regs h.wf.typed, hi.fr⟩

set_option maxHeartbeats 400000 in
theorem regions_none (p : Value) (w : World) (hnone : Calls Try.prog 28 #[p] w fun e w' => e = .returned (.bool true) ∧ w = w') :
    Calls Try.prog 49 #[p] w fun e w' => e = .returned (.slice none 0 0) ∧ w = w' := by
  have HN := Lib.hid hnone; clear hnone
  go_enter Try.func49, Try.ntmps49
  go_wp2_with (go_at_call 28; refine HN.out.mono ?_; rintro e w' ⟨rfl, rfl⟩)
  go_ret
  exact ⟨rfl, rfl⟩

end Go.Proofs.Ytlinnhaodkiolaa
