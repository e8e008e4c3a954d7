/- Rows of the call's own whose cells are written; blocks in memory. A program's blocks, plain: what leads where. -/
import Derived.Shelf.Abstract
import Derived.Test.YtakcdecljfmckaaGreatDoorCore5
import Derived.Test.YtakcdecljfmckaaGreatDoorCore6
import Derived.Test.YtakcdecljfmckaaGreatDoorCore7
set_option linter.all false
set_option linter.unusedVariables false
set_option linter.unusedSimpArgs false
namespace Go.Proofs.YtakcdecljfmckaaGreatDoor
open Go.RowKit

theorem ownsRow_set {w : World} {base size n : Nat} {e : TypeId} {g cap : Nat} {xs : List Value} (h : w.ownsRow base e size (.slice (some ⟨g, 0, none⟩) n cap) n xs) {o : Nat} (ho : o < xs.length) (x : Value) : (w.setCell ⟨g, o, none⟩ x).ownsRow base e size (.slice (some ⟨g, 0, none⟩) n cap) n (xs.set o x) := by
  refine ⟨by rw [List.length_set]; exact h.1, ?_⟩
  rcases h.2 with ⟨h1, _⟩ | ⟨g', cap', cur, hv, hb, hg, h1, h2, h3, h4⟩
  · cases h1
  · cases hv
    refine .inr ⟨g, cap, cur.setIfInBounds o x, rfl, hb, heap_setCell_same _ _ _ _ _ _ hg, h1, h2, by simpa using h3, ?_⟩
    rw [Array.toList_setIfInBounds, List.take_set, h4]
/-- what an own row holds -/
theorem ownsRow_cells {w : World} {base size n : Nat} {e : TypeId} {g cap : Nat} {xs : List Value} (h : w.ownsRow base e size (.slice (some ⟨g, 0, none⟩) n cap) n xs) : CellsAt w g 0 xs ∧ base ≤ g ∧ g < w.heap.size ∧ (∀ j, w.frozen? ⟨g, j, none⟩ = false) := by
  rcases h.2 with ⟨h1, _⟩ | ⟨g', cap', cur, hv, hb, hg, h1, h2, h3, h4⟩
  · cases h1
  · cases hv
    refine ⟨fun j u hj => ?_, hb, ?_, fun j => frozen_of_row _ _ _ _ _ hg⟩
    · rw [Nat.zero_add, cell_of_row w g j cur e _ hg]
      rw [← h4, List.getElem?_take] at hj
      split at hj
      · simpa using hj
      · cases hj
    · rcases Nat.lt_or_ge g w.heap.size with h | h
      · exact h
      · rw [Array.getElem?_eq_none h] at hg; cases hg
theorem ownsRow_form {w : World} {base size n : Nat} {e : TypeId} {v : Value} {xs : List Value} (h : w.ownsRow base e size v n xs) (h0 : 0 < n) : ∃ g cap, v = .slice (some ⟨g, 0, none⟩) n cap := by
  rcases h.2 with ⟨_, h1⟩ | ⟨g', cap', cur, hv, -⟩
  · omega
  · exact ⟨g', cap', hv⟩
/-! ### blocks in memory -/
/-- one block's cells -/
def BlkCells (w : World) (g k : Nat) (b : Blk) : Prop := w.cell? ⟨g, k * 3, none⟩ = some (.int .i64 (b.fr : Int)) ∧ w.cell? ⟨g, k * 3 + 1, none⟩ = some (.int .i64 (b.to : Int)) ∧ ∃ nv, w.cell? ⟨g, k * 3 + 2, none⟩ = some nv ∧ NatsAt w nv b.next
def BlksAt (w : World) (v : Value) (bs : List Blk) : Prop := ∃ g cap, v = .slice (some ⟨g, 0, none⟩) bs.length cap ∧ ∀ k b, bs[k]? = some b → BlkCells w g k b
theorem BlkCells.fr {w w' : World} {g k : Nat} {b : Blk} (h : BlkCells w g k b) (hf : Fr No w w') : BlkCells w' g k b := by
  obtain ⟨h1, h2, nv, h3, h4⟩ := h
  exact ⟨hf.cell h1 id, hf.cell h2 id, nv, hf.cell h3 id, h4.fr hf⟩
theorem BlksAt.fr {w w' : World} {v : Value} {bs : List Blk} (h : BlksAt w v bs) (hf : Fr No w w') : BlksAt w' v bs := by
  obtain ⟨g, cap, hv, hb⟩ := h
  exact ⟨g, cap, hv, fun k b hk => (hb k b hk).fr hf⟩

/-! ### At -/
def atB (bs : List Blk) (pc : Int) : Int := idxI (bs.findIdx? (fun c => decide ((c.fr : Int) ≤ pc) && decide (pc < (c.to : Int))))
theorem atB_atM (B : List Cb) (f : Cb → Blk) (hf : ∀ c, (f c).fr = c.fr ∧ (f c).to = c.to) (pc : Int) : atB (B.map f) pc = atM B pc := by
  unfold atB atM
  rw [List.findIdx?_map]
  have : ((fun c : Blk => decide ((c.fr : Int) ≤ pc) && decide (pc < (c.to : Int))) ∘ f) = (fun c : Cb => decide ((c.fr : Int) ≤ pc) && decide (pc < (c.to : Int))) := by
    funext c
    show (decide (((f c).fr : Int) ≤ pc) && decide (pc < ((f c).to : Int))) = _
    rw [(hf c).1, (hf c).2]
  rw [this]
  cases B.findIdx? (fun c : Cb => decide ((c.fr : Int) ≤ pc) && decide (pc < (c.to : Int))) <;> rfl

set_option maxHeartbeats 400000 in
theorem at1_any (bx : Nat) (pc : Int) (fr to : Nat) (nv : Value) (w : World) (hb : w.cell? ⟨bx, 0, none⟩ = some (.int .i64 pc)) :
    Calls Tryz.prog 34 #[.agg #[.int .i64 (fr : Int), .int .i64 (to : Int), nv], .pointer (some ⟨bx, 0, none⟩)] w fun e w' => e = .returned (.bool (decide ((fr : Int) ≤ pc) && decide (pc < (to : Int)))) ∧ Fr No w w' := by
  have hb' : (w.alloc (.cells #[.int .i64 (fr : Int), .int .i64 (to : Int), nv] 48)).cell? ⟨bx, 0, none⟩ = some (.int .i64 pc) := ((Fr.refl No w).alloc _).cell hb id
  by_cases h1 : (fr : Int) ≤ pc
  · by_cases h2 : pc < (to : Int)
    · have e : (decide ((fr : Int) ≤ pc) && decide (pc < (to : Int))) = true := by simp [h1, h2]
      rw [e]
      go_enter Tryz.func34, Tryz.ntmps34
      go_wp2_with fail
      go_ret
      exact ⟨rfl, (Fr.refl _ _).alloc _⟩
    · have e : (decide ((fr : Int) ≤ pc) && decide (pc < (to : Int))) = false := by simp [h1, h2]
      rw [e]
      go_enter Tryz.func34, Tryz.ntmps34
      go_wp2_with fail
      go_ret
      exact ⟨rfl, (Fr.refl _ _).alloc _⟩
  · have e : (decide ((fr : Int) ≤ pc) && decide (pc < (to : Int))) = false := by simp [h1]
    rw [e]
    go_enter Tryz.func34, Tryz.ntmps34
    go_wp2_with fail
    go_ret
    exact ⟨rfl, (Fr.refl _ _).alloc _⟩

/-- a row of blocks, whatever comes behind them -/
def RowAt (w : World) (g : Nat) (bs : List Blk) : Prop := ∀ k b, bs[k]? = some b → w.cell? ⟨g, k * 3, none⟩ = some (.int .i64 (b.fr : Int)) ∧ w.cell? ⟨g, k * 3 + 1, none⟩ = some (.int .i64 (b.to : Int)) ∧ ∃ nv, w.cell? ⟨g, k * 3 + 2, none⟩ = some nv
theorem RowAt.fr {w w' : World} {g : Nat} {bs : List Blk} (h : RowAt w g bs) (hf : Fr No w w') : RowAt w' g bs := fun k b hk => by
  obtain ⟨h1, h2, nv, h3⟩ := h k b hk
  exact ⟨hf.cell h1 id, hf.cell h2 id, nv, hf.cell h3 id⟩

theorem enters_at1 : ∀ args w, (callFunc 34 args).run Tryz.prog w = .ok (.enter 34 args) w := enters_of Tryz.func34 (by kernel_rfl) rfl

set_option maxHeartbeats 1000000 in
theorem idxf_blks (g n c bx : Nat) (pc : Int) (l : List Blk) (w : World) (hn : l.length = n) (hm : n ≤ 1000000) (hc : RowAt w g l) (hb : w.cell? ⟨bx, 0, none⟩ = some (.int .i64 pc)) :
    Calls Tryz.prog 33 #[.slice (some ⟨g, 0, none⟩) n c, .func (.func 34) #[] #[.pointer (some ⟨bx, 0, none⟩)]] w fun e w' => e = .returned (.int .i64 (atB l pc)) ∧ Fr No w w' := by
  have HC := Lib.hid hc
  have HN := Lib.hid hn
  have HP : Hid (∀ (fr to : Nat) (nv : Value) W, Fr No w W → Calls Tryz.prog 34 #[.agg #[.int .i64 (fr : Int), .int .i64 (to : Int), nv], .pointer (some ⟨bx, 0, none⟩)] W fun e w' => e = .returned (.bool (decide ((fr : Int) ≤ pc) && decide (pc < (to : Int)))) ∧ Fr No W w') := fun fr to nv W hf => at1_any bx pc fr to nv W (hf.cell hb id)
  unfold atB
  obtain ⟨p, hp⟩ : ∃ p : Blk → Bool, (fun c : Blk => decide ((c.fr : Int) ≤ pc) && decide (pc < (c.to : Int))) = p := ⟨_, rfl⟩
  have HPE : Hid (∀ c : Blk, (decide ((c.fr : Int) ≤ pc) && decide (pc < (c.to : Int))) = p c) := fun c => by rw [← hp]
  rw [hp]
  have he := enters_at1
  clear hc hn hp hb
  go_enter Tryz.func33, Tryz.ntmps33
  go_wp2_with fail
  go_loopw [8] (fun i wr => ∃ k : Nat, k ≤ n ∧ i = .int .i64 k ∧ Hid (Fr No w wr) ∧ Hid (∀ (j : Nat) x, j < k → l[j]? = some x → p x = false)) (fun i _ => n - (intOf i).toNat)
  case atStart => exact ⟨0, Nat.zero_le _, rfl, Fr.refl _ _, fun j _ h => absurd h (Nat.not_lt_zero _)⟩
  case round =>
    obtain ⟨k, hk, rfl, HF, HJ⟩ := hrel
    by_cases hlt : k < n
    · obtain ⟨x, hx⟩ : ∃ x, l[k]? = some x := ⟨l[k]'(by rw [HN.out]; exact hlt), List.getElem?_eq_getElem _⟩
      obtain ⟨k0, k1, nv, k2⟩ := (RowAt.fr HC.out HF.out) k x hx
      have HX := Lib.hid hx
      have HPX := Lib.hid (HP.out x.fr x.to nv wr HF.out)
      obtain ⟨t, ht⟩ : ∃ t, p x = t := ⟨_, rfl⟩
      rw [HPE.out x, ht] at HPX
      have HT := Lib.hid ht
      clear ht hx
      cases t with
      | true =>
        have HFI : Hid (l.findIdx? p = some k) := Lib.hid (by
          rw [List.findIdx?_eq_some_iff_getElem]
          have hkl : k < l.length := by rw [HN.out]; exact hlt
          have := HX.out
          rw [List.getElem?_eq_getElem hkl] at this
          refine ⟨hkl, by rw [Option.some.inj this]; exact HT.out, fun j hj => ?_⟩
          have := HJ.out j _ hj (List.getElem?_eq_getElem (by omega))
          simpa using this)
        go_wp2_with fail
        refine (HPX.out).mono ?_
        rintro e w5 ⟨rfl, hf5⟩
        go_wp2_with fail
        go_ret
        exact ⟨by rw [HFI.out]; rfl, HF.out.trans hf5⟩
      | false =>
        have HJ2 : Hid (∀ (j : Nat) y, j < k + 1 → l[j]? = some y → p y = false) := fun j y hj hy => by
          by_cases e : j = k
          · subst e
            rw [HX.out] at hy
            obtain rfl := Option.some.inj hy
            exact HT.out
          · exact HJ.out j y (by omega) hy
        go_wp2_with fail
        refine (HPX.out).mono ?_
        rintro e w5 ⟨rfl, hf5⟩
        go_wp2_with fail
        go_roundw
        case rel => exact ⟨k + 1, by omega, by go_num, HF.out.trans hf5, HJ2⟩
        case measure => simp [intOf] <;> omega
    · obtain rfl : k = n := by omega
      have HFI : Hid (l.findIdx? p = none) := Lib.hid (by
        rw [List.findIdx?_eq_none_iff]
        intro x hx
        obtain ⟨j, hj, rfl⟩ := List.getElem_of_mem hx
        exact HJ.out j _ (by rw [← HN.out]; exact hj) (List.getElem?_eq_getElem hj))
      go_wp2_with fail
      go_ret
      exact ⟨by rw [HFI.out]; rfl, HF.out⟩

set_option maxHeartbeats 400000 in
theorem at_row (g n c : Nat) (pc : Int) (l : List Blk) (w : World) (hn : l.length = n) (hm : n ≤ 1000000) (hc : RowAt w g l) :
    Calls Tryz.prog 13 #[.slice (some ⟨g, 0, none⟩) n c, .int .i64 pc] w fun e w' => e = .returned (.int .i64 (atB l pc)) ∧ Fr No w w' := by
  have HF1 : Hid (Fr No w (w.alloc (.cells #[.int .i64 pc] 3))) := (Fr.refl _ _).alloc _
  have HI := Lib.hid (idxf_blks g n c w.heap.size pc l (w.alloc (.cells #[.int .i64 pc] 3)) hn hm (hc.fr HF1.out) (by
    have := CellsAt.new w [.int .i64 pc] 3 0 _ rfl
    exact this))
  clear hn hm hc
  go_enter Tryz.func13, Tryz.ntmps13
  go_wp2_with (go_at_call 33; (with_reducible refine (HI.out).mono ?_); rintro e w' ⟨rfl, hf⟩)
  go_ret
  exact ⟨rfl, HF1.out.trans hf⟩
end Go.Proofs.YtakcdecljfmckaaGreatDoor

namespace Go.Proofs.YtakcdecljfmckaaGreatDoor

/-! ### what a slot leads to -/
inductive SlotLed (l : List Ins) : Nat → Prop
  | zero : SlotLed l 0
  | step {u v : Nat} : SlotLed l u → v ∈ nextM l u → SlotLed l v
theorem visitM_led {l : List Ins} : ∀ {fuel : Nat} {seen : List Bool} {pc : Nat}, SlotLed l pc → (∀ p, seen.getD p false = true → SlotLed l p) → ∀ p, (visitM l fuel seen pc).getD p false = true → SlotLed l p
  | 0, _, _, _, hs, p, hp => hs p hp
  | fuel + 1, seen, pc, hpc, hs, p, hp => by
    rw [visitM] at hp
    split at hp
    · exact hs p hp
    · have key : ∀ (L : List Nat) (s : List Bool), (∀ v ∈ L, SlotLed l v) → (∀ p, s.getD p false = true → SlotLed l p) → ∀ p, (L.foldl (visitM l fuel) s).getD p false = true → SlotLed l p := by
        intro L
        induction L with
        | nil => intro s _ hs p hp; exact hs p hp
        | cons v L ih =>
          intro s hL hs p hp
          rw [List.foldl_cons] at hp
          exact ih _ (fun v hv => hL v (List.mem_cons_of_mem _ hv)) (visitM_led (hL v List.mem_cons_self) hs) p hp
      refine key _ _ (fun v hv => hpc.step hv) (fun p hp => ?_) p hp
      by_cases e : p = pc
      · exact e ▸ hpc
      · rw [List.getD_eq_getElem?_getD, List.getElem?_set_ne (fun h => e h.symm), ← List.getD_eq_getElem?_getD] at hp
        exact hs p hp
theorem visitM_len {l : List Ins} : ∀ {fuel : Nat} {seen : List Bool} {pc : Nat}, (visitM l fuel seen pc).length = seen.length
  | 0, _, _ => rfl
  | fuel + 1, seen, pc => by
    rw [visitM]
    split
    · rfl
    · have key : ∀ (L : List Nat) (s : List Bool), (L.foldl (visitM l fuel) s).length = s.length := by
        intro L
        induction L with
        | nil => intro s; rfl
        | cons v L ih => intro s; rw [List.foldl_cons, ih, visitM_len]
      rw [key, List.length_set]
theorem seenM_led {l : List Ins} {p : Nat} (hp : p < l.length) (h : (seenM l).getD p true = true) : SlotLed l p := by
  refine visitM_led (fuel := l.length + 1) (seen := List.replicate l.length false) (pc := 0) .zero (fun p hp => ?_) p ?_
  · rw [List.getD_eq_getElem?_getD, List.getElem?_replicate] at hp
    split at hp <;> simp at hp
  · unfold seenM at h
    rw [List.getD_eq_getElem?_getD] at h ⊢
    have hlen : p < (visitM l (l.length + 1) (List.replicate l.length false) 0).length := by rw [visitM_len, List.length_replicate]; exact hp
    rw [List.getElem?_eq_getElem hlen] at h ⊢
    exact h
/-! ### what a program is that may be -/
structure Whole (l : List Ins) (maps : Int) : Prop where
  pos : 0 < l.length
  most : l.length ≤ 64
  field : ∀ p ∈ starts l, fieldM l p maps false = 0
  way : ∀ p ∈ starts l, wayM l (fun k => (starts l).contains k) p = 0
  seen : ∀ p ∈ starts l, (seenM l).getD p true = true
theorem firstBad_none {f : Nat → Int} {F : List Nat} (h : firstBad f F = none) : ∀ p ∈ F, f p = 0 := by
  intro p hp
  unfold firstBad at h
  split at h
  · cases h
  · rename_i h2
    have := List.find?_eq_none.1 h2 p hp
    simpa using this
theorem firstBad_some {f : Nat → Int} {F : List Nat} {q : Nat × Int} (h : firstBad f F = some q) : q.2 ≠ 0 ∧ q.1 ∈ F := by
  unfold firstBad at h
  split at h
  · rename_i pc h2
    simp only [Option.some.injEq] at h
    subst h
    have := List.find?_some h2
    exact ⟨by simpa using this, List.mem_of_find?_eq_some h2⟩
  · cases h
theorem whole {l : List Ins} {maps : Int} (h : (checkM l maps false).2 = 0) : Whole l maps := by
  unfold checkM at h
  simp only [Bool.false_eq_true, if_false] at h
  split at h
  · simp at h
  · rename_i h1
    have h1 := not_or.1 h1
    split at h
    · rename_i q hq; exact absurd h (firstBad_some hq).1
    · rename_i hf
      split at h
      · rename_i q hq; exact absurd h (firstBad_some hq).1
      · rename_i hw
        split at h
        · rename_i q hq; exact absurd h (firstBad_some hq).1
        · rename_i hs
          refine ⟨by omega, by omega, firstBad_none hf, firstBad_none hw, fun p hp => ?_⟩
          have := firstBad_none hs p hp
          split at this
          · assumption
          · omega
theorem Whole.beh {l : List Ins} {maps : Int} (h : Whole l maps) {p : Nat} (hp : p ∈ starts l) : behM l p ≤ l.length := by
  have hlt := starts_lt hp
  unfold behM sizeM
  split
  · rename_i h24
    have := h.field p hp
    unfold fieldM at this
    simp only [h24] at this
    split at this
    · rename_i hc; exact absurd this hc
    · rw [if_neg (by decide), if_pos trivial] at this
      split at this
      · omega
      · rename_i hn
        have := not_or.1 hn
        omega
  · omega
theorem way_to {l : List Ins} {p : Nat} (hw : wayM l (fun k => (starts l).contains k) p = 0) (hj : jumpsM (insAt l p) = true) : 0 ≤ toM l p ∧ toM l p < l.length ∧ (toM l p).toNat ∈ starts l := by
  have := hw
  unfold wayM at this
  simp only at this
  split at this
  · omega
  · rename_i h1
    split at this
    · omega
    · rename_i h2
      have a1 : ¬ (toM l p < 0 ∨ (l.length : Int) ≤ toM l p) := fun hh => h1 ⟨hj, hh⟩
      have a2 : (starts l).contains (toM l p).toNat = true := by
        cases e : (starts l).contains (toM l p).toNat with
        | true => rfl
        | false => exact absurd ⟨hj, e⟩ h2
      exact ⟨by omega, by omega, by simpa using a2⟩
theorem Whole.to {l : List Ins} {maps : Int} (h : Whole l maps) {p : Nat} (hp : p ∈ starts l) (hj : jumpsM (insAt l p) = true) : 0 ≤ toM l p ∧ toM l p < l.length ∧ (toM l p).toNat ∈ starts l := way_to (h.way p hp) hj
theorem way_on {l : List Ins} {p : Nat} (hw : wayM l (fun k => (starts l).contains k) p = 0) (he : endsM (insAt l p) = false) (ha : alwaysM (insAt l p) = false) : behM l p < l.length := by
  have := hw
  unfold wayM at this
  simp only at this
  split at this
  · omega
  · split at this
    · omega
    · split at this
      · omega
      · rename_i h1
        unfold behM
        refine Nat.not_le.1 fun hh => h1 ⟨he, ha, hh⟩
theorem Whole.on {l : List Ins} {maps : Int} (h : Whole l maps) {p : Nat} (hp : p ∈ starts l) (he : endsM (insAt l p) = false) (ha : alwaysM (insAt l p) = false) : behM l p < l.length := way_on (h.way p hp) he ha
theorem way_next {l : List Ins} (hw : ∀ p ∈ starts l, wayM l (fun k => (starts l).contains k) p = 0) {p v : Nat} (hp : p ∈ starts l) (hv : v ∈ nextM l p) : v ∈ starts l := by
  unfold nextM at hv
  simp only at hv
  split at hv
  · exact absurd hv (by simp)
  · rcases List.mem_append.1 hv with hv | hv
    · split at hv
      · rename_i hc
        rw [List.mem_singleton.1 hv]
        exact starts_next hp hc.2
      · exact absurd hv (by simp)
    · split at hv
      · rename_i hc
        rw [List.mem_singleton.1 hv]
        exact (way_to (hw p hp) hc.1).2.2
      · exact absurd hv (by simp)
theorem Whole.next {l : List Ins} {maps : Int} (h : Whole l maps) {p v : Nat} (hp : p ∈ starts l) (hv : v ∈ nextM l p) : v ∈ starts l := way_next h.way hp hv
theorem not_leaves {i : Ins} (h : leavesM i = false) : jumpsM i = false ∧ endsM i = false ∧ alwaysM i = false := by
  unfold leavesM at h
  have hj : jumpsM i = false ∧ endsM i = false := by
    unfold jumpsM endsM
    cases hb : jumpB i.op with
    | false => simp
    | true =>
      rw [hb] at h
      have h133 : i.op = 133 := by simpa using h
      rw [h133]
      exact ⟨by decide, by decide⟩
  exact ⟨hj.1, hj.2, by unfold alwaysM; rw [hj.1]; rfl⟩
theorem Whole.calm {l : List Ins} {maps : Int} (h : Whole l maps) {p : Nat} (hp : p ∈ starts l) (hl : leavesM (insAt l p) = false) : nextM l p = [behM l p] ∧ behM l p < l.length := by
  obtain ⟨h1, h2, h3⟩ := not_leaves hl
  have hb := h.on hp h2 h3
  have hlt := starts_lt hp
  refine ⟨?_, hb⟩
  unfold behM at hb
  unfold nextM
  simp only
  rw [if_neg (by rw [h2]; simp; omega), if_pos ⟨h3, hb⟩, if_neg (by rw [h1]; simp)]
  simp [behM]
theorem front_zero (l : List Ins) : frontB l 0 = true := by simp [frontB, frontsM]
theorem front_beh {l : List Ins} {p : Nat} (hp : p ∈ starts l) (hl : leavesM (insAt l p) = true) : frontB l (behM l p) = true := by
  unfold frontB frontsM
  rw [List.contains_iff_mem]
  refine List.mem_cons_of_mem _ (List.mem_flatMap.2 ⟨p, hp, ?_⟩)
  rw [if_pos hl]
  exact List.mem_cons_self
theorem front_next {l : List Ins} {p v : Nat} (hp : p ∈ starts l) (hl : leavesM (insAt l p) = true) (hv : v ∈ nextM l p) : frontB l v = true := by
  unfold frontB frontsM
  rw [List.contains_iff_mem]
  refine List.mem_cons_of_mem _ (List.mem_flatMap.2 ⟨p, hp, ?_⟩)
  rw [if_pos hl]
  exact List.mem_cons_of_mem _ hv
/-! ### the blocks of such a program -/
theorem Whole.cut {l : List Ins} {maps : Int} (h : Whole l maps) : CutOk l (frontB l) (starts l) (cutsM l) l.length := by
  obtain ⟨e, he, hc⟩ := cut_all (l := l) (F := frontB l) (front_zero l) (fuel := l.length) (pc := 0) (done := []) (by omega) rfl (CutOk.start _ _) (fun _ => rfl)
  have : e = l.length := by
    have hne : cutsM l ≠ [] := fun h2 => by
      have := hc.none h2
      have h3 := starts_zero h.pos
      rw [this] at h3
      exact absurd h3 (by simp)
    have ht := hc.tiles
    have e2 : cutM l (frontB l) (starts l) = (cutsM l).dropLast ++ [(cutsM l).getLast hne] := (List.dropLast_concat_getLast hne).symm
    rw [e2] at ht
    obtain ⟨m, -, -, -, h4⟩ := Tiles.snoc.1 ht
    obtain ⟨-, a2, a3, -, -⟩ := hc.la _ (List.getLast_mem hne)
    have := h.beh a3
    omega
  exact this ▸ hc
/-- a block of a front -/
theorem Whole.block {l : List Ins} {maps : Int} (h : Whole l maps) {v : Nat} (hv : v ∈ starts l) (hf : frontB l v = true) : ∃ (n : Nat) (d : Cb), (cutsM l)[n]? = some d ∧ d.fr = v ∧ atM (cutsM l) v = (n : Int) := by
  obtain ⟨n, d, hn, h1, h2⟩ := h.cut.tiles.cover (Nat.zero_le v) (starts_lt hv)
  refine ⟨n, d, hn, ?_, h.cut.tiles.at hn h1 h2⟩
  rcases Nat.lt_or_ge d.fr v with hlt | hge
  · have := h.cut.mid d (List.mem_of_getElem? hn) v hv hlt h2
    rw [hf] at this; cases this
  · omega
/-- a block's last instruction leads to fronts alone -/
theorem Whole.lead {l : List Ins} {maps : Int} (h : Whole l maps) {c : Cb} (hc : c ∈ cutsM l) {v : Nat} (hv : v ∈ nextM l c.la) : v ∈ starts l ∧ frontB l v = true := by
  obtain ⟨a1, a2, a3, a4, a5⟩ := h.cut.la c hc
  have hs := h.next a3 hv
  refine ⟨hs, ?_⟩
  cases hl : leavesM (insAt l c.la) with
  | true => exact front_next a3 hl hv
  | false =>
    obtain ⟨e, hb⟩ := h.calm a3 hl
    rw [e, List.mem_singleton] at hv
    have hvt : v = c.to := by omega
    subst hvt
    obtain ⟨n, d, hn, h1, h2⟩ := h.cut.tiles.cover (Nat.zero_le c.to) (starts_lt hs)
    obtain ⟨k, hk⟩ := List.getElem?_of_mem hc
    have hcf := (h.cut.tiles.le.2 c hc)
    have hfr : c.fr < c.to := by have := behM_pos l c.la; omega
    rcases Nat.lt_trichotomy n k with hlt | rfl | hgt
    · have := h.cut.tiles.order hn hk hlt; omega
    · rw [hk, Option.some.injEq] at hn; subst hn; omega
    · have := h.cut.tiles.order hk hn hgt
      have : d.fr = c.to := by omega
      rw [← this]
      exact (h.cut.la d (List.mem_of_getElem? hn)).2.2.2.2
theorem addNew_mem {acc : List Nat} {n k : Nat} : k ∈ addNew acc n ↔ k ∈ acc ∨ k = n := by
  unfold addNew
  split
  · rename_i h
    have h := List.contains_iff_mem.1 h
    constructor
    · exact .inl
    · rintro (h2 | rfl)
      · exact h2
      · exact h
  · simp
theorem foldl_addNew_mem : ∀ {L acc : List Nat} {k : Nat}, k ∈ L.foldl addNew acc ↔ k ∈ acc ∨ k ∈ L
  | [], acc, k => by simp
  | a :: L, acc, k => by rw [List.foldl_cons, foldl_addNew_mem, addNew_mem, List.mem_cons, or_assoc]
theorem foldl_addNew_len : ∀ {L acc : List Nat}, (L.foldl addNew acc).length ≤ acc.length + L.length
  | [], acc => by simp
  | a :: L, acc => by
    rw [List.foldl_cons]
    have h := foldl_addNew_len (L := L) (acc := addNew acc a)
    have : (addNew acc a).length ≤ acc.length + 1 := by unfold addNew; split <;> simp
    simp only [List.length_cons]
    omega
theorem nextM_len (l : List Ins) (pc : Nat) : (nextM l pc).length ≤ 2 := by
  unfold nextM
  simp only
  split
  · simp
  · rw [List.length_append]
    split <;> split <;> simp
theorem nextsM_len (l : List Ins) (B : List Cb) (la : Nat) : (nextsM l B la).length ≤ (nextM l la).length := by
  unfold nextsM
  have := foldl_addNew_len (L := (nextM l la).map fun to : Nat => (atM B (to : Int)).toNat) (acc := [])
  simpa using this
theorem nextsM_mem {l : List Ins} {B : List Cb} {la n : Nat} : n ∈ nextsM l B la ↔ ∃ v ∈ nextM l la, (atM B (v : Int)).toNat = n := by
  unfold nextsM
  rw [foldl_addNew_mem]
  simp
theorem blocksM_len (l : List Ins) : (blocksM l).length = (cutsM l).length := by simp [blocksM]
theorem blocksM_get {l : List Ins} {k : Nat} {c : Cb} (h : (cutsM l)[k]? = some c) : (blocksM l)[k]? = some ⟨c.fr, c.to, nextsM l (cutsM l) c.la⟩ := by
  unfold blocksM
  rw [List.getElem?_map, h]
  rfl
theorem nxM_get {l : List Ins} {k : Nat} {c : Cb} (h : (cutsM l)[k]? = some c) : nxM (blocksM l) k = nextsM l (cutsM l) c.la := by
  unfold nxM
  rw [List.getD_eq_getElem?_getD, blocksM_get h]
  rfl
theorem Whole.nx {l : List Ins} {maps : Int} (h : Whole l maps) {k n : Nat} (hn : n ∈ nxM (blocksM l) k) : ∃ c d, (cutsM l)[k]? = some c ∧ (cutsM l)[n]? = some d ∧ d.fr ∈ nextM l c.la := by
  cases hk : (cutsM l)[k]? with
  | none =>
    unfold nxM at hn
    rw [List.getD_eq_getElem?_getD] at hn
    unfold blocksM at hn
    rw [List.getElem?_map, hk] at hn
    simp at hn
  | some c =>
    rw [nxM_get hk] at hn
    obtain ⟨v, hv, hvn⟩ := nextsM_mem.1 hn
    obtain ⟨hs, hf⟩ := h.lead (List.mem_of_getElem? hk) hv
    obtain ⟨m, d, hm, hd, ha⟩ := h.block hs hf
    have : m = n := by rw [ha] at hvn; simpa using hvn
    subst this
    exact ⟨c, d, rfl, hm, hd ▸ hv⟩
theorem Whole.nx_lt {l : List Ins} {maps : Int} (h : Whole l maps) {k n : Nat} (hn : n ∈ nxM (blocksM l) k) : n < (blocksM l).length := by
  obtain ⟨c, d, -, hd, -⟩ := h.nx hn
  rw [blocksM_len]
  exact (List.getElem?_eq_some_iff.1 hd).1
theorem Whole.led {l : List Ins} {maps : Int} (h : Whole l maps) {v : Nat} (hv : SlotLed l v) : v ∈ starts l ∧ ∀ k c, (cutsM l)[k]? = some c → c.fr ≤ v → v < c.to → LedTo (nxM (blocksM l)) (fun _ => False) k := by
  induction hv with
  | zero =>
    refine ⟨starts_zero h.pos, fun k c hk h1 h2 => ?_⟩
    have : k = 0 := by
      cases hB : cutsM l with
      | nil => rw [hB] at hk; simp at hk
      | cons b r =>
        cases k with
        | zero => rfl
        | succ k =>
          have ho := h.cut.tiles.order (i := 0) (j := k + 1) (b := b) (c := c) (by rw [hB]; rfl) hk (by omega)
          have ht := h.cut.tiles
          rw [hB] at ht
          have := ht.2.1
          omega
    subst this
    exact .start id
  | @step u v hu hv ih =>
    obtain ⟨hus, ih⟩ := ih
    have hvs := h.next hus hv
    refine ⟨hvs, fun k c hk h1 h2 => ?_⟩
    obtain ⟨i, b, hi, hb1, hb2⟩ := h.cut.tiles.cover (Nat.zero_le u) (starts_lt hus)
    have hled := ih i b hi hb1 hb2
    obtain ⟨a1, a2, a3, a4, a5⟩ := h.cut.la b (List.mem_of_getElem? hi)
    by_cases hlast : u = b.la
    · subst hlast
      obtain ⟨hs, hf⟩ := h.lead (List.mem_of_getElem? hi) hv
      obtain ⟨n, d, hn, hd, ha⟩ := h.block hs hf
      have hk2 : k = n := by
        have := h.cut.tiles.at hk h1 h2
        omega
      subst hk2
      refine .step hled ?_ id
      rw [nxM_get hi]
      exact nextsM_mem.2 ⟨v, hv, by rw [ha]; rfl⟩
    · -- in the midst of a block
      have hlt : u < b.la := by
        rcases Nat.lt_trichotomy u b.la with h3 | h3 | h3
        · exact h3
        · exact absurd h3 hlast
        · have := starts_sep a3 hus h3; omega
      have hbeh := starts_sep hus a3 hlt
      have hbs : behM l u ∈ starts l := starts_next hus (by have := starts_lt a3; omega)
      have hpos := behM_pos l u
      have hpos2 := behM_pos l b.la
      have hF : frontB l (behM l u) = false := h.cut.mid b (List.mem_of_getElem? hi) _ hbs (by omega) (by omega)
      have hnl : leavesM (insAt l u) = false := by
        cases e : leavesM (insAt l u) with
        | false => rfl
        | true => rw [front_beh hus e] at hF; cases hF
      obtain ⟨e, -⟩ := h.calm hus hnl
      rw [e, List.mem_singleton] at hv
      have hk2 : k = i := by
        have x1 := h.cut.tiles.at hk h1 h2
        have x2 := h.cut.tiles.at (pc := v) hi (by omega) (by omega)
        omega
      exact hk2 ▸ hled
theorem Whole.reach {l : List Ins} {maps : Int} (h : Whole l maps) {k : Nat} (hk : k < (blocksM l).length) : LedTo (nxM (blocksM l)) (fun _ => False) k := by
  rw [blocksM_len] at hk
  have hg : (cutsM l)[k]? = some (cutsM l)[k] := List.getElem?_eq_getElem hk
  obtain ⟨a1, a2, a3, a4, a5⟩ := h.cut.la _ (List.getElem_mem hk)
  have hb := behM_pos l (cutsM l)[k].la
  exact (h.led (seenM_led (starts_lt a4) (h.seen _ a4))).2 k _ hg (Nat.le_refl _) (by omega)
/-- where all jumps go on -/
theorem Whole.forth {l : List Ins} {maps : Int} (h : Whole l maps) (hon : ∀ pc, pc < l.length → ∀ v ∈ nextM l pc, pc < v) {k n : Nat} (hn : n ∈ nxM (blocksM l) k) : k < n := by
  obtain ⟨c, d, hc, hd, hv⟩ := h.nx hn
  obtain ⟨a1, a2, a3, a4, a5⟩ := h.cut.la c (List.mem_of_getElem? hc)
  have := hon c.la (starts_lt a3) _ hv
  rcases Nat.lt_trichotomy n k with h1 | rfl | h1
  · have h2 := h.cut.tiles.order hd hc h1
    obtain ⟨b1, b2, -, -, -⟩ := h.cut.la d (List.mem_of_getElem? hd)
    have := behM_pos l d.la
    omega
  · rw [hc, Option.some.injEq] at hd; subst hd; omega
  · exact h1
end Go.Proofs.YtakcdecljfmckaaGreatDoor
