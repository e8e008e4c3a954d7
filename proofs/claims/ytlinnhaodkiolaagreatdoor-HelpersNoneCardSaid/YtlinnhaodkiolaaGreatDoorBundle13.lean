/- A world's none, Memory, Maps, Layout's parts, draw; Own. (*World).Copy. a world behind Copy. A world stays behind what changes no block of its own. (*World).Own. helpers.Args: the map of how many arguments helpers have. -/
import Derived.Test.YtlinnhaodkiolaaGreatDoorBundle12
import Derived.Test.YtlinnhaodkiolaaGreatDoorBundle9
import Derived.Deep.RegionHeld3
import Derived.Deep.DeepCutAuto
import Derived.Deep.RegionWith
import Derived.Maps.OwnSet
namespace Go.Proofs.YtlinnhaodkiolaaGreatDoor
open Go.RowKit

set_option maxHeartbeats 400000 in
theorem hnone_any (bw : Nat) (w : World) (h : w.cell? ⟨bw, 0, none⟩ = some (.bool true)) : Calls Tryz.prog 11 #[.pointer (some ⟨bw, 0, none⟩)] w fun e w' => e = .returned (.bool false) ∧ w = w' := by
  go_enter Tryz.func11, Tryz.ntmps11
  go_wp2_with fail
  go_ret
  exact ⟨rfl, rfl⟩

theorem hnone_hid (bw : Nat) (w : World) (h : w.cell? ⟨bw, 0, none⟩ = some (.bool true)) : Hid (Calls Tryz.prog 11 #[.pointer (some ⟨bw, 0, none⟩)] w fun e w' => e = .returned (.bool false) ∧ w = w') := hnone_any bw w h

set_option maxHeartbeats 400000 in
theorem hmemory_any (bw mb : Nat) (w : World) (h : w.cell? ⟨bw, 0, none⟩ = some (.bool true)) (h4 : w.cell? ⟨bw, 4, none⟩ = some (.pointer (some ⟨mb, 0, none⟩))) :
    Calls Tryz.prog 5 #[.pointer (some ⟨bw, 0, none⟩)] w fun e w' => e = .returned (.pointer (some ⟨mb, 0, none⟩)) ∧ w = w' := by
  have HN := hnone_hid bw w h
  clear h
  go_enter Tryz.func5, Tryz.ntmps5
  go_wp2_with (go_at_call 11; (with_reducible refine (HN.out).mono ?_); rintro e w1 ⟨rfl, rfl⟩)
  go_ret
  exact ⟨rfl, rfl⟩

/-- one more is drawn: none is left -/
theorem draw_none (bw c : Nat) (a : Option Addr) (w : World) (h6 : w.cell? ⟨bw, 6, none⟩ = some (.slice a 0 c)) :
    Calls Tryz.prog 13 #[.pointer (some ⟨bw, 0, none⟩)] w fun e w' => e = .returned (.int .u64 0) ∧ w = w' := by
  go_enter Tryz.func13, Tryz.ntmps13
  go_wp2_with fail
  go_ret
  exact ⟨rfl, rfl⟩

/-- one more is drawn -/
theorem draw_some (bw g off n c : Nat) (d : Int) (w : World) (h6 : w.cell? ⟨bw, 6, none⟩ = some (.slice (some ⟨g, off, none⟩) n c)) (hz : w.frozen? ⟨bw, 6, none⟩ = false) (hn : 0 < n) (hnc : n ≤ c) (hd : w.cell? ⟨g, off, none⟩ = some (.int .u64 d)) :
    Calls Tryz.prog 13 #[.pointer (some ⟨bw, 0, none⟩)] w fun e w' => e = .returned (.int .u64 d) ∧ w' = w.setCell ⟨bw, 6, none⟩ (.slice (if c = 1 then some ⟨g, off, none⟩ else some ⟨g, off + 1, none⟩) (n - 1) (c - 1)) := by
  have c1 : (1 : Int) ≤ (n : Int) := by omega
  have c2 : (0 : Int) < (n : Int) := by omega
  have c3 : (1 : Int) ≤ (c : Int) := by omega
  have c4 : (n : Int) ≤ (c : Int) := by omega
  have q : ((n : Int) == 0) = false := by simp; omega
  clear hn hnc
  go_enter Tryz.func13, Tryz.ntmps13
  go_wp2_with fail
  all_goals go_ret
  all_goals exact ⟨rfl, rfl⟩


theorem U64sIn.tail {w : World} {g off c : Nat} {d : Int} {l : List Int} (h : l.length + 1 ≤ c) (hc : CellsAt w g off ((d :: l).map (Value.int .u64))) : U64sIn w (.slice (if c = 1 then some ⟨g, off, none⟩ else some ⟨g, off + 1, none⟩) (l.length + 1 - 1) (c - 1)) l := by
  rw [Nat.add_sub_cancel]
  by_cases h0 : l = []
  · subst h0
    exact .inl ⟨rfl, _, _, rfl⟩
  · have : 0 < l.length := List.length_pos_iff.2 h0
    rw [if_neg (by omega)]
    refine .inr ⟨g, off + 1, c - 1, rfl, by omega, fun j u hj => ?_⟩
    rw [show off + 1 + j = off + (j + 1) by omega]
    exact hc (j + 1) u (by simpa using hj)

/-- what a draw gives -/
def drawN (D : List Int) : Int := D.headD 0

theorem draw_any {w0 wr : World} {bw b mb p : Nat} {ds : List MapD} {RL : List Reg} {D : List Int} {S : List Tab} {m : List Reg} {A H T : Nat → Prop} {mv ov dv : Value} (h : WAt w0 bw b mb ds p RL D S m A H T mv ov dv wr) :
    Calls Tryz.prog 13 #[.pointer (some ⟨bw, 0, none⟩)] wr fun e w' => e = .returned (.int .u64 (drawN D)) ∧ ∃ dv', WAt w0 bw b mb ds p RL D.tail S m A H T mv ov dv' w' ∧ Fr (fun k => k = bw) wr w' := by
  rcases h.draws with ⟨rfl, a, c, hv⟩ | ⟨g, off, cap, hv, hl, hc⟩
  · refine (draw_none bw c a wr (by rw [h.c6, hv])).mono ?_
    rintro e w' ⟨he, rfl⟩
    exact ⟨he, dv, h, Fr.refl _ _⟩
  · cases D with
    | nil =>
      refine (draw_none bw cap (some ⟨g, off, none⟩) wr (by rw [h.c6, hv]; rfl)).mono ?_
      rintro e w' ⟨he, rfl⟩
      exact ⟨he, dv, h, Fr.refl _ _⟩
    | cons d l =>
      have c0 := hc 0 _ rfl
      rw [Nat.add_zero] at c0
      refine (draw_some bw g off (l.length + 1) cap d wr (by rw [h.c6, hv]; rfl) h.open6 (by omega) hl c0).mono ?_
      rintro e w' ⟨he, rfl⟩
      refine ⟨he, .slice (if cap = 1 then some ⟨g, off, none⟩ else some ⟨g, off + 1, none⟩) (l.length + 1 - 1) (cap - 1), ?_, (Fr.refl (fun k => k = bw) wr).setCell (p := ⟨bw, 6, none⟩) (.inr rfl) _⟩
      obtain ⟨W, hW⟩ : ∃ W, W = wr.setCell ⟨bw, 6, none⟩ (.slice (if cap = 1 then some ⟨g, off, none⟩ else some ⟨g, off + 1, none⟩) (l.length + 1 - 1) (cap - 1)) := ⟨_, rfl⟩
      have hf : Fr (fun k => k = bw) wr W := by rw [hW]; exact (Fr.refl (fun k => k = bw) wr).setCell (p := ⟨bw, 6, none⟩) (.inr rfl) _
      have hg : g ≠ bw := fun e => h.drawsA g (by rw [hv]; rfl) (.inr (.inr e))
      have cs : ∀ j v, j ≠ 6 → wr.cell? ⟨bw, j, none⟩ = some v → W.cell? ⟨bw, j, none⟩ = some v := fun j v hj hcell => by
        rw [hW, World.cell?_setCell_other _ _ _ _ (by intro e; simp only [Addr.mk.injEq] at e; omega)]
        exact hcell
      rw [← hW]
      refine ⟨cs 0 _ (by decide) h.c0, cs 1 _ (by decide) h.c1, cs 2 _ (by decide) h.c2, cs 3 _ (by decide) h.c3, cs 4 _ (by decide) h.c4, cs 5 _ (by decide) h.c5, ?_, ?_, h.nb, h.lo, ?_, h.mapsA, ?_, h.ownA, ?_, ?_, ?_, fun k hk => Nat.lt_of_lt_of_le (h.lt k hk) hf.size, fun k hk => Nat.lt_of_lt_of_le (h.ltv k ?_) hf.size⟩
      · rw [hW]; exact World.cell?_setCell_same _ _ _ h.c6
      · rw [hW, World.frozen?_setCell]; exact h.open6
      · exact h.maps.frS hf (fun k hk e => h.mapsA k hk (.inr (.inr e)))
      · exact h.own.frS hf (fun k hk e => h.ownA k hk (.inr (.inr e)))
      · exact U64sIn.tail hl (hf.cells hc hg)
      · intro k hk
        have : k = g := by
          split at hk <;> simp [Value.ownBlock] at hk <;> omega
        subst this
        exact h.drawsA _ (by rw [hv]; rfl)
      · exact h.k.apart hf (fun k hk => by rw [hk]; exact h.lo) (fun k hA e => h.nb.1 (e ▸ hA)) (fun k hH e => h.nb.2.1 (e ▸ hH)) (fun k hT e => h.nb.2.2 (e ▸ hT))
      · rcases hk with hk | hk | hk
        · exact .inl hk
        · exact .inr (.inl hk)
        · have : k = g := by
            split at hk <;> simp [Value.ownBlock] at hk <;> omega
          subst this
          exact .inr (.inr (by rw [hv]; rfl))

end Go.Proofs.YtlinnhaodkiolaaGreatDoor

namespace Go.Proofs.YtlinnhaodkiolaaGreatDoor
open Go.RowKit

theorem MapsAt.apartAH {A H : Nat → Prop} {w : World} {b mb : Nat} {S : List Tab} (h : MapsAt w b mb S A H) : ∀ k, A k → ¬ H k := by
  obtain ⟨l, _, h⟩ := h
  exact h.AH

theorem copied_on {w0 wr w2 : World} {b mb mb2 : Nat} {S : List Tab} {m : List Reg} {A H T T2 : Nat → Prop} (h : KSt w0 b mb S m A H T wr) (hb : ∀ k, A k ∨ H k ∨ T k → k < wr.heap.size) (hf1 : Fr No wr w2) (hm1 : MemAt w2 mb2 m T2) (hT2 : ∀ k, T2 k → wr.heap.size ≤ k ∧ k < w2.heap.size) (hok : MemOk m)
    (hh : holdsB (mregsOf (S.map (·.d))) m = true) :
    Calls Tryz.prog 20 #[.pointer (some ⟨b, 0, none⟩), .pointer (some ⟨mb2, 0, none⟩)] w2 fun e w' => ∃ b2 A2 H2, e = .returned (.pointer (some ⟨b2, 0, none⟩)) ∧ Hid (KSt w0 b2 mb2 S m A2 H2 T2 w' ∧ Fr No w2 w' ∧ (∀ k, A2 k → A k ∨ w2.heap.size ≤ k) ∧ (∀ k, H2 k → w2.heap.size ≤ k) ∧ (∀ k, A2 k ∨ H2 k ∨ T2 k → k < w'.heap.size)) := by
  refine (mcopy_any (h.maps.no hf1) hm1 hok).mono ?_
  intro e w' hq
  unfold CopyQ at hq
  rw [if_pos hh] at hq
  obtain ⟨b2, he, ⟨A2, H2, ha, hA, hH⟩, hf⟩ := hq
  have s0 := h.fr.size
  have s1 := hf1.size
  have s2 := hf.size
  refine ⟨b2, A2, H2, he, ⟨ha, hm1.fr hf (fun _ _ => id), fun k hk => ⟨fun hk2 => ?_, fun hk2 => ?_⟩, h.hold, (h.fr.trans hf1).trans hf, fun k hk => ?_⟩, hf, (fun k hk => ?_), (fun k hk => (hH k hk).1), (fun k hk => ?_)⟩
  · have t := hT2 k hk
    rcases hA k hk2 with h1 | h1
    · omega
    · have := hb k (.inl h1); omega
  · have := hH k hk2
    have := hT2 k hk
    omega
  · show w0.heap.size ≤ k
    rcases hk with hk | hk
    · have := hH k hk
      omega
    · have := hT2 k hk
      omega
  · rcases hA k hk with h1 | h1
    · exact .inr h1.1
    · exact .inl h1
  · rcases hk with hk | hk | hk
    · rcases hA k hk with h1 | h1
      · exact h1.2
      · have := hb k (.inl h1); omega
    · exact (hH k hk).2
    · have := hT2 k hk
      omega

/-- what Copy leaves: a block of the world's own cells, the memory's and the maps' copies -/
def CopyW (w0 w : World) (b : Nat) (S : List Tab) (m : List Reg) (A : Nat → Prop) (mv ov dv : Value) (p : Int) (w' : World) : Prop :=
  ∃ mb2 b2 A2 H2 T2 W2 w3, Fr No w W2 ∧ Fr No W2 w3 ∧ w.heap.size < W2.heap.size ∧ (∀ k, T2 k → w.heap.size < k) ∧ KSt w0 b2 mb2 S m A2 H2 T2 w3 ∧ (∀ k, A2 k → A k ∨ W2.heap.size ≤ k) ∧ (∀ k, H2 k → W2.heap.size ≤ k) ∧ (∀ k, A2 k ∨ H2 k ∨ T2 k → k < w3.heap.size)
    ∧ w' = w3.setCell ⟨w.heap.size, 5, none⟩ (.pointer (some ⟨b2, 0, none⟩))
    ∧ (w3.cell? ⟨w.heap.size, 0, none⟩ = some (.bool true) ∧ w3.cell? ⟨w.heap.size, 1, none⟩ = some mv ∧ w3.cell? ⟨w.heap.size, 2, none⟩ = some (.int .i64 p) ∧ w3.cell? ⟨w.heap.size, 3, none⟩ = some ov ∧ w3.cell? ⟨w.heap.size, 4, none⟩ = some (.pointer (some ⟨mb2, 0, none⟩)) ∧ w3.cell? ⟨w.heap.size, 5, none⟩ = some (.pointer (some ⟨b, 0, none⟩)) ∧ w3.cell? ⟨w.heap.size, 6, none⟩ = some dv) ∧ ∀ j, w3.frozen? ⟨w.heap.size, j, none⟩ = false

theorem frozen_far {w w' : World} {g j : Nat} (hf : Fr No w w') (hg : g < w.heap.size) (h : w.frozen? ⟨g, j, none⟩ = false) : w'.frozen? ⟨g, j, none⟩ = false := by
  have hb := hf.block g hg (fun h => h)
  unfold World.frozen? at h ⊢
  rw [hb]
  exact h

set_option maxRecDepth 100000 in
set_option maxHeartbeats 4000000 in
/-- the walk of Copy -/
theorem wcopy_walk (bw b mb : Nat) (mv ov dv : Value) (p : Int) (w : World) (am ao ad : Option Addr) (nm cm no co nd cd : Nat) (hmv : mv = .slice am nm cm) (hov : ov = .slice ao no co) (hdv : dv = .slice ad nd cd)
    (c0 : w.cell? ⟨bw, 0, none⟩ = some (.bool true)) (c1 : w.cell? ⟨bw, 1, none⟩ = some mv) (c2 : w.cell? ⟨bw, 2, none⟩ = some (.int .i64 p)) (c3 : w.cell? ⟨bw, 3, none⟩ = some ov) (c4 : w.cell? ⟨bw, 4, none⟩ = some (.pointer (some ⟨mb, 0, none⟩))) (c5 : w.cell? ⟨bw, 5, none⟩ = some (.pointer (some ⟨b, 0, none⟩))) (c6 : w.cell? ⟨bw, 6, none⟩ = some dv)
    (w0 : World) (S : List Tab) (m : List Reg) (A : Nat → Prop)
    (hmc : ∀ W, Fr No w W → Calls Tryz.prog 19 #[.pointer (some ⟨mb, 0, none⟩)] W fun e w' => ∃ mb2, e = .returned (.pointer (some ⟨mb2, 0, none⟩)) ∧ Hid (Fr No W w' ∧ MemAt w' mb2 m (Made W w')))
    (hxc : ∀ W mb2 T2, Fr No w W → MemAt W mb2 m T2 → (∀ k, T2 k → w.heap.size ≤ k ∧ k < W.heap.size) → Calls Tryz.prog 20 #[.pointer (some ⟨b, 0, none⟩), .pointer (some ⟨mb2, 0, none⟩)] W fun e w' => ∃ b2 A2 H2, e = .returned (.pointer (some ⟨b2, 0, none⟩)) ∧ Hid (KSt w0 b2 mb2 S m A2 H2 T2 w' ∧ Fr No W w' ∧ (∀ k, A2 k → A k ∨ W.heap.size ≤ k) ∧ (∀ k, H2 k → W.heap.size ≤ k) ∧ (∀ k, A2 k ∨ H2 k ∨ T2 k → k < w'.heap.size))) :
    Calls Tryz.prog 7 #[.pointer (some ⟨bw, 0, none⟩)] w fun e w' => e = .returned (.pointer (some ⟨w.heap.size, 0, none⟩)) ∧ Hid (CopyW w0 w b S m A mv ov dv p w') := by
  subst hmv
  subst hov
  subst hdv
  have HN := hnone_hid bw w c0
  have hlt : bw < w.heap.size := World.block_lt_of_cell? w ⟨bw, 0, none⟩ c0
  have hne1 : ¬ bw = w.heap.size := by omega
  have hne2 : ¬ w.heap.size = bw := by omega
  clear hlt
  have HMC := Lib.hid hmc
  have HXC := Lib.hid hxc
  have M4 : Hid (∀ W, Fr No w W → W.cell? ⟨bw, 4, none⟩ = some (.pointer (some ⟨mb, 0, none⟩)) ∧ W.cell? ⟨bw, 5, none⟩ = some (.pointer (some ⟨b, 0, none⟩))) := fun W hW => ⟨hW.cell c4 (fun h => h), hW.cell c5 (fun h => h)⟩
  clear hmc hxc
  go_enter Tryz.func7, Tryz.ntmps7
  go_upto_region 4 with (first
    | (go_at_call 11; (with_reducible refine (HN.out).mono ?_); rintro e w1 ⟨rfl, rfl⟩))
  obtain ⟨W0, hW0⟩ : ∃ W0, W0 = w.alloc (.cells #[.bool true, .slice am nm cm, .int .i64 p, .slice ao no co, .pointer (some ⟨mb, 0, none⟩), .pointer (some ⟨b, 0, none⟩), .slice ad nd cd] 43) := ⟨_, rfl⟩
  have HF0 : Hid (Fr No w W0) := by rw [hW0]; exact Lib.hid ((Fr.refl _ _).alloc _)
  have HS0 : Hid (W0.heap.size = w.heap.size + 1) := by rw [hW0]; exact Lib.hid (by simp only [World.alloc, Array.size_push])
  have HCB : Hid (CellsAt W0 w.heap.size 0 [.bool true, .slice am nm cm, .int .i64 p, .slice ao no co, .pointer (some ⟨mb, 0, none⟩), .pointer (some ⟨b, 0, none⟩), .slice ad nd cd]) := by rw [hW0]; exact Lib.hid (CellsAt.new w _ _)
  have HFZ : Hid (∀ j, W0.frozen? ⟨w.heap.size, j, none⟩ = false) := by rw [hW0]; exact Lib.hid (fun j => World.frozen?_alloc_new _ _ _ _)
  obtain ⟨n4, n5⟩ := M4.out W0 HF0.out
  rw [← hW0]
  clear hW0 c0 c1 c2 c3 c4 c5 c6 HN
  have HZ4 : Hid (∀ W, Fr No W0 W → W.cell? ⟨w.heap.size, 4, none⟩ = some (.pointer (some ⟨mb, 0, none⟩)) ∧ W.frozen? ⟨w.heap.size, 4, none⟩ = false) := fun W hW => by
    have c := HCB.out 4 _ rfl
    rw [Nat.zero_add] at c
    exact ⟨hW.cell c (fun h => h), by rw [hW.frozen c (fun h => h)]; exact HFZ.out 4⟩
  go_upto_region 5 with (go_at_call 19; (with_reducible refine (HMC.out _ HF0.out).mono ?_); rintro e w1 ⟨mb2, rfl, h1⟩; obtain ⟨z4, fz4⟩ := HZ4.out w1 h1.out.1)
  obtain ⟨W2, hW2⟩ : ∃ W2, W2 = w1.setCell ⟨w.heap.size, 4, none⟩ (.pointer (some ⟨mb2, 0, none⟩)) := ⟨_, rfl⟩
  have HFB : Hid (Fr (fun k => k = w.heap.size) w1 W2) := by rw [hW2]; exact Lib.hid ((Fr.refl (fun k => k = w.heap.size) w1).setCell (p := ⟨w.heap.size, 4, none⟩) (.inr rfl) _)
  have HC1 : Hid (CellsAt w1 w.heap.size 0 [.bool true, .slice am nm cm, .int .i64 p, .slice ao no co, .pointer (some ⟨mb, 0, none⟩), .pointer (some ⟨b, 0, none⟩), .slice ad nd cd]) := h1.out.1.cells HCB.out (fun h => h)
  have HC2 : Hid (W2.cell? ⟨w.heap.size, 0, none⟩ = some (.bool true) ∧ W2.cell? ⟨w.heap.size, 1, none⟩ = some (.slice am nm cm) ∧ W2.cell? ⟨w.heap.size, 2, none⟩ = some (.int .i64 p) ∧ W2.cell? ⟨w.heap.size, 3, none⟩ = some (.slice ao no co) ∧ W2.cell? ⟨w.heap.size, 4, none⟩ = some (.pointer (some ⟨mb2, 0, none⟩)) ∧ W2.cell? ⟨w.heap.size, 5, none⟩ = some (.pointer (some ⟨b, 0, none⟩)) ∧ W2.cell? ⟨w.heap.size, 6, none⟩ = some (.slice ad nd cd)) := by
    have cs : ∀ j v, j ≠ 4 → w1.cell? ⟨w.heap.size, j, none⟩ = some v → W2.cell? ⟨w.heap.size, j, none⟩ = some v := fun j v hj hcell => by
      rw [hW2, World.cell?_setCell_other _ _ _ _ (by intro e; simp only [Addr.mk.injEq] at e; omega)]
      exact hcell
    have c := fun j u (h : ([.bool true, .slice am nm cm, .int .i64 p, .slice ao no co, .pointer (some ⟨mb, 0, none⟩), .pointer (some ⟨b, 0, none⟩), .slice ad nd cd] : List Value)[j]? = some u) => HC1.out j u h
    simp only [Nat.zero_add] at c
    exact ⟨cs 0 _ (by decide) (c 0 _ rfl), cs 1 _ (by decide) (c 1 _ rfl), cs 2 _ (by decide) (c 2 _ rfl), cs 3 _ (by decide) (c 3 _ rfl), by rw [hW2]; exact World.cell?_setCell_same _ _ _ (c 4 _ rfl), cs 5 _ (by decide) (c 5 _ rfl), cs 6 _ (by decide) (c 6 _ rfl)⟩
  have HZ2 : Hid (∀ j, W2.frozen? ⟨w.heap.size, j, none⟩ = false) := fun j => by
    rw [hW2, World.frozen?_setCell]
    exact frozen_far h1.out.1 (by have := HS0.out; omega) (HFZ.out j)
  have HW2 : Hid (Fr No w W2) := (((HF0.out.trans h1.out.1).any.trans (HFB.out.mono fun k _ hk => by show w.heap.size ≤ k; omega)) : Fr (From w) w W2).ours
  have HT : Hid (∀ k, Made W0 w1 k → w.heap.size < k) := fun k hk => by have := hk.1; have := HS0.out; omega
  have HM2 : Hid (MemAt W2 mb2 m (Made W0 w1)) := h1.out.2.fr HFB.out (fun k hk e => by have := HT.out k hk; omega)
  have HT2 : Hid (∀ k, Made W0 w1 k → w.heap.size ≤ k ∧ k < W2.heap.size) := fun k hk => ⟨Nat.le_of_lt (HT.out k hk), Nat.lt_of_lt_of_le hk.2 HFB.out.size⟩
  have HSZ : Hid (w.heap.size < W2.heap.size) := by have h2 := HFB.out.size; have h3 := h1.out.1.size; have h4 := HS0.out; exact Lib.hid (by omega)
  have H0 : W2.drew.cell? ⟨bw, 5, none⟩ = some (.pointer (some ⟨b, 0, none⟩)) ∧ W2.drew.cell? ⟨w.heap.size, 4, none⟩ = some (.pointer (some ⟨mb2, 0, none⟩)) := ⟨(M4.out W2 HW2.out).2, HC2.out.2.2.2.2.1⟩
  have HK : Hid (∀ W, Fr No W2 W → W.cell? ⟨bw, 5, none⟩ = some (.pointer (some ⟨b, 0, none⟩)) ∧ W.cell? ⟨w.heap.size, 4, none⟩ = some (.pointer (some ⟨mb2, 0, none⟩))) := fun W hW => ⟨(M4.out W (HW2.out.trans hW)).2, hW.cell HC2.out.2.2.2.2.1 (fun h => h)⟩
  have HKS : Hid (∀ (W : World) (v : Value), (W.cell? ⟨bw, 5, none⟩ = some (.pointer (some ⟨b, 0, none⟩)) ∧ W.cell? ⟨w.heap.size, 4, none⟩ = some (.pointer (some ⟨mb2, 0, none⟩))) → ((W.setCell ⟨w.heap.size, 5, none⟩ v).cell? ⟨bw, 5, none⟩ = some (.pointer (some ⟨b, 0, none⟩)) ∧ (W.setCell ⟨w.heap.size, 5, none⟩ v).cell? ⟨w.heap.size, 4, none⟩ = some (.pointer (some ⟨mb2, 0, none⟩)))) := fun W v h => by
    constructor
    · rw [World.cell?_setCell_other _ _ _ _ (by intro e; simp only [Addr.mk.injEq] at e; exact hne1 (by omega))]; exact h.1
    · rw [World.cell?_setCell_other _ _ _ _ (by intro e; simp only [Addr.mk.injEq] at e; omega)]; exact h.2
  rw [← hW2]
  clear hW2 n4 n5 z4 fz4 h1
  have HC5 : Hid (∀ W, Fr No W2 W → W.cell? ⟨w.heap.size, 5, none⟩ = some (.pointer (some ⟨b, 0, none⟩)) ∧ W.frozen? ⟨w.heap.size, 5, none⟩ = false) := fun W hW => ⟨hW.cell HC2.out.2.2.2.2.2.1 (fun h => h), by rw [hW.frozen HC2.out.2.2.2.2.2.1 (fun h => h)]; exact HZ2.out 5⟩
  have HXD : Hid (Calls Tryz.prog 20 #[.pointer (some ⟨b, 0, none⟩), .pointer (some ⟨mb2, 0, none⟩)] W2.drew fun e w' => ∃ b2 A2 H2, e = .returned (.pointer (some ⟨b2, 0, none⟩)) ∧ Hid (KSt w0 b2 mb2 S m A2 H2 (Made W0 w1) w' ∧ Fr No W2.drew w' ∧ (∀ k, A2 k → A k ∨ W2.drew.heap.size ≤ k) ∧ (∀ k, H2 k → W2.drew.heap.size ≤ k) ∧ (∀ k, A2 k ∨ H2 k ∨ Made W0 w1 k → k < w'.heap.size))) :=
    HXC.out W2.drew mb2 (Made W0 w1) HW2.out.drew (HM2.out.fr ((Fr.refl No W2).drew) (fun _ _ h => h)) HT2.out
  go_region_held3 (fun W => W.cell? ⟨bw, 5, none⟩ = some (.pointer (some ⟨b, 0, none⟩)) ∧ W.cell? ⟨w.heap.size, 4, none⟩ = some (.pointer (some ⟨mb2, 0, none⟩))) (first | assumption | exact HK.out _ (by assumption) | exact HKS.out _ _ (by assumption) | exact HKS.out _ _ (HK.out _ (by assumption)))
    (first
      | (go_at_call 20; (with_reducible refine (HXD.out).mono ?_); rintro e w3 ⟨b2, A2, H2, rfl, h3⟩; have hf3 := ((Fr.refl No W2).drew).trans h3.out.2.1; obtain ⟨z5, fz5⟩ := HC5.out w3 hf3))
  go_wp2_with fail
  go_ret
  refine ⟨rfl, mb2, b2, A2, H2, Made W0 w1, W2, w3, HW2.out, hf3, HSZ.out, HT.out, h3.out.1, h3.out.2.2.1, h3.out.2.2.2.1, h3.out.2.2.2.2, rfl, ?_, fun j => ?_⟩
  · obtain ⟨e0, e1, e2, e3, e4, e5, e6⟩ := HC2.out
    exact ⟨hf3.cell e0 (fun h => h), hf3.cell e1 (fun h => h), hf3.cell e2 (fun h => h), hf3.cell e3 (fun h => h), hf3.cell e4 (fun h => h), hf3.cell e5 (fun h => h), hf3.cell e6 (fun h => h)⟩
  · exact frozen_far hf3 HSZ.out (HZ2.out j)

end Go.Proofs.YtlinnhaodkiolaaGreatDoor

namespace Go.Proofs.YtlinnhaodkiolaaGreatDoor
open Go.RowKit

theorem RegsAt.form' {w : World} {v : Value} {l : List Reg} (h : RegsAt w v l) : ∃ a n c, v = .slice a n c := by
  rcases h.2 with ⟨_, a, c, rfl⟩ | ⟨g, off, cap, rfl, _⟩
  · exact ⟨_, _, _, rfl⟩
  · exact ⟨_, _, _, rfl⟩

theorem WAt.copied {w0 wr w' : World} {bw b mb p : Nat} {ds : List MapD} {RL : List Reg} {D : List Int} {S : List Tab} {m : List Reg} {A H T : Nat → Prop} {mv ov dv : Value} (h : WAt w0 bw b mb ds p RL D S m A H T mv ov dv wr) (hc : CopyW w0 wr b S m A mv ov dv p w') :
    ∃ b2 mb2 A2 H2 T2, WAt w0 wr.heap.size b2 mb2 ds p RL D S m A2 H2 T2 mv ov dv w' ∧ Fr No wr w' ∧ ∀ k, H2 k ∨ T2 k → wr.heap.size ≤ k := by
  obtain ⟨mb2, b2, A2, H2, T2, W2, w3, f2, f3, hsz, hT, hk, hA, hH, hlt, rfl, ⟨e0, e1, e2, e3, e4, e5, e6⟩, hz⟩ := hc
  have hf3 : Fr No wr w3 := f2.trans f3
  obtain ⟨W, hW⟩ : ∃ W, W = w3.setCell ⟨wr.heap.size, 5, none⟩ (.pointer (some ⟨b2, 0, none⟩)) := ⟨_, rfl⟩
  have hf : Fr (fun k => k = wr.heap.size) w3 W := by rw [hW]; exact (Fr.refl (fun k => k = wr.heap.size) w3).setCell (p := ⟨wr.heap.size, 5, none⟩) (.inr rfl) _
  have cs : ∀ j v, j ≠ 5 → w3.cell? ⟨wr.heap.size, j, none⟩ = some v → W.cell? ⟨wr.heap.size, j, none⟩ = some v := fun j v hj hcell => by
    rw [hW, World.cell?_setCell_other _ _ _ _ (by intro e; simp only [Addr.mk.injEq] at e; omega)]
    exact hcell
  have hfr : Fr No wr W := ((hf3.any.trans (hf.mono fun k _ hk => by show wr.heap.size ≤ k; omega)) : Fr (From wr) wr W).ours
  have nA : ∀ k, A2 k → k ≠ wr.heap.size := fun k hk' => by
    rcases hA k hk' with h1 | h1
    · have := h.lt k (.inl h1); omega
    · omega
  have nH : ∀ k, H2 k → k ≠ wr.heap.size := fun k hk' => by have := hH k hk'; omega
  have nT : ∀ k, T2 k → k ≠ wr.heap.size := fun k hk' => by have := hT k hk'; omega
  have ap : ∀ v, (∀ k, v.ownBlock = some k → k < wr.heap.size) → Apart (fun k => H2 k ∨ T2 k ∨ k = wr.heap.size) v := fun v hv k hk' => by
    have := hv k hk'
    rintro (h1 | h1 | h1)
    · have := hH k h1; omega
    · have := hT k h1; omega
    · omega
  have apB : ∀ v, (∀ k, v.ownBlock = some k → k < wr.heap.size) → Apart (fun k => k = wr.heap.size) v := fun v hv k hk' e => by have := hv k hk'; omega
  have lm : ∀ k, mv.ownBlock = some k → k < wr.heap.size := fun k hk' => h.ltv k (.inl hk')
  have lo' : ∀ k, ov.ownBlock = some k → k < wr.heap.size := fun k hk' => h.ltv k (.inr (.inl hk'))
  have ld : ∀ k, dv.ownBlock = some k → k < wr.heap.size := fun k hk' => h.ltv k (.inr (.inr hk'))
  rw [← hW]
  refine ⟨b2, mb2, A2, H2, T2, ⟨cs 0 _ (by decide) e0, cs 1 _ (by decide) e1, cs 2 _ (by decide) e2, cs 3 _ (by decide) e3, cs 4 _ (by decide) e4, ?_, cs 6 _ (by decide) e6, ?_, ⟨fun h1 => nA _ h1 rfl, fun h1 => nH _ h1 rfl, fun h1 => nT _ h1 rfl⟩, h.k.fr.size,
    (h.maps.fr hf3).frS hf (apB _ lm), ap _ lm, (h.own.frS hf3 (fun _ _ => id)).frS hf (apB _ lo'), ap _ lo', (h.draws.fr hf3 (fun _ _ => id)).fr hf (apB _ ld), ap _ ld, ?_, fun k hk' => Nat.lt_of_lt_of_le (hlt k hk') hf.size, fun k hk' => Nat.lt_of_lt_of_le (h.ltv k hk') hfr.size⟩, hfr, fun k hk' => ?_⟩
  · rw [hW]; exact World.cell?_setCell_same _ _ _ e5
  · rw [hW, World.frozen?_setCell]; exact hz 6
  · exact hk.apart hf (fun k hk' => by rw [hk']; exact h.k.fr.size) nA nH nT
  · rcases hk' with h1 | h1
    · have := hH k h1; omega
    · have := hT k h1; omega

theorem wcopy_any {w0 wr : World} {bw b mb p : Nat} {ds : List MapD} {RL : List Reg} {D : List Int} {S : List Tab} {m : List Reg} {A H T : Nat → Prop} {mv ov dv : Value} (h : WAt w0 bw b mb ds p RL D S m A H T mv ov dv wr) (hok : MemOk m) (hh : holdsB (mregsOf (S.map (·.d))) m = true) :
    Calls Tryz.prog 7 #[.pointer (some ⟨bw, 0, none⟩)] wr fun e w' => e = .returned (.pointer (some ⟨wr.heap.size, 0, none⟩)) ∧ Hid (∃ b2 mb2 A2 H2 T2, WAt w0 wr.heap.size b2 mb2 ds p RL D S m A2 H2 T2 mv ov dv w' ∧ Fr No wr w' ∧ ∀ k, H2 k ∨ T2 k → wr.heap.size ≤ k) := by
  obtain ⟨am, cm, hm⟩ := h.maps.form
  obtain ⟨ao, no, co, ho⟩ := h.own.form'
  obtain ⟨ad, cd, hd⟩ := h.draws.form
  refine (wcopy_walk bw b mb mv ov dv p wr am ao ad _ cm no co _ cd hm ho hd h.c0 h.c1 h.c2 h.c3 h.c4 h.c5 h.c6 w0 S m A (fun W hW => ?_) (fun W mb2 T2 hW hm2 hT2 => copied_on h.k h.lt hW hm2 hT2 hok hh)).mono ?_
  · refine (copy_any (h.k.mem.fr hW (fun _ _ => id)) hok.1 hok.2).mono ?_
    rintro e w' ⟨b', he, hf, hm'⟩
    exact ⟨b', he, hf, hm'⟩
  · rintro e w' ⟨he, hc⟩
    exact ⟨he, h.copied hc.out⟩

end Go.Proofs.YtlinnhaodkiolaaGreatDoor

namespace Go.Proofs.YtlinnhaodkiolaaGreatDoor
open Go.RowKit

theorem WAt.to {w0 wr w' : World} {bw b mb p : Nat} {ds : List MapD} {RL : List Reg} {D : List Int} {S : List Tab} {m : List Reg} {A H T : Nat → Prop} {mv ov dv : Value} (h : WAt w0 bw b mb ds p RL D S m A H T mv ov dv wr) (hf : Fr No wr w') : WAt w0 bw b mb ds p RL D S m A H T mv ov dv w' :=
  ⟨hf.cell h.c0 id, hf.cell h.c1 id, hf.cell h.c2 id, hf.cell h.c3 id, hf.cell h.c4 id, hf.cell h.c5 id, hf.cell h.c6 id, by rw [hf.frozen h.c6 id]; exact h.open6, h.nb, h.lo, h.maps.fr hf, h.mapsA, h.own.frS hf (fun _ _ => id), h.ownA, h.draws.fr hf (fun _ _ => id), h.drawsA, h.k.to hf,
    fun k hk => Nat.lt_of_lt_of_le (h.lt k hk) hf.size, fun k hk => Nat.lt_of_lt_of_le (h.ltv k hk) hf.size⟩

/-- behind a call that changes the maps' and the memory's blocks alone -/
theorem WAt.turn {w0 wr w' : World} {bw b mb p : Nat} {ds : List MapD} {RL : List Reg} {D : List Int} {S S' : List Tab} {m m' : List Reg} {A H T : Nat → Prop} {mv ov dv : Value} (h : WAt w0 bw b mb ds p RL D S m A H T mv ov dv wr) (hf : Fr (Or2 H T) wr w') (hk : KSt w0 b mb S' m' A H T w') : WAt w0 bw b mb ds p RL D S' m' A H T mv ov dv w' := by
  have hb : ¬ Or2 H T bw := fun hx => hx.elim h.nb.2.1 h.nb.2.2
  have hx : ∀ v, Apart (fun k => H k ∨ T k ∨ k = bw) v → Apart (Or2 H T) v := fun v hv k hk hx => hv k hk (hx.elim .inl (fun h => .inr (.inl h)))
  exact ⟨hf.cell h.c0 hb, hf.cell h.c1 hb, hf.cell h.c2 hb, hf.cell h.c3 hb, hf.cell h.c4 hb, hf.cell h.c5 hb, hf.cell h.c6 hb, by rw [hf.frozen h.c6 hb]; exact h.open6, h.nb, h.lo, h.maps.frS hf (hx _ h.mapsA), h.mapsA, h.own.frS hf (hx _ h.ownA), h.ownA, h.draws.fr hf (hx _ h.drawsA), h.drawsA, hk,
    fun k hk => Nat.lt_of_lt_of_le (h.lt k hk) hf.size, fun k hk => Nat.lt_of_lt_of_le (h.ltv k hk) hf.size⟩

end Go.Proofs.YtlinnhaodkiolaaGreatDoor

namespace Go.Proofs.YtlinnhaodkiolaaGreatDoor
open Go.RowKit

set_option maxHeartbeats 1000000 in
theorem idxf2_regs (g off n c f : Nat) (lb lc : Value) (l : List Reg) (p : Reg → Bool) (w : World) (hn : l.length = n) (hm : n ≤ 1000000) (hc : CellsAt w g off (aflat l)) (he : ∀ args w, (callFunc f args).run Tryz.prog w = .ok (.enter f args) w)
    (hp : ∀ x ∈ l, ∀ W, Fr No w W → Calls Tryz.prog f #[.agg #[.int .u64 x.base, .string ⟨x.data.toArray⟩, .bool x.free], lb, lc] W fun e w' => e = .returned (.bool (p x)) ∧ Fr No W w') :
    Calls Tryz.prog 35 #[.slice (some ⟨g, off, none⟩) n c, .func (.func f) #[] #[lb, lc]] w fun e w' => e = .returned (.int .i64 (optI (l.findIdx? p))) ∧ Fr No w w' := by
  have HC := Lib.hid hc
  have HN := Lib.hid hn
  have HP := Lib.hid hp
  clear hc hn hp
  go_enter Tryz.func35, Tryz.ntmps35
  go_wp2_with fail
  go_loopw [8] (fun i wr => ∃ k : Nat, k ≤ n ∧ i = .int .i64 k ∧ Hid (Fr No w wr) ∧ Hid (∀ (j : Nat) x, j < k → l[j]? = some x → p x = false)) (fun i _ => n - (intOf i).toNat)
  case atStart => exact ⟨0, Nat.zero_le _, rfl, Fr.refl _ _, fun j _ h => absurd h (Nat.not_lt_zero _)⟩
  case round =>
    obtain ⟨k, hk, rfl, HF, HJ⟩ := hrel
    by_cases hlt : k < n
    · obtain ⟨x, hx⟩ : ∃ x, l[k]? = some x := ⟨l[k]'(by rw [HN.out]; exact hlt), List.getElem?_eq_getElem _⟩
      obtain ⟨k0, k1, k2⟩ := areg_cells (HF.out.cells HC.out id) hx
      have HX := Lib.hid hx
      have HPX := Lib.hid (HP.out x (List.mem_of_getElem? hx) wr HF.out)
      obtain ⟨t, ht⟩ : ∃ t, p x = t := ⟨_, rfl⟩
      rw [ht] at HPX
      have HT := Lib.hid ht
      clear ht hx
      cases t with
      | true =>
        have HFI : Hid (l.findIdx? p = some k) := Lib.hid (by
          rw [List.findIdx?_eq_some_iff_getElem]
          have hkl : k < l.length := by rw [HN.out]; exact hlt
          have := HX.out
          rw [List.getElem?_eq_getElem hkl] at this
          refine ⟨hkl, by rw [Option.some.inj this]; exact HT.out, fun j hj => ?_⟩
          have := HJ.out j _ hj (List.getElem?_eq_getElem (by omega))
          simpa using this)
        go_wp2_with fail
        refine (HPX.out).mono ?_
        rintro e w5 ⟨rfl, hf5⟩
        go_wp2_with fail
        go_ret
        exact ⟨by rw [HFI.out]; rfl, HF.out.trans hf5⟩
      | false =>
        have HJ2 : Hid (∀ (j : Nat) y, j < k + 1 → l[j]? = some y → p y = false) := fun j y hj hy => by
          by_cases e : j = k
          · subst e
            rw [HX.out] at hy
            obtain rfl := Option.some.inj hy
            exact HT.out
          · exact HJ.out j y (by omega) hy
        go_wp2_with fail
        refine (HPX.out).mono ?_
        rintro e w5 ⟨rfl, hf5⟩
        go_wp2_with fail
        go_roundw
        case rel => exact ⟨k + 1, by omega, by go_num, HF.out.trans hf5, HJ2⟩
        case measure => simp [intOf] <;> omega
    · obtain rfl : k = n := by omega
      have HFI : Hid (l.findIdx? p = none) := Lib.hid (by
        rw [List.findIdx?_eq_none_iff]
        intro x hx
        obtain ⟨j, hj, rfl⟩ := List.getElem_of_mem hx
        exact HJ.out j _ (by rw [← HN.out]; exact hj) (List.getElem?_eq_getElem hj))
      go_wp2_with fail
      go_ret
      exact ⟨by rw [HFI.out]; rfl, HF.out⟩

/-- a region has n bytes from addr on, as Own asks it -/
def ownB (addr n : Int) (r : Reg) : Bool := decide (r.base ≤ addr ∧ addr - r.base < r.len ∧ n ≤ r.len - (addr - r.base))

set_option maxHeartbeats 1000000 in
theorem own1_any (pa pn : Nat) (base addr n : Int) (D : ByteArray) (L : Nat) (f t : Bool) (w : World) (hD : D.size = L) (hL : L ≤ 9223372036854775807) (hb : 0 ≤ base ∧ base < 18446744073709551616) (ha : 0 ≤ addr ∧ addr < 18446744073709551616) (hn : 0 < n ∧ n ≤ 9223372036854775807)
    (h1 : w.cell? ⟨pa, 0, none⟩ = some (.int .u64 addr)) (h2 : w.cell? ⟨pn, 0, none⟩ = some (.int .i64 n)) (ht : decide (base ≤ addr ∧ addr - base < L ∧ n ≤ L - (addr - base)) = t) :
    Calls Tryz.prog 22 #[.agg #[.int .u64 base, .string D, .bool f], .pointer (some ⟨pa, 0, none⟩), .pointer (some ⟨pn, 0, none⟩)] w fun e w' => e = .returned (.bool t) ∧ Fr No w w' := by
  have m1 : ∀ o, (w.alloc o).cell? ⟨pa, 0, none⟩ = some (.int .u64 addr) := fun o => ((Fr.refl No w).alloc o).cell h1 id
  have m2 : ∀ o, (w.alloc o).cell? ⟨pn, 0, none⟩ = some (.int .i64 n) := fun o => ((Fr.refl No w).alloc o).cell h2 id
  clear h1 h2
  have f0 : IntKind.u64.wrap (L : Int) = L := IntWalk.u64_in _ (by omega)
  have f3 : IntKind.u64.wrap n = n := IntWalk.u64_in _ (by omega)
  by_cases c1 : base ≤ addr
  · have q1 : decide (addr ≥ base) = true := by simpa using c1
    have f1 : IntKind.u64.wrap (addr - base) = addr - base := IntWalk.u64_in _ (by omega)
    obtain ⟨F, hF⟩ : ∃ F, addr - base = F := ⟨_, rfl⟩
    rw [hF] at f1 ht
    by_cases c2 : F < L
    · have q2 : decide (F < (L : Int)) = true := by simpa using c2
      have f2 : IntKind.u64.wrap ((L : Int) - F) = (L : Int) - F := IntWalk.u64_in _ (by omega)
      have q3 : decide (n ≤ (L : Int) - F) = t := by rw [← ht]; simp [c1, c2]
      have HF : Hid (addr - base = F) := hF
      have f1' : IntKind.u64.wrap (addr - base) = F := by rw [hF]; exact f1
      clear ht hn ha hb hL hF f1 c1 c2
      go_enter Tryz.func22, Tryz.ntmps22
      go_wp2_with fail
      go_ret
      exact ⟨rfl, (Fr.refl _ _).alloc _⟩
    · have q2 : decide (F < (L : Int)) = false := by simpa using c2
      have et : t = false := by rw [← ht]; simp [c2]
      subst et
      have f1' : IntKind.u64.wrap (addr - base) = F := by rw [hF]; exact f1
      clear ht hn ha hb hL hF f1 c1 c2
      go_enter Tryz.func22, Tryz.ntmps22
      go_wp2_with fail
      go_ret
      exact ⟨rfl, (Fr.refl _ _).alloc _⟩
  · have q1 : decide (addr ≥ base) = false := by simpa using c1
    have et : t = false := by rw [← ht]; simp [c1]
    subst et
    clear ht hn ha hb hL c1
    go_enter Tryz.func22, Tryz.ntmps22
    go_wp2_with fail
    go_ret
    exact ⟨rfl, (Fr.refl _ _).alloc _⟩

theorem contf_own (pa pn : Nat) (addr n : Int) (v : Value) (l : List Reg) (w : World) (h : RegsAt w v l) (hm : l.length ≤ 1000000) (ha : 0 ≤ addr ∧ addr < 18446744073709551616) (hn : 0 < n ∧ n ≤ 9223372036854775807)
    (h1 : w.cell? ⟨pa, 0, none⟩ = some (.int .u64 addr)) (h2 : w.cell? ⟨pn, 0, none⟩ = some (.int .i64 n)) :
    Calls Tryz.prog 21 #[v, .func (.func 22) #[] #[.pointer (some ⟨pa, 0, none⟩), .pointer (some ⟨pn, 0, none⟩)]] w fun e w' => e = .returned (.bool (l.any (ownB addr n))) ∧ Fr No w w' := by
  rw [← geI_find]
  rcases h.2 with ⟨rfl, a, c, rfl⟩ | ⟨g, off, cap, rfl, hc⟩
  · exact contf_regs _ _ none w (idxf_regs_zero a c _ w)
  · refine contf_regs _ _ _ w (idxf2_regs g off l.length cap 22 _ _ l (ownB addr n) w rfl hm hc (enters_of Tryz.func22 (by kernel_rfl) rfl) (fun y hy W hW => ?_))
    have ty := h.1 y hy
    exact own1_any pa pn y.base addr n ⟨y.data.toArray⟩ y.data.length y.free _ W rfl ty.small ⟨ty.low, by have := ty.high; omega⟩ ha hn (hW.cell h1 id) (hW.cell h2 id) rfl

set_option maxHeartbeats 1000000 in
theorem howns_any {w0 wr : World} {bw b mb p : Nat} {ds : List MapD} {RL : List Reg} {D : List Int} {S : List Tab} {m : List Reg} {A H T : Nat → Prop} {mv ov dv : Value} (h : WAt w0 bw b mb ds p RL D S m A H T mv ov dv wr) (hm : RL.length ≤ 1000000) (addr n : Int) (ha : 0 ≤ addr ∧ addr < 18446744073709551616) (hn : n ≤ 9223372036854775807) :
    Calls Tryz.prog 8 #[.pointer (some ⟨bw, 0, none⟩), .int .u64 addr, .int .i64 n] wr fun e w' => e = .returned (.bool (decide (0 < n) && RL.any (ownB addr n))) ∧ Fr No wr w' := by
  by_cases h0 : 0 < n
  · have hW : Fr No wr ((wr.alloc (.cells #[.int .u64 addr] 22)).alloc (.cells #[.int .i64 n] 3)) := ((Fr.refl _ _).alloc _).alloc _
    obtain ⟨T, hT⟩ : ∃ T, RL.any (ownB addr n) = T := ⟨_, rfl⟩
    have hc := contf_own wr.heap.size (wr.heap.size + 1) addr n ov RL ((wr.alloc (.cells #[.int .u64 addr] 22)).alloc (.cells #[.int .i64 n] 3)) (h.own.frS hW (fun _ _ => id)) hm ha ⟨h0, hn⟩ (by go_simp) (by go_simp)
    rw [hT] at hc
    have HCO := Lib.hid hc
    have HN := hnone_hid bw ((wr.alloc (.cells #[.int .u64 addr] 22)).alloc (.cells #[.int .i64 n] 3)) (hW.cell h.c0 id)
    have c3 := hW.cell h.c3 id
    have q : decide (n > 0) = true := by simpa using h0
    have e : (decide (0 < n) && T) = T := by simp [h0]
    rw [hT, e]
    clear h hm ha hn h0 hW hc hT e
    go_enter Tryz.func8, Tryz.ntmps8
    go_wp2_with (first
      | (go_at_call 11; (with_reducible refine (HN.out).mono ?_); rintro e w1 ⟨rfl, rfl⟩)
      | (go_at_call 21; (with_reducible refine (HCO.out).mono ?_); rintro e w2 ⟨rfl, hf⟩))
    go_ret
    exact ⟨rfl, (((Fr.refl _ _).alloc _).alloc _).trans hf⟩
  · have q : decide (n > 0) = false := by simpa using h0
    have e : (decide (0 < n) && RL.any (ownB addr n)) = false := by simp [h0]
    rw [e]
    clear h hm ha hn h0 e
    go_enter Tryz.func8, Tryz.ntmps8
    go_wp2_with fail
    go_ret
    exact ⟨rfl, ((Fr.refl _ _).alloc _).alloc _⟩

end Go.Proofs.YtlinnhaodkiolaaGreatDoor

namespace Go.Proofs.YtlinnhaodkiolaaGreatDoor
open Go.RowKit
open Go.Maps (Keyed int_keyed)

def argsD : DataW Unit := .map [(.int .i64 1, .lit (.int .i64 2)), (.int .i64 2, .lit (.int .i64 4)), (.int .i64 3, .lit (.int .i64 2)), (.int .i64 7, .lit (.int .i64 0))]
def argN (id : Int) : Int := if id = 1 then 2 else if id = 2 then 4 else if id = 3 then 2 else 0
def argHas (id : Int) : Bool := decide (id = 1 ∨ id = 2 ∨ id = 3 ∨ id = 7)
/-- what Args answers -/
def argA (id : Int) : Int := if argHas id then argN id else -1

/-- the variable helpers.args, as the door lays it -/
def ArgsAt (w : World) : Prop := ∃ bm n, w.cell? ⟨0, 0, none⟩ = some (.map (some bm)) ∧ w.ownsMap Tryz.prog 3 (plainElem Tryz.prog 3) bm n argsD

theorem ArgsAt.fr {w w' : World} (h : ArgsAt w) (hf : Fr No w w') : ArgsAt w' := by
  obtain ⟨bm, n, hc, es, clock, hb, hF, hn, hD⟩ := h
  refine ⟨bm, n, hf.cell hc id, es, clock, ?_, hF, hn, hD⟩
  have hlt : bm < w.heap.size := (Array.getElem?_eq_some_iff.1 hb).1
  rw [hf.block bm hlt id]
  exact hb

theorem args_at (id : Int) : argsD.atKey (.int .i64 id) (.lit (.int .i64 0)) = .lit (.int .i64 (argN id)) ∧ Go.Maps.has argsD (.int .i64 id) = argHas id := by
  unfold argN argHas argsD
  by_cases h1 : id = 1
  · subst h1; exact ⟨rfl, rfl⟩
  · by_cases h2 : id = 2
    · subst h2; exact ⟨rfl, rfl⟩
    · by_cases h3 : id = 3
      · subst h3; exact ⟨rfl, rfl⟩
      · by_cases h7 : id = 7
        · subst h7; exact ⟨rfl, rfl⟩
        · have s1 : ∀ (x : Int) (y : DataW Unit), ¬ x = id → ((Lit.int .i64 x, y).1.sameKey (.int .i64 id)) = false := fun x y hx => by simp [Lit.sameKey, hx]
          have e1 := s1 1 (.lit (.int .i64 2)) (by omega)
          have e2 := s1 2 (.lit (.int .i64 4)) (by omega)
          have e3 := s1 3 (.lit (.int .i64 2)) (by omega)
          have e7 := s1 7 (.lit (.int .i64 0)) (by omega)
          refine ⟨?_, ?_⟩
          · simp only [DataW.atKey, List.find?_cons, e1, e2, e3, e7, List.find?_nil, h1, h2, h3, if_false]
          · simp only [Go.Maps.has, List.any_cons, List.any_nil, e1, e2, e3, e7, h1, h2, h3, h7, or_self, decide_false, Bool.false_or]

theorem args_run {w : World} {bm n : Nat} (h : w.ownsMap Tryz.prog 3 (plainElem Tryz.prog 3) bm n argsD) (id : Int) (hw : (Lit.int .i64 id).wf = true) :
    (Instr.lookup 69 (.map (some bm)) (.int .i64 id) true).run Tryz.prog w = .ok (.tuple #[.int .i64 (argN id), .bool (argHas id)]) w := by
  obtain ⟨v, ps, hrun, hv⟩ := h.look_ok (int_keyed Tryz.underlying3) Tryz.underlying69 (z := .int .i64 0) (by kernel_rfl) (plainElem_int Tryz.underlying3 (by decide)) (Go.Maps.keyOf_int_mk Tryz.underlying3 hw)
  obtain ⟨a, rfl, ha, _⟩ := plainElem_int_inv Tryz.underlying3 hv
  rw [(args_at id).1] at ha
  rw [(args_at id).2] at hrun
  have e : argN id = a := by
    generalize argN id = q at ha
    have h1 := congrArg Prod.fst ha
    simp only [DataW.lit.injEq, Lit.int.injEq, true_and] at h1
    exact h1
  rw [← e] at hrun
  exact hrun

set_option maxRecDepth 100000 in
set_option maxHeartbeats 1000000 in
theorem args_any (id : Int) (w : World) (h : ArgsAt w) (hw : (Lit.int .i64 id).wf = true) : Calls Tryz.prog 12 #[.int .i64 id] w fun e w' => e = .returned (.int .i64 (argA id)) ∧ w = w' := by
  obtain ⟨bm, n, hc, ho⟩ := h
  have hr := args_run ho id hw
  clear ho hw
  unfold argA
  cases hb : argHas id with
  | true =>
    rw [hb] at hr
    simp only [if_true]
    clear hb
    go_enter Tryz.func12, Tryz.ntmps12
    go_wp2_with fail
    go_ret
    exact ⟨rfl, rfl⟩
  | false =>
    rw [hb] at hr
    simp only [Bool.false_eq_true, if_false]
    clear hb
    go_enter Tryz.func12, Tryz.ntmps12
    go_wp2_with fail
    go_ret
    exact ⟨rfl, rfl⟩

end Go.Proofs.YtlinnhaodkiolaaGreatDoor
