/- firewallref08: Copy. What of a memory's regions never changes: where they lie, how much they have, and whether they may be written. No condition. Maps and memory, the program's and the document's, apart from one another: what each call does to them. No condition. -/
import Derived.Test.YtlinnhaodkiolaaGreatBundle18
import Derived.Test.YtlinnhaodkiolaaGreatBundle13
import Derived.Test.YtlinnhaodkiolaaGreatBundle11
namespace Go.Proofs.YtlinnhaodkiolaaGreat
open Go.RowKit

/-- a copy of the keys of the map k -/
theorem RNewI.copy {w wr w1 w8 : World} {b mb k h2 cap2 N : Nat} {lv v v' : Value} {ds : List MapD} {ts : List Tab} {tabs : List HTab} {t : Tab} (h : RNewI w b mb lv ds ts k tabs v wr) (hx : ts[k]? = some t) (hok : t.ok) (h0 : 0 < ds.length) (hN : t.ks.length = N)
    (hW : Fr No wr w1) (own1 : w1.ownsRow wr.heap.size 9 1 (.slice (some ⟨h2, 0, none⟩) N cap2) N (strs t.ks)) (o : Obj)
    (own8 : w8.ownsRow w.heap.size 88 1 v' (k + 1) (tabs.map HTab.row ++ [.slice (some ⟨h2, 0, none⟩) N cap2])) (hf : Fr (OwnOf v) (w1.alloc o) w8) (hat : v'.ownBlock = v.ownBlock ∨ v'.ownBlock = some (w1.alloc o).heap.size) :
    ∃ tabs' v2, RNewI w b mb lv ds ts (k + 1) tabs' v2 (w8.setCell ⟨b, 1, none⟩ v') := by
  have hb := hok.bounds
  have hl := own1.lt h2 rfl
  have hfz := fun j => own1.frozenAt j
  have hh : HTab.here w1 ⟨t, h2, cap2⟩ := by
    have hc : N ≤ cap2 := by
      rcases own1.2 with ⟨e, _⟩ | ⟨g, cap, cur, hv, _, _, hcc, _⟩
      · cases e
      · injection hv with e1 e2 e3
        omega
    obtain ⟨g, cap, hv, _, hcells⟩ := cells_of_owns own1 (by omega)
    injection hv with e1 e2 e3
    have e4 := Option.some.inj e1
    injection e4 with e5 _ _
    subst e5 e3
    exact ⟨hcells, fun j _ => by rw [Nat.zero_add]; exact hfz j, by show t.ks.length ≤ cap2; omega⟩
  refine ⟨_, _, h.step (x := ⟨t, h2, cap2⟩) hx hok h0 (hW.alloc o) ⟨hh.fr ((Fr.refl No w1).alloc o) id (by show 1 ≤ t.ks.length; omega), hl.1, by simp; omega⟩ ?_ hf (fun g hg => ?_)⟩
  · have e : HTab.row ⟨t, h2, cap2⟩ = .slice (some ⟨h2, 0, none⟩) N cap2 := by unfold HTab.row; rw [hN]
    rw [e]; exact own8
  · rcases hat with h1 | h1
    · exact .inl (h1 ▸ hg)
    · rw [h1] at hg
      have := Option.some.inj hg
      exact .inr (by omega)

set_option maxHeartbeats 1000000 in
theorem rmcopy_zero (b mb2 : Nat) (a a' : Option Addr) (c c' : Nat) (w : World) (h0 : w.cell? ⟨b, 0, none⟩ = some (.slice a 0 c)) (h1 : w.cell? ⟨b, 1, none⟩ = some (.slice a' 0 c')) :
    Calls Tryz.prog 25 #[.pointer (some ⟨b, 0, none⟩), .pointer (some ⟨mb2, 0, none⟩)] w fun e w' => ∃ b', e = .returned (.pointer (some ⟨b', 0, none⟩)) ∧ RMadeMaps w b' mb2 [] (fun _ => False) w' ∧ Fr No w w' := by
  have d1 : ∀ o : Obj, (w.alloc o).cell? ⟨b, 1, none⟩ = some (.slice a' 0 c') := fun o => ((Fr.refl No w).alloc o).cell h1 id
  go_enter Tryz.func25, Tryz.ntmps25
  go_wp2_with fail
  refine wp_loop_rounds 1 ?_
  rw [rounds_succ]
  go_wp2_with fail
  go_ret
  refine ⟨w.heap.size, rfl, ?_, (Fr.refl No w).alloc _⟩
  refine ⟨fun k => k = w.heap.size, fun _ => False, ⟨[], rfl, ?_, ⟨.slice a 0 c, .slice none 0 0, ?_, ?_, .inl ⟨rfl, _, _, _, _, rfl, rfl⟩⟩, by simp, by simp, List.Pairwise.nil, rfl, by simp, fun _ _ => id⟩, fun k hk => .inl ⟨by omega, by simp; omega⟩, fun k hk => hk.elim⟩
  · rw [World.cell?_alloc_new]; rfl
  · rw [World.cell?_alloc_new]; rfl
  · rw [World.cell?_alloc_new]; rfl

set_option maxRecDepth 100000 in
set_option maxHeartbeats 4000000 in
theorem rmcopy_walk (b mb2 n ct gt : Nat) (lv : Value) (l : List HTab) (w : World) (hl : l.length = n) (h4 : n ≤ 4) (hn : 0 < n) (c0 : w.cell? ⟨b, 0, none⟩ = some lv) (c1 : w.cell? ⟨b, 1, none⟩ = some (.slice (some ⟨gt, 0, none⟩) n ct)) (hcs : CellsAt w gt 0 (l.map HTab.row))
    (hin : MapsIn w lv (l.map fun x => x.t.d)) (hok : ∀ x ∈ l, x.t.ok) (hh : ∀ x ∈ l, x.here w) (hsl : ∃ a c, lv = .slice a n c) :
    Calls Tryz.prog 25 #[.pointer (some ⟨b, 0, none⟩), .pointer (some ⟨mb2, 0, none⟩)] w fun e w' => ∃ b', e = .returned (.pointer (some ⟨b', 0, none⟩)) ∧ Hid (∃ tabs v, RNewI w b' mb2 lv (l.map fun x => x.t.d) (l.map (·.t)) n tabs v w') := by
  obtain ⟨la, lc, rfl⟩ := hsl
  have HL := Lib.hid hl
  have HC := Lib.hid hcs
  have HOK := Lib.hid hok
  have HH := Lib.hid hh
  obtain ⟨i0, hi0, hz0, hz1, hz2⟩ := info_parts Tryz.info_str
  obtain ⟨j0, hj0, hy0, hy1, hy2⟩ := info_parts Tryz.info_strs
  have hb : b < w.heap.size := World.block_lt_of_cell? w _ c0
  have HB1 : Hid (∀ W, Fr No w W → W.cell? ⟨b, 1, none⟩ = some (.slice (some ⟨gt, 0, none⟩) n ct)) := fun W hW => hW.cell c1 id
  have HS : Hid (RNewI w w.heap.size mb2 (.slice la n lc) (l.map fun x => x.t.d) (l.map (·.t)) 0 [] (.slice none 0 0) (w.alloc (.cells #[.slice la n lc, .slice none 0 0, .pointer (some ⟨mb2, 0, none⟩)] 93))) := by
    refine ⟨(Fr.refl No w).alloc _, Nat.le_refl _, by rw [World.cell?_alloc_new]; rfl, by rw [World.cell?_alloc_new]; rfl, by rw [World.cell?_alloc_new]; rfl, ?_, hin.fr ((Fr.refl No w).alloc _), rfl, World.ownsRow_nil _ _ _ _, (fun x hx => by cases hx), (fun x hx => by cases hx), List.Pairwise.nil, (fun g hg => by simp [Value.ownBlock] at hg), fun he => ?_⟩
    · have := heap_alloc_new w (.cells #[.slice la n lc, .slice none 0 0, .pointer (some ⟨mb2, 0, none⟩)] 93)
      unfold World.frozen?
      dsimp only
      rw [this]
      simp
    · have := hin.lt (by simp; omega) he
      omega
  clear hl hcs hok hh hin
  go_enter Tryz.func25, Tryz.ntmps25
  go_wp2_with fail
  clear c0 c1
  go_loopw [6] (fun s6 wr => ∃ k : Nat, k ≤ n ∧ s6 = .int .i64 k ∧ Hid (∃ tabs v, RNewI w w.heap.size mb2 (.slice la n lc) (l.map fun x => x.t.d) (l.map (·.t)) k tabs v wr)) (fun s6 _ => n - (intOf s6).toNat)
  case atStart => exact ⟨0, Nat.zero_le _, rfl, _, _, HS.out⟩
  case round =>
    obtain ⟨k, hk, rfl, HI⟩ := hrel
    clear HS
    obtain ⟨tabs, v, hi⟩ := HI.out
    have x1 := HB1.out wr hi.fr
    by_cases hlt : k < n
    · obtain ⟨x, hx⟩ : ∃ x, l[k]? = some x := ⟨l[k]'(by rw [HL.out]; exact hlt), List.getElem?_eq_getElem _⟩
      have hxm := List.mem_of_getElem? hx
      have ok := HOK.out x hxm
      have hbd := ok.bounds
      obtain ⟨N, hN⟩ : ∃ N, x.t.ks.length = N := ⟨_, rfl⟩
      have hN1 : 1 ≤ N := by omega
      have hN16 : N ≤ 16 := by omega
      have HRC : Hid (∀ W, Fr No w W → W.cell? ⟨gt, k, none⟩ = some (.slice (some ⟨x.h, 0, none⟩) N x.cap)) := fun W hW => by
        have := (hW.cells HC.out id) k x.row (by rw [List.getElem?_map, hx]; rfl)
        rw [Nat.zero_add] at this
        rw [this]
        unfold HTab.row
        rw [hN]
      have HSX : Hid (∀ W, Fr No w W → SrcAt W (.slice (some ⟨x.h, 0, none⟩) N x.cap) N (strs x.t.ks)) := fun W hW => .inr ⟨_, _, rfl, fun j u hj => by
        have := (hW.cells (HH.out x hxm).keys id) j u hj
        rw [Nat.zero_add] at this
        rw [show (⟨x.h, 0, none⟩ : Addr).add j = ⟨x.h, j, none⟩ by unfold Addr.add; split <;> simp_all]
        exact this⟩
      have HFL : Hid ((strs x.t.ks).length = N * 1) := Lib.hid (by rw [strs_length, hN, Nat.mul_one])
      have HO1 : Hid (∀ u ∈ strs x.t.ks, u.oneCell' = true) := Lib.hid (strs_one _)
      have HST : Hid (∀ (w1 w8 : World) (h2 cap2 : Nat) (o : Obj) (v' : Value), Fr No wr w1 → w1.ownsRow wr.heap.size 9 1 (.slice (some ⟨h2, 0, none⟩) N cap2) N (strs x.t.ks) → w8.ownsRow w.heap.size 88 1 v' (k + 1) (tabs.map HTab.row ++ [.slice (some ⟨h2, 0, none⟩) N cap2]) → Fr (OwnOf v) (w1.alloc o) w8 → (v'.ownBlock = v.ownBlock ∨ v'.ownBlock = some (w1.alloc o).heap.size) →
          ∃ tabs' v2, RNewI w w.heap.size mb2 (.slice la n lc) (l.map fun x => x.t.d) (l.map (·.t)) (k + 1) tabs' v2 (w8.setCell ⟨w.heap.size, 1, none⟩ v')) := fun w1 w8 h2 cap2 o v' a1 a2 a3 a4 a5 =>
        hi.copy (by rw [List.getElem?_map, hx]; rfl) ok (by simp; rw [HL.out]; exact hn) hN a1 a2 o a3 a4 a5
      have HX : Hid (∀ W, Fr No wr W → W.cell? ⟨w.heap.size, 1, none⟩ = some v ∧ (∀ o, (W.alloc o).ownsRow w.heap.size 88 1 v k (tabs.map HTab.row)) ∧ w.heap.size ≤ W.heap.size ∧ (∀ (o : Obj) w8, Fr (OwnOf v) (W.alloc o) w8 → w8.cell? ⟨w.heap.size, 1, none⟩ = some v ∧ w8.frozen? ⟨w.heap.size, 1, none⟩ = false ∧ w8.cell? ⟨b, 1, none⟩ = some (.slice (some ⟨gt, 0, none⟩) n ct) ∧ w8.cell? ⟨gt, k, none⟩ = some (.slice (some ⟨x.h, 0, none⟩) N x.cap))) := fun W hW => by
        have hs := hi.to hW
        refine ⟨hs.c1, fun o => hs.own.alloc o, Nat.le_trans hi.fr.size hW.size, fun o w8 hf8 => ?_⟩
        have hnb : ¬ OwnOf v w.heap.size := fun hb => (hi.ne _ hb).1 rfl
        have hs2 := hi.to (hW.alloc o)
        have hfa : Fr No w w8 := ((hs2.fr.any.trans (hf8.mono fun q _ hq => (hs.own.lt q hq).1)) : Fr (From w) w w8).ours
        exact ⟨hf8.cell hs2.c1 hnb, by rw [hf8.frozen hs2.c1 hnb]; exact hs2.free, HB1.out _ hfa, HRC.out _ hfa⟩
      have HFW := Lib.hid hi.fr
      have x2 := HRC.out wr hi.fr
      have x3 := hi.c1
      have x4 := (HX.out wr (Fr.refl _ _)).1
      have d1 : (0 : Int) ≤ (k : Int) := by omega
      have d2 : (k : Int) < (n : Int) := by omega
      generalize htc : tabs.map HTab.row = tc at *
      generalize strs x.t.ks = XS at *
      obtain ⟨xt, xh, xcap⟩ := x
      simp only at x2 HRC HSX HST HX
      clear htc hx hxm ok hbd hi HI hN HOK HH HC x4
      go_wp2_with fail
      have hHeld : (fun W : World => W.cell? ⟨w.heap.size, 1, none⟩ = some v ∧ W.cell? ⟨b, 1, none⟩ = some (.slice (some ⟨gt, 0, none⟩) n ct) ∧ W.cell? ⟨gt, k, none⟩ = some (.slice (some ⟨xh, 0, none⟩) N xcap)) wr.drew := ⟨x3, x1, x2⟩
      refine wp_region_z 17 (S := (fun W => W.cell? ⟨w.heap.size, 1, none⟩ = some v ∧ W.cell? ⟨b, 1, none⟩ = some (.slice (some ⟨gt, 0, none⟩) n ct) ∧ W.cell? ⟨gt, k, none⟩ = some (.slice (some ⟨xh, 0, none⟩) N xcap))) (by kernel_rfl) ?_
      refine wpAnyZ_take (i := 0) (v := ?_) (by (try simp only [List.getElem?_toArray]); (try simp only [List.getElem?_cons_succ]); (try simp only [List.getElem?_cons_zero]); rfl) (by kernel_rfl) (by kernel_rfl) (by kernel_rfl) (by kernel_rfl) (by kernel_rfl) (by exact fun _ _ _ h => h) (Or.inl ⟨by rfl, ?_⟩) (by assumption) ?_
      rotate_left
      focus (intro w hSw; (try dsimp only at hSw); go_simp; try with_reducible rfl)
      ((try simp only [Act.put]); (try simp only [List.setIfInBounds_toArray]); (try simp only [List.set_cons_succ]); (try simp only [List.set_cons_zero]))
      refine wpAnyZ_take (i := 1) (v := ?_) (by (try simp only [List.getElem?_toArray]); (try simp only [List.getElem?_cons_succ]); (try simp only [List.getElem?_cons_zero]); rfl) (by kernel_rfl) (by kernel_rfl) (by kernel_rfl) (by kernel_rfl) (by kernel_rfl) (by exact fun _ _ _ h => h) (Or.inl ⟨by rfl, ?_⟩) (by assumption) ?_
      rotate_left
      focus (intro w hSw; (try dsimp only at hSw); go_simp; try with_reducible rfl)
      ((try simp only [Act.put]); (try simp only [List.setIfInBounds_toArray]); (try simp only [List.set_cons_succ]); (try simp only [List.set_cons_zero]))
      refine wpAnyZ_take (i := 2) (v := ?_) (by (try simp only [List.getElem?_toArray]); (try simp only [List.getElem?_cons_succ]); (try simp only [List.getElem?_cons_zero]); rfl) (by kernel_rfl) (by kernel_rfl) (by kernel_rfl) (by kernel_rfl) (by kernel_rfl) (by exact fun _ _ _ h => h) (Or.inl ⟨by rfl, ?_⟩) (by assumption) ?_
      rotate_left
      focus (intro w hSw; (try dsimp only at hSw); go_simp; try with_reducible rfl)
      ((try simp only [Act.put]); (try simp only [List.setIfInBounds_toArray]); (try simp only [List.set_cons_succ]); (try simp only [List.set_cons_zero]))
      refine wpAnyZ_take (i := 3) (v := ?_) (by (try simp only [List.getElem?_toArray]); (try simp only [List.getElem?_cons_succ]); (try simp only [List.getElem?_cons_zero]); rfl) (by kernel_rfl) (by kernel_rfl) (by kernel_rfl) (by kernel_rfl) (by kernel_rfl) (by exact fun _ _ _ h => h) (Or.inl ⟨by rfl, ?_⟩) (by assumption) ?_
      rotate_left
      focus (intro w hSw; (try dsimp only at hSw); go_simp; try with_reducible rfl)
      ((try simp only [Act.put]); (try simp only [List.setIfInBounds_toArray]); (try simp only [List.set_cons_succ]); (try simp only [List.set_cons_zero]))
      refine wpAnyZ_take (i := 4) (v := ?_) (by (try simp only [List.getElem?_toArray]); (try simp only [List.getElem?_cons_succ]); (try simp only [List.getElem?_cons_zero]); rfl) (by kernel_rfl) (by kernel_rfl) (by kernel_rfl) (by kernel_rfl) (by kernel_rfl) (by exact fun _ _ _ h => h) (Or.inl ⟨by rfl, ?_⟩) (by assumption) ?_
      rotate_left
      focus (intro w hSw; (try dsimp only at hSw); go_simp; try with_reducible rfl)
      ((try simp only [Act.put]); (try simp only [List.setIfInBounds_toArray]); (try simp only [List.set_cons_succ]); (try simp only [List.set_cons_zero]))
      refine wpAnyZ_take (i := 5) (v := ?_) (by (try simp only [List.getElem?_toArray]); (try simp only [List.getElem?_cons_succ]); (try simp only [List.getElem?_cons_zero]); rfl) (by kernel_rfl) (by kernel_rfl) (by kernel_rfl) (by kernel_rfl) (by kernel_rfl) (by exact fun _ _ _ h => h) (Or.inl ⟨by rfl, ?_⟩) (by assumption) ?_
      rotate_left
      focus (intro w hSw; (try dsimp only at hSw); go_simp; try with_reducible rfl)
      ((try simp only [Act.put]); (try simp only [List.setIfInBounds_toArray]); (try simp only [List.set_cons_succ]); (try simp only [List.set_cons_zero]))
      refine wpAnyZ_take (i := 6) (v := ?_) (by (try simp only [List.getElem?_toArray]); (try simp only [List.getElem?_cons_succ]); (try simp only [List.getElem?_cons_zero]); rfl) (by kernel_rfl) (by kernel_rfl) (by kernel_rfl) (by kernel_rfl) (by kernel_rfl) (by exact fun _ _ _ h => h) (Or.inl ⟨by rfl, ?_⟩) (by assumption) ?_
      rotate_left
      focus (intro w hSw; (try dsimp only at hSw); go_simp; try with_reducible rfl)
      ((try simp only [Act.put]); (try simp only [List.setIfInBounds_toArray]); (try simp only [List.set_cons_succ]); (try simp only [List.set_cons_zero]))
      refine wpAnyZ_take (i := 7) (v := ?_) (by (try simp only [List.getElem?_toArray]); (try simp only [List.getElem?_cons_succ]); (try simp only [List.getElem?_cons_zero]); rfl) (by kernel_rfl) (by kernel_rfl) (by kernel_rfl) (by kernel_rfl) (by kernel_rfl) (by exact fun _ _ _ h => h) (Or.inl ⟨by rfl, ?_⟩) (by assumption) ?_
      rotate_left
      focus (intro w hSw; (try dsimp only at hSw); go_simp; try with_reducible rfl)
      ((try simp only [Act.put]); (try simp only [List.setIfInBounds_toArray]); (try simp only [List.set_cons_succ]); (try simp only [List.set_cons_zero]))
      refine wpAnyZ_take (i := 8) (v := ?_) (by (try simp only [List.getElem?_toArray]); (try simp only [List.getElem?_cons_succ]); (try simp only [List.getElem?_cons_zero]); rfl) (by kernel_rfl) (by kernel_rfl) (by kernel_rfl) (by kernel_rfl) (by kernel_rfl) (by exact fun _ _ _ h => h) (Or.inl ⟨by rfl, ?_⟩) (by assumption) ?_
      rotate_left
      focus (intro w hSw; (try dsimp only at hSw); go_simp; try with_reducible rfl)
      ((try simp only [Act.put]); (try simp only [List.setIfInBounds_toArray]); (try simp only [List.set_cons_succ]); (try simp only [List.set_cons_zero]))
      refine wpAnyZ_take (i := 9) (v := ?_) (by (try simp only [List.getElem?_toArray]); (try simp only [List.getElem?_cons_succ]); (try simp only [List.getElem?_cons_zero]); rfl) (by kernel_rfl) (by kernel_rfl) (by kernel_rfl) (by kernel_rfl) (by kernel_rfl) (by exact fun _ _ _ h => h) (Or.inl ⟨by rfl, ?_⟩) (by assumption) ?_
      rotate_left
      focus (intro w hSw; (try dsimp only at hSw); go_simp; try with_reducible rfl)
      ((try simp only [Act.put]); (try simp only [List.setIfInBounds_toArray]); (try simp only [List.set_cons_succ]); (try simp only [List.set_cons_zero]))
      refine wpAnyZ_take (i := 10) (v := ?_) (by (try simp only [List.getElem?_toArray]); (try simp only [List.getElem?_cons_succ]); (try simp only [List.getElem?_cons_zero]); rfl) (by kernel_rfl) (by kernel_rfl) (by kernel_rfl) (by kernel_rfl) (by kernel_rfl) (by exact fun _ _ _ h => h) (Or.inl ⟨by rfl, ?_⟩) (by assumption) ?_
      rotate_left
      focus (intro w hSw; (try dsimp only at hSw); go_simp; try with_reducible rfl)
      ((try simp only [Act.put]); (try simp only [List.setIfInBounds_toArray]); (try simp only [List.set_cons_succ]); (try simp only [List.set_cons_zero]))
      refine wpAnyZ_take (i := 11) (v := ?_) (by (try simp only [List.getElem?_toArray]); (try simp only [List.getElem?_cons_succ]); (try simp only [List.getElem?_cons_zero]); rfl) (by kernel_rfl) (by kernel_rfl) (by kernel_rfl) (by kernel_rfl) (by kernel_rfl) (by exact fun _ _ _ h => h) (Or.inl ⟨by rfl, ?_⟩) (by assumption) ?_
      rotate_left
      focus (intro w hSw; (try dsimp only at hSw); go_simp; try with_reducible rfl)
      ((try simp only [Act.put]); (try simp only [List.setIfInBounds_toArray]); (try simp only [List.set_cons_succ]); (try simp only [List.set_cons_zero]))
      refine wpAnyZ_ready (rs := [12]) (by kernel_rfl) (by simp) ?_
      refine AllReadyZ.cons (by (try simp only [List.getElem?_toArray]); (try simp only [List.getElem?_cons_succ]); (try simp only [List.getElem?_cons_zero]); rfl) (fun K hK => ?_) AllReadyZ.nil
      skip
      refine step_app_at (by rfl) (.const (.slice none 0 0)) (.tmp 34) 88 (by rfl) wr.heap.size 9 i0 _ 1 16 Tryz.underlying88 hi0 hz0 hz1 hz2 rfl (by decide) (.slice none 0 0) 0 [] (by rfl) (by exact World.ownsRow_nil _ _ _ _) (.slice (some ⟨xh, 0, none⟩) N xcap) N XS (by rfl) (by exact HSX.out _ (HFW.out.trans ((Fr.refl _ _).drew))) HFL.out HO1.out (by unfold maxLen; omega) (by omega) (by exact Nat.le_refl _) ?_
      intro v1 w1 own1 fr1 at1
      rw [Nat.zero_add, List.nil_append] at own1
      obtain ⟨g1, cap1, rfl, _, _⟩ := World.ownsRow.form own1 (by omega)
      have hw1 : Hid (Fr No wr w1) := Lib.hid (((Fr.refl No wr).drew).trans (fr1.mono (fun q _ hq => by simp [OwnOf, Value.ownBlock] at hq)))
      have HOwn1 := Lib.hid own1
      clear own1 fr1 at1
      obtain ⟨y1, y2, y3, y4⟩ := HX.out w1 hw1.out
      have HY2 := Lib.hid y2
      have HY4 := Lib.hid y4
      have hS1 : w1.cell? ⟨w.heap.size, 1, none⟩ = some v ∧ w1.cell? ⟨b, 1, none⟩ = some (.slice (some ⟨gt, 0, none⟩) n ct) ∧ w1.cell? ⟨gt, k, none⟩ = some (.slice (some ⟨xh, 0, none⟩) N xcap) := ⟨y1, HB1.out _ (HFW.out.trans hw1.out), HRC.out _ (HFW.out.trans hw1.out)⟩
      clear y2 y4
      refine hK _ _ (fun _ => hS1) ?_
      clear hK K
      ((try simp only [Act.put]); (try simp only [List.setIfInBounds_toArray]); (try simp only [List.set_cons_succ]); (try simp only [List.set_cons_zero]))
      refine wpAnyZ_ready (rs := [13]) (by kernel_rfl) (by simp) ?_
      refine AllReadyZ.cons (by (try simp only [List.getElem?_toArray]); (try simp only [List.getElem?_cons_succ]); (try simp only [List.getElem?_cons_zero]); rfl) (fun K hK => ?_) AllReadyZ.nil
      go_simp
      refine hK _ _ (fun _ => ⟨((Fr.refl No w1).alloc _).cell hS1.1 id, ((Fr.refl No w1).alloc _).cell hS1.2.1 id, ((Fr.refl No w1).alloc _).cell hS1.2.2 id⟩) ?_
      clear hK K
      ((try simp only [Act.put]); (try simp only [List.setIfInBounds_toArray]); (try simp only [List.set_cons_succ]); (try simp only [List.set_cons_zero]))
      refine wpAnyZ_ready (rs := [14]) (by kernel_rfl) (by simp) ?_
      refine AllReadyZ.cons (by (try simp only [List.getElem?_toArray]); (try simp only [List.getElem?_cons_succ]); (try simp only [List.getElem?_cons_zero]); rfl) (fun K hK => ?_) AllReadyZ.nil
      skip
      refine step_app_at (by rfl) (.tmp 27) (.tmp 36) 91 (by rfl) w.heap.size 88 j0 _ 1 24 Tryz.underlying91 hj0 hy0 hy1 hy2 rfl (by decide) v k tc (by rfl) (by exact HY2.out _) (.slice (some ⟨w1.heap.size, 0, none⟩) 1 1) 1 [.slice (some ⟨g1, 0, none⟩) N cap1] (by rfl) (by exact src_new w1 [.slice (some ⟨g1, 0, none⟩) N cap1] 88) (by rfl) (by simp [Value.oneCell']) (by unfold maxLen; omega) (by omega) (by simp; omega) ?_
      intro v2 w2 own2 fr2 at2
      obtain ⟨ra, rc, rfl⟩ := own_slice own2
      obtain ⟨z1, z2, z3, z4⟩ := HY4.out _ w2 fr2
      have HE := Lib.hid (HST.out w1 w2 g1 cap1 _ _ hw1.out HOwn1.out own2 fr2 at2)
      clear own2 fr2 at2
      have hHeld : (fun W : World => W.cell? ⟨w.heap.size, 1, none⟩ = some v ∧ W.cell? ⟨b, 1, none⟩ = some (.slice (some ⟨gt, 0, none⟩) n ct) ∧ W.cell? ⟨gt, k, none⟩ = some (.slice (some ⟨xh, 0, none⟩) N xcap)) w2 := ⟨z1, z3, z4⟩
      refine hK _ _ (fun _ => hHeld) ?_
      clear hK K
      ((try simp only [Act.put]); (try simp only [List.setIfInBounds_toArray]); (try simp only [List.set_cons_succ]); (try simp only [List.set_cons_zero]))
      refine wpAnyZ_take (i := 15) (v := ?_) (by (try simp only [List.getElem?_toArray]); (try simp only [List.getElem?_cons_succ]); (try simp only [List.getElem?_cons_zero]); rfl) (by kernel_rfl) (by kernel_rfl) (by kernel_rfl) (by kernel_rfl) (by kernel_rfl) (by exact fun _ _ _ h => h) (Or.inl ⟨by rfl, ?_⟩) (by assumption) ?_
      rotate_left
      focus (intro w hSw; (try dsimp only at hSw); go_simp; try with_reducible rfl)
      ((try simp only [Act.put]); (try simp only [List.setIfInBounds_toArray]); (try simp only [List.set_cons_succ]); (try simp only [List.set_cons_zero]))
      refine wpAnyZ_take (i := 16) (v := ?_) (by (try simp only [List.getElem?_toArray]); (try simp only [List.getElem?_cons_succ]); (try simp only [List.getElem?_cons_zero]); rfl) (by kernel_rfl) (by kernel_rfl) (by kernel_rfl) (by kernel_rfl) (by kernel_rfl) (by exact fun _ _ _ h => h) (Or.inl ⟨by rfl, ?_⟩) (by assumption) ?_
      rotate_left
      focus (intro w hSw; (try dsimp only at hSw); go_simp; try with_reducible rfl)
      ((try simp only [Act.put]); (try simp only [List.setIfInBounds_toArray]); (try simp only [List.set_cons_succ]); (try simp only [List.set_cons_zero]))
      refine wpAnyZ_ready (rs := [17]) (by kernel_rfl) (by simp) ?_
      refine AllReadyZ.cons (by (try simp only [List.getElem?_toArray]); (try simp only [List.getElem?_cons_succ]); (try simp only [List.getElem?_cons_zero]); rfl) (fun K hK => ?_) AllReadyZ.nil
      go_simp
      refine hK _ _ (fun h => absurd rfl h) ?_
      clear hK K
      ((try simp only [Act.put]); (try simp only [List.setIfInBounds_toArray]); (try simp only [List.set_cons_succ]); (try simp only [List.set_cons_zero]))
      refine wpAnyZ_done (by kernel_rfl) ?_ _
      go_wp2_with fail
      go_roundw
      case rel => exact ⟨k + 1, by omega, by go_num, HE.out⟩
      case measure => simp [intOf] <;> omega
    · obtain rfl : k = n := by omega
      clear hi
      go_wp2_with fail
      go_ret
      exact ⟨_, rfl, HI⟩

theorem RMadeMaps.wide {w w' : World} {b mb : Nat} {S : List Tab} {R R' : Nat → Prop} (h : RMadeMaps w b mb S R w') (hr : ∀ k, R k → R' k) : RMadeMaps w b mb S R' w' := by
  obtain ⟨A, H, a, c, d⟩ := h
  exact ⟨A, H, a, fun k hk => (c k hk).imp id (hr k), d⟩

theorem rmcopy_any {A H : Nat → Prop} {w : World} {b mb mb2 : Nat} {S : List Tab} (h : RMapsAt w b mb S A H) :
    Calls Tryz.prog 25 #[.pointer (some ⟨b, 0, none⟩), .pointer (some ⟨mb2, 0, none⟩)] w fun e w' => ∃ b', e = .returned (.pointer (some ⟨b', 0, none⟩)) ∧ RMadeMaps w b' mb2 S A w' ∧ Fr No w w' := by
  obtain ⟨l, rfl, h⟩ := h
  have hfew := h.few
  obtain ⟨lv, tv, c0, c1, hl⟩ := h.list
  rcases Nat.eq_zero_or_pos l.length with h0 | h0
  · obtain rfl := List.eq_nil_of_length_eq_zero h0
    have hz : ∃ a c a' c', lv = .slice a 0 c ∧ tv = .slice a' 0 c' := by
      rcases hl with ⟨_, a, c, a', c', e1, e2⟩ | ⟨gl, cl, gt, ct, e1, e2, _⟩
      · exact ⟨a, c, a', c', e1, e2⟩
      · exact ⟨_, _, _, _, e1, e2⟩
    obtain ⟨a, c, a', c', rfl, rfl⟩ := hz
    refine (rmcopy_zero b mb2 a a' c c' w c0 c1).mono ?_
    rintro e w' ⟨b', he, hmm, hf⟩
    exact ⟨b', he, hmm.wide (fun _ h => h.elim), hf⟩
  · rcases hl with ⟨e, _⟩ | ⟨gl, cl, gt, ct, rfl, rfl, g1, g2, g3, g4⟩
    · rw [e] at h0; simp at h0
    · have hin : MapsIn w (.slice (some ⟨gl, 0, none⟩) l.length cl) (l.map fun x => x.t.d) := .inr ⟨gl, 0, cl, by simp, g1⟩
      refine (rmcopy_walk b mb2 l.length ct gt _ l w rfl hfew h0 c0 c1 g2 hin h.ok (fun x hx => (h.here x hx).1) ⟨_, _, rfl⟩).mono ?_
      rintro e w' ⟨b', he, hI⟩
      obtain ⟨tabs, v, hi⟩ := hI.out
      have hlen : l.length = (l.map fun x => x.t.d).length := by simp
      have hi2 : RNewI w b' mb2 (.slice (some ⟨gl, 0, none⟩) l.length cl) (l.map fun x => x.t.d) (l.map (·.t)) (l.map fun x => x.t.d).length tabs v w' := by rw [← hlen]; exact hi
      refine ⟨b', he, hi2.done (R := A) (by rw [List.map_map]; rfl) (by simp; omega) (fun q hq => ?_) (fun a n c e => ?_), hi.fr⟩
      · simp [Value.ownBlock] at hq
        subst hq
        exact .inr g3
      · cases e; rfl

end Go.Proofs.YtlinnhaodkiolaaGreat

namespace Go.Proofs.YtlinnhaodkiolaaGreat
open Go.RowKit

def Reg.shape (r : Reg) : Int × Nat × Bool := (r.base, r.data.length, r.free)
def mshape (m : List Reg) : List (Int × Nat × Bool) := m.map Reg.shape

theorem mshape_mput (m : List Reg) (addr : Int) (bs : List UInt8) : mshape (mput m addr bs) = mshape m := by
  unfold mput
  split
  · rfl
  · rename_i i hsp
    have hi := spot_lt hsp
    have hh := (Reg.has_iff _ _ _).1 (spot_has hsp)
    unfold mshape
    apply List.ext_getElem?
    intro j
    rw [List.getElem?_map, List.getElem?_map, List.getElem?_modify]
    by_cases e : i = j
    · subst e
      rw [List.getElem?_eq_getElem hi]
      simp only [if_true, Option.map_some, Option.some.injEq, Option.map_eq_map]
      unfold Reg.shape
      rw [put_length _ _ _ hh.1 hh.2]
      rfl
    · simp [e]

theorem mshape_mwrite (m : List Reg) (addr n : Int) (v : Nat) : mshape (mwrite m addr n v).1 = mshape m := by
  unfold mwrite
  split
  · split
    · rfl
    · split
      · exact mshape_mput _ _ _
      · rfl
  · rfl

theorem mshape_mupdate (S : List Tab) (m : List Reg) (i : Int) (key val : List UInt8) : mshape (mupdate S m i key val).1.2 = mshape m := by
  unfold mupdate
  split
  · rfl
  · split
    · split
      · exact mshape_mput _ _ _
      · split
        · rfl
        · split
          · rfl
          · exact mshape_mput _ _ _
    · rfl

theorem shape_length {m m' : List Reg} (h : mshape m' = mshape m) : m'.length = m.length := by
  have := congrArg List.length h
  simpa [mshape] using this

theorem shape_get {m m' : List Reg} (h : mshape m' = mshape m) {j : Nat} {r : Reg} (hr : m[j]? = some r) : ∃ r', m'[j]? = some r' ∧ r'.base = r.base ∧ r'.data.length = r.data.length ∧ r'.free = r.free := by
  have e : (mshape m')[j]? = (mshape m)[j]? := by rw [h]
  unfold mshape at e
  rw [List.getElem?_map, List.getElem?_map, hr] at e
  obtain ⟨r', h1, h2⟩ := Option.map_eq_some_iff.1 e
  unfold Reg.shape at h2
  simp only [Prod.mk.injEq] at h2
  exact ⟨r', h1, h2.1, h2.2.1, h2.2.2⟩

theorem HoldsM.shape {S : List Tab} {m m' : List Reg} (h : HoldsM S m) (hs : mshape m' = mshape m) : HoldsM S m' := by
  intro i t hi
  obtain ⟨j, r, a, b, c, d⟩ := h i t hi
  obtain ⟨r', a', b', c', d'⟩ := shape_get hs a
  exact ⟨j, r', a', by rw [b', b], by rw [c', c], by rw [d', d]⟩

theorem MemOk.shape {m m' : List Reg} (h : MemOk m) (hs : mshape m' = mshape m) : MemOk m' := by
  refine ⟨by rw [shape_length hs]; exact h.1, fun r hr => ?_⟩
  obtain ⟨j, hj⟩ := List.mem_iff_getElem?.1 hr
  obtain ⟨r', a', _, c', _⟩ := shape_get hs.symm hj
  have := h.2 r' (List.mem_of_getElem? a')
  omega

theorem holdsB_of {S : List Tab} {m : List Reg} (hS : ∀ t ∈ S, t.ok) (h4 : S.length ≤ 4) (h : HoldsM S m) : holdsB (mregsOf (S.map (·.d))) m = true := by
  have hm : mayL (S.map (·.d)) = true := by
    rw [mayL_iff]
    refine ⟨by simpa using h4, fun x hx => ?_⟩
    obtain ⟨t, ht, rfl⟩ := List.mem_map.1 hx
    exact (hS t ht).may
  unfold holdsB mregsOf
  rw [if_pos hm, List.all_eq_true]
  intro x hx
  obtain ⟨i, hi⟩ := List.mem_iff_getElem?.1 hx
  rw [mregs_get, List.getElem?_map] at hi
  obtain ⟨d, hd, rfl⟩ := Option.map_eq_some_iff.1 hi
  obtain ⟨t, ht, rfl⟩ := Option.map_eq_some_iff.1 hd
  obtain ⟨j, r, a, b, c, e⟩ := h i t ht
  rw [List.any_eq_true]
  refine ⟨r, List.mem_of_getElem? a, ?_⟩
  unfold fits
  have hb := (hS t (List.mem_of_getElem? ht)).bounds
  have e1 : 0 ≤ t.d.value * t.d.max := Int.mul_nonneg (by omega) (by omega)
  have e2 : (t.d.reg i).data.length = (t.d.value * t.d.max).toNat := by show (List.replicate _ _).length = _; simp
  rw [decide_eq_true_eq, e2]
  refine ⟨b, by omega, e⟩

theorem KSt.write {w0 wr : World} {b mb : Nat} {S : List Tab} {m : List Reg} {A H T : Nat → Prop} (h : KSt w0 b mb S m A H T wr) (addr n : Int) (v : Nat) (ha : 0 ≤ addr) (h64 : addr ≤ 18446744073709551615) (hv : v < 2 ^ 64) :
    Calls Tryz.prog 20 #[.pointer (some ⟨mb, 0, none⟩), .int .u64 addr, .int .i64 n, .int .u64 v] wr fun e w' => e = .returned (.int .i64 (mwrite m addr n v).2) ∧ KSt w0 b mb S (mwrite m addr n v).1 A H T w' ∧ Fr T wr w' := by
  refine (write_any h.mem addr n v ha h64 hv).mono ?_
  rintro e w' ⟨he, hf, hm⟩
  exact ⟨he, ⟨h.maps.fr hf (fun k hk ht => (h.dis k ht).1 hk) (fun k hk ht => (h.dis k ht).2 hk), hm, h.dis, h.hold.shape (mshape_mwrite _ _ _ _), (h.fr.any.trans (hf.mono fun k _ hk => h.new k (.inr hk)) : Fr (From w0) w0 w').ours, h.new⟩, hf⟩

end Go.Proofs.YtlinnhaodkiolaaGreat

namespace Go.Proofs.YtlinnhaodkiolaaGreat
open Go.RowKit

/-- the document's maps over the document's memory -/
structure RKSt (b mb : Nat) (S : List Tab) (m : List Reg) (A H T : Nat → Prop) (wr : World) : Prop where
  maps : RMapsAt wr b mb S A H
  mem : RefAt wr mb m T
  dis : ∀ k, T k → ¬ A k ∧ ¬ H k
  hold : HoldsM S m
  few : m.length ≤ 1000000

theorem RKSt.fr {b mb : Nat} {S : List Tab} {m : List Reg} {A H T X : Nat → Prop} {wr w' : World} (h : RKSt b mb S m A H T wr) (hf : Fr X wr w') (hA : ∀ k, A k → ¬ X k) (hH : ∀ k, H k → ¬ X k) (hT : ∀ k, T k → ¬ X k) : RKSt b mb S m A H T w' :=
  ⟨h.maps.fr hf hA hH, h.mem.fr hf hT, h.dis, h.hold, h.few⟩

/-- both -/
structure MP (w0 : World) (b mb rb rmb : Nat) (S : List Tab) (m : List Reg) (S2 : List Tab) (m2 : List Reg) (A H T A2 H2 T2 : Nat → Prop) (wr : World) : Prop where
  k : KSt w0 b mb S m A H T wr
  r : RKSt rb rmb S2 m2 A2 H2 T2 wr
  new2 : ∀ k, H2 k ∨ T2 k → From w0 k
  d1 : ∀ k, H k ∨ T k → ¬ A2 k ∧ ¬ H2 k ∧ ¬ T2 k
  d2 : ∀ k, H2 k ∨ T2 k → ¬ A k ∧ ¬ H k ∧ ¬ T k
  lt : ∀ k, A k ∨ H k ∨ T k ∨ A2 k ∨ H2 k ∨ T2 k → k < wr.heap.size
  ok : MemOk m
  ok2 : MemOk m2

section
variable {w0 wr w' : World} {b mb rb rmb : Nat} {S S2 : List Tab} {m m2 : List Reg} {A H T A2 H2 T2 : Nat → Prop}

theorem MP.to (h : MP w0 b mb rb rmb S m S2 m2 A H T A2 H2 T2 wr) (hf : Fr No wr w') : MP w0 b mb rb rmb S m S2 m2 A H T A2 H2 T2 w' :=
  ⟨h.k.to hf, h.r.fr hf (fun _ _ => id) (fun _ _ => id) (fun _ _ => id), h.new2, h.d1, h.d2, fun k hk => Nat.lt_of_lt_of_le (h.lt k hk) hf.size, h.ok, h.ok2⟩

theorem MP.lookup (h : MP w0 b mb rb rmb S m S2 m2 A H T A2 H2 T2 wr) (i : Int) (key : List UInt8) :
    Calls Tryz.prog 13 #[.pointer (some ⟨b, 0, none⟩), .int .i64 i, .string ⟨key.toArray⟩] wr fun e w' => e = .returned (.int .u64 (mlookup S i key)) ∧ Hid (MP w0 b mb rb rmb S m S2 m2 A H T A2 H2 T2 w') ∧ Fr No wr w' :=
  (h.k.lookup i key _ rfl).mono fun _ _ ⟨he, _, hf⟩ => ⟨he, h.to hf, hf⟩

theorem MP.rlookup (h : MP w0 b mb rb rmb S m S2 m2 A H T A2 H2 T2 wr) (i : Int) (key : List UInt8) :
    Calls Tryz.prog 14 #[.pointer (some ⟨rb, 0, none⟩), .int .i64 i, .string ⟨key.toArray⟩] wr fun e w' => e = .returned (.int .u64 (mlookup S2 i key)) ∧ Hid (MP w0 b mb rb rmb S m S2 m2 A H T A2 H2 T2 w') ∧ Fr No wr w' :=
  (rlookup_any h.r.maps i key).mono fun _ _ ⟨he, hf⟩ => ⟨he, h.to hf, hf⟩

theorem MP.update (h : MP w0 b mb rb rmb S m S2 m2 A H T A2 H2 T2 wr) (i : Int) (key val : List UInt8) :
    Calls Tryz.prog 26 #[.pointer (some ⟨b, 0, none⟩), .int .i64 i, .string ⟨key.toArray⟩, .string ⟨val.toArray⟩] wr fun e w' => e = .returned (.int .i64 (mupdate S m i key val).2) ∧ Hid (MP w0 b mb rb rmb (mupdate S m i key val).1.1 (mupdate S m i key val).1.2 S2 m2 A H T A2 H2 T2 w') ∧ Fr (Or2 H T) wr w' :=
  (h.k.update i key val _ _ _ rfl).mono fun _ _ ⟨he, hk, hf⟩ => ⟨he, ⟨hk.out, h.r.fr hf (fun q hq hx => (h.d1 q hx).1 hq) (fun q hq hx => (h.d1 q hx).2.1 hq) (fun q hq hx => (h.d1 q hx).2.2 hq), h.new2, h.d1, h.d2, fun k hk => Nat.lt_of_lt_of_le (h.lt k hk) hf.size, h.ok.shape (mshape_mupdate _ _ _ _ _), h.ok2⟩, hf⟩

theorem MP.rupdate (h : MP w0 b mb rb rmb S m S2 m2 A H T A2 H2 T2 wr) (i : Int) (key val : List UInt8) (hv : val.length ≤ 1000000) :
    Calls Tryz.prog 27 #[.pointer (some ⟨rb, 0, none⟩), .int .i64 i, .string ⟨key.toArray⟩, .string ⟨val.toArray⟩] wr fun e w' => e = .returned (.int .i64 (mupdate S2 m2 i key val).2) ∧ Hid (MP w0 b mb rb rmb S m (mupdate S2 m2 i key val).1.1 (mupdate S2 m2 i key val).1.2 A H T A2 H2 T2 w') ∧ Fr (Or2 H2 T2) wr w' :=
  (rupdate_any h.r.maps h.r.mem h.r.few h.r.dis h.r.hold i key val hv).mono fun e w' ⟨he, hf, hm, hr⟩ =>
    ⟨he, ⟨h.k.apart hf (fun q hq => h.new2 q hq) (fun q hq hx => (h.d2 q hx).1 hq) (fun q hq hx => (h.d2 q hx).2.1 hq) (fun q hq hx => (h.d2 q hx).2.2 hq),
      ⟨hm, hr, h.r.dis, mupdate_holds h.r.maps.ok.1 h.r.mem.wf h.r.hold i key val, by rw [shape_length (mshape_mupdate _ _ _ _ _)]; exact h.r.few⟩, h.new2, h.d1, h.d2, fun k hk => Nat.lt_of_lt_of_le (h.lt k hk) hf.size, h.ok, h.ok2.shape (mshape_mupdate _ _ _ _ _)⟩, hf⟩

theorem MP.delete (h : MP w0 b mb rb rmb S m S2 m2 A H T A2 H2 T2 wr) (i : Int) (key : List UInt8) :
    Calls Tryz.prog 15 #[.pointer (some ⟨b, 0, none⟩), .int .i64 i, .string ⟨key.toArray⟩] wr fun e w' => e = .returned (.int .i64 (mdelete S i key).2) ∧ Hid (MP w0 b mb rb rmb (mdelete S i key).1 m S2 m2 A H T A2 H2 T2 w') ∧ Fr H wr w' :=
  (h.k.delete i key _ _ rfl).mono fun _ _ ⟨he, hk, hf⟩ => ⟨he, ⟨hk.out, h.r.fr hf (fun q hq hx => (h.d1 q (.inl hx)).1 hq) (fun q hq hx => (h.d1 q (.inl hx)).2.1 hq) (fun q hq hx => (h.d1 q (.inl hx)).2.2 hq), h.new2, h.d1, h.d2, fun k hk => Nat.lt_of_lt_of_le (h.lt k hk) hf.size, h.ok, h.ok2⟩, hf⟩

theorem MP.rdelete (h : MP w0 b mb rb rmb S m S2 m2 A H T A2 H2 T2 wr) (i : Int) (key : List UInt8) :
    Calls Tryz.prog 16 #[.pointer (some ⟨rb, 0, none⟩), .int .i64 i, .string ⟨key.toArray⟩] wr fun e w' => e = .returned (.int .i64 (mdelete S2 i key).2) ∧ Hid (MP w0 b mb rb rmb S m (mdelete S2 i key).1 m2 A H T A2 H2 T2 w') ∧ Fr H2 wr w' :=
  (rdelete_any h.r.maps i key).mono fun _ _ ⟨he, hf, hm⟩ =>
    ⟨he, ⟨h.k.apart hf (fun q hq => h.new2 q (.inl hq)) (fun q hq hx => (h.d2 q (.inl hx)).1 hq) (fun q hq hx => (h.d2 q (.inl hx)).2.1 hq) (fun q hq hx => (h.d2 q (.inl hx)).2.2 hq),
      ⟨hm, h.r.mem.fr hf (fun k hk => (h.r.dis k hk).2), h.r.dis, mdelete_holds h.r.hold i key, h.r.few⟩, h.new2, h.d1, h.d2, fun k hk => Nat.lt_of_lt_of_le (h.lt k hk) hf.size, h.ok, h.ok2⟩, hf⟩

theorem MP.entries (h : MP w0 b mb rb rmb S m S2 m2 A H T A2 H2 T2 wr) (i : Int) :
    Calls Tryz.prog 18 #[.pointer (some ⟨b, 0, none⟩), .int .i64 i] wr fun e w' => ∃ v, e = .returned v ∧ Hid (EntsAt w' v (mentries S m i)) ∧ Hid (MP w0 b mb rb rmb S m S2 m2 A H T A2 H2 T2 w') ∧ Fr No wr w' :=
  (h.k.entries i _ rfl).mono fun _ _ ⟨_, _, he, h1, _, hf⟩ => ⟨_, he, h1, h.to hf, hf⟩

theorem MP.rentries (h : MP w0 b mb rb rmb S m S2 m2 A H T A2 H2 T2 wr) (i : Int) :
    Calls Tryz.prog 19 #[.pointer (some ⟨rb, 0, none⟩), .int .i64 i] wr fun e w' => ∃ v, e = .returned v ∧ Hid (EntsAt w' v (mentries S2 m2 i)) ∧ Hid (MP w0 b mb rb rmb S m S2 m2 A H T A2 H2 T2 w') ∧ Fr No wr w' :=
  (rentries_any h.r.maps h.r.mem h.r.few i).mono fun _ _ ⟨v, he, h1, hf⟩ => ⟨v, he, h1, h.to hf, hf⟩

theorem MP.write (h : MP w0 b mb rb rmb S m S2 m2 A H T A2 H2 T2 wr) (addr n : Int) (v : Nat) (ha : 0 ≤ addr) (h64 : addr ≤ 18446744073709551615) (hv : v < 2 ^ 64) :
    Calls Tryz.prog 20 #[.pointer (some ⟨mb, 0, none⟩), .int .u64 addr, .int .i64 n, .int .u64 v] wr fun e w' => e = .returned (.int .i64 (mwrite m addr n v).2) ∧ Hid (MP w0 b mb rb rmb S (mwrite m addr n v).1 S2 m2 A H T A2 H2 T2 w') ∧ Fr T wr w' :=
  (h.k.write addr n v ha h64 hv).mono fun _ _ ⟨he, hk, hf⟩ => ⟨he, ⟨hk, h.r.fr hf (fun q hq hx => (h.d1 q (.inr hx)).1 hq) (fun q hq hx => (h.d1 q (.inr hx)).2.1 hq) (fun q hq hx => (h.d1 q (.inr hx)).2.2 hq), h.new2, h.d1, h.d2, fun k hk => Nat.lt_of_lt_of_le (h.lt k hk) hf.size, h.ok.shape (mshape_mwrite _ _ _ _), h.ok2⟩, hf⟩

theorem MP.rwrite (h : MP w0 b mb rb rmb S m S2 m2 A H T A2 H2 T2 wr) (addr n : Int) (v : Nat) (ha : 0 ≤ addr) (h64 : addr ≤ 18446744073709551615) (hv : v < 2 ^ 64) :
    Calls Tryz.prog 21 #[.pointer (some ⟨rmb, 0, none⟩), .int .u64 addr, .int .i64 n, .int .u64 v] wr fun e w' => e = .returned (.int .i64 (mwrite m2 addr n v).2) ∧ Hid (MP w0 b mb rb rmb S m S2 (mwrite m2 addr n v).1 A H T A2 H2 T2 w') ∧ Fr T2 wr w' :=
  (refwrite_any h.r.mem h.r.few addr n v ha h64 hv).mono fun e w' ⟨he, hf, hm⟩ =>
    ⟨he, ⟨h.k.apart hf (fun q hq => h.new2 q (.inr hq)) (fun q hq hx => (h.d2 q (.inr hx)).1 hq) (fun q hq hx => (h.d2 q (.inr hx)).2.1 hq) (fun q hq hx => (h.d2 q (.inr hx)).2.2 hq),
      ⟨h.r.maps.fr hf (fun k hk ht => (h.r.dis k ht).1 hk) (fun k hk ht => (h.r.dis k ht).2 hk), hm, h.r.dis, h.r.hold.shape (mshape_mwrite _ _ _ _), by rw [shape_length (mshape_mwrite _ _ _ _)]; exact h.r.few⟩, h.new2, h.d1, h.d2, fun k hk => Nat.lt_of_lt_of_le (h.lt k hk) hf.size, h.ok, h.ok2.shape (mshape_mwrite _ _ _ _)⟩, hf⟩

/-- the program's memory and maps are copied -/
theorem MP.copied {mb' : Nat} {w1 w2 : World} (h : MP w0 b mb rb rmb S m S2 m2 A H T A2 H2 T2 wr) (hf1 : Fr No wr w1) (hm1 : MemAt w1 mb' m (Made wr w1)) (hf2 : Fr No w1 w2) :
    Calls Tryz.prog 24 #[.pointer (some ⟨b, 0, none⟩), .pointer (some ⟨mb', 0, none⟩)] w2 fun e w' => ∃ b' A' H', e = .returned (.pointer (some ⟨b', 0, none⟩)) ∧ Hid (MP w0 b' mb' rb rmb S m S2 m2 A' H' (Made wr w1) A2 H2 T2 w') ∧ Fr No w2 w' ∧ Hid ((∀ k, A' k → w2.heap.size ≤ k ∨ A k) ∧ (∀ k, H' k → w2.heap.size ≤ k)) := by
  have h2 := h.to (hf1.trans hf2)
  refine (mcopy_any h2.k.maps (hm1.fr hf2 (fun _ _ => id)) h.ok).mono ?_
  intro e w' hq
  unfold CopyQ at hq
  rw [if_pos (holdsB_of h.k.maps.ok.1 h.k.maps.ok.2 h.k.hold)] at hq
  obtain ⟨b', he, ⟨A', H', ha, hA, hH⟩, hf3⟩ := hq
  have z1 := hf1.size
  have z2 := hf2.size
  have z3 := hf3.size
  have z0 := h.k.fr.size
  have hT : ∀ k, Made wr w1 k → wr.heap.size ≤ k ∧ k < w1.heap.size := fun k hk => hk
  refine ⟨b', A', H', he, ⟨⟨ha, (hm1.fr hf2 (fun _ _ => id)).fr hf3 (fun _ _ => id), fun k hk => ⟨fun hk2 => ?_, fun hk2 => ?_⟩, h.k.hold, h2.k.fr.trans hf3, fun k hk => ?_⟩, (h2.to hf3).r, h.new2, fun k hk => ?_, fun k hk => ?_, fun k hk => ?_, h.ok, h.ok2⟩, hf3, fun k hk => (hA k hk).imp (fun h => h.1) id, fun k hk => (hH k hk).1⟩
  · have := hT k hk
    rcases hA k hk2 with h3 | h3
    · omega
    · have := h.lt k (.inl h3); omega
  · have := hT k hk
    have := hH k hk2
    omega
  · unfold From
    rcases hk with hk | hk
    · have := hH k hk; omega
    · have := hT k hk; omega
  · have hge : wr.heap.size ≤ k := by
      rcases hk with hk | hk
      · have := hH k hk; omega
      · exact (hT k hk).1
    refine ⟨fun hx => ?_, fun hx => ?_, fun hx => ?_⟩
    · have := h.lt k (.inr (.inr (.inr (.inl hx)))); omega
    · have := h.lt k (.inr (.inr (.inr (.inr (.inl hx))))); omega
    · have := h.lt k (.inr (.inr (.inr (.inr (.inr hx))))); omega
  · have hlt : k < wr.heap.size := by
      rcases hk with hk | hk
      · exact h.lt k (.inr (.inr (.inr (.inr (.inl hk)))))
      · exact h.lt k (.inr (.inr (.inr (.inr (.inr hk)))))
    refine ⟨fun hx => ?_, fun hx => ?_, fun hx => ?_⟩
    · rcases hA k hx with h3 | h3
      · omega
      · exact (h.d2 k hk).1 h3
    · have := hH k hx; omega
    · have := hT k hx; omega
  · rcases hk with hk | hk | hk | hk | hk | hk
    · rcases hA k hk with h3 | h3
      · exact h3.2
      · have := h.lt k (.inl h3); omega
    · exact (hH k hk).2
    · have := hT k hk; omega
    · have := h.lt k (.inr (.inr (.inr (.inl hk)))); omega
    · have := h.lt k (.inr (.inr (.inr (.inr (.inl hk))))); omega
    · have := h.lt k (.inr (.inr (.inr (.inr (.inr hk))))); omega

/-- the document's memory and maps are copied -/
theorem MP.rcopied {rmb' : Nat} {T' : Nat → Prop} {w2 : World} (h : MP w0 b mb rb rmb S m S2 m2 A H T A2 H2 T2 w2) (hm1 : RefAt w2 rmb' m2 T') (hT : ∀ k, T' k → From w0 k ∧ k < w2.heap.size ∧ ¬ A k ∧ ¬ H k ∧ ¬ T k ∧ ¬ A2 k) :
    Calls Tryz.prog 25 #[.pointer (some ⟨rb, 0, none⟩), .pointer (some ⟨rmb', 0, none⟩)] w2 fun e w' => ∃ b' A' H', e = .returned (.pointer (some ⟨b', 0, none⟩)) ∧ Hid (MP w0 b mb b' rmb' S m S2 m2 A H T A' H' T' w') ∧ Fr No w2 w' := by
  refine (rmcopy_any (mb2 := rmb') h.r.maps).mono ?_
  rintro e w' ⟨b', he, ⟨A', H', ha, hA, hH⟩, hf3⟩
  have z3 := hf3.size
  have z0 := h.k.fr.size
  refine ⟨b', A', H', he, ⟨h.k.to hf3, ⟨ha, hm1.fr hf3 (fun _ _ => id), fun k hk => ⟨fun hk2 => ?_, fun hk2 => ?_⟩, h.r.hold, h.r.few⟩, fun k hk => ?_, fun k hk => ?_, fun k hk => ?_, fun k hk => ?_, h.ok, h.ok2⟩, hf3⟩
  · obtain ⟨_, t2, _, _, _, t6⟩ := hT k hk
    rcases hA k hk2 with h3 | h3
    · omega
    · exact t6 h3
  · have := (hT k hk).2.1
    have := hH k hk2
    omega
  · rcases hk with hk | hk
    · have := hH k hk; unfold From; omega
    · exact (hT k hk).1
  · have hlt : k < w2.heap.size := by
      rcases hk with hk | hk
      · exact h.lt k (.inr (.inl hk))
      · exact h.lt k (.inr (.inr (.inl hk)))
    refine ⟨fun hx => ?_, fun hx => ?_, fun hx => ?_⟩
    · rcases hA k hx with h3 | h3
      · omega
      · exact (h.d1 k hk).1 h3
    · have := hH k hx; omega
    · obtain ⟨_, _, _, t4, t5, _⟩ := hT k hx
      exact hk.elim t4 t5
  · rcases hk with hk | hk
    · have := hH k hk
      refine ⟨fun hx => ?_, fun hx => ?_, fun hx => ?_⟩
      · have := h.lt k (.inl hx); omega
      · have := h.lt k (.inr (.inl hx)); omega
      · have := h.lt k (.inr (.inr (.inl hx))); omega
    · obtain ⟨_, _, t3, t4, t5, _⟩ := hT k hk
      exact ⟨t3, t4, t5⟩
  · rcases hk with hk | hk | hk | hk | hk | hk
    · have := h.lt k (.inl hk); omega
    · have := h.lt k (.inr (.inl hk)); omega
    · have := h.lt k (.inr (.inr (.inl hk))); omega
    · rcases hA k hk with h3 | h3
      · exact h3.2
      · have := h.lt k (.inr (.inr (.inr (.inl h3)))); omega
    · exact (hH k hk).2
    · have := (hT k hk).2.1; omega

theorem MP.mcopy (h : MP w0 b mb rb rmb S m S2 m2 A H T A2 H2 T2 wr) :
    Calls Tryz.prog 22 #[.pointer (some ⟨mb, 0, none⟩)] wr fun e w' => ∃ mb', e = .returned (.pointer (some ⟨mb', 0, none⟩)) ∧ Fr No wr w' ∧ MemAt w' mb' m (Made wr w') :=
  copy_any h.k.mem (by have := h.ok.1; omega) h.ok.2

theorem MP.regions (h : MP w0 b mb rb rmb S m S2 m2 A H T A2 H2 T2 wr) :
    Calls Tryz.prog 28 #[.pointer (some ⟨mb, 0, none⟩)] wr fun e w' => ∃ v, e = .returned v ∧ RegsAt w' v m ∧ Hid (MP w0 b mb rb rmb S m S2 m2 A H T A2 H2 T2 w') ∧ Fr No wr w' :=
  (regions_any h.k.mem (by have := h.ok.1; omega)).mono fun _ _ ⟨v, he, hr, hf⟩ => ⟨v, he, hr, h.to hf, hf⟩

end
end Go.Proofs.YtlinnhaodkiolaaGreat
