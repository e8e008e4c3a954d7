/- maps: Copy. -/
import Derived.Test.YtlinnhaodkiolaaMapY
namespace Go.Proofs.Ytlinnhaodkiolaa
open Go.RowKit

set_option maxHeartbeats 400000 in
theorem mcopy_nil (mp : Value) (w : World) : Calls Try.prog 20 #[.pointer none, mp] w fun e w' => e = .returned (.pointer none) ∧ w = w' := by
  go_enter Try.func20, Try.ntmps20
  go_wp2_with fail
  go_ret
  exact ⟨rfl, rfl⟩

set_option maxHeartbeats 400000 in
theorem mcopy_unmade (b : Nat) (mp : Value) (w : World) (h : w.cell? ⟨b, 0, none⟩ = some (.bool false)) : Calls Try.prog 20 #[.pointer (some ⟨b, 0, none⟩), mp] w fun e w' => e = .returned (.pointer none) ∧ w = w' := by
  go_enter Try.func20, Try.ntmps20
  go_wp2_with fail
  go_ret
  exact ⟨rfl, rfl⟩

set_option maxHeartbeats 400000 in
theorem mcopy_hold (b : Nat) (lv mp : Value) (err : Int) (w : World) (h : w.cell? ⟨b, 0, none⟩ = some (.bool true)) (h1 : w.cell? ⟨b, 1, none⟩ = some lv) (hne : (err != 0) = true)
    (hhold : Calls Try.prog 34 #[lv, mp] w fun e w' => e = .returned (.int .i64 err) ∧ Fr No w w') :
    Calls Try.prog 20 #[.pointer (some ⟨b, 0, none⟩), mp] w fun e w' => e = .returned (.pointer none) ∧ Fr No w w' := by
  have H := Lib.hid hhold
  clear hhold
  go_enter Try.func20, Try.ntmps20
  go_wp2_with fail
  refine (H.out).mono ?_
  rintro e w1 ⟨rfl, hf⟩
  go_wp2_with fail
  go_ret
  exact ⟨rfl, hf⟩

theorem HTab.cell_iface (x : HTab) : ∃ T v, x.cell = .iface T v := by
  unfold HTab.cell
  split <;> exact ⟨_, _, rfl⟩

theorem HTab.cell_one (x : HTab) : x.cell.oneCell' = true := by
  unfold HTab.cell
  split <;> simp [Value.oneCell']

set_option maxRecDepth 100000 in
set_option maxHeartbeats 1000000 in
theorem mcopy_walk (b mb2 n ct gt : Nat) (lv : Value) (l : List HTab) (w : World) (hl : l.length = n) (h4 : n ≤ 4) (hdl : 0 < n) (h0 : w.cell? ⟨b, 0, none⟩ = some (.bool true)) (h1 : w.cell? ⟨b, 1, none⟩ = some lv) (h2 : w.cell? ⟨b, 2, none⟩ = some (.slice (some ⟨gt, 0, none⟩) n ct))
    (hc : CellsAt w gt 0 (l.map HTab.cell)) (hmaps : MapsIn w lv (l.map fun x => x.t.d)) (hok : ∀ x ∈ l, x.t.ok) (hhere : ∀ x ∈ l, x.t.d.kind = 2 → ∀ W, Fr No w W → x.here W)
    (hhold : Calls Try.prog 34 #[lv, .pointer (some ⟨mb2, 0, none⟩)] w fun e w' => e = .returned (.int .i64 0) ∧ Fr No w w') :
    Calls Try.prog 20 #[.pointer (some ⟨b, 0, none⟩), .pointer (some ⟨mb2, 0, none⟩)] w fun e w' => ∃ b', e = .returned (.pointer (some ⟨b', 0, none⟩)) ∧ Hid (∃ tabs v, NewI w b' mb2 lv (l.map fun x => x.t.d) (l.map (·.t)) n tabs v w') := by
  obtain ⟨la, lc, hlv⟩ : ∃ a c, lv = .slice a n c := by
    obtain ⟨a, c, e⟩ := hmaps.form
    rw [List.length_map, hl] at e
    exact ⟨a, c, e⟩
  subst hlv
  have H := Lib.hid hhold
  have HC := Lib.hid hc
  have HL := Lib.hid hl
  have HOK := Lib.hid hok
  have HERE := Lib.hid hhere
  have HMI := Lib.hid hmaps
  have HCS : Hid (∀ W, Fr No w W → W.cell? ⟨b, 1, none⟩ = some (.slice la n lc) ∧ W.cell? ⟨b, 2, none⟩ = some (.slice (some ⟨gt, 0, none⟩) n ct)) := fun W hW => ⟨hW.cell h1 id, hW.cell h2 id⟩
  have hgt : gt < w.heap.size := World.block_lt_of_cell? w ⟨gt, 0 + 0, none⟩ (hc 0 _ (by rw [List.getElem?_map, List.getElem?_eq_getElem (by omega)]; rfl))
  have HLVLT : Hid (∀ q, (Value.slice la n lc).ownBlock = some q → q < w.heap.size) := fun q hq => hmaps.lt (by simp; omega) hq
  obtain ⟨i0, hi0, hz0, hz1, hz2⟩ := info_parts Try.info_table
  clear hhold hc hl hok hhere hmaps
  go_enter Try.func20, Try.ntmps20
  go_wp2_with fail
  refine (H.out).mono ?_
  rintro e w1 ⟨rfl, hf⟩
  have HF := Lib.hid hf
  obtain ⟨d1, d2⟩ := HCS.out w1 hf
  have d2a : ∀ o : Obj, (w1.alloc o).cell? ⟨b, 2, none⟩ = some (.slice (some ⟨gt, 0, none⟩) n ct) := fun o => ((Fr.refl No w1).alloc o).cell d2 id
  have HI0 : Hid (NewI w w1.heap.size mb2 (.slice la n lc) (l.map fun x => x.t.d) (l.map (·.t)) 0 [] (.slice none 0 0) (w1.alloc (.cells #[.bool true, .slice la n lc, .slice none 0 0, .pointer (some ⟨mb2, 0, none⟩)] 61))) := by
    have hfa : Fr No w (w1.alloc (.cells #[.bool true, .slice la n lc, .slice none 0 0, .pointer (some ⟨mb2, 0, none⟩)] 61)) := HF.out.alloc _
    refine ⟨hfa, HF.out.size, ?_, ?_, ?_, ?_, World.frozen?_alloc_new _ _ _ _, HMI.out.fr hfa, rfl, World.ownsRow_nil _ _ _ _, by simp, by simp, List.Pairwise.nil, by simp [Value.ownBlock], fun e => by have := HLVLT.out _ e; have := HF.out.size; omega⟩
    · rw [World.cell?_alloc_new]; rfl
    · rw [World.cell?_alloc_new]; rfl
    · rw [World.cell?_alloc_new]; rfl
    · rw [World.cell?_alloc_new]; rfl
  have HFA : Hid (Fr No w (w1.alloc (.cells #[.bool true, .slice la n lc, .slice none 0 0, .pointer (some ⟨mb2, 0, none⟩)] 61))) := HF.out.alloc _
  clear hf h0 h1 h2 H
  go_wp2_with fail
  generalize w1.alloc (.cells #[.bool true, .slice la n lc, .slice none 0 0, .pointer (some ⟨mb2, 0, none⟩)] 61) = w4 at *
  generalize w1.heap.size = b2 at *
  clear d1 d2 d2a HF HCS
  go_loopw [38] (fun s wr => ∃ k : Nat, k ≤ n ∧ s = .int .i64 k ∧ Hid (∃ tabs v, NewI w b2 mb2 (.slice la n lc) (l.map fun x => x.t.d) (l.map (·.t)) k tabs v wr)) (fun s _ => n - (intOf s).toNat)
  case atStart => exact ⟨0, Nat.zero_le _, rfl, [], _, HI0.out⟩
  case round =>
    obtain ⟨k, hk, rfl, HI⟩ := hrel
    by_cases hlt : k < n
    · obtain ⟨x, hx⟩ : ∃ x, l[k]? = some x := ⟨l[k]'(by rw [HL.out]; exact hlt), List.getElem?_eq_getElem _⟩
      obtain ⟨tabs, v, hi⟩ := HI.out
      have hxm := List.mem_of_getElem? hx
      have hcell : wr.cell? ⟨gt, k, none⟩ = some x.cell := by
        have := hi.fr.cells HC.out id k x.cell (by rw [List.getElem?_map, hx]; rfl)
        rwa [Nat.zero_add] at this
      obtain ⟨T, tv, f, hTv, face, hcp⟩ := HTab.copy_face (HOK.out x hxm) (HERE.out x hxm)
      rw [hTv] at hcell
      have HCP : Hid (∀ W, Fr No wr W → Calls Try.prog f #[tv] W fun e w' => ∃ x' T' v', e = .returned (.iface T' v') ∧ Hid (x'.cell = .iface T' v') ∧ Hid (CopiedT x W x' w') ∧ Fr No W w') := fun W hW => (hcp W (hi.fr.trans hW)).mono fun e w' ⟨x', he, h1, h2⟩ => by
        obtain ⟨T', v', hx'⟩ := x'.cell_iface
        exact ⟨x', T', v', by rw [he, hx'], hx', h1, h2⟩
      have HST : Hid (∀ (x' : HTab) (W w6 : World) (L : Obj) (w7 : World) (g2 cap2 : Nat), Fr No wr W → CopiedT x W x' w6 → w7.ownsRow w.heap.size 77 1 (.slice (some ⟨g2, 0, none⟩) (k + 1) cap2) (k + 1) (tabs.map HTab.cell ++ [x'.cell]) → (w6.alloc L).grownBy w7 v.ownBlock → (v.ownBlock = some g2 ∨ g2 = w6.heap.size + 1) →
          ∃ tabs' v', NewI w b2 mb2 (.slice la n lc) (l.map fun x => x.t.d) (l.map (·.t)) (k + 1) tabs' v' (w7.setCell ⟨b2, 2, none⟩ (.slice (some ⟨g2, 0, none⟩) (k + 1) cap2))) := fun x' W w6 L w7 g2 cap2 hW hc own hg hat => by
        have hfw : Fr No wr (w6.alloc L) := (hW.trans hc.fr).alloc L
        refine ⟨_, _, hi.step (x := x') (by rw [List.getElem?_map, hx, hc.t]; rfl) (by rw [hc.t]; exact HOK.out x hxm) (by simp; rw [HL.out]; exact hdl) hfw (fun h2 => ?_) own (grown_fr hg) ?_⟩
        · rw [hc.t] at h2
          obtain ⟨a1, a2, a3⟩ := hc.here h2
          have := (HOK.out x hxm).bounds
          exact ⟨a1.fr ((Fr.refl No _).alloc L) id (by rw [hc.t]; omega), by have := hW.size; omega, by simp; omega⟩
        · rcases hat with h | rfl
          · exact .inl h
          · exact .inr (by simp)
      have HOWN : Hid (∀ W, Fr No wr W → W.ownsRow w.heap.size 77 1 v k (tabs.map HTab.cell)) := fun W hW => ownsRow_fr hi.own hW (fun _ _ => id)
      have HQ5 : Hid (∀ W w5, Fr No wr W → W.grownBy w5 v.ownBlock → w5.cell? ⟨b2, 2, none⟩ = some v ∧ w5.frozen? ⟨b2, 2, none⟩ = false) := fun W w5 hW hg => by
        have hs := hi.to hW
        have hnb : ¬ OwnOf v b2 := fun hb => (hi.ne b2 hb).1 rfl
        exact ⟨(grown_fr hg).cell hs.c2 hnb, by rw [(grown_fr hg).frozen hs.c2 hnb]; exact hs.free⟩
      have HC2 : Hid (∀ W, Fr No wr W → W.cell? ⟨b2, 2, none⟩ = some v) := fun W hW => hW.cell hi.c2 id
      have HBASE : Hid (∀ W, Fr No wr W → w.heap.size ≤ W.heap.size) := fun W hW => Nat.le_trans hi.fr.size hW.size
      have c2 := hi.c2
      obtain ⟨hm, he⟩ := face
      clear hx hxm hi HI hTv hcp
      go_upto_region 12 with fail
      generalize htc : tabs.map HTab.cell = tc at *
      clear htc
      go_region_law (first
        | (go_simp; refine (HCP.out _ (by exact (Fr.refl _ _).drew)).mono ?_; rintro e w6 ⟨x', T', v', rfl, HX', HX6, hf6⟩; have c6 := HC2.out w6 (((Fr.refl _ _).drew).trans hf6); have c6a := fun o : Obj => HC2.out (w6.alloc o) ((((Fr.refl _ _).drew).trans hf6).alloc o))
        | (refine guard_append (.tmp 46) (.tmp 49) 59 ?_ ?_; rfl; refine step_append_lies _ (by rfl) (.tmp 46) (.tmp 49) 59 (by rfl) w.heap.size 77 i0 _ 1 16 Try.underlying59 hi0 hz0 hz1 hz2 rfl (by decide) v k tc (by rfl) (by exact HOWN.out _ ((((Fr.refl _ _).drew).trans hf6).alloc _)) ⟨w6.heap.size, 0, none⟩ 1 1 [.iface T' v'] (by rfl) (by rfl) (by exact World.news_of_block (cs := #[.iface T' v']) (t := 77) (fr := (0, 0)) (heap_alloc_new w6 _)) (by simp [Value.oneCell']) (by omega) (by unfold maxLen; omega) (by omega) (by exact HBASE.out _ ((((Fr.refl _ _).drew).trans hf6).alloc _)) (w6.heap.size + 1) (by simp) ?_; intro g2 cap2 w7 hown hgrow hat hlt2; have q5 := HQ5.out _ w7 ((((Fr.refl _ _).drew).trans hf6).alloc _) hgrow; have HE := Lib.hid (HST.out x' _ w6 _ w7 g2 cap2 ((Fr.refl _ _).drew) HX6.out (by rw [HX'.out]; exact hown) hgrow hat); clear hown hgrow hat hlt2; obtain ⟨q5, q6⟩ := q5))
      all_goals
        go_wp2_with fail
        go_roundw
        case rel => exact ⟨k + 1, by omega, by go_num, HE.out⟩
        case measure => simp [intOf] <;> omega
    · obtain rfl : k = n := by omega
      go_wp2_with fail
      go_ret
      exact ⟨_, rfl, HI⟩

end Go.Proofs.Ytlinnhaodkiolaa
