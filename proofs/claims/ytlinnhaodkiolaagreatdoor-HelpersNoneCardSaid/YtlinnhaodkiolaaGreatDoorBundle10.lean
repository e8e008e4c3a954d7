/- maps: New. maps: New at any maps; copies of tables. maps: Copy. maps: Copy at any maps. -/
import Derived.Test.YtlinnhaodkiolaaGreatDoorBundle9
namespace Go.Proofs.YtlinnhaodkiolaaGreatDoor
open Go.RowKit

set_option maxHeartbeats 400000 in
theorem mnew_bad (lv mp : Value) (w : World) (hmay : Calls Tryz.prog 55 #[lv] w fun e w' => e = .returned (.bool false) ∧ Fr No w w') :
    Calls Tryz.prog 42 #[lv, mp] w fun e w' => e = .returned (.tuple #[.pointer none, .int .i64 2]) ∧ Fr No w w' := by
  have H := Lib.hid hmay
  clear hmay
  go_enter Tryz.func42, Tryz.ntmps42
  go_wp2_with (go_at_call 55; (with_reducible refine (H.out).mono ?_); rintro e w' ⟨rfl, hf⟩)
  go_ret2
  exact ⟨rfl, hf⟩

set_option maxHeartbeats 400000 in
theorem mnew_hold (lv mp : Value) (err : Int) (w : World) (hmay : Calls Tryz.prog 55 #[lv] w fun e w' => e = .returned (.bool true) ∧ Fr No w w')
    (hhold : ∀ W, Fr No w W → Calls Tryz.prog 34 #[lv, mp] W fun e w' => e = .returned (.int .i64 err) ∧ Fr No W w') (hne : (err != 0) = true) :
    Calls Tryz.prog 42 #[lv, mp] w fun e w' => e = .returned (.tuple #[.pointer none, .int .i64 err]) ∧ Fr No w w' := by
  have H := Lib.hid hmay
  have HH := Lib.hid hhold
  clear hmay hhold
  go_enter Tryz.func42, Tryz.ntmps42
  go_wp2_with fail
  refine (H.out).mono ?_
  rintro e w1 ⟨rfl, hf⟩
  have HF := Lib.hid hf
  clear hf
  go_wp2_with fail
  refine (HH.out w1 HF.out).mono ?_
  rintro e w2 ⟨rfl, hf2⟩
  go_wp2_with fail
  go_ret2
  exact ⟨rfl, HF.out.trans hf2⟩

def NewMade (w : World) (mb : Nat) (l : List MapD) (e : Ending) (w' : World) : Prop :=
  ∃ b, e = .returned (.tuple #[.pointer (some ⟨b, 0, none⟩), .int .i64 0]) ∧ MadeMaps w b mb (l.map Tab.new) (fun _ => False) w' ∧ Fr No w w'

/-- an array more -/
theorem NewI.step1 {w wr w5 : World} {b mb k g cap mx : Nat} {lv v : Value} {ds : List MapD} {tabs : List HTab} {Y L : Obj} {d : MapD} (h : NewI w b mb lv ds (ds.map Tab.new) k tabs v wr) (hd : ds[k]? = some d) (hmay : d.may = true) (h1 : d.kind = 1) (hmx : d.max = mx)
    (own : w5.ownsRow w.heap.size 78 1 (.slice (some ⟨g, 0, none⟩) (k + 1) cap) (k + 1) (tabs.map HTab.cell ++ [.iface 126 (.int .i64 mx)])) (hf : ((wr.alloc Y).alloc L).grownBy w5 v.ownBlock) (hg : v.ownBlock = some g ∨ g = wr.heap.size + 2) :
    ∃ tabs' v', NewI w b mb lv ds (ds.map Tab.new) (k + 1) tabs' v' (w5.setCell ⟨b, 2, none⟩ (.slice (some ⟨g, 0, none⟩) (k + 1) cap)) := by
  refine ⟨_, _, h.step (x := ⟨Tab.new d, 0, 0⟩) (by rw [List.getElem?_map, hd]; rfl) (Tab.new_ok hmay) (by obtain ⟨hk, _⟩ := List.getElem?_eq_some_iff.1 hd; omega) (((Fr.refl No wr).alloc Y).alloc L) (fun h2 => ?_) ?_ (grown_fr hf) ?_⟩
  · have : d.kind = 2 := h2
    omega
  · have e : HTab.cell ⟨Tab.new d, 0, 0⟩ = .iface 126 (.int .i64 mx) := by
      unfold HTab.cell
      rw [if_pos (show (Tab.new d).d.kind = 1 from h1)]
      show Value.iface 126 (.int .i64 d.max) = _
      rw [hmx]
    rw [e]; exact own
  · rcases hg with hg | rfl
    · exact .inl hg
    · exact .inr (by simp)

/-- a hash more -/
theorem NewI.step2 {w wr w5 : World} {b mb k g cap mx : Nat} {lv v : Value} {ds : List MapD} {tabs : List HTab} {Y L : Obj} {d : MapD} (h : NewI w b mb lv ds (ds.map Tab.new) k tabs v wr) (hd : ds[k]? = some d) (hmay : d.may = true) (h2 : d.kind = 2) (hmx : d.max = mx)
    (own : w5.ownsRow w.heap.size 78 1 (.slice (some ⟨g, 0, none⟩) (k + 1) cap) (k + 1) (tabs.map HTab.cell ++ [.iface 82 (.slice (some ⟨wr.heap.size + 1, 0, none⟩) mx mx)]))
    (hf : (((wr.alloc Y).alloc (.cells (strs (List.replicate mx [])).toArray 9)).alloc L).grownBy w5 v.ownBlock) (hg : v.ownBlock = some g ∨ g = wr.heap.size + 3) :
    ∃ tabs' v', NewI w b mb lv ds (ds.map Tab.new) (k + 1) tabs' v' (w5.setCell ⟨b, 2, none⟩ (.slice (some ⟨g, 0, none⟩) (k + 1) cap)) := by
  have hks : (Tab.new d).ks = List.replicate mx [] := by
    show (if d.kind = 1 then arrKeys d.max.toNat else List.replicate d.max.toNat []) = _
    rw [if_neg (by omega), hmx, Int.toNat_natCast]
  have hksl : (Tab.new d).ks.length = mx := by rw [hks]; simp
  refine ⟨_, _, h.step (x := ⟨Tab.new d, wr.heap.size + 1, mx⟩) (by rw [List.getElem?_map, hd]; rfl) (Tab.new_ok hmay) (by obtain ⟨hk, _⟩ := List.getElem?_eq_some_iff.1 hd; omega) ((((Fr.refl No wr).alloc Y).alloc (.cells (strs (List.replicate mx [])).toArray 9)).alloc L) (fun _ => ?_) ?_ (grown_fr hf) ?_⟩
  · have hs : (wr.alloc Y).heap.size = wr.heap.size + 1 := by simp
    have hcell : CellsAt ((wr.alloc Y).alloc (.cells (strs (List.replicate mx [])).toArray 9)) (wr.heap.size + 1) 0 (strs (List.replicate mx [])) := by
      have := CellsAt.new (wr.alloc Y) (strs (List.replicate mx [])) 9
      rwa [hs] at this
    refine ⟨⟨?_, fun j hj => ?_, by rw [hksl]; exact Nat.le_refl _⟩, by simp, by simp⟩
    · show CellsAt _ (wr.heap.size + 1) 0 (strs (Tab.new d).ks)
      rw [hks]
      exact ((Fr.refl No _).alloc L).cells hcell id
    · have hj' : j < mx := by rw [← hksl]; exact hj
      have hc := hcell j (.string ⟨#[]⟩) (by rw [strs_get]; simp [hj'])
      have hfz := ((Fr.refl No ((wr.alloc Y).alloc (.cells (strs (List.replicate mx [])).toArray 9))).alloc L).frozen hc id
      show World.frozen? _ ⟨wr.heap.size + 1, 0 + j, none⟩ = false
      rw [hfz]
      have := World.frozen?_alloc_new (wr.alloc Y) (strs (List.replicate mx [])).toArray 9 (0 + j)
      rwa [hs] at this
  · have e : HTab.cell ⟨Tab.new d, wr.heap.size + 1, mx⟩ = .iface 82 (.slice (some ⟨wr.heap.size + 1, 0, none⟩) mx mx) := by
      unfold HTab.cell
      rw [if_neg (show ¬ (Tab.new d).d.kind = 1 from fun h => by have : d.kind = 1 := h; omega)]
      show Value.iface 82 (.slice (some ⟨wr.heap.size + 1, 0, none⟩) (Tab.new d).ks.length mx) = _
      rw [hksl]
    rw [e]; exact own
  · rcases hg with hg | rfl
    · exact .inl hg
    · exact .inr (by simp)

set_option maxRecDepth 100000 in
set_option maxHeartbeats 1000000 in
theorem mnew_walk (g off n cap mb : Nat) (l : List MapD) (w : World) (hn : l.length = n) (h1 : 1 ≤ n) (h4 : n ≤ 4) (hc : CellsAt w g off (mflat l)) (hmayl : ∀ x ∈ l, x.may = true)
    (hmay : Calls Tryz.prog 55 #[.slice (some ⟨g, off, none⟩) n cap] w fun e w' => e = .returned (.bool true) ∧ Fr No w w')
    (hhold : ∀ W, Fr No w W → Calls Tryz.prog 34 #[.slice (some ⟨g, off, none⟩) n cap, .pointer (some ⟨mb, 0, none⟩)] W fun e w' => e = .returned (.int .i64 0) ∧ Fr No W w') :
    Calls Tryz.prog 42 #[.slice (some ⟨g, off, none⟩) n cap, .pointer (some ⟨mb, 0, none⟩)] w (NewMade w mb l) := by
  have HC := Lib.hid hc
  have HN := Lib.hid hn
  have HM := Lib.hid hmayl
  have H := Lib.hid hmay
  have HH := Lib.hid hhold
  have HCL : Hid (∀ W, Fr No w W → Calls Tryz.prog 23 #[.slice (some ⟨g, off, none⟩) n cap] W (ClonePost n (mflat l) W 4)) := fun W hW => clone_maps g off n cap (mflat l) W (by rw [mflat_length, hn]) h1 (by omega) (hW.cells hc id) (mflat_one l)
  clear hc hn hmayl hmay hhold
  obtain ⟨i0, hi0, hz0, hz1, hz2⟩ := info_parts Tryz.info_table
  go_enter Tryz.func42, Tryz.ntmps42
  go_wp2_with fail
  refine (H.out).mono ?_
  rintro e w1 ⟨rfl, hf⟩
  have HF := Lib.hid hf
  clear hf
  go_wp2_with fail
  refine (HH.out w1 HF.out).mono ?_
  rintro e w2 ⟨rfl, hf2⟩
  have HF2 := Lib.hid (HF.out.trans hf2)
  clear hf2 HF H HH
  go_wp2_with fail
  refine (HCL.out w2 HF2.out).mono ?_
  rintro e w3 ⟨gl, cl, rfl, hlo, hlt, hcl, hop, hcap, hf3⟩
  have HF3 := Lib.hid (HF2.out.trans hf3)
  have HI0 : Hid (NewI w w3.heap.size mb (.slice (some ⟨gl, 0, none⟩) n cl) l (l.map Tab.new) 0 [] (.slice none 0 0) (w3.alloc (.cells #[.bool true, .slice (some ⟨gl, 0, none⟩) n cl, .slice none 0 0, .pointer (some ⟨mb, 0, none⟩)] 72))) := by
    have hfa : Fr No w3 (w3.alloc (.cells #[.bool true, .slice (some ⟨gl, 0, none⟩) n cl, .slice none 0 0, .pointer (some ⟨mb, 0, none⟩)] 72)) := (Fr.refl _ _).alloc _
    refine ⟨HF3.out.trans hfa, HF3.out.size, ?_, ?_, ?_, ?_, World.frozen?_alloc_new _ _ _ _, .inr ⟨gl, 0, cl, by rw [HN.out], hfa.cells hcl id⟩, rfl, World.ownsRow_nil _ _ _ _, by simp, by simp, List.Pairwise.nil, by simp [Value.ownBlock], ?_⟩
    · rw [World.cell?_alloc_new]; rfl
    · rw [World.cell?_alloc_new]; rfl
    · rw [World.cell?_alloc_new]; rfl
    · rw [World.cell?_alloc_new]; rfl
    · simp [Value.ownBlock]; omega
  have hlo' : w.heap.size ≤ gl := by have := HF2.out.size; omega
  have HLO := Lib.hid hlo'
  have HGL : Hid (gl < w3.heap.size) := hlt
  clear hlo hlt hcl hop hcap hf3 HCL HF2 hlo'
  go_wp2_with fail
  have HSZ3 : Hid (w3.heap.size < (w3.alloc (.cells #[.bool true, .slice (some ⟨gl, 0, none⟩) n cl, .slice none 0 0, .pointer (some ⟨mb, 0, none⟩)] 72)).heap.size) := HI0.out.lt
  have HLB : Hid (gl < w3.heap.size + 1) := Nat.lt_succ_of_lt HGL.out
  generalize w3.alloc (.cells #[.bool true, .slice (some ⟨gl, 0, none⟩) n cl, .slice none 0 0, .pointer (some ⟨mb, 0, none⟩)] 72) = w4 at *
  generalize w3.heap.size = b at *
  go_loopw [27] (fun s wr => ∃ k : Nat, k ≤ n ∧ s = .int .i64 k ∧ Hid (∃ tabs v, NewI w b mb (.slice (some ⟨gl, 0, none⟩) n cl) l (l.map Tab.new) k tabs v wr)) (fun s _ => n - (intOf s).toNat)
  case atStart => exact ⟨0, Nat.zero_le _, rfl, [], _, HI0.out⟩
  case round =>
    obtain ⟨k, hk, rfl, HI⟩ := hrel
    by_cases hlt : k < n
    · obtain ⟨x, hx⟩ : ∃ x, l[k]? = some x := ⟨l[k]'(by rw [HN.out]; exact hlt), List.getElem?_eq_getElem _⟩
      obtain ⟨tabs, v, hi⟩ := HI.out
      obtain ⟨k0, k1, k2, k3⟩ := map_cells (hi.fr.cells HC.out id) hx
      have hmay := HM.out x (List.mem_of_getElem? hx)
      have hmi := (MapD.may_iff x).1 hmay
      obtain ⟨mx, hmx⟩ : ∃ mx : Nat, x.max = mx := ⟨x.max.toNat, by omega⟩
      have hmx16 : mx ≤ 16 := by omega
      rw [hmx] at k3
      have hb0 : ¬ b = wr.heap.size := by have := hi.lt; omega
      have hb1 : ¬ b = wr.heap.size + 1 := by have := hi.lt; omega
      have hb2 : ¬ b = wr.heap.size + 1 + 1 := by have := hi.lt; omega
      have c2 := hi.c2
      have c2a : ∀ Y : Obj, (wr.alloc Y).cell? ⟨b, 2, none⟩ = some v := fun Y => ((Fr.refl No wr).alloc Y).cell c2 id
      have c2b : ∀ Y Z : Obj, ((wr.alloc Y).alloc Z).cell? ⟨b, 2, none⟩ = some v := fun Y Z => (((Fr.refl No wr).alloc Y).alloc Z).cell c2 id
      have HOWN : Hid (∀ W, Fr No wr W → W.ownsRow w.heap.size 78 1 v k (tabs.map HTab.cell)) := fun W hW => ownsRow_fr hi.own hW (fun _ _ => id)
      have HQ5 : Hid (∀ W w5, Fr No wr W → W.grownBy w5 v.ownBlock → w5.cell? ⟨b, 2, none⟩ = some v ∧ w5.frozen? ⟨b, 2, none⟩ = false) := fun W w5 hW hg => by
        have hs := hi.to hW
        have hnb : ¬ OwnOf v b := fun hb => (hi.ne b hb).1 rfl
        exact ⟨(grown_fr hg).cell hs.c2 hnb, by rw [(grown_fr hg).frozen hs.c2 hnb]; exact hs.free⟩
      have hbase : w.heap.size ≤ wr.heap.size := hi.fr.size
      rcases (show x.kind = 1 ∨ x.kind = 2 by omega) with h1k | h2k
      · have HST : Hid (∀ (Y L : Obj) (w5 : World) (g2 cap2 : Nat), w5.ownsRow w.heap.size 78 1 (.slice (some ⟨g2, 0, none⟩) (k + 1) cap2) (k + 1) (tabs.map HTab.cell ++ [.iface 126 (.int .i64 mx)]) → ((wr.alloc Y).alloc L).grownBy w5 v.ownBlock → (v.ownBlock = some g2 ∨ g2 = wr.heap.size + 2) →
            ∃ tabs' v', NewI w b mb (.slice (some ⟨gl, 0, none⟩) n cl) l (l.map Tab.new) (k + 1) tabs' v' (w5.setCell ⟨b, 2, none⟩ (.slice (some ⟨g2, 0, none⟩) (k + 1) cap2))) := fun Y L w5 g2 cap2 a1 a2 a3 => hi.step1 hx hmay h1k hmx a1 a2 a3
        rw [h1k] at k0
        have H1 : ∀ o1 : Obj, ((wr.alloc o1).alloc (.cells #[.iface 126 (.int .i64 mx)] 78)).heap[wr.heap.size + 1]? = some (.cells #[.iface 126 (.int .i64 mx)] 78 (0, 0)) := fun o1 => by
          have := heap_alloc_new (wr.alloc o1) (.cells #[.iface 126 (.int .i64 mx)] 78)
          rw [show (wr.alloc o1).heap.size = wr.heap.size + 1 by simp] at this
          exact this
        obtain ⟨kind, key, value, max⟩ := x
        generalize tabs.map HTab.cell = tc at HOWN HST
        simp only at k0 k1 k2 k3
        clear hx hmay hmi hmx HI hi h1k
        go_wp2_with (at_builtin; refine wpList_append_lies _ rfl _ _ 70 rfl w.heap.size 78 i0 _ 1 16 Tryz.underlying70 hi0 hz0 hz1 hz2 rfl (by decide) v k tc rfl (HOWN.out _ (((Fr.refl _ _).alloc _).alloc _)) ⟨wr.heap.size + 1, 0, none⟩ 1 1 [.iface 126 (.int .i64 mx)] rfl rfl (World.news_of_block (cs := #[.iface 126 (.int .i64 mx)]) (t := 78) (fr := (0, 0)) (H1 _)) (by simp [Value.oneCell']) (by omega) (by unfold maxLen; omega) (by omega) (by simp; omega) (wr.heap.size + 2) (by simp) ?_; intro g2 cap2 w5 hown hgrow hat hlt2; have q5 := (HQ5.out _ _ (((Fr.refl _ _).alloc _).alloc _) hgrow); have HE := Lib.hid (HST.out _ _ _ _ _ hown hgrow hat); clear hown hgrow hat hlt2; obtain ⟨q5, q6⟩ := q5)
        go_roundw
        case rel => exact ⟨k + 1, by omega, by go_num, HE.out⟩
        case measure => simp [intOf] <;> omega
      · have HST : Hid (∀ (Y L : Obj) (w5 : World) (g2 cap2 : Nat), w5.ownsRow w.heap.size 78 1 (.slice (some ⟨g2, 0, none⟩) (k + 1) cap2) (k + 1) (tabs.map HTab.cell ++ [.iface 82 (.slice (some ⟨wr.heap.size + 1, 0, none⟩) mx mx)]) → (((wr.alloc Y).alloc (.cells (strs (List.replicate mx [])).toArray 9)).alloc L).grownBy w5 v.ownBlock → (v.ownBlock = some g2 ∨ g2 = wr.heap.size + 3) →
            ∃ tabs' v', NewI w b mb (.slice (some ⟨gl, 0, none⟩) n cl) l (l.map Tab.new) (k + 1) tabs' v' (w5.setCell ⟨b, 2, none⟩ (.slice (some ⟨g2, 0, none⟩) (k + 1) cap2))) := fun Y L w5 g2 cap2 a1 a2 a3 => hi.step2 hx hmay h2k hmx a1 a2 a3
        rw [h2k] at k0
        have hmk : ∀ Y : Obj, (Instr.makeSlice 82 (.int .i64 mx) (.int .i64 mx)).run Tryz.prog (wr.alloc Y) = .ok (.slice (some ⟨wr.heap.size + 1, 0, none⟩) mx mx) ((wr.alloc Y).alloc (.cells (strs (List.replicate mx [])).toArray 9)) := fun Y => by
          have := make_hash mx (by omega) (wr.alloc Y)
          rwa [show (wr.alloc Y).heap.size = wr.heap.size + 1 by simp] at this
        generalize (strs (List.replicate mx [])).toArray = HA at hmk HST
        have H1 : ∀ o1 o2 : Obj, (((wr.alloc o1).alloc o2).alloc (.cells #[.iface 82 (.slice (some ⟨wr.heap.size + 1, 0, none⟩) mx mx)] 78)).heap[wr.heap.size + 2]? = some (.cells #[.iface 82 (.slice (some ⟨wr.heap.size + 1, 0, none⟩) mx mx)] 78 (0, 0)) := fun o1 o2 => by
          have := heap_alloc_new ((wr.alloc o1).alloc o2) (.cells #[.iface 82 (.slice (some ⟨wr.heap.size + 1, 0, none⟩) mx mx)] 78)
          rw [show ((wr.alloc o1).alloc o2).heap.size = wr.heap.size + 2 by simp] at this
          exact this
        obtain ⟨kind, key, value, max⟩ := x
        generalize tabs.map HTab.cell = tc at HOWN HST
        simp only at k0 k1 k2 k3
        clear hx hmay hmi hmx HI hi h2k
        go_wp2_with (at_builtin; refine wpList_append_lies _ rfl _ _ 70 rfl w.heap.size 78 i0 _ 1 16 Tryz.underlying70 hi0 hz0 hz1 hz2 rfl (by decide) v k tc rfl (HOWN.out _ ((((Fr.refl _ _).alloc _).alloc _).alloc _)) ⟨wr.heap.size + 2, 0, none⟩ 1 1 [.iface 82 (.slice (some ⟨wr.heap.size + 1, 0, none⟩) mx mx)] rfl rfl (World.news_of_block (cs := #[.iface 82 (.slice (some ⟨wr.heap.size + 1, 0, none⟩) mx mx)]) (t := 78) (fr := (0, 0)) (H1 _ _)) (by simp [Value.oneCell']) (by omega) (by unfold maxLen; omega) (by omega) (by simp; omega) (wr.heap.size + 3) (by simp) ?_; intro g2 cap2 w5 hown hgrow hat hlt2; have q5 := (HQ5.out _ _ ((((Fr.refl _ _).alloc _).alloc _).alloc _) hgrow); have HE := Lib.hid (HST.out _ _ _ _ _ hown hgrow hat); clear hown hgrow hat hlt2; obtain ⟨q5, q6⟩ := q5)
        go_roundw
        case rel => exact ⟨k + 1, by omega, by go_num, HE.out⟩
        case measure => simp [intOf] <;> omega
    · obtain rfl : k = n := by omega
      go_wp2_with fail
      go_ret2
      obtain ⟨tabs, v, hi⟩ := HI.out
      have hN := HN.out
      rw [← hN] at hi
      refine ⟨b, rfl, hi.done (R := fun _ => False) (by rw [List.map_map]; exact List.map_id'' (fun _ => rfl) l) (by omega) (fun q hq => ?_) (fun _ h => h.elim) (fun a n c e => ?_), hi.fr⟩
      · simp [Value.ownBlock] at hq
        subst hq
        exact .inl ⟨HLO.out, by have := HLB.out; have := hi.lt; omega⟩
      · cases e; rfl

end Go.Proofs.YtlinnhaodkiolaaGreatDoor

namespace Go.Proofs.YtlinnhaodkiolaaGreatDoor
open Go.RowKit

set_option maxHeartbeats 1000000 in
theorem mnew_zero (a : Option Addr) (c mb : Nat) (w : World)
    (hmay : Calls Tryz.prog 55 #[.slice a 0 c] w fun e w' => e = .returned (.bool true) ∧ Fr No w w')
    (hhold : ∀ W, Fr No w W → Calls Tryz.prog 34 #[.slice a 0 c, .pointer (some ⟨mb, 0, none⟩)] W fun e w' => e = .returned (.int .i64 0) ∧ Fr No W w')
    (hcl : ∀ W, Fr No w W → Calls Tryz.prog 23 #[.slice a 0 c] W fun e w' => (∃ a' c', e = .returned (.slice a' 0 c') ∧ ∀ x, a' = some x → x = ⟨x.block, 0, none⟩) ∧ Fr No W w') :
    Calls Tryz.prog 42 #[.slice a 0 c, .pointer (some ⟨mb, 0, none⟩)] w (NewMade w mb []) := by
  have H := Lib.hid hmay
  have HH := Lib.hid hhold
  have HC := Lib.hid hcl
  clear hmay hhold hcl
  go_enter Tryz.func42, Tryz.ntmps42
  go_wp2_with fail
  refine (H.out).mono ?_
  rintro e w1 ⟨rfl, hf⟩
  have HF := Lib.hid hf
  clear hf
  go_wp2_with fail
  refine (HH.out w1 HF.out).mono ?_
  rintro e w2 ⟨rfl, hf2⟩
  have HF2 := Lib.hid (HF.out.trans hf2)
  clear hf2 HF H HH
  go_wp2_with fail
  refine (HC.out w2 HF2.out).mono ?_
  rintro e w3 ⟨⟨a', c', rfl, hd⟩, hf3⟩
  have HF3 := Lib.hid (HF2.out.trans hf3)
  have HD := Lib.hid hd
  clear hf3 HC HF2 hd
  go_wp2_with fail
  refine wp_loop_rounds 1 ?_
  rw [rounds_succ]
  go_wp2_with fail
  go_ret2
  refine ⟨w3.heap.size, rfl, ?_, HF3.out.trans ((Fr.refl _ _).alloc _)⟩
  have h0 := HF3.out.size
  refine ⟨fun k => k = w3.heap.size, fun _ => False, ⟨[], rfl, ?_, ?_, ⟨.slice a' 0 c', .slice none 0 0, ?_, ?_, .inl ⟨rfl, _, _, _, _, rfl, rfl⟩⟩, by simp, by simp, List.Pairwise.nil, rfl, by simp, fun _ _ => id⟩, fun k hk => .inl ⟨by omega, by simp; omega⟩, fun k hk => hk.elim⟩
  · rw [World.cell?_alloc_new]; rfl
  · rw [World.cell?_alloc_new]; rfl
  · rw [World.cell?_alloc_new]; rfl
  · rw [World.cell?_alloc_new]; rfl

/-- what New of maps comes to, over a memory that is there -/
def NewQ (w : World) (mb : Nat) (l : List MapD) (m : List Reg) (e : Ending) (w' : World) : Prop :=
  if mayL l = true ∧ holdsB (mregsOf l) m = true then NewMade w mb l e w' else e = .returned (.tuple #[.pointer none, .int .i64 2]) ∧ Fr No w w'

theorem mnew_any {T : Nat → Prop} {w : World} {mb : Nat} {m : List Reg} (hm : MemAt w mb m T) (hok : MemOk m) (v : Value) (l : List MapD) (h : MapsIn w v l) (hl : l.length ≤ 1000000) :
    Calls Tryz.prog 42 #[v, .pointer (some ⟨mb, 0, none⟩)] w (NewQ w mb l m) := by
  have hmay := may_any v l w h hl
  have hhold : ∀ W, Fr No w W → Calls Tryz.prog 34 #[v, .pointer (some ⟨mb, 0, none⟩)] W fun e w' => e = .returned (.int .i64 (errI (holdsB (mregsOf l) m))) ∧ Fr No W w' := fun W hW => hold_any (hm.fr hW (fun _ _ => id)) hok v l (h.fr hW) hl
  unfold NewQ
  cases hq : mayL l with
  | false =>
    rw [hq] at hmay
    refine (mnew_bad v _ w hmay).mono fun e w' h => ?_
    simpa using h
  | true =>
    rw [hq] at hmay
    cases hh : holdsB (mregsOf l) m with
    | false =>
      rw [hh] at hhold
      refine (mnew_hold v _ 2 w hmay hhold rfl).mono fun e w' h => ?_
      simpa using h
    | true =>
      rw [hh] at hhold
      have hhold' : ∀ W, Fr No w W → Calls Tryz.prog 34 #[v, .pointer (some ⟨mb, 0, none⟩)] W fun e w' => e = .returned (.int .i64 0) ∧ Fr No W w' := hhold
      obtain ⟨h4, hall⟩ := (mayL_iff l).1 hq
      simp only [and_self, if_true]
      rcases h with ⟨rfl, a, c, rfl⟩ | ⟨g, off, cap, rfl, hc⟩
      · refine mnew_zero a c mb w hmay hhold' (fun W _ => ?_)
        cases a with
        | none =>
          refine (clone_maps_nil 0 c W).mono ?_
          rintro e w' ⟨rfl, rfl⟩
          exact ⟨⟨_, _, rfl, fun x hx => by cases hx⟩, Fr.refl _ _⟩
        | some a =>
          refine (clone_maps_zero a c W).mono ?_
          rintro e w' ⟨rfl, hf⟩
          exact ⟨⟨_, _, rfl, fun x hx => by cases hx; rfl⟩, hf⟩
      · rcases Nat.eq_zero_or_pos l.length with h0 | h0
        · obtain rfl := List.eq_nil_of_length_eq_zero h0
          refine mnew_zero _ _ mb w hmay hhold' (fun W _ => (clone_maps_zero _ _ W).mono ?_)
          rintro e w' ⟨rfl, hf⟩
          exact ⟨⟨_, _, rfl, fun x hx => by cases hx; rfl⟩, hf⟩
        · exact mnew_walk g off l.length cap mb l w rfl h0 h4 hc hall hmay hhold'

theorem mnew_nomem (v mp : Value) (l : List MapD) (w : World) (h : MapsIn w v l) (hl : l.length ≤ 1000000) (hcopy : ∀ W, Fr No w W → Calls Tryz.prog 19 #[mp] W fun e w' => e = .returned (.pointer none) ∧ W = w') :
    Calls Tryz.prog 42 #[v, mp] w fun e w' => e = .returned (.tuple #[.pointer none, .int .i64 (if mayL l = true then 1 else 2)]) ∧ Fr No w w' := by
  have hmay := may_any v l w h hl
  cases hq : mayL l with
  | false => rw [hq] at hmay; exact mnew_bad v _ w hmay
  | true =>
    rw [hq] at hmay
    exact mnew_hold v mp 1 w hmay (fun W hW => (hold_none v mp W (hcopy W hW)).mono fun e w' ⟨he, hw⟩ => ⟨he, hw ▸ Fr.refl _ _⟩) rfl

theorem method_acopy (n : Int) (w : World) : (method 285 126 (.int .i64 n) "firewall/maps.copy").run Tryz.prog w = .ok (115, .int .i64 n) w := by kernel_rfl
theorem method_hcopy (a : Option Addr) (n c : Nat) (w : World) : (method 285 82 (.slice a n c) "firewall/maps.copy").run Tryz.prog w = .ok (111, .slice a n c) w := by kernel_rfl
theorem face_acopy (n : Int) : Face 126 (.int .i64 n) "firewall/maps.copy" 115 := ⟨method_acopy n, enters_of Tryz.func115 (by kernel_rfl) rfl⟩
theorem face_hcopy (a : Option Addr) (n c : Nat) : Face 82 (.slice a n c) "firewall/maps.copy" 111 := ⟨method_hcopy a n c, enters_of Tryz.func111 (by kernel_rfl) rfl⟩

set_option maxHeartbeats 400000 in
theorem acopy_any (n : Int) (w : World) : Calls Tryz.prog 115 #[.int .i64 n] w fun e w' => e = .returned (.iface 126 (.int .i64 n)) ∧ w = w' := by
  go_enter Tryz.func115, Tryz.ntmps115
  go_wp2_with fail
  go_ret
  exact ⟨rfl, rfl⟩

set_option maxHeartbeats 400000 in
theorem hcopy_walk (v : Value) (n : Nat) (vs : List Value) (w : World) (h : Calls Tryz.prog 114 #[v] w (ClonePost n vs w 1)) :
    Calls Tryz.prog 111 #[v] w fun e w' => ∃ g cap, e = .returned (.iface 82 (.slice (some ⟨g, 0, none⟩) n cap)) ∧ w.heap.size ≤ g ∧ g < w'.heap.size ∧ CellsAt w' g 0 vs ∧ Open w' g 0 (n * 1) ∧ n ≤ cap ∧ Fr No w w' := by
  have H := Lib.hid h
  clear h
  go_enter Tryz.func111, Tryz.ntmps111
  go_wp2_with fail
  refine (H.out).mono ?_
  rintro e w1 ⟨g, cap, rfl, h1, h2, h3, h4, h5, h6⟩
  have HA := Lib.hid h3
  have HO := Lib.hid h4
  have HF := Lib.hid h6
  clear h3 h4 h6 H
  go_wp2_with fail
  go_ret
  exact ⟨g, cap, rfl, h1, h2, HA.out, HO.out, h5, HF.out⟩

/-- a copied table -/
structure CopiedT (x : HTab) (W : World) (x' : HTab) (w' : World) : Prop where
  t : x'.t = x.t
  fr : Fr No W w'
  here : x.t.d.kind = 2 → x'.here w' ∧ W.heap.size ≤ x'.h ∧ x'.h < w'.heap.size

theorem HTab.copy_face {w : World} {x : HTab} (ok : x.t.ok) (hh : x.t.d.kind = 2 → ∀ W, Fr No w W → x.here W) :
    ∃ T v f, x.cell = .iface T v ∧ Face T v "firewall/maps.copy" f ∧ ∀ W, Fr No w W → Calls Tryz.prog f #[v] W fun e w' => ∃ x', e = .returned x'.cell ∧ Hid (CopiedT x W x' w') ∧ Fr No W w' := by
  have hb := ok.bounds
  rcases ok.kinds with h1 | h2
  · refine ⟨_, _, _, by unfold HTab.cell; rw [if_pos h1], face_acopy _, fun W _ => (acopy_any _ W).mono ?_⟩
    rintro e w' ⟨rfl, rfl⟩
    refine ⟨x, by unfold HTab.cell; rw [if_pos h1], ⟨rfl, Fr.refl _ _, fun h => by omega⟩, Fr.refl _ _⟩
  · have hn1 : ¬ x.t.d.kind = 1 := by omega
    refine ⟨_, _, _, by unfold HTab.cell; rw [if_neg hn1], face_hcopy _ _ _, fun W hW => ?_⟩
    have here := hh h2 W hW
    refine (hcopy_walk _ x.t.ks.length (strs x.t.ks) W (clone_strs x.h 0 x.t.ks.length x.cap (strs x.t.ks) W (by rw [strs_length]; omega) (by omega) (by omega) here.keys (strs_one _))).mono ?_
    rintro e w' ⟨g, cap, rfl, a1, a2, a3, a4, a5, a6⟩
    refine ⟨⟨x.t, g, cap⟩, by unfold HTab.cell; rw [if_neg hn1], ⟨rfl, a6, fun _ => ⟨⟨a3, by rw [Nat.mul_one] at a4; exact a4, a5⟩, a1, a2⟩⟩, a6⟩

end Go.Proofs.YtlinnhaodkiolaaGreatDoor

namespace Go.Proofs.YtlinnhaodkiolaaGreatDoor
open Go.RowKit

set_option maxHeartbeats 400000 in
theorem mcopy_nil (mp : Value) (w : World) : Calls Tryz.prog 20 #[.pointer none, mp] w fun e w' => e = .returned (.pointer none) ∧ w = w' := by
  go_enter Tryz.func20, Tryz.ntmps20
  go_wp2_with fail
  go_ret
  exact ⟨rfl, rfl⟩

set_option maxHeartbeats 400000 in
theorem mcopy_unmade (b : Nat) (mp : Value) (w : World) (h : w.cell? ⟨b, 0, none⟩ = some (.bool false)) : Calls Tryz.prog 20 #[.pointer (some ⟨b, 0, none⟩), mp] w fun e w' => e = .returned (.pointer none) ∧ w = w' := by
  go_enter Tryz.func20, Tryz.ntmps20
  go_wp2_with fail
  go_ret
  exact ⟨rfl, rfl⟩

set_option maxHeartbeats 400000 in
theorem mcopy_hold (b : Nat) (lv mp : Value) (err : Int) (w : World) (h : w.cell? ⟨b, 0, none⟩ = some (.bool true)) (h1 : w.cell? ⟨b, 1, none⟩ = some lv) (hne : (err != 0) = true)
    (hhold : Calls Tryz.prog 34 #[lv, mp] w fun e w' => e = .returned (.int .i64 err) ∧ Fr No w w') :
    Calls Tryz.prog 20 #[.pointer (some ⟨b, 0, none⟩), mp] w fun e w' => e = .returned (.pointer none) ∧ Fr No w w' := by
  have H := Lib.hid hhold
  clear hhold
  go_enter Tryz.func20, Tryz.ntmps20
  go_wp2_with fail
  refine (H.out).mono ?_
  rintro e w1 ⟨rfl, hf⟩
  go_wp2_with fail
  go_ret
  exact ⟨rfl, hf⟩

theorem HTab.cell_iface (x : HTab) : ∃ T v, x.cell = .iface T v := by
  unfold HTab.cell
  split <;> exact ⟨_, _, rfl⟩

theorem HTab.cell_one (x : HTab) : x.cell.oneCell' = true := by
  unfold HTab.cell
  split <;> simp [Value.oneCell']

set_option maxRecDepth 100000 in
set_option maxHeartbeats 1000000 in
theorem mcopy_walk (b mb2 n ct gt : Nat) (lv : Value) (l : List HTab) (w : World) (hl : l.length = n) (h4 : n ≤ 4) (hdl : 0 < n) (h0 : w.cell? ⟨b, 0, none⟩ = some (.bool true)) (h1 : w.cell? ⟨b, 1, none⟩ = some lv) (h2 : w.cell? ⟨b, 2, none⟩ = some (.slice (some ⟨gt, 0, none⟩) n ct))
    (hc : CellsAt w gt 0 (l.map HTab.cell)) (hmaps : MapsIn w lv (l.map fun x => x.t.d)) (hok : ∀ x ∈ l, x.t.ok) (hhere : ∀ x ∈ l, x.t.d.kind = 2 → ∀ W, Fr No w W → x.here W)
    (hhold : Calls Tryz.prog 34 #[lv, .pointer (some ⟨mb2, 0, none⟩)] w fun e w' => e = .returned (.int .i64 0) ∧ Fr No w w') :
    Calls Tryz.prog 20 #[.pointer (some ⟨b, 0, none⟩), .pointer (some ⟨mb2, 0, none⟩)] w fun e w' => ∃ b', e = .returned (.pointer (some ⟨b', 0, none⟩)) ∧ Hid (∃ tabs v, NewI w b' mb2 lv (l.map fun x => x.t.d) (l.map (·.t)) n tabs v w') := by
  obtain ⟨la, lc, hlv⟩ : ∃ a c, lv = .slice a n c := by
    obtain ⟨a, c, e⟩ := hmaps.form
    rw [List.length_map, hl] at e
    exact ⟨a, c, e⟩
  subst hlv
  have H := Lib.hid hhold
  have HC := Lib.hid hc
  have HL := Lib.hid hl
  have HOK := Lib.hid hok
  have HERE := Lib.hid hhere
  have HMI := Lib.hid hmaps
  have HCS : Hid (∀ W, Fr No w W → W.cell? ⟨b, 1, none⟩ = some (.slice la n lc) ∧ W.cell? ⟨b, 2, none⟩ = some (.slice (some ⟨gt, 0, none⟩) n ct)) := fun W hW => ⟨hW.cell h1 id, hW.cell h2 id⟩
  have hgt : gt < w.heap.size := World.block_lt_of_cell? w ⟨gt, 0 + 0, none⟩ (hc 0 _ (by rw [List.getElem?_map, List.getElem?_eq_getElem (by omega)]; rfl))
  have HLVLT : Hid (∀ q, (Value.slice la n lc).ownBlock = some q → q < w.heap.size) := fun q hq => hmaps.lt (by simp; omega) hq
  obtain ⟨i0, hi0, hz0, hz1, hz2⟩ := info_parts Tryz.info_table
  clear hhold hc hl hok hhere hmaps
  go_enter Tryz.func20, Tryz.ntmps20
  go_wp2_with fail
  refine (H.out).mono ?_
  rintro e w1 ⟨rfl, hf⟩
  have HF := Lib.hid hf
  obtain ⟨d1, d2⟩ := HCS.out w1 hf
  have d2a : ∀ o : Obj, (w1.alloc o).cell? ⟨b, 2, none⟩ = some (.slice (some ⟨gt, 0, none⟩) n ct) := fun o => ((Fr.refl No w1).alloc o).cell d2 id
  have HI0 : Hid (NewI w w1.heap.size mb2 (.slice la n lc) (l.map fun x => x.t.d) (l.map (·.t)) 0 [] (.slice none 0 0) (w1.alloc (.cells #[.bool true, .slice la n lc, .slice none 0 0, .pointer (some ⟨mb2, 0, none⟩)] 72))) := by
    have hfa : Fr No w (w1.alloc (.cells #[.bool true, .slice la n lc, .slice none 0 0, .pointer (some ⟨mb2, 0, none⟩)] 72)) := HF.out.alloc _
    refine ⟨hfa, HF.out.size, ?_, ?_, ?_, ?_, World.frozen?_alloc_new _ _ _ _, HMI.out.fr hfa, rfl, World.ownsRow_nil _ _ _ _, by simp, by simp, List.Pairwise.nil, by simp [Value.ownBlock], fun e => by have := HLVLT.out _ e; have := HF.out.size; omega⟩
    · rw [World.cell?_alloc_new]; rfl
    · rw [World.cell?_alloc_new]; rfl
    · rw [World.cell?_alloc_new]; rfl
    · rw [World.cell?_alloc_new]; rfl
  have HFA : Hid (Fr No w (w1.alloc (.cells #[.bool true, .slice la n lc, .slice none 0 0, .pointer (some ⟨mb2, 0, none⟩)] 72))) := HF.out.alloc _
  clear hf h0 h1 h2 H
  go_wp2_with fail
  generalize w1.alloc (.cells #[.bool true, .slice la n lc, .slice none 0 0, .pointer (some ⟨mb2, 0, none⟩)] 72) = w4 at *
  generalize w1.heap.size = b2 at *
  clear d1 d2 d2a HF HCS
  go_loopw [38] (fun s wr => ∃ k : Nat, k ≤ n ∧ s = .int .i64 k ∧ Hid (∃ tabs v, NewI w b2 mb2 (.slice la n lc) (l.map fun x => x.t.d) (l.map (·.t)) k tabs v wr)) (fun s _ => n - (intOf s).toNat)
  case atStart => exact ⟨0, Nat.zero_le _, rfl, [], _, HI0.out⟩
  case round =>
    obtain ⟨k, hk, rfl, HI⟩ := hrel
    by_cases hlt : k < n
    · obtain ⟨x, hx⟩ : ∃ x, l[k]? = some x := ⟨l[k]'(by rw [HL.out]; exact hlt), List.getElem?_eq_getElem _⟩
      obtain ⟨tabs, v, hi⟩ := HI.out
      have hxm := List.mem_of_getElem? hx
      have hcell : wr.cell? ⟨gt, k, none⟩ = some x.cell := by
        have := hi.fr.cells HC.out id k x.cell (by rw [List.getElem?_map, hx]; rfl)
        rwa [Nat.zero_add] at this
      obtain ⟨T, tv, f, hTv, face, hcp⟩ := HTab.copy_face (HOK.out x hxm) (HERE.out x hxm)
      rw [hTv] at hcell
      have HCP : Hid (∀ W, Fr No wr W → Calls Tryz.prog f #[tv] W fun e w' => ∃ x' T' v', e = .returned (.iface T' v') ∧ Hid (x'.cell = .iface T' v') ∧ Hid (CopiedT x W x' w') ∧ Fr No W w') := fun W hW => (hcp W (hi.fr.trans hW)).mono fun e w' ⟨x', he, h1, h2⟩ => by
        obtain ⟨T', v', hx'⟩ := x'.cell_iface
        exact ⟨x', T', v', by rw [he, hx'], hx', h1, h2⟩
      have HST : Hid (∀ (x' : HTab) (W w6 : World) (L : Obj) (w7 : World) (g2 cap2 : Nat), Fr No wr W → CopiedT x W x' w6 → w7.ownsRow w.heap.size 78 1 (.slice (some ⟨g2, 0, none⟩) (k + 1) cap2) (k + 1) (tabs.map HTab.cell ++ [x'.cell]) → (w6.alloc L).grownBy w7 v.ownBlock → (v.ownBlock = some g2 ∨ g2 = w6.heap.size + 1) →
          ∃ tabs' v', NewI w b2 mb2 (.slice la n lc) (l.map fun x => x.t.d) (l.map (·.t)) (k + 1) tabs' v' (w7.setCell ⟨b2, 2, none⟩ (.slice (some ⟨g2, 0, none⟩) (k + 1) cap2))) := fun x' W w6 L w7 g2 cap2 hW hc own hg hat => by
        have hfw : Fr No wr (w6.alloc L) := (hW.trans hc.fr).alloc L
        refine ⟨_, _, hi.step (x := x') (by rw [List.getElem?_map, hx, hc.t]; rfl) (by rw [hc.t]; exact HOK.out x hxm) (by simp; rw [HL.out]; exact hdl) hfw (fun h2 => ?_) own (grown_fr hg) ?_⟩
        · rw [hc.t] at h2
          obtain ⟨a1, a2, a3⟩ := hc.here h2
          have := (HOK.out x hxm).bounds
          exact ⟨a1.fr ((Fr.refl No _).alloc L) id (by rw [hc.t]; omega), by have := hW.size; omega, by simp; omega⟩
        · rcases hat with h | rfl
          · exact .inl h
          · exact .inr (by simp)
      have HOWN : Hid (∀ W, Fr No wr W → W.ownsRow w.heap.size 78 1 v k (tabs.map HTab.cell)) := fun W hW => ownsRow_fr hi.own hW (fun _ _ => id)
      have HQ5 : Hid (∀ W w5, Fr No wr W → W.grownBy w5 v.ownBlock → w5.cell? ⟨b2, 2, none⟩ = some v ∧ w5.frozen? ⟨b2, 2, none⟩ = false) := fun W w5 hW hg => by
        have hs := hi.to hW
        have hnb : ¬ OwnOf v b2 := fun hb => (hi.ne b2 hb).1 rfl
        exact ⟨(grown_fr hg).cell hs.c2 hnb, by rw [(grown_fr hg).frozen hs.c2 hnb]; exact hs.free⟩
      have HC2 : Hid (∀ W, Fr No wr W → W.cell? ⟨b2, 2, none⟩ = some v) := fun W hW => hW.cell hi.c2 id
      have HBASE : Hid (∀ W, Fr No wr W → w.heap.size ≤ W.heap.size) := fun W hW => Nat.le_trans hi.fr.size hW.size
      have c2 := hi.c2
      obtain ⟨hm, he⟩ := face
      clear hx hxm hi HI hTv hcp
      go_upto_region 12 with fail
      generalize htc : tabs.map HTab.cell = tc at *
      clear htc
      go_region_law (first
        | (go_simp; refine (HCP.out _ (by exact (Fr.refl _ _).drew)).mono ?_; rintro e w6 ⟨x', T', v', rfl, HX', HX6, hf6⟩; have c6 := HC2.out w6 (((Fr.refl _ _).drew).trans hf6); have c6a := fun o : Obj => HC2.out (w6.alloc o) ((((Fr.refl _ _).drew).trans hf6).alloc o))
        | (refine guard_append (.tmp 46) (.tmp 49) 70 ?_ ?_; rfl; refine step_append_lies _ (by rfl) (.tmp 46) (.tmp 49) 70 (by rfl) w.heap.size 78 i0 _ 1 16 Tryz.underlying70 hi0 hz0 hz1 hz2 rfl (by decide) v k tc (by rfl) (by exact HOWN.out _ ((((Fr.refl _ _).drew).trans hf6).alloc _)) ⟨w6.heap.size, 0, none⟩ 1 1 [.iface T' v'] (by rfl) (by rfl) (by exact World.news_of_block (cs := #[.iface T' v']) (t := 78) (fr := (0, 0)) (heap_alloc_new w6 _)) (by simp [Value.oneCell']) (by omega) (by unfold maxLen; omega) (by omega) (by exact HBASE.out _ ((((Fr.refl _ _).drew).trans hf6).alloc _)) (w6.heap.size + 1) (by simp) ?_; intro g2 cap2 w7 hown hgrow hat hlt2; have q5 := HQ5.out _ w7 ((((Fr.refl _ _).drew).trans hf6).alloc _) hgrow; have HE := Lib.hid (HST.out x' _ w6 _ w7 g2 cap2 ((Fr.refl _ _).drew) HX6.out (by rw [HX'.out]; exact hown) hgrow hat); clear hown hgrow hat hlt2; obtain ⟨q5, q6⟩ := q5))
      all_goals
        go_wp2_with fail
        go_roundw
        case rel => exact ⟨k + 1, by omega, by go_num, HE.out⟩
        case measure => simp [intOf] <;> omega
    · obtain rfl : k = n := by omega
      go_wp2_with fail
      go_ret
      exact ⟨_, rfl, HI⟩

end Go.Proofs.YtlinnhaodkiolaaGreatDoor

namespace Go.Proofs.YtlinnhaodkiolaaGreatDoor
open Go.RowKit

set_option maxHeartbeats 1000000 in
theorem mcopy_zero (b mb2 : Nat) (a a' : Option Addr) (c c' : Nat) (w : World) (h0 : w.cell? ⟨b, 0, none⟩ = some (.bool true)) (h1 : w.cell? ⟨b, 1, none⟩ = some (.slice a 0 c)) (h2 : w.cell? ⟨b, 2, none⟩ = some (.slice a' 0 c'))
    (hhold : Calls Tryz.prog 34 #[.slice a 0 c, .pointer (some ⟨mb2, 0, none⟩)] w fun e w' => e = .returned (.int .i64 0) ∧ Fr No w w') :
    Calls Tryz.prog 20 #[.pointer (some ⟨b, 0, none⟩), .pointer (some ⟨mb2, 0, none⟩)] w fun e w' => ∃ b', e = .returned (.pointer (some ⟨b', 0, none⟩)) ∧ MadeMaps w b' mb2 [] (fun _ => False) w' ∧ Fr No w w' := by
  have H := Lib.hid hhold
  have HCS : Hid (∀ W, Fr No w W → W.cell? ⟨b, 1, none⟩ = some (.slice a 0 c) ∧ W.cell? ⟨b, 2, none⟩ = some (.slice a' 0 c')) := fun W hW => ⟨hW.cell h1 id, hW.cell h2 id⟩
  clear hhold
  go_enter Tryz.func20, Tryz.ntmps20
  go_wp2_with fail
  refine (H.out).mono ?_
  rintro e w1 ⟨rfl, hf⟩
  have HF := Lib.hid hf
  obtain ⟨d1, d2⟩ := HCS.out w1 hf
  have d2a : ∀ o : Obj, (w1.alloc o).cell? ⟨b, 2, none⟩ = some (.slice a' 0 c') := fun o => ((Fr.refl No w1).alloc o).cell d2 id
  clear hf h1 h2 H
  go_wp2_with fail
  refine wp_loop_rounds 1 ?_
  rw [rounds_succ]
  go_wp2_with fail
  go_ret
  refine ⟨w1.heap.size, rfl, ?_, HF.out.alloc _⟩
  have hsz := HF.out.size
  refine ⟨fun k => k = w1.heap.size, fun _ => False, ⟨[], rfl, ?_, ?_, ⟨.slice a 0 c, .slice none 0 0, ?_, ?_, .inl ⟨rfl, _, _, _, _, rfl, rfl⟩⟩, by simp, by simp, List.Pairwise.nil, rfl, by simp, fun _ _ => id⟩, fun k hk => .inl ⟨by omega, by simp; omega⟩, fun k hk => hk.elim⟩
  · rw [World.cell?_alloc_new]; rfl
  · rw [World.cell?_alloc_new]; rfl
  · rw [World.cell?_alloc_new]; rfl
  · rw [World.cell?_alloc_new]; rfl

theorem MadeMaps.wide {w w' : World} {b mb : Nat} {S : List Tab} {R R' : Nat → Prop} (h : MadeMaps w b mb S R w') (hr : ∀ k, R k → R' k) : MadeMaps w b mb S R' w' := by
  obtain ⟨A, H, a, c, d⟩ := h
  exact ⟨A, H, a, fun k hk => (c k hk).imp id (hr k), d⟩

/-- what Copy comes to -/
def CopyQ (w : World) (mb2 : Nat) (S : List Tab) (m2 : List Reg) (A : Nat → Prop) (e : Ending) (w' : World) : Prop :=
  if holdsB (mregsOf (S.map (·.d))) m2 = true then ∃ b', e = .returned (.pointer (some ⟨b', 0, none⟩)) ∧ MadeMaps w b' mb2 S A w' ∧ Fr No w w' else e = .returned (.pointer none) ∧ Fr No w w'

theorem mcopy_any {A H T : Nat → Prop} {w : World} {b mb mb2 : Nat} {S : List Tab} {m2 : List Reg} (h : MapsAt w b mb S A H) (hm : MemAt w mb2 m2 T) (hok : MemOk m2) :
    Calls Tryz.prog 20 #[.pointer (some ⟨b, 0, none⟩), .pointer (some ⟨mb2, 0, none⟩)] w (CopyQ w mb2 S m2 A) := by
  obtain ⟨l, rfl, h⟩ := h
  have hfew := h.few
  unfold CopyQ
  have hmapd : (l.map (·.t)).map (·.d) = l.map fun x => x.t.d := by rw [List.map_map]; rfl
  rw [hmapd]
  obtain ⟨lv, tv, c1, c2, hl⟩ := h.list
  have hin : MapsIn w lv (l.map fun x => x.t.d) := by
    rcases hl with ⟨rfl, a, c, _, _, rfl, _⟩ | ⟨gl, cl, gt, ct, rfl, rfl, g1, _⟩
    · exact .inl ⟨rfl, a, c, rfl⟩
    · exact .inr ⟨gl, 0, cl, by simp, g1⟩
  have hhold := hold_any hm hok lv _ hin (by simp; omega)
  cases hh : holdsB (mregsOf (l.map fun x => x.t.d)) m2 with
  | false =>
    rw [hh] at hhold
    refine (mcopy_hold b lv _ 2 w h.made c1 rfl hhold).mono fun e w' h => ?_
    simpa using h
  | true =>
    rw [hh] at hhold
    have hhold' : Calls Tryz.prog 34 #[lv, .pointer (some ⟨mb2, 0, none⟩)] w fun e w' => e = .returned (.int .i64 0) ∧ Fr No w w' := hhold
    simp only [if_true]
    rcases Nat.eq_zero_or_pos l.length with h0 | h0
    · obtain rfl := List.eq_nil_of_length_eq_zero h0
      have hz : ∃ a c a' c', lv = .slice a 0 c ∧ tv = .slice a' 0 c' := by
        rcases hl with ⟨_, a, c, a', c', e1, e2⟩ | ⟨gl, cl, gt, ct, e1, e2, _⟩
        · exact ⟨a, c, a', c', e1, e2⟩
        · exact ⟨_, _, _, _, e1, e2⟩
      obtain ⟨a, c, a', c', rfl, rfl⟩ := hz
      refine (mcopy_zero b mb2 a a' c c' w h.made c1 c2 hhold').mono ?_
      rintro e w' ⟨b', he, hmm, hf⟩
      exact ⟨b', he, hmm.wide (fun _ h => h.elim), hf⟩
    · rcases hl with ⟨e, _⟩ | ⟨gl, cl, gt, ct, rfl, rfl, g1, g2, g3, g4⟩
      · rw [e] at h0; simp at h0
      · have hb := h.ok
        have hgl : gl < w.heap.size := hin.lt (by simp; omega) rfl
        refine (mcopy_walk b mb2 l.length ct gt _ l w rfl hfew h0 h.made c1 c2 g2 hin h.ok (fun x hx h2 W hW => (h.here x hx h2).1.fr hW id (by have := (hb x hx).bounds; omega)) hhold').mono ?_
        rintro e w' ⟨b', he, hI⟩
        obtain ⟨tabs, v, hi⟩ := hI.out
        have hlen : l.length = (l.map fun x => x.t.d).length := by simp
        rw [hlen] at hi
        refine ⟨b', he, (hi.done (R := fun k => A k ∧ k < w.heap.size) hmapd (by simp; omega) (fun q hq => ?_) (fun k hk => hk.2) (fun a n c e => ?_)).wide (fun k hk => hk.1), hi.fr⟩
        · simp [Value.ownBlock] at hq
          subst hq
          exact .inr ⟨g3, hgl⟩
        · cases e; rfl

end Go.Proofs.YtlinnhaodkiolaaGreatDoor
