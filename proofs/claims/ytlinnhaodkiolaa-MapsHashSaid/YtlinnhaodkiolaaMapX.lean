/- maps: New. -/
import Derived.Test.YtlinnhaodkiolaaMapW
namespace Go.Proofs.Ytlinnhaodkiolaa
open Go.RowKit

set_option maxHeartbeats 400000 in
theorem mnew_bad (lv mp : Value) (w : World) (hmay : Calls Try.prog 33 #[lv] w fun e w' => e = .returned (.bool false) ∧ Fr No w w') :
    Calls Try.prog 19 #[lv, mp] w fun e w' => e = .returned (.tuple #[.pointer none, .int .i64 2]) ∧ Fr No w w' := by
  have H := Lib.hid hmay
  clear hmay
  go_enter Try.func19, Try.ntmps19
  go_wp2_with (go_at_call 33; (with_reducible refine (H.out).mono ?_); rintro e w' ⟨rfl, hf⟩)
  go_ret2
  exact ⟨rfl, hf⟩

set_option maxHeartbeats 400000 in
theorem mnew_hold (lv mp : Value) (err : Int) (w : World) (hmay : Calls Try.prog 33 #[lv] w fun e w' => e = .returned (.bool true) ∧ Fr No w w')
    (hhold : ∀ W, Fr No w W → Calls Try.prog 34 #[lv, mp] W fun e w' => e = .returned (.int .i64 err) ∧ Fr No W w') (hne : (err != 0) = true) :
    Calls Try.prog 19 #[lv, mp] w fun e w' => e = .returned (.tuple #[.pointer none, .int .i64 err]) ∧ Fr No w w' := by
  have H := Lib.hid hmay
  have HH := Lib.hid hhold
  clear hmay hhold
  go_enter Try.func19, Try.ntmps19
  go_wp2_with fail
  refine (H.out).mono ?_
  rintro e w1 ⟨rfl, hf⟩
  have HF := Lib.hid hf
  clear hf
  go_wp2_with fail
  refine (HH.out w1 HF.out).mono ?_
  rintro e w2 ⟨rfl, hf2⟩
  go_wp2_with fail
  go_ret2
  exact ⟨rfl, HF.out.trans hf2⟩

def NewMade (w : World) (mb : Nat) (l : List MapD) (e : Ending) (w' : World) : Prop :=
  ∃ b, e = .returned (.tuple #[.pointer (some ⟨b, 0, none⟩), .int .i64 0]) ∧ MadeMaps w b mb (l.map Tab.new) (fun _ => False) w' ∧ Fr No w w'

/-- an array more -/
theorem NewI.step1 {w wr w5 : World} {b mb k g cap mx : Nat} {lv v : Value} {ds : List MapD} {tabs : List HTab} {Y L : Obj} {d : MapD} (h : NewI w b mb lv ds (ds.map Tab.new) k tabs v wr) (hd : ds[k]? = some d) (hmay : d.may = true) (h1 : d.kind = 1) (hmx : d.max = mx)
    (own : w5.ownsRow w.heap.size 77 1 (.slice (some ⟨g, 0, none⟩) (k + 1) cap) (k + 1) (tabs.map HTab.cell ++ [.iface 96 (.int .i64 mx)])) (hf : ((wr.alloc Y).alloc L).grownBy w5 v.ownBlock) (hg : v.ownBlock = some g ∨ g = wr.heap.size + 2) :
    ∃ tabs' v', NewI w b mb lv ds (ds.map Tab.new) (k + 1) tabs' v' (w5.setCell ⟨b, 2, none⟩ (.slice (some ⟨g, 0, none⟩) (k + 1) cap)) := by
  refine ⟨_, _, h.step (x := ⟨Tab.new d, 0, 0⟩) (by rw [List.getElem?_map, hd]; rfl) (Tab.new_ok hmay) (by obtain ⟨hk, _⟩ := List.getElem?_eq_some_iff.1 hd; omega) (((Fr.refl No wr).alloc Y).alloc L) (fun h2 => ?_) ?_ (grown_fr hf) ?_⟩
  · have : d.kind = 2 := h2
    omega
  · have e : HTab.cell ⟨Tab.new d, 0, 0⟩ = .iface 96 (.int .i64 mx) := by
      unfold HTab.cell
      rw [if_pos (show (Tab.new d).d.kind = 1 from h1)]
      show Value.iface 96 (.int .i64 d.max) = _
      rw [hmx]
    rw [e]; exact own
  · rcases hg with hg | rfl
    · exact .inl hg
    · exact .inr (by simp)

/-- a hash more -/
theorem NewI.step2 {w wr w5 : World} {b mb k g cap mx : Nat} {lv v : Value} {ds : List MapD} {tabs : List HTab} {Y L : Obj} {d : MapD} (h : NewI w b mb lv ds (ds.map Tab.new) k tabs v wr) (hd : ds[k]? = some d) (hmay : d.may = true) (h2 : d.kind = 2) (hmx : d.max = mx)
    (own : w5.ownsRow w.heap.size 77 1 (.slice (some ⟨g, 0, none⟩) (k + 1) cap) (k + 1) (tabs.map HTab.cell ++ [.iface 74 (.slice (some ⟨wr.heap.size + 1, 0, none⟩) mx mx)]))
    (hf : (((wr.alloc Y).alloc (.cells (strs (List.replicate mx [])).toArray 9)).alloc L).grownBy w5 v.ownBlock) (hg : v.ownBlock = some g ∨ g = wr.heap.size + 3) :
    ∃ tabs' v', NewI w b mb lv ds (ds.map Tab.new) (k + 1) tabs' v' (w5.setCell ⟨b, 2, none⟩ (.slice (some ⟨g, 0, none⟩) (k + 1) cap)) := by
  have hks : (Tab.new d).ks = List.replicate mx [] := by
    show (if d.kind = 1 then arrKeys d.max.toNat else List.replicate d.max.toNat []) = _
    rw [if_neg (by omega), hmx, Int.toNat_natCast]
  have hksl : (Tab.new d).ks.length = mx := by rw [hks]; simp
  refine ⟨_, _, h.step (x := ⟨Tab.new d, wr.heap.size + 1, mx⟩) (by rw [List.getElem?_map, hd]; rfl) (Tab.new_ok hmay) (by obtain ⟨hk, _⟩ := List.getElem?_eq_some_iff.1 hd; omega) ((((Fr.refl No wr).alloc Y).alloc (.cells (strs (List.replicate mx [])).toArray 9)).alloc L) (fun _ => ?_) ?_ (grown_fr hf) ?_⟩
  · have hs : (wr.alloc Y).heap.size = wr.heap.size + 1 := by simp
    have hcell : CellsAt ((wr.alloc Y).alloc (.cells (strs (List.replicate mx [])).toArray 9)) (wr.heap.size + 1) 0 (strs (List.replicate mx [])) := by
      have := CellsAt.new (wr.alloc Y) (strs (List.replicate mx [])) 9
      rwa [hs] at this
    refine ⟨⟨?_, fun j hj => ?_, by rw [hksl]; exact Nat.le_refl _⟩, by simp, by simp⟩
    · show CellsAt _ (wr.heap.size + 1) 0 (strs (Tab.new d).ks)
      rw [hks]
      exact ((Fr.refl No _).alloc L).cells hcell id
    · have hj' : j < mx := by rw [← hksl]; exact hj
      have hc := hcell j (.string ⟨#[]⟩) (by rw [strs_get]; simp [hj'])
      have hfz := ((Fr.refl No ((wr.alloc Y).alloc (.cells (strs (List.replicate mx [])).toArray 9))).alloc L).frozen hc id
      show World.frozen? _ ⟨wr.heap.size + 1, 0 + j, none⟩ = false
      rw [hfz]
      have := World.frozen?_alloc_new (wr.alloc Y) (strs (List.replicate mx [])).toArray 9 (0 + j)
      rwa [hs] at this
  · have e : HTab.cell ⟨Tab.new d, wr.heap.size + 1, mx⟩ = .iface 74 (.slice (some ⟨wr.heap.size + 1, 0, none⟩) mx mx) := by
      unfold HTab.cell
      rw [if_neg (show ¬ (Tab.new d).d.kind = 1 from fun h => by have : d.kind = 1 := h; omega)]
      show Value.iface 74 (.slice (some ⟨wr.heap.size + 1, 0, none⟩) (Tab.new d).ks.length mx) = _
      rw [hksl]
    rw [e]; exact own
  · rcases hg with hg | rfl
    · exact .inl hg
    · exact .inr (by simp)

set_option maxRecDepth 100000 in
set_option maxHeartbeats 1000000 in
theorem mnew_walk (g off n cap mb : Nat) (l : List MapD) (w : World) (hn : l.length = n) (h1 : 1 ≤ n) (h4 : n ≤ 4) (hc : CellsAt w g off (mflat l)) (hmayl : ∀ x ∈ l, x.may = true)
    (hmay : Calls Try.prog 33 #[.slice (some ⟨g, off, none⟩) n cap] w fun e w' => e = .returned (.bool true) ∧ Fr No w w')
    (hhold : ∀ W, Fr No w W → Calls Try.prog 34 #[.slice (some ⟨g, off, none⟩) n cap, .pointer (some ⟨mb, 0, none⟩)] W fun e w' => e = .returned (.int .i64 0) ∧ Fr No W w') :
    Calls Try.prog 19 #[.slice (some ⟨g, off, none⟩) n cap, .pointer (some ⟨mb, 0, none⟩)] w (NewMade w mb l) := by
  have HC := Lib.hid hc
  have HN := Lib.hid hn
  have HM := Lib.hid hmayl
  have H := Lib.hid hmay
  have HH := Lib.hid hhold
  have HCL : Hid (∀ W, Fr No w W → Calls Try.prog 35 #[.slice (some ⟨g, off, none⟩) n cap] W (ClonePost n (mflat l) W 4)) := fun W hW => clone_maps g off n cap (mflat l) W (by rw [mflat_length, hn]) h1 (by omega) (hW.cells hc id) (mflat_one l)
  clear hc hn hmayl hmay hhold
  obtain ⟨i0, hi0, hz0, hz1, hz2⟩ := info_parts Try.info_table
  go_enter Try.func19, Try.ntmps19
  go_wp2_with fail
  refine (H.out).mono ?_
  rintro e w1 ⟨rfl, hf⟩
  have HF := Lib.hid hf
  clear hf
  go_wp2_with fail
  refine (HH.out w1 HF.out).mono ?_
  rintro e w2 ⟨rfl, hf2⟩
  have HF2 := Lib.hid (HF.out.trans hf2)
  clear hf2 HF H HH
  go_wp2_with fail
  refine (HCL.out w2 HF2.out).mono ?_
  rintro e w3 ⟨gl, cl, rfl, hlo, hlt, hcl, hop, hcap, hf3⟩
  have HF3 := Lib.hid (HF2.out.trans hf3)
  have HI0 : Hid (NewI w w3.heap.size mb (.slice (some ⟨gl, 0, none⟩) n cl) l (l.map Tab.new) 0 [] (.slice none 0 0) (w3.alloc (.cells #[.bool true, .slice (some ⟨gl, 0, none⟩) n cl, .slice none 0 0, .pointer (some ⟨mb, 0, none⟩)] 61))) := by
    have hfa : Fr No w3 (w3.alloc (.cells #[.bool true, .slice (some ⟨gl, 0, none⟩) n cl, .slice none 0 0, .pointer (some ⟨mb, 0, none⟩)] 61)) := (Fr.refl _ _).alloc _
    refine ⟨HF3.out.trans hfa, HF3.out.size, ?_, ?_, ?_, ?_, World.frozen?_alloc_new _ _ _ _, .inr ⟨gl, 0, cl, by rw [HN.out], hfa.cells hcl id⟩, rfl, World.ownsRow_nil _ _ _ _, by simp, by simp, List.Pairwise.nil, by simp [Value.ownBlock], ?_⟩
    · rw [World.cell?_alloc_new]; rfl
    · rw [World.cell?_alloc_new]; rfl
    · rw [World.cell?_alloc_new]; rfl
    · rw [World.cell?_alloc_new]; rfl
    · simp [Value.ownBlock]; omega
  have hlo' : w.heap.size ≤ gl := by have := HF2.out.size; omega
  have HLO := Lib.hid hlo'
  have HGL : Hid (gl < w3.heap.size) := hlt
  clear hlo hlt hcl hop hcap hf3 HCL HF2 hlo'
  go_wp2_with fail
  have HSZ3 : Hid (w3.heap.size < (w3.alloc (.cells #[.bool true, .slice (some ⟨gl, 0, none⟩) n cl, .slice none 0 0, .pointer (some ⟨mb, 0, none⟩)] 61)).heap.size) := HI0.out.lt
  have HLB : Hid (gl < w3.heap.size + 1) := Nat.lt_succ_of_lt HGL.out
  generalize w3.alloc (.cells #[.bool true, .slice (some ⟨gl, 0, none⟩) n cl, .slice none 0 0, .pointer (some ⟨mb, 0, none⟩)] 61) = w4 at *
  generalize w3.heap.size = b at *
  go_loopw [27] (fun s wr => ∃ k : Nat, k ≤ n ∧ s = .int .i64 k ∧ Hid (∃ tabs v, NewI w b mb (.slice (some ⟨gl, 0, none⟩) n cl) l (l.map Tab.new) k tabs v wr)) (fun s _ => n - (intOf s).toNat)
  case atStart => exact ⟨0, Nat.zero_le _, rfl, [], _, HI0.out⟩
  case round =>
    obtain ⟨k, hk, rfl, HI⟩ := hrel
    by_cases hlt : k < n
    · obtain ⟨x, hx⟩ : ∃ x, l[k]? = some x := ⟨l[k]'(by rw [HN.out]; exact hlt), List.getElem?_eq_getElem _⟩
      obtain ⟨tabs, v, hi⟩ := HI.out
      obtain ⟨k0, k1, k2, k3⟩ := map_cells (hi.fr.cells HC.out id) hx
      have hmay := HM.out x (List.mem_of_getElem? hx)
      have hmi := (MapD.may_iff x).1 hmay
      obtain ⟨mx, hmx⟩ : ∃ mx : Nat, x.max = mx := ⟨x.max.toNat, by omega⟩
      have hmx16 : mx ≤ 16 := by omega
      rw [hmx] at k3
      have hb0 : ¬ b = wr.heap.size := by have := hi.lt; omega
      have hb1 : ¬ b = wr.heap.size + 1 := by have := hi.lt; omega
      have hb2 : ¬ b = wr.heap.size + 1 + 1 := by have := hi.lt; omega
      have c2 := hi.c2
      have c2a : ∀ Y : Obj, (wr.alloc Y).cell? ⟨b, 2, none⟩ = some v := fun Y => ((Fr.refl No wr).alloc Y).cell c2 id
      have c2b : ∀ Y Z : Obj, ((wr.alloc Y).alloc Z).cell? ⟨b, 2, none⟩ = some v := fun Y Z => (((Fr.refl No wr).alloc Y).alloc Z).cell c2 id
      have HOWN : Hid (∀ W, Fr No wr W → W.ownsRow w.heap.size 77 1 v k (tabs.map HTab.cell)) := fun W hW => ownsRow_fr hi.own hW (fun _ _ => id)
      have HQ5 : Hid (∀ W w5, Fr No wr W → W.grownBy w5 v.ownBlock → w5.cell? ⟨b, 2, none⟩ = some v ∧ w5.frozen? ⟨b, 2, none⟩ = false) := fun W w5 hW hg => by
        have hs := hi.to hW
        have hnb : ¬ OwnOf v b := fun hb => (hi.ne b hb).1 rfl
        exact ⟨(grown_fr hg).cell hs.c2 hnb, by rw [(grown_fr hg).frozen hs.c2 hnb]; exact hs.free⟩
      have hbase : w.heap.size ≤ wr.heap.size := hi.fr.size
      rcases (show x.kind = 1 ∨ x.kind = 2 by omega) with h1k | h2k
      · have HST : Hid (∀ (Y L : Obj) (w5 : World) (g2 cap2 : Nat), w5.ownsRow w.heap.size 77 1 (.slice (some ⟨g2, 0, none⟩) (k + 1) cap2) (k + 1) (tabs.map HTab.cell ++ [.iface 96 (.int .i64 mx)]) → ((wr.alloc Y).alloc L).grownBy w5 v.ownBlock → (v.ownBlock = some g2 ∨ g2 = wr.heap.size + 2) →
            ∃ tabs' v', NewI w b mb (.slice (some ⟨gl, 0, none⟩) n cl) l (l.map Tab.new) (k + 1) tabs' v' (w5.setCell ⟨b, 2, none⟩ (.slice (some ⟨g2, 0, none⟩) (k + 1) cap2))) := fun Y L w5 g2 cap2 a1 a2 a3 => hi.step1 hx hmay h1k hmx a1 a2 a3
        rw [h1k] at k0
        have H1 : ∀ o1 : Obj, ((wr.alloc o1).alloc (.cells #[.iface 96 (.int .i64 mx)] 77)).heap[wr.heap.size + 1]? = some (.cells #[.iface 96 (.int .i64 mx)] 77 (0, 0)) := fun o1 => by
          have := heap_alloc_new (wr.alloc o1) (.cells #[.iface 96 (.int .i64 mx)] 77)
          rw [show (wr.alloc o1).heap.size = wr.heap.size + 1 by simp] at this
          exact this
        obtain ⟨kind, key, value, max⟩ := x
        generalize tabs.map HTab.cell = tc at HOWN HST
        simp only at k0 k1 k2 k3
        clear hx hmay hmi hmx HI hi h1k
        go_wp2_with (at_builtin; refine wpList_append_lies _ rfl _ _ 59 rfl w.heap.size 77 i0 _ 1 16 Try.underlying59 hi0 hz0 hz1 hz2 rfl (by decide) v k tc rfl (HOWN.out _ (((Fr.refl _ _).alloc _).alloc _)) ⟨wr.heap.size + 1, 0, none⟩ 1 1 [.iface 96 (.int .i64 mx)] rfl rfl (World.news_of_block (cs := #[.iface 96 (.int .i64 mx)]) (t := 77) (fr := (0, 0)) (H1 _)) (by simp [Value.oneCell']) (by omega) (by unfold maxLen; omega) (by omega) (by simp; omega) (wr.heap.size + 2) (by simp) ?_; intro g2 cap2 w5 hown hgrow hat hlt2; have q5 := (HQ5.out _ _ (((Fr.refl _ _).alloc _).alloc _) hgrow); have HE := Lib.hid (HST.out _ _ _ _ _ hown hgrow hat); clear hown hgrow hat hlt2; obtain ⟨q5, q6⟩ := q5)
        go_roundw
        case rel => exact ⟨k + 1, by omega, by go_num, HE.out⟩
        case measure => simp [intOf] <;> omega
      · have HST : Hid (∀ (Y L : Obj) (w5 : World) (g2 cap2 : Nat), w5.ownsRow w.heap.size 77 1 (.slice (some ⟨g2, 0, none⟩) (k + 1) cap2) (k + 1) (tabs.map HTab.cell ++ [.iface 74 (.slice (some ⟨wr.heap.size + 1, 0, none⟩) mx mx)]) → (((wr.alloc Y).alloc (.cells (strs (List.replicate mx [])).toArray 9)).alloc L).grownBy w5 v.ownBlock → (v.ownBlock = some g2 ∨ g2 = wr.heap.size + 3) →
            ∃ tabs' v', NewI w b mb (.slice (some ⟨gl, 0, none⟩) n cl) l (l.map Tab.new) (k + 1) tabs' v' (w5.setCell ⟨b, 2, none⟩ (.slice (some ⟨g2, 0, none⟩) (k + 1) cap2))) := fun Y L w5 g2 cap2 a1 a2 a3 => hi.step2 hx hmay h2k hmx a1 a2 a3
        rw [h2k] at k0
        have hmk : ∀ Y : Obj, (Instr.makeSlice 74 (.int .i64 mx) (.int .i64 mx)).run Try.prog (wr.alloc Y) = .ok (.slice (some ⟨wr.heap.size + 1, 0, none⟩) mx mx) ((wr.alloc Y).alloc (.cells (strs (List.replicate mx [])).toArray 9)) := fun Y => by
          have := make_hash mx (by omega) (wr.alloc Y)
          rwa [show (wr.alloc Y).heap.size = wr.heap.size + 1 by simp] at this
        generalize (strs (List.replicate mx [])).toArray = HA at hmk HST
        have H1 : ∀ o1 o2 : Obj, (((wr.alloc o1).alloc o2).alloc (.cells #[.iface 74 (.slice (some ⟨wr.heap.size + 1, 0, none⟩) mx mx)] 77)).heap[wr.heap.size + 2]? = some (.cells #[.iface 74 (.slice (some ⟨wr.heap.size + 1, 0, none⟩) mx mx)] 77 (0, 0)) := fun o1 o2 => by
          have := heap_alloc_new ((wr.alloc o1).alloc o2) (.cells #[.iface 74 (.slice (some ⟨wr.heap.size + 1, 0, none⟩) mx mx)] 77)
          rw [show ((wr.alloc o1).alloc o2).heap.size = wr.heap.size + 2 by simp] at this
          exact this
        obtain ⟨kind, key, value, max⟩ := x
        generalize tabs.map HTab.cell = tc at HOWN HST
        simp only at k0 k1 k2 k3
        clear hx hmay hmi hmx HI hi h2k
        go_wp2_with (at_builtin; refine wpList_append_lies _ rfl _ _ 59 rfl w.heap.size 77 i0 _ 1 16 Try.underlying59 hi0 hz0 hz1 hz2 rfl (by decide) v k tc rfl (HOWN.out _ ((((Fr.refl _ _).alloc _).alloc _).alloc _)) ⟨wr.heap.size + 2, 0, none⟩ 1 1 [.iface 74 (.slice (some ⟨wr.heap.size + 1, 0, none⟩) mx mx)] rfl rfl (World.news_of_block (cs := #[.iface 74 (.slice (some ⟨wr.heap.size + 1, 0, none⟩) mx mx)]) (t := 77) (fr := (0, 0)) (H1 _ _)) (by simp [Value.oneCell']) (by omega) (by unfold maxLen; omega) (by omega) (by simp; omega) (wr.heap.size + 3) (by simp) ?_; intro g2 cap2 w5 hown hgrow hat hlt2; have q5 := (HQ5.out _ _ ((((Fr.refl _ _).alloc _).alloc _).alloc _) hgrow); have HE := Lib.hid (HST.out _ _ _ _ _ hown hgrow hat); clear hown hgrow hat hlt2; obtain ⟨q5, q6⟩ := q5)
        go_roundw
        case rel => exact ⟨k + 1, by omega, by go_num, HE.out⟩
        case measure => simp [intOf] <;> omega
    · obtain rfl : k = n := by omega
      go_wp2_with fail
      go_ret2
      obtain ⟨tabs, v, hi⟩ := HI.out
      have hN := HN.out
      rw [← hN] at hi
      refine ⟨b, rfl, hi.done (R := fun _ => False) (by rw [List.map_map]; exact List.map_id'' (fun _ => rfl) l) (by omega) (fun q hq => ?_) (fun _ h => h.elim) (fun a n c e => ?_), hi.fr⟩
      · simp [Value.ownBlock] at hq
        subst hq
        exact .inl ⟨HLO.out, by have := HLB.out; have := hi.lt; omega⟩
      · cases e; rfl

end Go.Proofs.Ytlinnhaodkiolaa
