/- The document's maps (firewallref08) in a world: where the keys lie. No condition. firewallref08: Base, Place, At, Lookup. firewallref07: Put of any bytes. No condition. firewallref08: Update. -/
import Derived.Test.YtlinnhaodkiolaaGreatBundle11
import Derived.Test.YtlinnhaodkiolaaGreatBundle12
import Derived.Test.YtlinnhaodkiolaaGreatBundle9
import Derived.Test.YtlinnhaodkiolaaGreatBundle13
import Derived.Test.YtlinnhaodkiolaaGreatBundle14
import Derived.Deep.RegionWith
import Derived.Deep.DeepCutAuto
import Derived.Deep.RegionHeld3
import Derived.Deep.QuietTactic
import Derived.BigQuiet
import Derived.Outline
namespace Go.Proofs.YtlinnhaodkiolaaGreat
open Go.RowKit

/-- the keys' slice -/
def HTab.row (x : HTab) : Value := .slice (some ⟨x.h, 0, none⟩) x.t.ks.length x.cap

/-- what they are, and the keys' slices, stand at two slices' values -/
def RTabsAt (w : World) (lv tv : Value) (l : List HTab) (A : Nat → Prop) : Prop :=
  (l = [] ∧ ∃ a c a' c', lv = .slice a 0 c ∧ tv = .slice a' 0 c') ∨
  ∃ gl cl gt ct, lv = .slice (some ⟨gl, 0, none⟩) l.length cl ∧ tv = .slice (some ⟨gt, 0, none⟩) l.length ct ∧ CellsAt w gl 0 (mflat (l.map (·.t.d))) ∧ CellsAt w gt 0 (l.map HTab.row) ∧ A gl ∧ A gt

/-- the document's maps behind a pointer to block b, over the memory of block mb: A are the blocks that stay, H those of the keys -/
structure RMapsL (w : World) (b mb : Nat) (l : List HTab) (A H : Nat → Prop) : Prop where
  mem : w.cell? ⟨b, 2, none⟩ = some (.pointer (some ⟨mb, 0, none⟩))
  list : ∃ lv tv, w.cell? ⟨b, 0, none⟩ = some lv ∧ w.cell? ⟨b, 1, none⟩ = some tv ∧ RTabsAt w lv tv l A
  ok : ∀ x ∈ l, x.t.ok
  here : ∀ x ∈ l, x.here w ∧ H x.h
  apart : l.Pairwise fun x y => x.h ≠ y.h
  own : A b
  few : l.length ≤ 4
  AH : ∀ k, A k → ¬ H k

def RMapsAt (w : World) (b mb : Nat) (S : List Tab) (A H : Nat → Prop) : Prop := ∃ l, l.map (·.t) = S ∧ RMapsL w b mb l A H

theorem RTabsAt.fr {A T : Nat → Prop} {w w' : World} {lv tv : Value} {l : List HTab} (h : RTabsAt w lv tv l A) (hf : Fr T w w') (hn : ∀ k, A k → ¬ T k) : RTabsAt w' lv tv l A := by
  rcases h with h | ⟨gl, cl, gt, ct, rfl, rfl, h1, h2, h3, h4⟩
  · exact .inl h
  · exact .inr ⟨gl, cl, gt, ct, rfl, rfl, hf.cells h1 (hn _ h3), hf.cells h2 (hn _ h4), h3, h4⟩

theorem RMapsL.fr {A H T : Nat → Prop} {w w' : World} {b mb : Nat} {l : List HTab} (h : RMapsL w b mb l A H) (hf : Fr T w w') (hA : ∀ k, A k → ¬ T k) (hH : ∀ k, H k → ¬ T k) : RMapsL w' b mb l A H where
  mem := hf.cell h.mem (hA _ h.own)
  list := by
    obtain ⟨lv, tv, a, b, c⟩ := h.list
    exact ⟨lv, tv, hf.cell a (hA _ h.own), hf.cell b (hA _ h.own), c.fr hf hA⟩
  ok := h.ok
  here := fun x hx => ⟨(h.here x hx).1.fr hf (hH _ (h.here x hx).2) (by have := (h.ok x hx).bounds; omega), (h.here x hx).2⟩
  apart := h.apart
  own := h.own
  few := h.few
  AH := h.AH

theorem RMapsAt.fr {A H T : Nat → Prop} {w w' : World} {b mb : Nat} {S : List Tab} (h : RMapsAt w b mb S A H) (hf : Fr T w w') (hA : ∀ k, A k → ¬ T k) (hH : ∀ k, H k → ¬ T k) : RMapsAt w' b mb S A H := by
  obtain ⟨l, e, h⟩ := h
  exact ⟨l, e, h.fr hf hA hH⟩

theorem RMapsAt.no {A H : Nat → Prop} {w w' : World} {b mb : Nat} {S : List Tab} (h : RMapsAt w b mb S A H) (hf : Fr No w w') : RMapsAt w' b mb S A H := h.fr hf (fun _ _ => id) (fun _ _ => id)

theorem RMapsAt.ok {A H : Nat → Prop} {w : World} {b mb : Nat} {S : List Tab} (h : RMapsAt w b mb S A H) : (∀ t ∈ S, t.ok) ∧ S.length ≤ 4 := by
  obtain ⟨l, rfl, h⟩ := h
  refine ⟨fun t ht => ?_, by simpa using h.few⟩
  obtain ⟨x, hx, rfl⟩ := List.mem_map.1 ht
  exact h.ok x hx

/-- the cells of the map i -/
theorem RMapsL.at {A H : Nat → Prop} {w : World} {b mb : Nat} {l : List HTab} (h : RMapsL w b mb l A H) {i : Nat} {x : HTab} (hx : l[i]? = some x) :
    ∃ gl cl gt ct, w.cell? ⟨b, 0, none⟩ = some (.slice (some ⟨gl, 0, none⟩) l.length cl) ∧ w.cell? ⟨b, 1, none⟩ = some (.slice (some ⟨gt, 0, none⟩) l.length ct) ∧ i < l.length ∧ A gl ∧ A gt ∧
      w.cell? ⟨gl, i * 4, none⟩ = some (.int .i64 x.t.d.kind) ∧ w.cell? ⟨gl, i * 4 + 1, none⟩ = some (.int .i64 x.t.d.key) ∧ w.cell? ⟨gl, i * 4 + 2, none⟩ = some (.int .i64 x.t.d.value) ∧ w.cell? ⟨gl, i * 4 + 3, none⟩ = some (.int .i64 x.t.d.max) ∧
      w.cell? ⟨gt, i, none⟩ = some (.slice (some ⟨x.h, 0, none⟩) x.t.ks.length x.cap) := by
  obtain ⟨hi, hxe⟩ := List.getElem?_eq_some_iff.1 hx
  obtain ⟨lv, tv, a, c, ⟨rfl, _⟩ | ⟨gl, cl, gt, ct, rfl, rfl, h1, h2, h3, h4⟩⟩ := h.list
  · simp at hi
  · have hm := map_cells h1 (k := i) (x := x.t.d) (by simp [hx])
    simp only [Nat.zero_add] at hm
    have hc := h2 i x.row (by simp [hx])
    rw [Nat.zero_add] at hc
    exact ⟨gl, cl, gt, ct, a, c, hi, h3, h4, hm.1, hm.2.1, hm.2.2.1, hm.2.2.2, hc⟩

theorem RMapsL.len {A H : Nat → Prop} {w : World} {b mb : Nat} {l : List HTab} (h : RMapsL w b mb l A H) : ∃ a c a' c', w.cell? ⟨b, 0, none⟩ = some (.slice a l.length c) ∧ w.cell? ⟨b, 1, none⟩ = some (.slice a' l.length c') := by
  obtain ⟨lv, tv, a, c, ⟨rfl, x, y, _, _, rfl, rfl⟩ | ⟨gl, cl, gt, ct, rfl, rfl, h1, h2, h3, h4⟩⟩ := h.list
  · exact ⟨_, _, _, _, a, c⟩
  · exact ⟨_, _, _, _, a, c⟩

/-- a key laid -/
theorem RMapsL.lay {A H : Nat → Prop} {w : World} {b mb : Nat} {l : List HTab} (h : RMapsL w b mb l A H) {i : Nat} {x : HTab} (hx : l[i]? = some x) (h2 : x.t.d.kind = 2) {p : Nat} (hp : p < x.t.ks.length) {key : List UInt8} (hk : key = [] ∨ (key.length : Int) = x.t.d.key) :
    RMapsL (w.setCell ⟨x.h, p, none⟩ (.string ⟨key.toArray⟩)) b mb (l.set i (x.lay p key)) A H ∧ Fr H w (w.setCell ⟨x.h, p, none⟩ (.string ⟨key.toArray⟩)) := by
  obtain ⟨hi, hxe⟩ := List.getElem?_eq_some_iff.1 hx
  have hxm : x ∈ l := List.mem_of_getElem? hx
  obtain ⟨hh, hH⟩ := h.here x hxm
  have hf : Fr (fun k => k = x.h) w (w.setCell ⟨x.h, p, none⟩ (.string ⟨key.toArray⟩)) := (Fr.refl (fun k => k = x.h) w).setCell (p := ⟨x.h, p, none⟩) (.inr rfl) _
  have hA : ∀ k, A k → ¬ k = x.h := fun k hk e => h.AH k hk (e ▸ hH)
  have hold : w.cell? ⟨x.h, p, none⟩ = some (.string ⟨x.t.ks[p].toArray⟩) := by
    have := hh.keys p (.string ⟨x.t.ks[p].toArray⟩) (by rw [strs_get, List.getElem?_eq_getElem hp]; rfl)
    rwa [Nat.zero_add] at this
  have hmem : ∀ y ∈ l.set i (x.lay p key), y = x.lay p key ∨ ∃ j, ∃ hj : j < l.length, j ≠ i ∧ y = l[j] := by
    intro y hy
    obtain ⟨j, hj, rfl⟩ := List.getElem_of_mem hy
    rw [List.getElem_set]
    split
    · exact .inl rfl
    · rename_i hne; exact .inr ⟨j, by simpa using hj, fun e => hne e.symm, rfl⟩
  have hmap : ∀ {α : Type} (f : HTab → α), f (x.lay p key) = f x → (l.set i (x.lay p key)).map f = l.map f := by
    intro α f hfx
    apply List.ext_getElem?
    intro j
    rw [List.getElem?_map, List.getElem?_map, List.getElem?_set]
    split
    · subst_vars
      rw [hx]
      simp [hfx]
    · rfl
  have hcell : (x.lay p key).row = x.row := by unfold HTab.row HTab.lay Tab.lay; simp
  refine ⟨⟨hf.cell h.mem (hA _ h.own), ?_, ?_, ?_, ?_, h.own, by simpa using h.few, h.AH⟩, hf.mono (fun k _ hk => hk ▸ hH)⟩
  · obtain ⟨lv, tv, a, c, ht⟩ := h.list
    refine ⟨lv, tv, hf.cell a (hA _ h.own), hf.cell c (hA _ h.own), ?_⟩
    rcases ht with ⟨rfl, _⟩ | ⟨gl, cl, gt, ct, rfl, rfl, h1, h3, h4, h5⟩
    · simp at hi
    · refine .inr ⟨gl, cl, gt, ct, by simp, by simp, ?_, ?_, h4, h5⟩
      · rw [hmap (fun y => y.t.d) rfl]
        exact hf.cells h1 (hA _ h4)
      · rw [hmap HTab.row hcell]
        exact hf.cells h3 (hA _ h5)
  · intro y hy
    rcases hmem y hy with rfl | ⟨j, hj, _, rfl⟩
    · exact Tab.lay_ok (h.ok x hxm) h2 hk
    · exact h.ok _ (List.getElem_mem hj)
  · intro y hy
    rcases hmem y hy with rfl | ⟨j, hj, hne, rfl⟩
    · refine ⟨⟨fun q v hq => ?_, fun q hq => ?_, by simpa [HTab.lay, Tab.lay] using hh.cap⟩, hH⟩
      · rw [Nat.zero_add]
        show (w.setCell ⟨x.h, p, none⟩ (.string ⟨key.toArray⟩)).cell? ⟨x.h, q, none⟩ = some v
        rw [strs_get] at hq
        simp only [HTab.lay, Tab.lay, List.getElem?_set] at hq
        by_cases hpq : p = q
        · subst hpq
          simp [hp] at hq
          subst hq
          exact World.cell?_setCell_same _ _ _ (by rw [hold])
        · rw [if_neg hpq] at hq
          rw [World.cell?_setCell_other _ _ _ _ (by simp <;> omega)]
          have := hh.keys q v (by rw [strs_get]; exact hq)
          rwa [Nat.zero_add] at this
      · rw [World.frozen?_setCell]
        exact hh.opened q (by simpa [HTab.lay, Tab.lay] using hq)
    · obtain ⟨g1, g2⟩ := h.here _ (List.getElem_mem hj)
      refine ⟨g1.fr hf (fun e => ?_) (by have := (h.ok _ (List.getElem_mem hj)).bounds; omega), g2⟩
      have hpw := List.pairwise_iff_getElem.1 h.apart
      rcases Nat.lt_or_gt_of_ne hne with hlt | hlt
      · exact hpw j i hj hi hlt (by rw [hxe, e])
      · exact hpw i j hi hj hlt (by rw [hxe, e])
  · rw [List.pairwise_iff_getElem]
    intro a c ha hc hac
    have hpw := List.pairwise_iff_getElem.1 h.apart a c (by simpa using ha) (by simpa using hc) hac
    have same : ∀ n (hn : n < (l.set i (x.lay p key)).length), (l.set i (x.lay p key))[n].h = (l[n]'(by simpa using hn)).h := fun n hn => by
      rw [List.getElem_set]
      split
      · subst_vars; rfl
      · rfl
    rw [same a ha, same c hc]
    exact hpw

end Go.Proofs.YtlinnhaodkiolaaGreat

namespace Go.Proofs.YtlinnhaodkiolaaGreat
open Go.RowKit

set_option maxHeartbeats 400000 in
theorem rbase_any (i : Nat) (w : World) (hi : i ≤ 1000) : Calls Tryz.prog 31 #[.int .i64 i] w fun e w' => e = .returned (.int .u64 (mbase i)) ∧ w = w' := by
  have e1 : IntKind.u64.wrap (i : Int) = i := u64_nat i (by omega)
  have e2 : IntKind.u64.wrap ((i : Int) * 65536) = (i : Int) * 65536 := IntWalk.u64_in _ (by omega)
  have e3 : IntKind.u64.wrap (1048576 + (i : Int) * 65536) = 1048576 + (i : Int) * 65536 := IntWalk.u64_in _ (by omega)
  go_enter Tryz.func31, Tryz.ntmps31
  go_wp2_with fail
  go_ret
  exact ⟨by unfold mbase; rfl, rfl⟩

set_option maxHeartbeats 400000 in
theorem rplace_lo (b : Nat) (i : Int) (K : ByteArray) (w : World) (hi : i < 0) :
    Calls Tryz.prog 45 #[.pointer (some ⟨b, 0, none⟩), .int .i64 i, .string K] w fun e w' => e = .returned (.int .i64 (-2)) ∧ Fr No w w' := by
  have q : decide (i < 0) = true := by simpa using hi
  go_enter Tryz.func45, Tryz.ntmps45
  go_wp2_with fail
  go_ret
  exact ⟨rfl, Fr.refl _ _⟩

set_option maxHeartbeats 400000 in
theorem rplace_hi (b i n cap : Nat) (a : Option Addr) (K : ByteArray) (w : World) (hi : n ≤ i) (h : w.cell? ⟨b, 0, none⟩ = some (.slice a n cap)) :
    Calls Tryz.prog 45 #[.pointer (some ⟨b, 0, none⟩), .int .i64 i, .string K] w fun e w' => e = .returned (.int .i64 (-2)) ∧ Fr No w w' := by
  go_enter Tryz.func45, Tryz.ntmps45
  go_wp2_with fail
  go_ret
  exact ⟨rfl, Fr.refl _ _⟩

set_option maxHeartbeats 400000 in
theorem rplace_len (b i n cl gl kl : Nat) (key : Int) (K : ByteArray) (w : World) (hi : i < n) (_ : n ≤ 1000) (hk : K.size = kl) (h : w.cell? ⟨b, 0, none⟩ = some (.slice (some ⟨gl, 0, none⟩) n cl)) (hc : w.cell? ⟨gl, i * 4 + 1, none⟩ = some (.int .i64 key))
    (ht : ((kl : Int) != key) = true) :
    Calls Tryz.prog 45 #[.pointer (some ⟨b, 0, none⟩), .int .i64 i, .string K] w fun e w' => e = .returned (.int .i64 (-2)) ∧ Fr No w w' := by
  have b1 : (0 : Int) ≤ (i : Int) := by omega
  have b2 : (i : Int) < (n : Int) := by omega
  go_enter Tryz.func45, Tryz.ntmps45
  go_wp2_with fail
  go_ret
  exact ⟨rfl, Fr.refl _ _⟩

set_option maxRecDepth 100000 in
set_option maxHeartbeats 1000000 in
theorem rplace_walk (b i n cl gl ct gt h cap kl N : Nat) (kk : Int) (ks : List (List UInt8)) (key : List UInt8) (w : World) (hi : i < n) (_ : n ≤ 1000) (hk : (⟨key.toArray⟩ : ByteArray).size = kl) (h0 : w.cell? ⟨b, 0, none⟩ = some (.slice (some ⟨gl, 0, none⟩) n cl)) (hc : w.cell? ⟨gl, i * 4 + 1, none⟩ = some (.int .i64 kk))
    (ht : ((kl : Int) != kk) = false) (h1 : w.cell? ⟨b, 1, none⟩ = some (.slice (some ⟨gt, 0, none⟩) n ct)) (hr : w.cell? ⟨gt, i, none⟩ = some (.slice (some ⟨h, 0, none⟩) N cap)) (hN : ks.length = N) (hN1 : N ≤ 1000) (hcs : CellsAt w h 0 (strs ks)) :
    Calls Tryz.prog 45 #[.pointer (some ⟨b, 0, none⟩), .int .i64 i, .string ⟨key.toArray⟩] w fun e w' => e = .returned (.int .i64 (optI (ks.findIdx? (· == key)))) ∧ Fr No w w' := by
  have b1 : (0 : Int) ≤ (i : Int) := by omega
  have b2 : (i : Int) < (n : Int) := by omega
  obtain ⟨K, hK⟩ : ∃ K : ByteArray, K = ⟨key.toArray⟩ := ⟨_, rfl⟩
  rw [← hK] at hk ⊢
  have HK := Lib.hid hK
  have HN := Lib.hid hN
  have HC := Lib.hid hcs
  clear hK hN hcs
  go_enter Tryz.func45, Tryz.ntmps45
  go_wp2_with fail
  go_loop [7] (fun s => ∃ k : Nat, k ≤ N ∧ s = .int .i64 k ∧ Hid (∀ (j : Nat) x, j < k → ks[j]? = some x → x ≠ key)) (fun s => N - (intOf s).toNat)
  case atStart => exact ⟨0, Nat.zero_le _, rfl, fun j _ h => absurd h (Nat.not_lt_zero _)⟩
  case round =>
    obtain ⟨k, hk, rfl, HJ⟩ := hrel
    by_cases hlt : k < N
    · obtain ⟨x, hx⟩ : ∃ x, ks[k]? = some x := ⟨ks[k]'(by rw [HN.out]; exact hlt), List.getElem?_eq_getElem _⟩
      have hcell : w.cell? ⟨h, k, none⟩ = some (.string ⟨x.toArray⟩) := by
        have := HC.out k (.string ⟨x.toArray⟩) (by rw [strs_get, hx]; rfl)
        rwa [Nat.zero_add] at this
      have heq : ((⟨x.toArray⟩ : ByteArray).toList == (K : ByteArray).toList) = decide (x = key) := by rw [HK.out]; exact bytes_eql _ _
      obtain ⟨X, hX⟩ : ∃ X : ByteArray, X = ⟨x.toArray⟩ := ⟨_, rfl⟩
      rw [← hX] at hcell heq
      have HX := Lib.hid hx
      clear hX hx
      by_cases he : x = key
      · have q : (X.toList == (K : ByteArray).toList) = true := by rw [heq]; simpa using he
        have HF : Hid (ks.findIdx? (· == key) = some k) := Lib.hid (by
          rw [List.findIdx?_eq_some_iff_getElem]
          refine ⟨by rw [HN.out]; exact hlt, ?_, fun j hj => ?_⟩
          · have := HX.out
            rw [List.getElem?_eq_getElem (by rw [HN.out]; exact hlt)] at this
            rw [Option.some.inj this, he]; simp
          · have := HJ.out j _ hj (List.getElem?_eq_getElem (by rw [HN.out]; omega))
            simpa using this)
        clear heq he
        go_wp2_with fail
        go_ret
        exact ⟨by rw [HF.out]; rfl, Fr.refl _ _⟩
      · have q : (X.toList == (K : ByteArray).toList) = false := by rw [heq]; simpa using he
        have HJ2 : Hid (∀ (j : Nat) y, j < k + 1 → ks[j]? = some y → y ≠ key) := fun j y hj hy => by
          by_cases e : j = k
          · subst e
            rw [HX.out] at hy
            obtain rfl := Option.some.inj hy
            exact he
          · exact HJ.out j y (by omega) hy
        clear heq he
        go_wp2_with fail
        go_round
        case rel => exact ⟨k + 1, by omega, by go_num, HJ2⟩
        case measure => simp [intOf] <;> omega
    · obtain rfl : k = N := by omega
      have HF : Hid (ks.findIdx? (· == key) = none) := Lib.hid (by
        rw [List.findIdx?_eq_none_iff]
        intro x hx
        obtain ⟨j, hj, rfl⟩ := List.getElem_of_mem hx
        have := HJ.out j _ (by rw [← HN.out]; exact hj) (List.getElem?_eq_getElem hj)
        simpa using this)
      go_wp2_with fail
      go_ret
      exact ⟨by rw [HF.out]; rfl, Fr.refl _ _⟩

/-- a key's place: -2: there is no such map, or it has no such keys -/
def placeI (S : List Tab) (i : Int) (key : List UInt8) : Int := match mhas S i key with | none => -2 | some t => optI (t.find key)

theorem rplace_any {A H : Nat → Prop} {w : World} {b mb : Nat} {S : List Tab} (h : RMapsAt w b mb S A H) (i : Int) (key : List UInt8) :
    Calls Tryz.prog 45 #[.pointer (some ⟨b, 0, none⟩), .int .i64 i, .string ⟨key.toArray⟩] w fun e w' => e = .returned (.int .i64 (placeI S i key)) ∧ Fr No w w' := by
  obtain ⟨l, rfl, h⟩ := h
  unfold placeI
  by_cases h0 : i < 0
  · have e : mhas (l.map (·.t)) i key = none := by unfold mhas; rw [if_neg (by omega)]
    rw [e]
    exact rplace_lo b i _ w h0
  · obtain ⟨k, rfl⟩ := Int.eq_ofNat_of_zero_le (show 0 ≤ i by omega)
    have hfew := h.few
    by_cases h1 : k < l.length
    · have hx : l[k]? = some l[k] := List.getElem?_eq_getElem h1
      generalize l[k] = x at hx
      obtain ⟨gl, cl, gt, ct, c1, c2, hi, _, _, d0, d1, d2, d3, d4⟩ := h.at hx
      have hxm := List.mem_of_getElem? hx
      have hb := (h.ok x hxm).bounds
      have hS : (l.map (·.t))[k]? = some x.t := by rw [List.getElem?_map, hx]; rfl
      by_cases hk : (key.length : Int) = x.t.d.key
      · rw [mhas_of hS hk]
        exact rplace_walk b k l.length cl gl ct gt x.h x.cap key.length x.t.ks.length x.t.d.key x.t.ks key w h1 (by omega) rfl c1 d1 (by simp [hk]) c2 d4 rfl (by omega) (h.here x hxm).1.keys
      · have e : mhas (l.map (·.t)) k key = none := by
          unfold mhas
          rw [if_pos (by omega), Int.toNat_natCast, hS]
          simp [hk]
        rw [e]
        exact rplace_len b k l.length cl gl key.length _ _ w h1 (by omega) rfl c1 d1 (by simpa using hk)
    · obtain ⟨a, c, _, _, c1, _⟩ := h.len
      have e : mhas (l.map (·.t)) k key = none := by
        unfold mhas
        rw [if_pos (by omega), Int.toNat_natCast, List.getElem?_map, List.getElem?_eq_none (by omega)]
        rfl
      rw [e]
      exact rplace_hi b k l.length c a _ w (by omega) c1

set_option maxHeartbeats 1000000 in
theorem rat_walk (b i p n cl gl : Nat) (V : Int) (w : World) (hi : i < n) (hn : n ≤ 4) (hp : p ≤ 1000) (hV0 : 0 ≤ V) (hV : V ≤ 64) (h : w.cell? ⟨b, 0, none⟩ = some (.slice (some ⟨gl, 0, none⟩) n cl)) (hc : w.cell? ⟨gl, i * 4 + 2, none⟩ = some (.int .i64 V))
    (h0 : 0 ≤ (p : Int) * V) (h1 : (p : Int) * V ≤ 1024) :
    Calls Tryz.prog 46 #[.pointer (some ⟨b, 0, none⟩), .int .i64 i, .int .i64 p] w fun e w' => e = .returned (.int .u64 (mbase i + (p : Int) * V)) ∧ Fr No w w' := by
  have b1 : (0 : Int) ≤ (i : Int) := by omega
  have b2 : (i : Int) < (n : Int) := by omega
  obtain ⟨M, hM⟩ : ∃ M, M = (p : Int) * V := ⟨_, rfl⟩
  have e0 : IntKind.u64.wrap ((p : Int) * V) = M := by rw [hM]; exact IntWalk.u64_in _ (by omega)
  rw [← hM] at h0 h1 ⊢
  have e1 : IntKind.u64.wrap (p : Int) = p := u64_nat p (by omega)
  have e3 : IntKind.u64.wrap V = V := IntWalk.u64_in _ (by omega)
  obtain ⟨B, hB⟩ : ∃ B, B = mbase i := ⟨_, rfl⟩
  have hB0 : 0 ≤ B ∧ B ≤ 2000000 := by rw [hB]; unfold mbase; omega
  have HB : Hid (∀ W, Calls Tryz.prog 31 #[.int .i64 i] W fun e w' => e = .returned (.int .u64 B) ∧ W = w') := fun W => by rw [hB]; exact rbase_any i W (by omega)
  rw [← hB]
  have e2 : IntKind.u64.wrap (B + M) = B + M := IntWalk.u64_in _ (by omega)
  clear hM hB hB0
  go_enter Tryz.func46, Tryz.ntmps46
  go_wp2_with fail
  go_quiet ((go_at_call 31; exact quiet_eq (HB.out _)))
  go_wp2_with fail
  go_ret
  exact ⟨rfl, (Fr.refl _ _).drewN _⟩

theorem rat_any {A H : Nat → Prop} {w : World} {b mb : Nat} {S : List Tab} (h : RMapsAt w b mb S A H) {i p : Nat} {t : Tab} (ht : S[i]? = some t) (hp : p < t.ks.length) :
    Calls Tryz.prog 46 #[.pointer (some ⟨b, 0, none⟩), .int .i64 i, .int .i64 p] w fun e w' => e = .returned (.int .u64 (mplace i p t)) ∧ Fr No w w' := by
  obtain ⟨l, rfl, h⟩ := h
  rw [List.getElem?_map] at ht
  obtain ⟨x, hx, rfl⟩ := Option.map_eq_some_iff.1 ht
  obtain ⟨gl, cl, gt, ct, c1, c2, hi, _, _, d0, d1, d2, d3, _⟩ := h.at hx
  have ok := h.ok x (List.mem_of_getElem? hx)
  have hbd := ok.bounds
  have hb := mplace_bounds (i := i) ok hp (by have := h.few; omega)
  exact rat_walk b i p l.length cl gl x.t.d.value w hi h.few (by omega) (by omega) (by omega) c1 d2 hb.2.2.1 hb.2.2.2

set_option maxHeartbeats 400000 in
theorem rlookup_no (p : Value) (i r : Int) (K : ByteArray) (w : World) (hr : decide (r < 0) = true) (hh : Calls Tryz.prog 45 #[p, .int .i64 i, .string K] w fun e w' => e = .returned (.int .i64 r) ∧ Fr No w w') :
    Calls Tryz.prog 14 #[p, .int .i64 i, .string K] w fun e w' => e = .returned (.int .u64 0) ∧ Fr No w w' := by
  have HH := Lib.hid hh
  clear hh
  go_enter Tryz.func14, Tryz.ntmps14
  go_wp2_with (go_at_call 45; (with_reducible refine (HH.out).mono ?_); rintro e w' ⟨rfl, hf⟩)
  go_ret
  exact ⟨rfl, hf⟩

set_option maxHeartbeats 400000 in
theorem rlookup_at (p : Value) (i : Int) (q : Nat) (a : Int) (K : ByteArray) (w : World) (hh : Calls Tryz.prog 45 #[p, .int .i64 i, .string K] w fun e w' => e = .returned (.int .i64 q) ∧ Fr No w w')
    (ha : ∀ W, Fr No w W → Calls Tryz.prog 46 #[p, .int .i64 i, .int .i64 q] W fun e w' => e = .returned (.int .u64 a) ∧ Fr No W w') :
    Calls Tryz.prog 14 #[p, .int .i64 i, .string K] w fun e w' => e = .returned (.int .u64 a) ∧ Fr No w w' := by
  have HH := Lib.hid hh
  have HA := Lib.hid ha
  have qq : decide ((q : Int) < 0) = false := by simp
  clear hh ha
  go_enter Tryz.func14, Tryz.ntmps14
  go_wp2_with (first
    | (go_at_call 45; (with_reducible refine (HH.out).mono ?_); rintro e w1 ⟨rfl, hf⟩)
    | (go_at_call 46; (with_reducible refine (HA.out _ hf).mono ?_); rintro e w2 ⟨rfl, hf2⟩))
  go_ret
  exact ⟨rfl, hf.trans hf2⟩

theorem rlookup_any {A H : Nat → Prop} {w : World} {b mb : Nat} {S : List Tab} (h : RMapsAt w b mb S A H) (i : Int) (key : List UInt8) :
    Calls Tryz.prog 14 #[.pointer (some ⟨b, 0, none⟩), .int .i64 i, .string ⟨key.toArray⟩] w fun e w' => e = .returned (.int .u64 (mlookup S i key)) ∧ Fr No w w' := by
  have hp := rplace_any h i key
  unfold mlookup
  unfold placeI at hp
  cases hm : mhas S i key with
  | none =>
    rw [hm] at hp
    exact rlookup_no _ i (-2) _ w (by decide) hp
  | some t =>
    rw [hm] at hp
    obtain ⟨k, rfl, hk, hkl⟩ := mhas_some hm
    simp only at hp ⊢
    cases hf : t.find key with
    | none =>
      rw [hf] at hp
      exact rlookup_no _ _ (-1) _ w (by decide) hp
    | some p =>
      rw [hf] at hp
      exact rlookup_at _ _ p _ _ w hp (fun W hW => by
        have := rat_any (h.no hW) hk (find_some hf).1
        simpa using this)

end Go.Proofs.YtlinnhaodkiolaaGreat

namespace Go.Proofs.YtlinnhaodkiolaaGreat
open Go.RowKit

theorem refput_any {S : Nat → Prop} {W : World} {b : Nat} {m : List Reg} (hre : RefAt W b m S) (hm : m.length ≤ 1000000) (addr : Int) (bs : List UInt8) (ha : 0 ≤ addr) (h64 : addr ≤ 18446744073709551615) (h1 : 1 ≤ bs.length) (h63 : bs.length ≤ 1000000) {i : Nat} (hsp : spot m addr (bs.length : Int) = some i) :
    Calls Tryz.prog 54 #[.pointer (some ⟨b, 0, none⟩), .int .u64 addr, .string ⟨bs.toArray⟩] W fun e w' => e = .returned (.tuple #[]) ∧ Fr S W w' ∧ RefAt w' b (mput m addr bs) S := by
  have hi := spot_lt hsp
  have hh := (Reg.has_iff _ _ _).1 (spot_has hsp)
  obtain ⟨r, hr⟩ : ∃ r, m[i]? = some r := ⟨m[i], List.getElem?_eq_getElem hi⟩
  have hx : m[i] = r := by rw [List.getElem?_eq_getElem hi] at hr; exact Option.some.inj hr
  rw [hx] at hh
  have o := hre.wf.ok r (by rw [← hx]; exact List.getElem_mem hi)
  obtain ⟨v, hc, ⟨rfl, rfl⟩ | ⟨g, cap, rfl, hcap, h0, hc2, ho, hne, hS⟩⟩ := id hre.list
  · simp at hi
  obtain ⟨c0, c1, _⟩ := areg_cells0 hc2 hr
  have hat := refat_any hre hm addr (bs.length : Int) ha h64 (by omega) (by omega)
  have hat2 : Calls Tryz.prog 53 #[.pointer (some ⟨b, 0, none⟩), .int .u64 addr, .int .i64 (bs.length : Int)] W fun e w' => e = .returned (.int .i64 i) ∧ Fr No W w' := by
    refine hat.mono ?_
    rintro e w' ⟨rfl, hf⟩
    exact ⟨by rw [spotInt, hsp], hf⟩
  have hF : addr - r.base = ((addr - r.base).toNat : Int) := by omega
  have hfz : W.frozen? ⟨g, i * 3 + 1, none⟩ = false := by
    have := ho (i * 3 + 1) (by omega)
    rwa [Nat.zero_add] at this
  refine (refput_at b g cap m.length i r.base addr r.data bs r.data.length (addr - r.base).toNat bs.length W hc c0 c1 hfz hi hm rfl o.small hF rfl (by omega) (fun e => hne e.symm) hne hat2).mono ?_
  rintro e w' ⟨rfl, w1, hf, rfl⟩
  have hp := (hre.fr hf (fun _ _ => id)).put (hf.cell hc id) i r hr (r.data.take (addr - r.base).toNat ++ bs ++ r.data.drop ((addr - r.base).toNat + bs.length)) (by simp; omega)
  have hmp : mput m addr bs = m.set i { r with data := r.data.take (addr - r.base).toNat ++ bs ++ r.data.drop ((addr - r.base).toNat + bs.length) } := by
    rw [mput, hsp]
    show m.modify i (·.put addr bs) = _
    rw [modify_is_set m i r _ hr]
    rfl
  rw [hmp]
  exact ⟨rfl, ((hf.any).setCell (.inr hp.2) _).drew, hp.1.fr ((Fr.refl No _).drew) (fun _ _ => id)⟩

end Go.Proofs.YtlinnhaodkiolaaGreat

namespace Go.Proofs.YtlinnhaodkiolaaGreat
open Go.RowKit

set_option maxHeartbeats 400000 in
theorem rupdate_none (p : Value) (i : Int) (K V : ByteArray) (w : World) (hh : Calls Tryz.prog 45 #[p, .int .i64 i, .string K] w fun e w' => e = .returned (.int .i64 (-2)) ∧ Fr No w w') :
    Calls Tryz.prog 27 #[p, .int .i64 i, .string K, .string V] w fun e w' => e = .returned (.int .i64 (-22)) ∧ Fr No w w' := by
  have HH := Lib.hid hh
  clear hh
  go_enter Tryz.func27, Tryz.ntmps27
  go_wp2_with (go_at_call 45; (with_reducible refine (HH.out).mono ?_); rintro e w' ⟨rfl, hf⟩)
  go_ret
  exact ⟨rfl, hf⟩

set_option maxHeartbeats 400000 in
theorem rupdate_len (b i n cl gl vl : Nat) (r value : Int) (K V : ByteArray) (w : World) (hi : i < n) (_ : n ≤ 1000) (hr : (r == -2) = false) (hvl : V.size = vl) (hq : ((vl : Int) != value) = true)
    (hc : ∀ W, Fr No w W → W.cell? ⟨b, 0, none⟩ = some (.slice (some ⟨gl, 0, none⟩) n cl) ∧ W.cell? ⟨gl, i * 4 + 2, none⟩ = some (.int .i64 value))
    (hh : Calls Tryz.prog 45 #[.pointer (some ⟨b, 0, none⟩), .int .i64 i, .string K] w fun e w' => e = .returned (.int .i64 r) ∧ Fr No w w') :
    Calls Tryz.prog 27 #[.pointer (some ⟨b, 0, none⟩), .int .i64 i, .string K, .string V] w fun e w' => e = .returned (.int .i64 (-22)) ∧ Fr No w w' := by
  have HH := Lib.hid hh
  have HC := Lib.hid hc
  have b1 : (0 : Int) ≤ (i : Int) := by omega
  have b2 : (i : Int) < (n : Int) := by omega
  clear hh hc
  go_enter Tryz.func27, Tryz.ntmps27
  go_wp2_with (go_at_call 45; (with_reducible refine (HH.out).mono ?_); rintro e w' ⟨rfl, hf⟩; obtain ⟨d1, d2⟩ := HC.out w' hf)
  go_ret
  exact ⟨rfl, hf⟩

set_option maxHeartbeats 400000 in
theorem rupdate_arr (b i n cl gl vl : Nat) (value : Int) (K V : ByteArray) (w : World) (hi : i < n) (_ : n ≤ 1000) (hvl : V.size = vl) (hq : ((vl : Int) != value) = false)
    (hc : ∀ W, Fr No w W → W.cell? ⟨b, 0, none⟩ = some (.slice (some ⟨gl, 0, none⟩) n cl) ∧ W.cell? ⟨gl, i * 4 + 2, none⟩ = some (.int .i64 value) ∧ W.cell? ⟨gl, i * 4, none⟩ = some (.int .i64 1))
    (hh : Calls Tryz.prog 45 #[.pointer (some ⟨b, 0, none⟩), .int .i64 i, .string K] w fun e w' => e = .returned (.int .i64 (-1)) ∧ Fr No w w') :
    Calls Tryz.prog 27 #[.pointer (some ⟨b, 0, none⟩), .int .i64 i, .string K, .string V] w fun e w' => e = .returned (.int .i64 (-2)) ∧ Fr No w w' := by
  have HH := Lib.hid hh
  have HC := Lib.hid hc
  have b1 : (0 : Int) ≤ (i : Int) := by omega
  have b2 : (i : Int) < (n : Int) := by omega
  clear hh hc
  go_enter Tryz.func27, Tryz.ntmps27
  go_wp2_with (go_at_call 45; (with_reducible refine (HH.out).mono ?_); rintro e w' ⟨rfl, hf⟩; obtain ⟨d1, d2, d3⟩ := HC.out w' hf)
  go_ret
  exact ⟨rfl, hf⟩

/-- the cells that Update asks, at maps -/
structure RCells (b mb i n cl gl ct gt h cap N : Nat) (kind value : Int) (W : World) : Prop where
  c0 : W.cell? ⟨b, 0, none⟩ = some (.slice (some ⟨gl, 0, none⟩) n cl)
  c1 : W.cell? ⟨b, 1, none⟩ = some (.slice (some ⟨gt, 0, none⟩) n ct)
  c2 : W.cell? ⟨b, 2, none⟩ = some (.pointer (some ⟨mb, 0, none⟩))
  k0 : W.cell? ⟨gl, i * 4, none⟩ = some (.int .i64 kind)
  k2 : W.cell? ⟨gl, i * 4 + 2, none⟩ = some (.int .i64 value)
  row : W.cell? ⟨gt, i, none⟩ = some (.slice (some ⟨h, 0, none⟩) N cap)

set_option maxRecDepth 100000 in
set_option maxHeartbeats 1000000 in
/-- the key has a place -/
theorem rupdate_at (b mb i n cl gl ct gt h cap N vl p : Nat) (kind value a : Int) (K V : ByteArray) (w : World) (Post : World → Prop) (hi : i < n) (_ : n ≤ 1000) (hN : 1 ≤ N) (hvl : V.size = vl) (hq : ((vl : Int) != value) = false)
    (hc : ∀ W, Fr No w W → RCells b mb i n cl gl ct gt h cap N kind value W)
    (hh : Calls Tryz.prog 45 #[.pointer (some ⟨b, 0, none⟩), .int .i64 i, .string K] w fun e w' => e = .returned (.int .i64 p) ∧ Fr No w w')
    (ha : ∀ W, Fr No w W → Calls Tryz.prog 46 #[.pointer (some ⟨b, 0, none⟩), .int .i64 i, .int .i64 p] W fun e w' => e = .returned (.int .u64 a) ∧ Fr No W w')
    (hp : ∀ W, Fr No w W → Calls Tryz.prog 54 #[.pointer (some ⟨mb, 0, none⟩), .int .u64 a, .string V] W fun e w' => e = .returned (.tuple #[]) ∧ Hid (∀ w2, Fr No w' w2 → Post w2) ∧ w'.cell? ⟨b, 2, none⟩ = some (.pointer (some ⟨mb, 0, none⟩))) :
    Calls Tryz.prog 27 #[.pointer (some ⟨b, 0, none⟩), .int .i64 i, .string K, .string V] w fun e w' => e = .returned (.int .i64 0) ∧ Post w' := by
  have HH := Lib.hid hh
  have HC := Lib.hid hc
  have HA := Lib.hid ha
  have HP := Lib.hid hp
  have b1 : (0 : Int) ≤ (i : Int) := by omega
  have b2 : (i : Int) < (n : Int) := by omega
  have q1 : ((p : Int) == -2) = false := by simp
  have q2 : decide ((p : Int) < 0) = false := by simp
  have q3 : decide (0 < N) = true := by simp; omega
  clear hh hc ha hp
  go_enter Tryz.func27, Tryz.ntmps27
  go_wp2_with fail
  refine (HH.out).mono ?_
  rintro e w1 ⟨rfl, hf⟩
  have HF := Lib.hid hf
  obtain ⟨d0, d1, d2, d3, d4, d5⟩ := HC.out w1 hf
  clear hf
  go_wp2_with fail
  refine wp_loop_rounds 1 ?_
  rw [rounds_succ]
  go_wp2_with fail
  go_region_held3 (fun W => W.cell? ⟨b, 2, none⟩ = some (.pointer (some ⟨mb, 0, none⟩))) (first | assumption | go_keep) (first
    | (go_at_call 46; (with_reducible refine (HA.out _ (by exact HF.out.trans ((Fr.refl _ _).drew))).mono ?_); rintro e w2 ⟨rfl, hf2⟩; have hk2 := hf2.cell (show (w1.drew).cell? ⟨b, 2, none⟩ = _ from d2) id)
    | (go_at_call 54; (with_reducible refine (HP.out _ (by exact (HF.out.trans ((Fr.refl _ _).drew)).trans hf2)).mono ?_); rintro e w3 ⟨rfl, HQ, hb3⟩))
  go_wp2_with fail
  go_ret
  exact ⟨rfl, HQ.out _ (Fr.refl _ _)⟩

/-- what the loop for a free place has come to at the place kk -/
def LayI (ks : List (List UInt8)) (key : List UInt8) (h : Nat) (w : World) (kk : Nat) (p : Value) (wr : World) : Prop :=
  (p = .int .i64 (-1) ∧ Fr No w wr ∧ ∀ (j : Nat) x, j < kk → ks[j]? = some x → x ≠ []) ∨
  ∃ q : Nat, kk = q + 1 ∧ p = .int .i64 q ∧ ks.findIdx? (· == []) = some q ∧ ∃ w1, Fr No w w1 ∧ Fr No (w1.setCell ⟨h, q, none⟩ (.string ⟨key.toArray⟩)) wr

def UpdPost (fe : Option Nat) (w : World) (Post : World → Prop) (e : Ending) (w' : World) : Prop := (fe = none → e = .returned (.int .i64 (-7)) ∧ Fr No w w') ∧ (∀ q, fe = some q → e = .returned (.int .i64 0) ∧ Post w')

set_option maxRecDepth 100000 in
set_option maxHeartbeats 2000000 in
/-- a hash that has not the key -/
theorem rupdate_new (b mb i n cl gl ct gt h cap N vl : Nat) (value : Int) (ks : List (List UInt8)) (key : List UInt8) (V : ByteArray) (w : World) (Post : World → Prop) (hi : i < n) (_ : n ≤ 1000) (hN : 1 ≤ N) (hN1 : N ≤ 1000) (hvl : V.size = vl) (hq : ((vl : Int) != value) = false)
    (hlen : ks.length = N) (hks : CellsAt w h 0 (strs ks)) (hop : Open w h 0 N) (hne : h ≠ b ∧ h ≠ gl ∧ h ≠ gt)
    (hc : ∀ W, Fr (fun k => k = h) w W → RCells b mb i n cl gl ct gt h cap N 2 value W)
    (hh : Calls Tryz.prog 45 #[.pointer (some ⟨b, 0, none⟩), .int .i64 i, .string ⟨key.toArray⟩] w fun e w' => e = .returned (.int .i64 (-1)) ∧ Fr No w w')
    (hp : ∀ (q : Nat) w1 W, ks.findIdx? (· == []) = some q → Fr No w w1 → Fr No (w1.setCell ⟨h, q, none⟩ (.string ⟨key.toArray⟩)) W → ∃ a, (∀ W2, Fr No W W2 → Calls Tryz.prog 46 #[.pointer (some ⟨b, 0, none⟩), .int .i64 i, .int .i64 q] W2 fun e w' => e = .returned (.int .u64 a) ∧ Fr No W2 w') ∧
      ∀ W2, Fr No W W2 → Calls Tryz.prog 54 #[.pointer (some ⟨mb, 0, none⟩), .int .u64 a, .string V] W2 fun e w' => e = .returned (.tuple #[]) ∧ Hid (Post w') ∧ w'.cell? ⟨b, 2, none⟩ = some (.pointer (some ⟨mb, 0, none⟩))) :
    Calls Tryz.prog 27 #[.pointer (some ⟨b, 0, none⟩), .int .i64 i, .string ⟨key.toArray⟩, .string V] w (UpdPost (ks.findIdx? (· == [])) w Post) := by
  obtain ⟨K, hK⟩ : ∃ K : ByteArray, K = ⟨key.toArray⟩ := ⟨_, rfl⟩
  rw [← hK] at hh ⊢
  have HK := Lib.hid hK
  have HH := Lib.hid hh
  have HC := Lib.hid hc
  have HP := Lib.hid hp
  have HKS := Lib.hid hks
  have HLN := Lib.hid hlen
  have HOP := Lib.hid hop
  have HNE := Lib.hid hne
  obtain ⟨fe, hfe⟩ : ∃ fe, ks.findIdx? (· == []) = fe := ⟨_, rfl⟩
  have HFE := Lib.hid hfe
  rw [hfe]
  have b1 : (0 : Int) ≤ (i : Int) := by omega
  have b2 : (i : Int) < (n : Int) := by omega
  clear hh hc hp hks hlen hop hne hK hfe
  go_enter Tryz.func27, Tryz.ntmps27
  go_wp2_with fail
  refine (HH.out).mono ?_
  rintro e w1 ⟨rfl, hf⟩
  have HF := Lib.hid hf
  obtain ⟨d0, d1, d2, d3, d4, d5⟩ := HC.out w1 hf.any
  clear hf
  go_wp2_with fail
  clear d0 d1 d2 d3 d4 d5
  go_loopw [9, 10] (fun s9 s10 wr => ∃ kk : Nat, kk ≤ N ∧ s10 = .int .i64 kk ∧ Hid (LayI ks key h w kk s9 wr)) (fun _ s10 _ => N - (intOf s10).toNat)
  case atStart => exact ⟨0, Nat.zero_le _, rfl, .inl ⟨rfl, HF.out, fun j x hj => absurd hj (Nat.not_lt_zero _)⟩⟩
  case round =>
    obtain ⟨kk, hkk, rfl, HL⟩ := hrel
    rcases HL.out with ⟨rfl, hf, hno⟩ | ⟨q, rfl, rfl, hfq, w2, hf1, hf2⟩
    · have HF2 := Lib.hid hf
      have HNO := Lib.hid hno
      obtain ⟨d0, d1, d2, d3, d4, d5⟩ := HC.out wr hf.any
      have q2 : decide ((-1 : Int) < 0) = true := rfl
      clear hf hno HL
      by_cases hlt : kk < N
      · obtain ⟨x, hx⟩ : ∃ x, ks[kk]? = some x := ⟨ks[kk]'(by rw [HLN.out]; exact hlt), List.getElem?_eq_getElem _⟩
        have hcell : wr.cell? ⟨h, kk, none⟩ = some (.string ⟨x.toArray⟩) := by
          have := (HF2.out.cells HKS.out id) kk (.string ⟨x.toArray⟩) (by rw [strs_get, hx]; rfl)
          rwa [Nat.zero_add] at this
        have hfz : wr.frozen? ⟨h, kk, none⟩ = false := by
          have h0 := HKS.out kk (.string ⟨x.toArray⟩) (by rw [strs_get, hx]; rfl)
          rw [Nat.zero_add] at h0
          rw [HF2.out.frozen h0 id]
          have := HOP.out kk hlt
          rwa [Nat.zero_add] at this
        have HX := Lib.hid hx
        have c1 : (0 : Int) ≤ (kk : Int) := by omega
        have c2 : (kk : Int) < (N : Int) := by omega
        clear hx
        by_cases hxe : x = []
        · subst hxe
          have HFQ : Hid (ks.findIdx? (· == []) = some kk) := Lib.hid (by
            rw [List.findIdx?_eq_some_iff_getElem]
            have hk' : kk < ks.length := by rw [HLN.out]; exact hlt
            have := HX.out
            rw [List.getElem?_eq_getElem hk'] at this
            refine ⟨hk', by rw [Option.some.inj this]; rfl, fun j hj => ?_⟩
            have := HNO.out j _ hj (List.getElem?_eq_getElem (by omega))
            simpa using this)
          have HL2 : Hid (∀ W, Fr No (wr.setCell ⟨h, kk, none⟩ (.string K)) W → LayI ks key h w (kk + 1) (.int .i64 kk) W) := fun W hW => .inr ⟨kk, rfl, rfl, HFQ.out, wr, HF2.out, by rw [← HK.out]; exact hW⟩
          go_wp2_with fail
          go_roundw
          case rel => exact ⟨kk + 1, by omega, by go_num, HL2.out _ (Fr.refl _ _)⟩
          case measure => simp [intOf] <;> omega
        · have qe : ((⟨x.toArray⟩ : ByteArray).toList == []) = false := by simp [ByteArray.toList_eq]; exact hxe
          have qe2 : (⟨x.toArray⟩ : ByteArray).toList.isEmpty = false := by simp [ByteArray.toList_eq]; exact hxe
          have HL2 : Hid (∀ W, Fr No wr W → LayI ks key h w (kk + 1) (.int .i64 (-1)) W) := fun W hW => .inl ⟨rfl, HF2.out.trans hW, fun j y hj hy => by
            by_cases e : j = kk
            · subst e
              rw [HX.out] at hy
              obtain rfl := Option.some.inj hy
              exact hxe
            · exact HNO.out j y (by omega) hy⟩
          clear hxe
          generalize (⟨x.toArray⟩ : ByteArray) = X at *
          go_wp2_with fail
          go_roundw
          case rel => exact ⟨kk + 1, by omega, by go_num, HL2.out _ (Fr.refl _ _)⟩
          case measure => simp [intOf] <;> omega
      · obtain rfl : kk = N := by omega
        have HFN : Hid (fe = none) := Lib.hid (by
          rw [← HFE.out, List.findIdx?_eq_none_iff]
          intro x hx
          obtain ⟨j, hj, rfl⟩ := List.getElem_of_mem hx
          have := HNO.out j _ (by rw [← HLN.out]; exact hj) (List.getElem?_eq_getElem hj)
          simpa using this)
        go_wp2_with fail
        go_ret
        exact ⟨fun _ => ⟨rfl, HF2.out⟩, (fun q hq => by rw [HFN.out] at hq; cases hq)⟩
    · have HFQ := Lib.hid hfq
      have hql : q < N := by
        rw [List.findIdx?_eq_some_iff_getElem] at hfq
        obtain ⟨hq', _⟩ := hfq
        rw [HLN.out] at hq'
        exact hq'
      have hfa : Fr (fun k => k = h) w wr := ((hf1.any : Fr (fun k => k = h) w w2).setCell (p := ⟨h, q, none⟩) (.inr rfl) _).trans hf2.any
      obtain ⟨d0, d1, d2, d3, d4, d5⟩ := HC.out wr hfa
      obtain ⟨a, hat, hput⟩ := HP.out q w2 wr hfq hf1 hf2
      have HA := Lib.hid hat
      have HPUT := Lib.hid hput
      have q2 : decide ((q : Int) < 0) = false := by simp
      clear hfq hf1 hf2 hfa hat hput HL HP HC
      go_wp2_with fail
      all_goals
        go_region_held3 (fun W => W.cell? ⟨b, 2, none⟩ = some (.pointer (some ⟨mb, 0, none⟩))) (first | assumption | go_keep) (first
          | (go_at_call 46; (with_reducible refine (HA.out _ (by exact (Fr.refl _ _).drew)).mono ?_); rintro e w3 ⟨rfl, hf3⟩; have hk3 := hf3.cell (show (wr.drew).cell? ⟨b, 2, none⟩ = _ from d2) id)
          | (go_at_call 54; (with_reducible refine (HPUT.out _ (by exact ((Fr.refl _ _).drew).trans hf3)).mono ?_); rintro e w4 ⟨rfl, HQ, hb4⟩))
        go_wp2_with fail
        go_ret
        exact ⟨(fun hn => by rw [← HFE.out, HFQ.out] at hn; cases hn), fun _ _ => ⟨rfl, HQ.out⟩⟩

end Go.Proofs.YtlinnhaodkiolaaGreat
