/- Maps in a world: where the tables lie. No condition. -/
import Derived.Test.YtlinnhaodkiolaaMapD
namespace Go.Proofs.Ytlinnhaodkiolaa
open Go.RowKit

/-- a map, and where the keys of a hash lie -/
structure HTab where
  t : Tab
  h : Nat
  cap : Nat

def HTab.cell (x : HTab) : Value := if x.t.d.kind = 1 then .iface 96 (.int .i64 x.t.d.max) else .iface 74 (.slice (some ⟨x.h, 0, none⟩) x.t.ks.length x.cap)

def strs (ks : List (List UInt8)) : List Value := ks.map fun k => .string ⟨k.toArray⟩

theorem strs_get (ks : List (List UInt8)) (p : Nat) : (strs ks)[p]? = (ks[p]?).map fun k => .string ⟨k.toArray⟩ := by simp [strs]
theorem strs_length (ks : List (List UInt8)) : (strs ks).length = ks.length := by simp [strs]
theorem strs_one (ks : List (List UInt8)) : ∀ u ∈ strs ks, u.oneCell' = true := fun v hv => by
  obtain ⟨k, _, rfl⟩ := List.mem_map.1 hv
  rfl

structure HTab.here (w : World) (x : HTab) : Prop where
  keys : CellsAt w x.h 0 (strs x.t.ks)
  opened : Open w x.h 0 x.t.ks.length
  cap : x.t.ks.length ≤ x.cap

theorem HTab.here.lt {w : World} {x : HTab} (h : x.here w) (h1 : 1 ≤ x.t.ks.length) : x.h < w.heap.size :=
  World.block_lt_of_cell? w ⟨x.h, 0 + 0, none⟩ (h.keys 0 _ (List.getElem?_eq_getElem (by rw [strs_length]; exact h1)))

theorem HTab.here.fr {S : Nat → Prop} {w w' : World} {x : HTab} (h : x.here w) (hf : Fr S w w') (hn : ¬ S x.h) (h1 : 1 ≤ x.t.ks.length) : x.here w' :=
  ⟨hf.cells h.keys hn, hf.opened (h.lt h1) h.opened hn, h.cap⟩

/-- what they are, and the tables, stand at two slices' values -/
def TabsAt (w : World) (lv tv : Value) (l : List HTab) (A : Nat → Prop) : Prop :=
  (l = [] ∧ ∃ a c a' c', lv = .slice a 0 c ∧ tv = .slice a' 0 c') ∨
  ∃ gl cl gt ct, lv = .slice (some ⟨gl, 0, none⟩) l.length cl ∧ tv = .slice (some ⟨gt, 0, none⟩) l.length ct ∧ CellsAt w gl 0 (mflat (l.map (·.t.d))) ∧ CellsAt w gt 0 (l.map HTab.cell) ∧ A gl ∧ A gt

/-- maps behind a pointer to block b, over the memory of block mb: A are the blocks that stay, H those of the hashes -/
structure MapsL (w : World) (b mb : Nat) (l : List HTab) (A H : Nat → Prop) : Prop where
  made : w.cell? ⟨b, 0, none⟩ = some (.bool true)
  mem : w.cell? ⟨b, 3, none⟩ = some (.pointer (some ⟨mb, 0, none⟩))
  list : ∃ lv tv, w.cell? ⟨b, 1, none⟩ = some lv ∧ w.cell? ⟨b, 2, none⟩ = some tv ∧ TabsAt w lv tv l A
  ok : ∀ x ∈ l, x.t.ok
  here : ∀ x ∈ l, x.t.d.kind = 2 → x.here w ∧ H x.h
  apart : l.Pairwise fun x y => x.t.d.kind = 2 → y.t.d.kind = 2 → x.h ≠ y.h
  own : A b
  few : l.length ≤ 4
  AH : ∀ k, A k → ¬ H k

def MapsAt (w : World) (b mb : Nat) (S : List Tab) (A H : Nat → Prop) : Prop := ∃ l, l.map (·.t) = S ∧ MapsL w b mb l A H

theorem TabsAt.fr {A T : Nat → Prop} {w w' : World} {lv tv : Value} {l : List HTab} (h : TabsAt w lv tv l A) (hf : Fr T w w') (hn : ∀ k, A k → ¬ T k) : TabsAt w' lv tv l A := by
  rcases h with h | ⟨gl, cl, gt, ct, rfl, rfl, h1, h2, h3, h4⟩
  · exact .inl h
  · exact .inr ⟨gl, cl, gt, ct, rfl, rfl, hf.cells h1 (hn _ h3), hf.cells h2 (hn _ h4), h3, h4⟩

theorem MapsL.fr {A H T : Nat → Prop} {w w' : World} {b mb : Nat} {l : List HTab} (h : MapsL w b mb l A H) (hf : Fr T w w') (hA : ∀ k, A k → ¬ T k) (hH : ∀ k, H k → ¬ T k) : MapsL w' b mb l A H where
  made := hf.cell h.made (hA _ h.own)
  mem := hf.cell h.mem (hA _ h.own)
  list := by
    obtain ⟨lv, tv, a, b, c⟩ := h.list
    exact ⟨lv, tv, hf.cell a (hA _ h.own), hf.cell b (hA _ h.own), c.fr hf hA⟩
  ok := h.ok
  here := fun x hx h2 => ⟨(h.here x hx h2).1.fr hf (hH _ (h.here x hx h2).2) (by have := (h.ok x hx).bounds; omega), (h.here x hx h2).2⟩
  apart := h.apart
  own := h.own
  few := h.few
  AH := h.AH

theorem MapsAt.fr {A H T : Nat → Prop} {w w' : World} {b mb : Nat} {S : List Tab} (h : MapsAt w b mb S A H) (hf : Fr T w w') (hA : ∀ k, A k → ¬ T k) (hH : ∀ k, H k → ¬ T k) : MapsAt w' b mb S A H := by
  obtain ⟨l, e, h⟩ := h
  exact ⟨l, e, h.fr hf hA hH⟩

theorem MapsAt.no {A H : Nat → Prop} {w w' : World} {b mb : Nat} {S : List Tab} (h : MapsAt w b mb S A H) (hf : Fr No w w') : MapsAt w' b mb S A H := h.fr hf (fun _ _ => id) (fun _ _ => id)

theorem MapsAt.ok {A H : Nat → Prop} {w : World} {b mb : Nat} {S : List Tab} (h : MapsAt w b mb S A H) : (∀ t ∈ S, t.ok) ∧ S.length ≤ 4 := by
  obtain ⟨l, rfl, h⟩ := h
  refine ⟨fun t ht => ?_, by simpa using h.few⟩
  obtain ⟨x, hx, rfl⟩ := List.mem_map.1 ht
  exact h.ok x hx

/-- the cells of the map i -/
theorem MapsL.at {A H : Nat → Prop} {w : World} {b mb : Nat} {l : List HTab} (h : MapsL w b mb l A H) {i : Nat} {x : HTab} (hx : l[i]? = some x) :
    ∃ gl cl gt ct, w.cell? ⟨b, 1, none⟩ = some (.slice (some ⟨gl, 0, none⟩) l.length cl) ∧ w.cell? ⟨b, 2, none⟩ = some (.slice (some ⟨gt, 0, none⟩) l.length ct) ∧ i < l.length ∧ A gl ∧ A gt ∧
      w.cell? ⟨gl, i * 4, none⟩ = some (.int .i64 x.t.d.kind) ∧ w.cell? ⟨gl, i * 4 + 1, none⟩ = some (.int .i64 x.t.d.key) ∧ w.cell? ⟨gl, i * 4 + 2, none⟩ = some (.int .i64 x.t.d.value) ∧ w.cell? ⟨gl, i * 4 + 3, none⟩ = some (.int .i64 x.t.d.max) ∧
      w.cell? ⟨gt, i, none⟩ = some x.cell := by
  obtain ⟨hi, hxe⟩ := List.getElem?_eq_some_iff.1 hx
  obtain ⟨lv, tv, a, c, ⟨rfl, _⟩ | ⟨gl, cl, gt, ct, rfl, rfl, h1, h2, h3, h4⟩⟩ := h.list
  · simp at hi
  · have hm := map_cells h1 (k := i) (x := x.t.d) (by simp [hx])
    simp only [Nat.zero_add] at hm
    have hc := h2 i x.cell (by simp [hx])
    rw [Nat.zero_add] at hc
    exact ⟨gl, cl, gt, ct, a, c, hi, h3, h4, hm.1, hm.2.1, hm.2.2.1, hm.2.2.2, hc⟩

theorem MapsL.len {A H : Nat → Prop} {w : World} {b mb : Nat} {l : List HTab} (h : MapsL w b mb l A H) : ∃ a c, w.cell? ⟨b, 1, none⟩ = some (.slice a l.length c) := by
  obtain ⟨lv, tv, a, c, ⟨rfl, x, y, _, _, rfl, _⟩ | ⟨gl, cl, gt, ct, rfl, rfl, h1, h2, h3, h4⟩⟩ := h.list
  · exact ⟨_, _, a⟩
  · exact ⟨_, _, a⟩

def HTab.lay (x : HTab) (p : Nat) (key : List UInt8) : HTab := { x with t := x.t.lay p key }

/-- a key laid into a hash -/
theorem MapsL.lay {A H : Nat → Prop} {w : World} {b mb : Nat} {l : List HTab} (h : MapsL w b mb l A H) {i : Nat} {x : HTab} (hx : l[i]? = some x) (h2 : x.t.d.kind = 2) {p : Nat} (hp : p < x.t.ks.length) {key : List UInt8} (hk : key = [] ∨ (key.length : Int) = x.t.d.key) :
    MapsL (w.setCell ⟨x.h, p, none⟩ (.string ⟨key.toArray⟩)) b mb (l.set i (x.lay p key)) A H ∧ Fr H w (w.setCell ⟨x.h, p, none⟩ (.string ⟨key.toArray⟩)) := by
  obtain ⟨hi, hxe⟩ := List.getElem?_eq_some_iff.1 hx
  have hxm : x ∈ l := List.mem_of_getElem? hx
  obtain ⟨hh, hH⟩ := h.here x hxm h2
  have hf : Fr (fun k => k = x.h) w (w.setCell ⟨x.h, p, none⟩ (.string ⟨key.toArray⟩)) := (Fr.refl (fun k => k = x.h) w).setCell (p := ⟨x.h, p, none⟩) (.inr rfl) _
  have hA : ∀ k, A k → ¬ k = x.h := fun k hk e => h.AH k hk (e ▸ hH)
  have hold : w.cell? ⟨x.h, p, none⟩ = some (.string ⟨x.t.ks[p].toArray⟩) := by
    have := hh.keys p (.string ⟨x.t.ks[p].toArray⟩) (by rw [strs_get, List.getElem?_eq_getElem hp]; rfl)
    rwa [Nat.zero_add] at this
  have hmem : ∀ y ∈ l.set i (x.lay p key), y = x.lay p key ∨ ∃ j, ∃ hj : j < l.length, j ≠ i ∧ y = l[j] := by
    intro y hy
    obtain ⟨j, hj, rfl⟩ := List.getElem_of_mem hy
    rw [List.getElem_set]
    split
    · exact .inl rfl
    · rename_i hne; exact .inr ⟨j, by simpa using hj, fun e => hne e.symm, rfl⟩
  have hmap : ∀ {α : Type} (f : HTab → α), f (x.lay p key) = f x → (l.set i (x.lay p key)).map f = l.map f := by
    intro α f hfx
    apply List.ext_getElem?
    intro j
    rw [List.getElem?_map, List.getElem?_map, List.getElem?_set]
    split
    · subst_vars
      rw [hx]
      simp [hi, hfx]
    · rfl
  have hcell : (x.lay p key).cell = x.cell := by unfold HTab.cell HTab.lay Tab.lay; simp
  refine ⟨⟨hf.cell h.made (hA _ h.own), hf.cell h.mem (hA _ h.own), ?_, ?_, ?_, ?_, h.own, by simpa using h.few, h.AH⟩, hf.mono (fun k _ hk => hk ▸ hH)⟩
  · obtain ⟨lv, tv, a, c, ht⟩ := h.list
    refine ⟨lv, tv, hf.cell a (hA _ h.own), hf.cell c (hA _ h.own), ?_⟩
    rcases ht with ⟨rfl, _⟩ | ⟨gl, cl, gt, ct, rfl, rfl, h1, h3, h4, h5⟩
    · simp at hi
    · refine .inr ⟨gl, cl, gt, ct, by simp, by simp, ?_, ?_, h4, h5⟩
      · rw [hmap (fun y => y.t.d) rfl]
        exact hf.cells h1 (hA _ h4)
      · rw [hmap HTab.cell hcell]
        exact hf.cells h3 (hA _ h5)
  · intro y hy
    rcases hmem y hy with rfl | ⟨j, hj, _, rfl⟩
    · exact Tab.lay_ok (h.ok x hxm) h2 hk
    · exact h.ok _ (List.getElem_mem hj)
  · intro y hy hy2
    rcases hmem y hy with rfl | ⟨j, hj, hne, rfl⟩
    · refine ⟨⟨fun q v hq => ?_, fun q hq => ?_, by simpa [HTab.lay, Tab.lay] using hh.cap⟩, hH⟩
      · rw [Nat.zero_add]
        show (w.setCell ⟨x.h, p, none⟩ (.string ⟨key.toArray⟩)).cell? ⟨x.h, q, none⟩ = some v
        rw [strs_get] at hq
        simp only [HTab.lay, Tab.lay, List.getElem?_set] at hq
        by_cases hpq : p = q
        · subst hpq
          simp [hp] at hq
          subst hq
          exact World.cell?_setCell_same _ _ _ (by rw [hold])
        · rw [if_neg hpq] at hq
          rw [World.cell?_setCell_other _ _ _ _ (by simp <;> omega)]
          have := hh.keys q v (by rw [strs_get]; exact hq)
          rwa [Nat.zero_add] at this
      · rw [World.frozen?_setCell]
        exact hh.opened q (by simpa [HTab.lay, Tab.lay] using hq)
    · obtain ⟨g1, g2⟩ := h.here _ (List.getElem_mem hj) hy2
      refine ⟨g1.fr hf (fun e => ?_) (by have := (h.ok _ (List.getElem_mem hj)).bounds; omega), g2⟩
      have hpw := List.pairwise_iff_getElem.1 h.apart
      rcases Nat.lt_or_gt_of_ne hne with hlt | hlt
      · exact hpw j i hj hi hlt hy2 (by rw [hxe]; exact h2) (by rw [hxe, e])
      · exact hpw i j hi hj hlt (by rw [hxe]; exact h2) hy2 (by rw [hxe, e])
  · rw [List.pairwise_iff_getElem]
    intro a c ha hc hac hka hkc
    have hpw := List.pairwise_iff_getElem.1 h.apart a c (by simpa using ha) (by simpa using hc) hac
    have same : ∀ n (hn : n < (l.set i (x.lay p key)).length), (l.set i (x.lay p key))[n].h = (l[n]'(by simpa using hn)).h ∧ (l.set i (x.lay p key))[n].t.d = (l[n]'(by simpa using hn)).t.d := fun n hn => by
      rw [List.getElem_set]
      split
      · subst_vars; exact ⟨rfl, rfl⟩
      · exact ⟨rfl, rfl⟩
    rw [(same a ha).2] at hka
    rw [(same c hc).2] at hkc
    rw [(same a ha).1, (same c hc).1]
    exact hpw hka hkc

end Go.Proofs.Ytlinnhaodkiolaa
