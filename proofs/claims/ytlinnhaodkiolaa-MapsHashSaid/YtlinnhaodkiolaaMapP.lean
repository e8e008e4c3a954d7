/- maps: Entries at any maps. -/
import Derived.Test.YtlinnhaodkiolaaMapO
namespace Go.Proofs.Ytlinnhaodkiolaa
open Go.RowKit

def bpair (x : List UInt8 × List UInt8) : ByteArray × ByteArray := (⟨x.1.toArray⟩, ⟨x.2.toArray⟩)

/-- entries stand at a slice's value -/
def EntsAt (w : World) (v : Value) (l : List (List UInt8 × List UInt8)) : Prop :=
  (l = [] ∧ ∃ a c, v = .slice a 0 c) ∨ ∃ g off cap, v = .slice (some ⟨g, off, none⟩) l.length cap ∧ CellsAt w g off (eflat (l.map bpair))

theorem EntsAt.fr {w w' : World} {v : Value} {l : List (List UInt8 × List UInt8)} (h : EntsAt w v l) (hf : Fr No w w') : EntsAt w' v l := by
  rcases h with h | ⟨g, off, cap, rfl, hc⟩
  · exact .inl h
  · exact .inr ⟨g, off, cap, rfl, hf.cells hc id⟩

theorem EntsAt.form {w : World} {v : Value} {l : List (List UInt8 × List UInt8)} (h : EntsAt w v l) : ∃ a c, v = .slice a l.length c := by
  rcases h with ⟨rfl, a, c, rfl⟩ | ⟨g, off, cap, rfl, hc⟩
  · exact ⟨a, c, rfl⟩
  · exact ⟨_, _, rfl⟩

theorem EInv.ents {w w' : World} {l : List (List UInt8 × List UInt8)} {v : Value} (h : EInv w (l.map bpair) v w') : EntsAt w' v l ∧ Fr No w w' := by
  refine ⟨?_, h.g.fr⟩
  rcases h.g.cells with ⟨h0, _, a, c, rfl⟩ | ⟨g, cap, rfl, hc, _⟩
  · rw [List.length_map] at h0
    exact .inl ⟨List.eq_nil_of_length_eq_zero h0, a, c, rfl⟩
  · exact .inr ⟨g, 0, cap, by simp, hc⟩

theorem filterMap_like {α β : Type} (f g : α → Option β) : ∀ (l : List α), (∀ x ∈ l, f x = g x) → l.filterMap f = l.filterMap g
  | [], _ => rfl
  | x :: l, h => by
    rw [List.filterMap_cons, List.filterMap_cons, h x (by simp), filterMap_like f g l (fun y hy => h y (by simp [hy]))]

theorem told_entries (m : List Reg) (i : Nat) (t : Tab) (n : Nat) (hn : n ≤ t.ks.length) :
    toldTo (fun p => decide (t.ks.getD p [] ≠ [])) (fun p => ⟨(t.ks.getD p []).toArray⟩) (fun p => ⟨(mtext m (mplace i p t) t.d.value).1.toArray⟩) n = (mentriesTo m i t n).map bpair := by
  unfold toldTo mentriesTo
  rw [List.map_filterMap]
  refine filterMap_like _ _ _ fun p hp => ?_
  have hp' : p < t.ks.length := by have := List.mem_range.1 hp; omega
  have hg : t.ks[p]? = some t.ks[p] := List.getElem?_eq_getElem hp'
  simp only [List.getD_eq_getElem?_getD, hg, Option.getD_some]
  by_cases hk : t.ks[p] = [] <;> simp [hk, bpair]

/-- a table's value and what its key comes to -/
theorem HTab.key_face {w : World} {x : HTab} (ok : x.t.ok) (hh : x.t.d.kind = 2 → ∀ W, Fr No w W → x.here W) :
    ∃ T v f, x.cell = .iface T v ∧ Face T v "firewall/maps.key" f ∧ ∀ p, p < x.t.ks.length → ∀ W, Fr No w W → Calls Try.prog f #[v, .int .i64 p] W fun e w' => e = .returned (.tuple #[.string ⟨(x.t.ks.getD p []).toArray⟩, .bool (decide (x.t.ks.getD p [] ≠ []))]) ∧ Fr No W w' := by
  have hb := ok.bounds
  rcases ok.kinds with h1 | h2
  · refine ⟨_, _, _, by unfold HTab.cell; rw [if_pos h1], face_akey _, fun p hp W _ => (akey_any _ p W (by omega)).mono ?_⟩
    rintro e w' ⟨rfl, hf⟩
    refine ⟨?_, hf⟩
    have hk : x.t.ks.getD p [] = leBytes 4 p := by
      rw [ok.arr h1]
      simp [List.getD_eq_getElem?_getD, arrKeys, hp]
    have hne : leBytes 4 p ≠ [] := fun e => by have := leBytes_length 4 p; rw [e] at this; cases this
    rw [hk]
    simp [hne]
  · refine ⟨_, _, _, by unfold HTab.cell; rw [if_neg (by omega)], face_hkey _ _ _, fun p hp W hW => ?_⟩
    have hg : x.t.ks[p]? = some (x.t.ks.getD p []) := by
      rw [List.getElem?_eq_getElem hp]
      simp [List.getD_eq_getElem?_getD, hp]
    exact hkey_any (hh h2 W hW) (by omega) p _ hg

theorem entries_any {A H T : Nat → Prop} {w : World} {b mb : Nat} {S : List Tab} {m : List Reg} (h : MapsAt w b mb S A H) (hm : MemAt w mb m T) (i : Int) :
    Calls Try.prog 14 #[.pointer (some ⟨b, 0, none⟩), .int .i64 i] w fun e w' => ∃ u, e = .returned u ∧ EntsAt w' u (mentries S m i) ∧ Fr No w w' := by
  have hmaps := h
  obtain ⟨l, hS, h⟩ := h
  have hfew := h.few
  unfold mentries
  by_cases h0 : i < 0
  · rw [if_neg (by omega)]
    exact (entries_lo b i w h0).mono fun e w' ⟨he, hw⟩ => ⟨_, he, .inl ⟨rfl, _, _, rfl⟩, hw ▸ Fr.refl _ _⟩
  · obtain ⟨k, rfl⟩ := Int.eq_ofNat_of_zero_le (show 0 ≤ i by omega)
    rw [if_pos (by omega), Int.toNat_natCast]
    by_cases h1 : k < l.length
    · have hx : l[k]? = some l[k] := List.getElem?_eq_getElem h1
      generalize l[k] = x at hx
      have hxm := List.mem_of_getElem? hx
      have ok := h.ok x hxm
      have hb := ok.bounds
      have hlen := ok.len
      obtain ⟨gl, cl, gt, ct, c1, c2, hi, _, _, d0, d1, d2, d3, d4⟩ := h.at hx
      have hSk : S[k]? = some x.t := by rw [← hS, List.getElem?_map, hx]; rfl
      rw [hSk]
      obtain ⟨TT, v, f, hcell, face, hf⟩ := HTab.key_face (w := w) ok (fun h2 W hW => (h.here x hxm h2).1.fr hW id (by omega))
      rw [hcell] at d4
      rw [← hlen] at d3
      refine (entries_walk b mb k l.length cl ct gl gt x.t.ks.length x.t.d.value TT v f (fun p => decide (x.t.ks.getD p [] ≠ [])) (fun p => ⟨(x.t.ks.getD p []).toArray⟩) (fun p => ⟨(mtext m (mplace k p x.t) x.t.d.value).1.toArray⟩) (fun p => mplace k p x.t) (fun p => (mtext m (mplace k p x.t) x.t.d.value).2) w hi hfew (by omega)
        c1 c2 h.mem d2 d3 d4 face hf (fun p hp W hW => mvalue_any (hmaps.no hW) hSk hp) (fun p hp W hW => ?_)).mono ?_
      · have hpb := mplace_bounds (i := k) ok hp (by omega)
        exact text_any (hm.fr hW (fun _ _ => id)) _ _ (by omega) (by omega) (by omega)
      · rintro e w' ⟨u, rfl, hE⟩
        have hE' := hE.out
        rw [told_entries m k x.t x.t.ks.length (Nat.le_refl _)] at hE'
        obtain ⟨a, c⟩ := hE'.ents
        exact ⟨u, rfl, a, c⟩
    · have hSk : S[k]? = none := by rw [← hS, List.getElem?_map, List.getElem?_eq_none (by omega)]; rfl
      rw [hSk]
      obtain ⟨a, c, c1⟩ := h.len
      exact (entries_hi _ k l.length w (by omega) (mlen_any b _ _ _ w c1)).mono fun e w' ⟨he, hw⟩ => ⟨_, he, .inl ⟨rfl, _, _, rfl⟩, hw ▸ Fr.refl _ _⟩

end Go.Proofs.Ytlinnhaodkiolaa
