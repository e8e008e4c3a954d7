/- memory: Read, Text, Write at any memory. -/
import Derived.Test.YtlinnhaodkiolaaMem4
namespace Go.Proofs.Ytlinnhaodkiolaa
open Go.RowKit

theorem Reg.cut_length {r : Reg} {addr n : Int} (h : r.has addr n = true) (hn : 0 ≤ n) : (r.cut addr n).length = n.toNat := by
  have := (Reg.has_iff _ _ _).1 h
  simp only [Reg.cut, List.length_take, List.length_drop]
  omega

theorem Reg.cut_at {w : World} {x : HReg} (h : x.here w) (addr n : Int) : CellsAt w x.g (addr - x.r.base).toNat (u8s (x.r.cut addr n)) := by
  intro j v hj
  simp only [u8s, Reg.cut, List.getElem?_map, Option.map_eq_some_iff] at hj
  obtain ⟨c, hc, rfl⟩ := hj
  rw [List.getElem?_take] at hc
  split at hc
  · rw [List.getElem?_drop] at hc
    have := h.bytes ((addr - x.r.base).toNat + j) (.int .u8 (c.toNat : Int)) (by simp [u8s, hc])
    rwa [Nat.zero_add] at this
  · cases hc

theorem mtext_some {m : List Reg} {addr n : Int} {i : Nat} (h1 : 1 ≤ n) (h : spot m addr n = some i) {r : Reg} (hr : m[i]? = some r) : mtext m addr n = (r.cut addr n, 0) := by
  unfold mtext
  rw [if_neg (by omega), if_neg (by omega), h]
  simp [hr]

theorem mtext_none {m : List Reg} {addr n : Int} (h1 : 1 ≤ n) (h : spot m addr n = none) : mtext m addr n = ([], 70) := by
  unfold mtext
  rw [if_neg (by omega), if_neg (by omega), h]

/-- what a call of 'number' came to, handed on -/
theorem number_cases {S : Nat → Prop} {w : World} {b : Nat} {v : Value} {l : List HReg} (h : MemL w b v l S) (addr n : Int) (ha : 0 ≤ addr) (h64 : addr ≤ 18446744073709551615) :
    (sizeOk n = false ∧ Calls Try.prog 41 #[.pointer (some ⟨b, 0, none⟩), .int .u64 addr, .int .i64 n] w fun e w' => e = .returned (.tuple #[.slice none 0 0, .bool false, .int .i64 2]) ∧ Fr No w w') ∨
    (sizeOk n = true ∧ spot (l.map (·.r)) addr n = none ∧ Calls Try.prog 41 #[.pointer (some ⟨b, 0, none⟩), .int .u64 addr, .int .i64 n] w fun e w' => e = .returned (.tuple #[.slice none 0 0, .bool false, .int .i64 70]) ∧ Fr No w w') ∨
    (sizeOk n = true ∧ ∃ i x, spot (l.map (·.r)) addr n = some i ∧ l[i]? = some x ∧ x.r.has addr n = true ∧
      Calls Try.prog 41 #[.pointer (some ⟨b, 0, none⟩), .int .u64 addr, .int .i64 n] w fun e w' => e = .returned (.tuple #[.slice (some ⟨x.g, (addr - x.r.base).toNat, none⟩) n.toNat n.toNat, .bool x.r.free, .int .i64 0]) ∧ Fr No w w') := by
  have hnum := number_any h addr n ha h64
  by_cases hs : sizeOk n = true
  · cases hsp : spot (l.map (·.r)) addr n with
    | none =>
      refine .inr (.inl ⟨hs, rfl, hnum.mono ?_⟩)
      rintro e w' ⟨hp, hf⟩
      unfold NumPost at hp
      rw [if_pos hs, hsp] at hp
      exact ⟨hp, hf⟩
    | some i =>
      have hi : i < l.length := by simpa using spot_lt hsp
      have hh := spot_has hsp
      simp only [List.getElem_map] at hh
      refine .inr (.inr ⟨hs, i, l[i], rfl, List.getElem?_eq_getElem hi, hh, hnum.mono ?_⟩)
      rintro e w' ⟨hp, hf⟩
      unfold NumPost at hp
      rw [if_pos hs, hsp] at hp
      obtain ⟨x, hx, rfl⟩ := hp
      rw [List.getElem?_eq_getElem hi] at hx
      obtain rfl := Option.some.inj hx
      exact ⟨rfl, hf⟩
  · refine .inl ⟨by simpa using hs, hnum.mono ?_⟩
    rintro e w' ⟨hp, hf⟩
    unfold NumPost at hp
    rw [if_neg hs] at hp
    exact ⟨hp, hf⟩

theorem text_any {S : Nat → Prop} {w : World} {b : Nat} {m : List Reg} (h : MemAt w b m S) (addr n : Int) (ha : 0 ≤ addr) (h64 : addr ≤ 18446744073709551615) (h63 : n ≤ 9223372036854775807) :
    Calls Try.prog 13 #[.pointer (some ⟨b, 0, none⟩), .int .u64 addr, .int .i64 n] w fun e w' =>
      e = .returned (.tuple #[.string ⟨(mtext m addr n).1.toArray⟩, .int .i64 (mtext m addr n).2]) ∧ Fr No w w' := by
  obtain ⟨v, l, rfl, h⟩ := h
  by_cases h1 : n < 0
  · refine (text_neg b addr n w h.made h1).mono ?_
    rintro e w' ⟨rfl, rfl⟩
    exact ⟨by simp [mtext, h1], Fr.refl _ _⟩
  by_cases h0 : n = 0
  · subst h0
    refine (text_zero b addr w h.made).mono ?_
    rintro e w' ⟨rfl, rfl⟩
    exact ⟨by simp [mtext], Fr.refl _ _⟩
  have hat := at_any h addr n ha h64 (by omega) h63
  cases hsp : spot (l.map (·.r)) addr n with
  | none =>
    refine (text_off b addr n w h.made (by omega) (hat.mono ?_)).mono ?_
    · rintro e w' ⟨hp, hf⟩
      unfold AtPost at hp
      rw [hsp] at hp
      exact ⟨hp, hf⟩
    · rintro e w' ⟨rfl, hf⟩
      exact ⟨by rw [mtext_none (by omega) hsp], hf⟩
  | some i =>
    have hi : i < l.length := by simpa using spot_lt hsp
    have hh := spot_has hsp
    simp only [List.getElem_map] at hh
    have hhere := h.here l[i] (List.getElem_mem hi)
    refine (text_at b l[i].g (addr - l[i].r.base).toNat n.toNat l[i].r.free addr n (l[i].r.cut addr n) w h.made (by omega) (Reg.cut_length hh (by omega)) (Reg.cut_at hhere addr n) (hat.mono ?_)).mono ?_
    · rintro e w' ⟨hp, hf⟩
      unfold AtPost at hp
      rw [hsp] at hp
      obtain ⟨x, hx, rfl⟩ := hp
      rw [List.getElem?_eq_getElem hi] at hx
      obtain rfl := Option.some.inj hx
      exact ⟨rfl, hf⟩
    · rintro e w' ⟨rfl, hf⟩
      exact ⟨by rw [mtext_some (m := l.map (·.r)) (by omega) hsp (r := l[i].r) (by simp [hi])], hf⟩

theorem write_any {S : Nat → Prop} {w : World} {b : Nat} {m : List Reg} (h : MemAt w b m S) (addr n : Int) (v : Nat) (ha : 0 ≤ addr) (h64 : addr ≤ 18446744073709551615) (hv : v < 2 ^ 64) :
    Calls Try.prog 26 #[.pointer (some ⟨b, 0, none⟩), .int .u64 addr, .int .i64 n, .int .u64 v] w fun e w' =>
      e = .returned (.int .i64 (mwrite m addr n v).2) ∧ Fr S w w' ∧ MemAt w' b (mwrite m addr n v).1 S := by
  obtain ⟨val, l, rfl, h⟩ := h
  have keep : ∀ w', Fr No w w' → Fr S w w' ∧ MemAt w' b (l.map (·.r)) S := fun w' hf => ⟨hf.mono (fun _ _ h => h.elim), val, l, rfl, h.fr hf (fun _ _ => id)⟩
  rcases number_cases h addr n ha h64 with ⟨hs, hc⟩ | ⟨hs, hsp, hc⟩ | ⟨hs, i, x, hsp, hx, hh, hc⟩
  · refine (write_err _ addr n v 2 false w (by decide) hc).mono ?_
    rintro e w' ⟨rfl, hf⟩
    have e1 : mwrite (l.map (·.r)) addr n v = (l.map (·.r), 2) := by simp [mwrite, hs]
    rw [e1]
    exact ⟨rfl, keep w' hf⟩
  · have hn := (sizeOk_iff n).1 hs
    refine (write_err _ addr n v 70 false w (by decide) hc).mono ?_
    rintro e w' ⟨rfl, hf⟩
    have e1 : mwrite (l.map (·.r)) addr n v = (l.map (·.r), 70) := by simp [mwrite, hs, hsp]
    rw [e1]
    exact ⟨rfl, keep w' hf⟩
  · have hn := (sizeOk_iff n).1 hs
    have hxm : x ∈ l := List.mem_of_getElem? hx
    cases hfree : x.r.free with
    | false =>
      rw [hfree] at hc
      refine (write_right _ addr n v _ _ _ w hc).mono ?_
      rintro e w' ⟨rfl, hf⟩
      have e1 : mwrite (l.map (·.r)) addr n v = (l.map (·.r), 71) := by simp [mwrite, hs, hsp, hx, hfree]
      rw [e1]
      exact ⟨rfl, keep w' hf⟩
    | true =>
      rw [hfree] at hc
      obtain ⟨k, rfl⟩ := Int.eq_ofNat_of_zero_le (show 0 ≤ n by omega)
      have hb := (Reg.has_iff _ _ _).1 hh
      have hhere := h.here x hxm
      have hfk : (addr - x.r.base).toNat + k ≤ x.r.data.length := by omega
      have hg : x.g < w.heap.size := World.block_lt_of_cell? w ⟨x.g, 0 + 0, none⟩ (hhere.bytes 0 _ (List.getElem?_eq_getElem (by simpa using (h.wf.ok x.r (List.mem_map_of_mem hxm)).some)))
      refine (write_ok _ addr v x.g (addr - x.r.base).toNat k w hv (by omega) hg (fun j hj => ?_) (fun j hj => ?_) hc).mono ?_
      · have := hhere.bytes ((addr - x.r.base).toNat + j) _ (List.getElem?_eq_getElem (by simp; omega))
        rw [Nat.zero_add] at this
        rw [this]; rfl
      · have := hhere.opened ((addr - x.r.base).toNat + j) (by omega)
        rwa [Nat.zero_add] at this
      · rintro e w' ⟨rfl, w1, hf, rfl⟩
        have e1 : mwrite (l.map (·.r)) addr k v = ((l.map (·.r)).modify i (·.put addr (leBytes k v)), 0) := by
          simp [mwrite, hs, hsp, hx, hfree, mput]
        rw [e1]
        have h1 := h.fr hf (fun _ _ => id)
        refine ⟨rfl, (hf.mono (fun _ _ h => h.elim)).setCells (.inr (h.inS x hxm)) _ _, val, l.set i (x.lay (addr - x.r.base).toNat (leBytes k v)), ?_, h1.put i x hx _ _ (by simpa using hfk)⟩
        obtain ⟨hi, hxe⟩ := List.getElem?_eq_some_iff.1 hx
        apply List.ext_getElem?
        intro j
        rw [List.map_set, List.getElem?_set, List.getElem?_modify]
        split
        · rename_i hij; subst hij
          simp [hi, hxe, HReg.lay, Reg.put]
        · simp

end Go.Proofs.Ytlinnhaodkiolaa
