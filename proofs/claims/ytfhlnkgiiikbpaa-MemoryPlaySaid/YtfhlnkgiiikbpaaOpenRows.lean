/- Arguments that are slices of structs, opened: their elements as a list. -/
import Derived.Test.YtfhlnkgiiikbpaaAct7
import Derived.Test.YtfhlnkgiiikbpaaPlay2
import Derived.Deep.Slices
namespace Go.Proofs.Ytfhlnkgiiikbpaa
open Go.ChangeShapes Go.WideShapes Go.ChangeAt Go.RowKit Go.Deep

theorem rows_open {w : World} {a : Addr} {α : Type} (size : Nat) (cells : α → List Value) (P : α → Prop) (hcl : ∀ x, (cells x).length = size) : ∀ (len : Nat) (_ : ∀ i, i < len → ∃ x, P x ∧ ∀ c v, (cells x)[c]? = some v → w.cell? (a.add (i * size + c)) = some v),
    ∃ l : List α, l.length = len ∧ (∀ x ∈ l, P x) ∧ ∀ j v, (l.flatMap cells)[j]? = some v → w.cell? (a.add j) = some v
  | 0, _ => ⟨[], rfl, by simp, by simp⟩
  | len + 1, h => by
    obtain ⟨l, hl, hp, hc⟩ := rows_open size cells P hcl len (fun i hi => h i (by omega))
    obtain ⟨x, hx, hxc⟩ := h len (by omega)
    have hfl : (l.flatMap cells).length = len * size := by
      rw [← hl]
      clear hc hp hl
      induction l with
      | nil => simp
      | cons y l ih => rw [List.flatMap_cons, List.length_append, ih, hcl, List.length_cons, Nat.succ_mul]; omega
    refine ⟨l ++ [x], by simp [hl], fun y hy => ?_, fun j v hj => ?_⟩
    · rcases List.mem_append.1 hy with hy | hy
      · exact hp y hy
      · rw [List.mem_singleton.1 hy]; exact hx
    · rw [List.flatMap_append] at hj
      simp only [List.flatMap_cons, List.flatMap_nil, List.append_nil] at hj
      by_cases hlt : j < len * size
      · rw [List.getElem?_append_left (by rw [hfl]; exact hlt)] at hj
        exact hc j v hj
      · rw [List.getElem?_append_right (by rw [hfl]; omega), hfl] at hj
        have := hxc _ v hj
        rwa [show len * size + (j - len * size) = j by omega] at this

theorem srcAt_regs {w : World} {v : Value} {rs : List Reg} (h : SrcAt w v rs.length (aflat rs)) (ht : ∀ r ∈ rs, r.typed) : RegsAt w v rs := by
  rcases h with ⟨h0, _, rfl⟩ | ⟨ad, c, rfl, hc⟩
  · exact ⟨ht, .inl ⟨List.eq_nil_of_length_eq_zero h0, _, _, rfl⟩⟩
  · rcases Nat.eq_zero_or_pos rs.length with h0 | h0
    · rw [h0]
      exact ⟨ht, .inl ⟨List.eq_nil_of_length_eq_zero h0, _, _, rfl⟩⟩
    · have h00 : (aflat rs)[0]? = some (rs[0].cells[0]'(by simp [Reg.cells])) := by
        have := aflat_get rs 0 0 h0 (by omega)
        simpa using this
      obtain ⟨b, off, spot⟩ := ad
      have hspot : spot = none := by simpa [Addr.add] using World.cell?_spot (hc 0 _ h00)
      subst hspot
      exact ⟨ht, .inr ⟨b, off, c, rfl, fun j u hj => by rw [← addr_add]; exact hc j u hj⟩⟩

theorem Try.cells_areg : Try.prog.cellsOf 26 = 3 := by kernel_rfl
theorem Try.cells_str : Try.prog.cellsOf 9 = 1 := by kernel_rfl
theorem Try.cells_bool : Try.prog.cellsOf 4 = 1 := by kernel_rfl

theorem slice_cells {w : World} {r : Reach} {b : Nat} {v : Value} {t e : TypeId} (ht : Try.prog.underlying t = some (.slice e)) (h : Value.okWide Try.prog w r b t v) : v.cells.toList = [v] := by
  obtain ⟨a, n, c, rfl⟩ := okWide_slice ht h
  rfl

theorem open_regs {H : Type} {enc : TypeId × Value → H} {base : Nat} {spare : Nat → Bool} {held : Bool} {w : World} {v : Value} {d : DataW H} {p : List MemPlace}
    (hv1 : v.cells.toList = [v]) (h : DataW.Trod enc Try.prog w base spare held 31 v d p) :
    ∃ rs : List Reg, SrcAt w v rs.length (aflat rs) ∧ (∀ r ∈ rs, r.typed) ∧ rs.length ≤ maxLen := by
  obtain ⟨fuel, hf⟩ := h
  rw [hv1] at hf
  rcases open_slice Try.underlying31 hf with ⟨h0, _⟩ | ⟨a, len, cap, m, n, D, Pl, h0, hb, hl, hm, hmm, hx, hi⟩
  · simp at h0
    subst h0
    exact ⟨[], .inl ⟨rfl, rfl, rfl⟩, by simp, by simp⟩
  · simp at h0
    subst h0
    have hlm : len ≤ m := by rw [hmm]; split <;> omega
    obtain ⟨l, h1, h2, h3⟩ := rows_open (w := w) (a := a) 3 Reg.cells Reg.typed (fun x => rfl) len (fun i hil => by
      obtain ⟨cs', hc, ht⟩ := hi i (by omega)
      rw [Try.cells_areg] at hc
      obtain ⟨_, hcl, hat⟩ := World.cells?_some hc
      obtain ⟨c0, c1, c2, rfl⟩ : ∃ a b c, cs' = [a, b, c] := by
        match cs', hcl with
        | [a, b, c], _ => exact ⟨a, b, c, rfl⟩
      obtain ⟨xs, m', _, hx', hl', hn', hall⟩ := DataW.trod_struct Try.underlying26 ht
      have h0 := hall 0 _ rfl
      have h1 := hall 1 _ rfl
      have h2 := hall 2 _ rfl
      simp only [List.getElem_toArray, List.getElem_cons_zero, List.getElem_cons_succ, Try.cells_str, Try.cells_u64, Try.cells_bool, Value.cells, List.drop_zero, List.take_succ_cons, List.take_zero, List.drop_succ_cons] at h0 h1 h2
      have hn3 : xs.length = 3 := hn'
      have e0 : xs[0]? = some xs[0] := List.getElem?_eq_getElem (by omega)
      have e1 : xs[1]? = some xs[1] := List.getElem?_eq_getElem (by omega)
      have e2 : xs[2]? = some xs[2] := List.getElem?_eq_getElem (by omega)
      rw [e0] at h0
      rw [e1] at h1
      rw [e2] at h2
      obtain ⟨x0, ea, _, wa⟩ := DataW.trod_int Try.underlying23 h0
      obtain ⟨s, eb, _, ws⟩ := DataW.trod_string Try.underlying9 h1
      obtain ⟨f, ec, _⟩ := DataW.trod_bool Try.underlying4 h2
      have ba := bounds_u64 wa
      simp at ea eb ec
      subst ea eb ec
      have hs0 : s = ⟨s.data.toList.toArray⟩ := by apply ByteArray.ext; simp
      refine ⟨⟨x0, s.data.toList, f⟩, ⟨ba.1, ba.2, by show s.data.toList.length ≤ _; have : s.data.toList.length = s.size := Array.length_toList; unfold maxLen at ws; omega⟩, fun c u hcu => ?_⟩
      have hcc := hat c (by have := (List.getElem?_eq_some_iff.1 hcu).1; simpa [Reg.cells] using this)
      rw [Deep.add_add] at hcc
      rw [hcc, ← hcu]
      simp [Reg.cells, ← hs0])
    exact ⟨l, .inr ⟨a, cap, by rw [h1], h3⟩, h2, by rw [h1]; omega⟩

theorem open_acts {H : Type} {enc : TypeId × Value → H} {base : Nat} {spare : Nat → Bool} {held : Bool} {w : World} {v : Value} {d : DataW H} {p : List MemPlace}
    (hv1 : v.cells.toList = [v]) (h : DataW.Trod enc Try.prog w base spare held 49 v d p) :
    ∃ (l : List ActD) (ad : Option Addr) (c ga oa : Nat), v = .slice ad l.length c ∧ (0 < l.length → ad = some ⟨ga, oa, none⟩ ∧ CellsAt w ga oa (actflat l)) ∧ ∀ x ∈ l, x.ok := by
  obtain ⟨fuel, hf⟩ := h
  rw [hv1] at hf
  rcases open_slice Try.underlying49 hf with ⟨h0, _⟩ | ⟨a, len, cap, m, n, D, Pl, h0, hb, hl, hm, hmm, hx, hi⟩
  · simp at h0
    subst h0
    exact ⟨[], none, 0, 0, 0, rfl, by simp, by simp⟩
  · simp at h0
    subst h0
    have hlm : len ≤ m := by rw [hmm]; split <;> omega
    obtain ⟨l, h1, h2, h3⟩ := rows_open (w := w) (a := a) 4 ActD.cells ActD.ok (fun x => rfl) len (fun i hil => by
      obtain ⟨cs', hc, ht⟩ := hi i (by omega)
      rw [Try.cells_act] at hc
      obtain ⟨_, hcl, hat⟩ := World.cells?_some hc
      obtain ⟨c0, c1, c2, c3, rfl⟩ : ∃ a b c d, cs' = [a, b, c, d] := by
        match cs', hcl with
        | [a, b, c, d], _ => exact ⟨a, b, c, d, rfl⟩
      obtain ⟨xs, m', _, hx', hl', hn', hall⟩ := DataW.trod_struct Try.underlying44 ht
      have h0 := hall 0 _ rfl
      have h1 := hall 1 _ rfl
      have h2 := hall 2 _ rfl
      have h3 := hall 3 _ rfl
      simp only [List.getElem_toArray, List.getElem_cons_zero, List.getElem_cons_succ, Try.cells_u8, Try.cells_u64, Try.cells_int, Value.cells, List.drop_zero, List.take_succ_cons, List.take_zero, List.drop_succ_cons] at h0 h1 h2 h3
      have hn4 : xs.length = 4 := hn'
      have e0 : xs[0]? = some xs[0] := List.getElem?_eq_getElem (by omega)
      have e1 : xs[1]? = some xs[1] := List.getElem?_eq_getElem (by omega)
      have e2 : xs[2]? = some xs[2] := List.getElem?_eq_getElem (by omega)
      have e3 : xs[3]? = some xs[3] := List.getElem?_eq_getElem (by omega)
      rw [e0] at h0
      rw [e1] at h1
      rw [e2] at h2
      rw [e3] at h3
      obtain ⟨x0, ea, _, wa⟩ := DataW.trod_int Try.underlying5 h0
      obtain ⟨x1, eb, _, wb⟩ := DataW.trod_int Try.underlying23 h1
      obtain ⟨x2, ec, _, wc⟩ := DataW.trod_int Try.underlying23 h2
      obtain ⟨x3, ed, _, wd⟩ := DataW.trod_int Try.underlying3 h3
      have ba := bounds_u8 wa
      have bb := bounds_u64 wb
      have bc := bounds_u64 wc
      have bd := bounds_i64 wd
      simp at ea eb ec ed
      subst ea eb ec ed
      obtain ⟨x0, rfl⟩ := Int.eq_ofNat_of_zero_le (show 0 ≤ x0 by omega)
      obtain ⟨x1, rfl⟩ := Int.eq_ofNat_of_zero_le (show 0 ≤ x1 by omega)
      obtain ⟨x2, rfl⟩ := Int.eq_ofNat_of_zero_le (show 0 ≤ x2 by omega)
      refine ⟨⟨x0, x1, x2, x3⟩, ⟨by show x0 < _; omega, by show x1 < _; omega, by show x2 < _; omega, by show _ ≤ x3; omega, by show x3 ≤ _; omega⟩, fun c u hcu => ?_⟩
      have hcc := hat c (by have := (List.getElem?_eq_some_iff.1 hcu).1; simpa [ActD.cells] using this)
      rw [Deep.add_add] at hcc
      rw [hcc, ← hcu]
      rfl)
    rcases Nat.eq_zero_or_pos len with h0 | h0
    · subst h0
      exact ⟨l, some a, cap, 0, 0, by rw [h1], fun h => by omega, h2⟩
    · have h00 : (actflat l)[0]? = some (l[0].cells[0]'(by simp [ActD.cells])) := by
        have := actflat_get l 0 0 (by omega) (by omega)
        simpa using this
      obtain ⟨b, off, spot⟩ := a
      have hspot : spot = none := by simpa [Addr.add] using World.cell?_spot (h3 0 _ h00)
      subst hspot
      exact ⟨l, _, cap, b, off, by rw [h1], fun _ => ⟨rfl, fun j u hj => by rw [← addr_add]; exact h3 j u hj⟩, h2⟩

end Go.Proofs.Ytfhlnkgiiikbpaa
