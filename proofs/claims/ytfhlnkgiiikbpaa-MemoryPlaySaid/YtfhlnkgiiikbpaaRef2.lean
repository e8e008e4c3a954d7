/- firewallref07: Text, Read, Put, Write, Copy's answers. -/
import Derived.Test.YtfhlnkgiiikbpaaRef1
import Derived.Deep.RegionWith
namespace Go.Proofs.Ytfhlnkgiiikbpaa
open Go.RowKit

theorem reftext_any {S : Nat → Prop} {w : World} {b : Nat} {m : List Reg} (h : RefAt w b m S) (hm : m.length ≤ 1000000) (addr n : Int) (ha : 0 ≤ addr) (h64 : addr ≤ 18446744073709551615) (hn63 : n ≤ 9223372036854775807) :
    Calls Try.prog 22 #[.pointer (some ⟨b, 0, none⟩), .int .u64 addr, .int .i64 n] w fun e w' =>
      e = .returned (.tuple #[.string ⟨(mtext m addr n).1.toArray⟩, .int .i64 (mtext m addr n).2]) ∧ Fr No w w' := by
  by_cases h1 : n < 0
  · refine (reftext_neg _ _ n w h1).mono ?_
    rintro e w' ⟨rfl, hf⟩
    exact ⟨by simp [mtext, h1], hf⟩
  by_cases h0 : n = 0
  · subst h0
    refine (reftext_zero _ _ w).mono ?_
    rintro e w' ⟨rfl, hf⟩
    exact ⟨by simp [mtext], hf⟩
  have hat := refat_any h hm addr n ha h64 (by omega) hn63
  cases hsp : spot m addr n with
  | none =>
    refine (reftext_off _ addr n w (by omega) (hat.mono ?_)).mono ?_
    · rintro e w' ⟨rfl, hf⟩
      rw [spotInt, hsp]
      exact ⟨rfl, hf⟩
    · rintro e w' ⟨rfl, hf⟩
      exact ⟨by rw [mtext_none (by omega) hsp], hf⟩
  | some i =>
    have hi : i < m.length := spot_lt hsp
    have hh := spot_has hsp
    have hr : m[i]? = some m[i] := List.getElem?_eq_getElem hi
    have o := h.wf.ok m[i] (List.getElem_mem hi)
    have hi2 := (Reg.has_iff _ _ _).1 hh
    obtain ⟨v, hc, ⟨rfl, rfl⟩ | ⟨g, cap, rfl, _, hp, hc2, _⟩⟩ := h.list
    · simp at hi
    obtain ⟨c0, c1, _⟩ := areg_cells0 hc2 hr
    refine (reftext_at b g cap m.length i m m[i].base addr n m[i].data m[i].data.length (addr - m[i].base).toNat w rfl hc c0 c1 hi hm rfl o.small (by omega) (by omega) (by omega) (hat.mono ?_)).mono ?_
    · rintro e w' ⟨rfl, hf⟩
      rw [spotInt, hsp]
      exact ⟨rfl, hf⟩
    · rintro e w' ⟨rfl, hf⟩
      exact ⟨by rw [mtext_some (m := m) (by omega) hsp hr]; rfl, hf⟩

set_option maxHeartbeats 400000 in
theorem refread_bad (p addr : Value) (n : Int) (w : World) (h1 : (n != 1) = true) (h2 : (n != 2) = true) (h4 : (n != 4) = true) (h8 : (n != 8) = true) :
    Calls Try.prog 20 #[p, addr, .int .i64 n] w fun e w' => e = .returned (.tuple #[.int .u64 0, .int .i64 2]) ∧ Fr No w w' := by
  go_enter Try.func20, Try.ntmps20
  go_wp2_with fail
  go_ret2
  exact ⟨rfl, Fr.refl _ _⟩

set_option maxHeartbeats 400000 in
theorem refread_ok (p : Value) (addr n err : Int) (bs : List UInt8) (w : World) (hn : n = 1 ∨ n = 2 ∨ n = 4 ∨ n = 8) (hl : bs.length ≤ 8)
    (ht : Calls Try.prog 22 #[p, .int .u64 addr, .int .i64 n] w fun e w' => e = .returned (.tuple #[.string ⟨bs.toArray⟩, .int .i64 err]) ∧ Fr No w w') :
    Calls Try.prog 20 #[p, .int .u64 addr, .int .i64 n] w fun e w' => e = .returned (.tuple #[.int .u64 (leNum bs), .int .i64 err]) ∧ Fr No w w' := by
  have HT := Lib.hid ht
  have hnum : ∀ W, Calls Try.prog 33 #[.string ⟨bs.toArray⟩] W fun e w' => e = .returned (.int .u64 (leNum bs)) ∧ W = w' := fun W => by
    have := refnum_any ⟨bs.toArray⟩ W (by unfold maxLen; simp [ByteArray.size]; omega)
    simpa [List.take_of_length_le hl] using this
  have HM := Lib.hid hnum
  clear ht hnum
  rcases hn with rfl | rfl | rfl | rfl
  all_goals
    go_enter Try.func20, Try.ntmps20
    go_wp2_with (first | (go_at_call 22; (with_reducible refine HT.out.mono ?_); rintro e w1 ⟨rfl, hf⟩) | (go_at_call 33; (with_reducible refine (HM.out _).mono ?_); rintro e w2 ⟨rfl, rfl⟩))
    go_ret2
    exact ⟨rfl, hf⟩

theorem mtext_length {m : List Reg} {addr n : Int} (hn : 0 ≤ n) : ((mtext m addr n).1.length : Int) ≤ n := by
  unfold mtext
  split
  · simp; exact hn
  split
  · simp; exact hn
  split
  · simp; exact hn
  · rename_i i _
    cases hm : m[i]? with
    | none => simpa using hn
    | some r => simp [Reg.cut]; omega

theorem refread_any {S : Nat → Prop} {w : World} {b : Nat} {m : List Reg} (h : RefAt w b m S) (hm : m.length ≤ 1000000) (addr n : Int) (ha : 0 ≤ addr) (h64 : addr ≤ 18446744073709551615) :
    Calls Try.prog 20 #[.pointer (some ⟨b, 0, none⟩), .int .u64 addr, .int .i64 n] w fun e w' =>
      e = .returned (.tuple #[.int .u64 ((mread m addr n).1 : Int), .int .i64 (mread m addr n).2]) ∧ Fr No w w' := by
  by_cases hs : sizeOk n = true
  · have hn := (sizeOk_iff n).1 hs
    have ht := reftext_any h hm addr n ha h64 (by omega)
    have hl := mtext_length (m := m) (addr := addr) (n := n) (by omega)
    refine (refread_ok _ addr n _ _ w hn (by omega) ht).mono ?_
    rintro e w' ⟨rfl, hf⟩
    exact ⟨by simp [mread, hs], hf⟩
  · have hn : ¬ (n = 1 ∨ n = 2 ∨ n = 4 ∨ n = 8) := fun h => hs ((sizeOk_iff n).2 h)
    refine (refread_bad _ _ n w (by rw [bne_iff_ne]; omega) (by rw [bne_iff_ne]; omega) (by rw [bne_iff_ne]; omega) (by rw [bne_iff_ne]; omega)).mono ?_
    rintro e w' ⟨rfl, hf⟩
    exact ⟨by simp [mread, hs], hf⟩

/-! ### writing -/

theorem aflat_put (m : List Reg) (i : Nat) (r : Reg) (d : List UInt8) (hr : m[i]? = some r) : aflat (m.set i { r with data := d }) = (aflat m).set (i * 3 + 1) (.string ⟨d.toArray⟩) := by
  induction m generalizing i with
  | nil => simp at hr
  | cons x m ih =>
    cases i with
    | zero =>
      simp at hr
      subst hr
      simp [aflat, Reg.cells]
    | succ i =>
      have := ih i (by simpa using hr)
      simp only [List.set_cons_succ, aflat, List.flatMap_cons] at this ⊢
      rw [this, show (i + 1) * 3 + 1 = x.cells.length + (i * 3 + 1) by simp [Reg.cells]; omega, List.set_append_right _ _ (by omega), Nat.add_sub_cancel_left]

theorem CellsAt.setOne {w : World} {g : Nat} {vs : List Value} (h : CellsAt w g 0 vs) (j : Nat) (v : Value) (hj : j < vs.length) : CellsAt (w.setCell ⟨g, j, none⟩ v) g 0 (vs.set j v) := by
  intro t u ht
  rw [Nat.zero_add]
  rw [List.getElem?_set] at ht
  split at ht
  · rename_i e
    subst e
    have := h j _ (List.getElem?_eq_getElem hj)
    rw [Nat.zero_add] at this
    rw [World.cell?_setCell_same _ _ _ (by rw [this]; try rfl)]
    exact ht
  · rename_i e
    rw [World.cell?_setCell_other _ _ _ _ (by simp; try omega)]
    have := h t u ht
    rwa [Nat.zero_add] at this

theorem RefAt.put {S : Nat → Prop} {w : World} {b : Nat} {m : List Reg} (h : RefAt w b m S) {g : Nat} {cap : Nat} (hcell : w.cell? ⟨b, 0, none⟩ = some (.slice (some ⟨g, 0, none⟩) m.length cap)) (i : Nat) (r : Reg) (hr : m[i]? = some r) (d : List UInt8) (hd : d.length = r.data.length) :
    RefAt (w.setCell ⟨g, i * 3 + 1, none⟩ (.string ⟨d.toArray⟩)) b (m.set i { r with data := d }) S ∧ S g := by
  obtain ⟨hi, hx⟩ := List.getElem?_eq_some_iff.1 hr
  obtain ⟨v, hc, ⟨rfl, rfl⟩ | ⟨g', cap', rfl, hcap, h0, hc2, ho, hne, hS⟩⟩ := h.list
  · simp at hi
  rw [hcell] at hc
  have := Option.some.inj hc
  injection this with e1 _ e3
  have e4 := Option.some.inj e1
  injection e4 with e5 _ _
  subst e5
  subst e3
  refine ⟨⟨?_, ⟨_, by rw [World.cell?_setCell_other _ _ _ _ (by simp; try (intro e; exact absurd e.symm hne))]; exact hcell, .inr ⟨g, cap, by simp, by simpa using hcap, by simpa using h0, ?_, fun j hj => ?_, hne, hS⟩⟩, by rw [World.frozen?_setCell]; exact h.openb, h.own⟩, hS⟩
  · refine h.wf.same (by simp) (fun j hj hj' => ?_)
    rw [List.getElem_set]
    split
    · rename_i e; subst e; rw [hx]; exact ⟨rfl, hd⟩
    · exact ⟨rfl, rfl⟩
  · rw [aflat_put m i r d hr]
    exact hc2.setOne _ _ (by rw [aflat_length]; omega)
  · rw [World.frozen?_setCell]; exact ho j (by simpa using hj)

end Go.Proofs.Ytfhlnkgiiikbpaa
