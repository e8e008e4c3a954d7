/- firewallref07: a memory, and At, Text, Read. -/
import Derived.Test.YtfhlnkgiiikbpaaRgn
import Derived.Deep.QuietTactic
import Derived.BigQuiet
import Derived.Deep.RegionHeld3
namespace Go.Proofs.Ytfhlnkgiiikbpaa
open Go.RowKit

/-- the document's memory stands behind a pointer to block b -/
structure RefAt (w : World) (b : Nat) (m : List Reg) (S : Nat → Prop) : Prop where
  wf : WF m
  list : ∃ v, w.cell? ⟨b, 0, none⟩ = some v ∧ ((m = [] ∧ v = .slice none 0 0) ∨ ∃ g cap, v = .slice (some ⟨g, 0, none⟩) m.length cap ∧ m.length ≤ cap ∧ 0 < m.length ∧ CellsAt w g 0 (aflat m) ∧ Open w g 0 (m.length * 3) ∧ g ≠ b ∧ S g)
  openb : w.frozen? ⟨b, 0, none⟩ = false
  own : S b

theorem RefAt.fr {S T : Nat → Prop} {w w' : World} {b : Nat} {m : List Reg} (h : RefAt w b m S) (hf : Fr T w w') (hn : ∀ k, S k → ¬ T k) : RefAt w' b m S := by
  obtain ⟨v, hc, hl⟩ := h.list
  refine ⟨h.wf, ⟨v, hf.cell hc (hn _ h.own), ?_⟩, by rw [hf.frozen hc (hn _ h.own)]; exact h.openb, h.own⟩
  rcases hl with hl | ⟨g, cap, rfl, hcap, h0, hc2, ho, hne, hS⟩
  · exact .inl hl
  · have hlt : g < w.heap.size := World.block_lt_of_cell? w _ (hc2 (0 * 3 + 0) _ (aflat_get m 0 0 h0 (by omega)))
    exact .inr ⟨g, cap, rfl, hcap, h0, hf.cells hc2 (hn _ hS), hf.opened hlt ho (hn _ hS), hne, hS⟩

theorem RefAt.regs {S : Nat → Prop} {w : World} {b : Nat} {m : List Reg} (h : RefAt w b m S) : ∃ v, w.cell? ⟨b, 0, none⟩ = some v ∧ RegsAt w v m := by
  obtain ⟨v, hc, hl⟩ := h.list
  refine ⟨v, hc, h.wf.typed, ?_⟩
  rcases hl with ⟨rfl, rfl⟩ | ⟨g, cap, rfl, _, _, hc2, _⟩
  · exact .inl ⟨rfl, _, _, rfl⟩
  · exact .inr ⟨g, 0, cap, rfl, hc2⟩

/-- a region's three cells -/
theorem areg_cells {w : World} {g off : Nat} {m : List Reg} (h : CellsAt w g off (aflat m)) {k : Nat} {r : Reg} (hr : m[k]? = some r) :
    w.cell? ⟨g, off + k * 3, none⟩ = some (.int .u64 r.base) ∧ w.cell? ⟨g, off + k * 3 + 1, none⟩ = some (.string ⟨r.data.toArray⟩) ∧ w.cell? ⟨g, off + k * 3 + 2, none⟩ = some (.bool r.free) := by
  obtain ⟨hk, hx⟩ := List.getElem?_eq_some_iff.1 hr
  have c0 := h (k * 3 + 0) _ (aflat_get m k 0 hk (by omega))
  have c1 := h (k * 3 + 1) _ (aflat_get m k 1 hk (by omega))
  have c2 := h (k * 3 + 2) _ (aflat_get m k 2 hk (by omega))
  rw [hx] at c0 c1 c2
  exact ⟨c0, c1, c2⟩

theorem areg_cells0 {w : World} {g : Nat} {m : List Reg} (h : CellsAt w g 0 (aflat m)) {k : Nat} {r : Reg} (hr : m[k]? = some r) :
    w.cell? ⟨g, k * 3, none⟩ = some (.int .u64 r.base) ∧ w.cell? ⟨g, k * 3 + 1, none⟩ = some (.string ⟨r.data.toArray⟩) ∧ w.cell? ⟨g, k * 3 + 2, none⟩ = some (.bool r.free) := by
  have := areg_cells h hr
  simpa using this

/-- no region ahead of k has the bytes -/
def noneTo (m : List Reg) (addr n : Int) (k : Nat) : Prop := ∀ j, j < k → ∀ r, m[j]? = some r → r.has addr n = false

theorem noneTo.step {m : List Reg} {addr n : Int} {k : Nat} {r : Reg} (h : noneTo m addr n k) (hr : m[k]? = some r) (hh : r.has addr n = false) : noneTo m addr n (k + 1) := by
  intro j hj x hx
  by_cases e : j = k
  · subst e; rw [hr] at hx; exact Option.some.inj hx ▸ hh
  · exact h j (by omega) x hx

theorem noneTo.not_there {m : List Reg} {addr n : Int} (h : noneTo m addr n m.length) : spot m addr n = none := by
  unfold Go.Proofs.Ytfhlnkgiiikbpaa.spot
  rw [List.findIdx?_eq_none_iff]
  intro x hx
  obtain ⟨i, hi, rfl⟩ := List.getElem_of_mem hx
  exact h i hi _ (List.getElem?_eq_getElem hi)

theorem noneTo.found {m : List Reg} {addr n : Int} {k : Nat} {r : Reg} (h : noneTo m addr n k) (hr : m[k]? = some r) (hh : r.has addr n = true) : spot m addr n = some k := by
  obtain ⟨hk, hx⟩ := List.getElem?_eq_some_iff.1 hr
  unfold Go.Proofs.Ytfhlnkgiiikbpaa.spot
  rw [List.findIdx?_eq_some_iff_getElem]
  refine ⟨hk, by rw [hx]; exact hh, fun j hj => ?_⟩
  have := h j hj _ (List.getElem?_eq_getElem (by omega))
  simp [this]

def spotInt (m : List Reg) (addr n : Int) : Int := match spot m addr n with | none => -1 | some i => i

set_option maxRecDepth 100000 in
set_option maxHeartbeats 1000000 in
theorem refat_walk (b g cap L : Nat) (m : List Reg) (addr n : Int) (w : World) (hL : m.length = L) (hcell : w.cell? ⟨b, 0, none⟩ = some (.slice (some ⟨g, 0, none⟩) L cap)) (hc : CellsAt w g 0 (aflat m)) (hm : L ≤ 1000000) (hwf : WF m) (h0 : 0 < L)
    (ha : 0 ≤ addr) (h64 : addr ≤ 18446744073709551615) (hn : 1 ≤ n) (hn63 : n ≤ 9223372036854775807) :
    Calls Try.prog 34 #[.pointer (some ⟨b, 0, none⟩), .int .u64 addr, .int .i64 n] w fun e w' => e = .returned (.int .i64 (spotInt m addr n)) ∧ Hid (Fr No w w') := by
  have HL := Lib.hid hL
  have HC := Lib.hid hc
  have HW := Lib.hid hwf
  have HB := Lib.hid hcell
  have u0 : IntKind.u64.wrap n = n := IntWalk.u64_in _ (by omega)
  have hglt : g < w.heap.size := World.block_lt_of_cell? w _ (hc (0 * 3 + 0) _ (aflat_get m 0 0 (by omega) (by omega)))
  have hblt : b < w.heap.size := World.block_lt_of_cell? w _ hcell
  have HA := Lib.hid (And.intro ha h64)
  clear hL hc hwf hcell ha h64
  go_enter Try.func34, Try.ntmps34
  go_wp2_with fail
  go_loopw [7] (fun i wr => ∃ k : Nat, k ≤ L ∧ i = .int .i64 k ∧ Hid (noneTo m addr n k) ∧ Hid (Fr No w wr)) (fun i _ => L - (intOf i).toNat)
  case atStart => exact ⟨0, Nat.zero_le _, rfl, fun j hj => absurd hj (Nat.not_lt_zero _), Fr.refl _ _⟩
  case round =>
    obtain ⟨k, hk, rfl, HN, HF⟩ := hrel
    have hcell : wr.cell? ⟨b, 0, none⟩ = some (.slice (some ⟨g, 0, none⟩) L cap) := HF.out.cell HB.out id
    by_cases hlt : k < L
    · obtain ⟨r, hr⟩ : ∃ r, m[k]? = some r := ⟨m[k]'(by rw [HL.out]; exact hlt), List.getElem?_eq_getElem _⟩
      obtain ⟨k0, k1, k2⟩ := areg_cells0 (HF.out.cells HC.out id) hr
      have o := HW.out.ok r (List.mem_of_getElem? hr)
      have hh := r.has_iff addr n
      obtain ⟨base, data, free⟩ := r
      simp only at k0 k1 k2 hh
      obtain ⟨dl, hdl⟩ : ∃ dl, dl = data.length := ⟨_, rfl⟩
      have o1 := o.low
      have o2 := o.high
      have o3 := o.small
      have o4 := o.some
      simp only [Reg.len] at o1 o2 o3 o4
      have sz : (⟨data.toArray⟩ : ByteArray).size = dl := by rw [hdl]; rfl
      rw [← hdl] at hh o2 o3 o4
      have HR := Lib.hid hr
      have HH := Lib.hid hh
      have x1 : IntKind.u64.wrap (dl : Int) = dl := IntWalk.u64_in _ (by omega)
      have hz := HF.out.size
      have HD := Lib.hid hdl
      have HO := Lib.hid (And.intro o1 (And.intro o2 o3))
      have HAL : ∀ o, Hid (Fr No w (wr.alloc o)) := fun o => HF.out.alloc o
      clear hr hh hdl o o1 o2 o3
      by_cases q1 : base ≤ addr
      · have x2 : IntKind.u64.wrap (addr - base) = addr - base := by have := HA.out; have := HO.out; exact IntWalk.u64_in _ (by omega)
        by_cases q2 : addr - base ≤ dl
        · have x3 : IntKind.u64.wrap ((dl : Int) - (addr - base)) = dl - (addr - base) := by have := HA.out; have := HO.out; exact IntWalk.u64_in _ (by omega)
          by_cases q3 : n ≤ dl - (addr - base)
          · have HF2 : Hid (noneTo m addr n k → spot m addr n = some k) := fun h => h.found HR.out (HH.out.2 ⟨q1, by have := HD.out; omega⟩)
            go_wp2_with fail
            go_ret
            refine ⟨?_, ?_⟩
            · show Ending.returned (.int .i64 (k : Int)) = _
              rw [spotInt, HF2.out HN.out]
            · exact HAL _
          · have HF2 : Hid (noneTo m addr n (k + 1)) := HN.out.step HR.out (by
              cases hb : (⟨base, data, free⟩ : Reg).has addr n with
              | false => rfl
              | true => have := HH.out.1 hb; omega)
            go_wp2_with fail
            go_roundw
            case rel => exact ⟨k + 1, by omega, by go_num, HF2, HAL _⟩
            case measure => simp [intOf] <;> omega
        · have HF2 : Hid (noneTo m addr n (k + 1)) := HN.out.step HR.out (by
            cases hb : (⟨base, data, free⟩ : Reg).has addr n with
            | false => rfl
            | true => have := HH.out.1 hb; omega)
          go_wp2_with fail
          go_roundw
          case rel => exact ⟨k + 1, by omega, by go_num, HF2, HAL _⟩
          case measure => simp [intOf] <;> omega
      · have HF2 : Hid (noneTo m addr n (k + 1)) := HN.out.step HR.out (by
          cases hb : (⟨base, data, free⟩ : Reg).has addr n with
          | false => rfl
          | true => have := HH.out.1 hb; omega)
        go_wp2_with fail
        go_roundw
        case rel => exact ⟨k + 1, by omega, by go_num, HF2, HAL _⟩
        case measure => simp [intOf] <;> omega
    · obtain rfl : k = L := by omega
      go_wp2_with fail
      go_ret
      refine ⟨?_, HF⟩
      have : noneTo m addr n m.length := by rw [HL.out]; exact HN.out
      show Ending.returned (.int .i64 (-1)) = _
      rw [spotInt, this.not_there]

set_option maxHeartbeats 400000 in
theorem refat_empty (b : Nat) (addr n : Value) (w : World) (hcell : w.cell? ⟨b, 0, none⟩ = some (.slice none 0 0)) :
    Calls Try.prog 34 #[.pointer (some ⟨b, 0, none⟩), addr, n] w fun e w' => e = .returned (.int .i64 (-1)) ∧ w = w' := by
  go_enter Try.func34, Try.ntmps34
  go_wp2_with fail
  refine wp_loop_rounds 1 ?_
  rw [rounds_succ]
  go_wp2_with fail
  go_ret
  exact ⟨rfl, rfl⟩

theorem refat_any {S : Nat → Prop} {w : World} {b : Nat} {m : List Reg} (h : RefAt w b m S) (hm : m.length ≤ 1000000) (addr n : Int) (ha : 0 ≤ addr) (h64 : addr ≤ 18446744073709551615) (hn : 1 ≤ n) (hn63 : n ≤ 9223372036854775807) :
    Calls Try.prog 34 #[.pointer (some ⟨b, 0, none⟩), .int .u64 addr, .int .i64 n] w fun e w' => e = .returned (.int .i64 (spotInt m addr n)) ∧ Fr No w w' := by
  obtain ⟨v, hc, ⟨rfl, rfl⟩ | ⟨g, cap, rfl, _, h0, hc2, _⟩⟩ := h.list
  · exact (refat_empty b _ _ w hc).mono fun _ _ ⟨he, hw⟩ => ⟨he, hw ▸ Fr.refl _ _⟩
  · exact (refat_walk b g cap _ m addr n w rfl hc hc2 hm h.wf h0 ha h64 hn hn63).mono fun _ _ ⟨he, hw⟩ => ⟨he, hw.out⟩

set_option maxHeartbeats 400000 in
theorem reftext_neg (p addr : Value) (n : Int) (w : World) (hn : n < 0) :
    Calls Try.prog 22 #[p, addr, .int .i64 n] w fun e w' => e = .returned (.tuple #[.string ⟨#[]⟩, .int .i64 2]) ∧ Fr No w w' := by
  go_enter Try.func22, Try.ntmps22
  go_wp2_with fail
  go_ret2
  exact ⟨rfl, Fr.refl _ _⟩

set_option maxHeartbeats 400000 in
theorem reftext_zero (p addr : Value) (w : World) :
    Calls Try.prog 22 #[p, addr, .int .i64 0] w fun e w' => e = .returned (.tuple #[.string ⟨#[]⟩, .int .i64 0]) ∧ Fr No w w' := by
  go_enter Try.func22, Try.ntmps22
  go_wp2_with fail
  go_ret2
  exact ⟨rfl, Fr.refl _ _⟩

set_option maxHeartbeats 400000 in
theorem reftext_off (p : Value) (addr n : Int) (w : World) (hn : 1 ≤ n)
    (hat : Calls Try.prog 34 #[p, .int .u64 addr, .int .i64 n] w fun e w' => e = .returned (.int .i64 (-1)) ∧ Fr No w w') :
    Calls Try.prog 22 #[p, .int .u64 addr, .int .i64 n] w fun e w' => e = .returned (.tuple #[.string ⟨#[]⟩, .int .i64 70]) ∧ Fr No w w' := by
  have HA := Lib.hid hat
  have z1 : ¬ n < 0 := by omega
  have z2 : (n == 0) = false := by rw [beq_eq_false_iff_ne]; omega
  clear hat
  go_enter Try.func22, Try.ntmps22
  go_wp2_with (go_at_call 34; (with_reducible refine HA.out.mono ?_); rintro e w1 ⟨rfl, hf⟩)
  go_ret2
  exact ⟨rfl, hf⟩

set_option maxRecDepth 100000 in
set_option maxHeartbeats 400000 in
theorem reftext_at (b g cap L i : Nat) (m : List Reg) (base addr n : Int) (data : List UInt8) (dl F : Nat) (w : World) (hL : m.length = L) (hcell : w.cell? ⟨b, 0, none⟩ = some (.slice (some ⟨g, 0, none⟩) L cap))
    (c0 : w.cell? ⟨g, i * 3, none⟩ = some (.int .u64 base)) (c1 : w.cell? ⟨g, i * 3 + 1, none⟩ = some (.string ⟨data.toArray⟩))
    (hi : i < L) (hm : L ≤ 1000000) (hdl : data.length = dl) (hd63 : dl ≤ 9223372036854775807) (hF : addr - base = F) (hFn : F + n ≤ dl) (hn : 1 ≤ n)
    (hat : Calls Try.prog 34 #[.pointer (some ⟨b, 0, none⟩), .int .u64 addr, .int .i64 n] w fun e w' => e = .returned (.int .i64 i) ∧ Fr No w w') :
    Calls Try.prog 22 #[.pointer (some ⟨b, 0, none⟩), .int .u64 addr, .int .i64 n] w fun e w' => e = .returned (.tuple #[.string ⟨((data.drop F).take n.toNat).toArray⟩, .int .i64 0]) ∧ Fr No w w' := by
  have HA : Hid (Calls Try.prog 34 #[.pointer (some ⟨b, 0, none⟩), .int .u64 addr, .int .i64 n] w fun e w' => e = .returned (.int .i64 i) ∧ Hid (Fr No w w') ∧ w'.cell? ⟨b, 0, none⟩ = some (.slice (some ⟨g, 0, none⟩) L cap) ∧ w'.cell? ⟨g, i * 3, none⟩ = some (.int .u64 base) ∧ w'.cell? ⟨g, i * 3 + 1, none⟩ = some (.string ⟨data.toArray⟩)) :=
    hat.mono fun _ _ ⟨he, hf⟩ => ⟨he, hf, hf.cell hcell id, hf.cell c0 id, hf.cell c1 id⟩
  have z1 : ¬ n < 0 := by omega
  have z2 : (n == 0) = false := by rw [beq_eq_false_iff_ne]; omega
  have sz : (⟨data.toArray⟩ : ByteArray).size = dl := hdl
  have x1 : IntKind.u64.wrap (addr - base) = F := by rw [hF]; exact IntWalk.u64_in _ (by omega)
  have x2 : IntKind.i64.wrap (F : Int) = F := IntWalk.i64_in _ (by omega)
  have hx : (⟨data.toArray⟩ : ByteArray).extract F ((F : Int) + n).toNat = ⟨((data.drop F).take n.toNat).toArray⟩ := by
    rw [show ((F : Int) + n).toNat = F + n.toNat by omega]
    apply ByteArray.ext; apply Array.ext'; simp
  have HX := Lib.hid hx
  have HF := Lib.hid hF
  clear hat hcell c0 c1 hx hdl hL hF
  go_enter Try.func22, Try.ntmps22
  go_wp2_with (go_at_call 34; (with_reducible refine HA.out.mono ?_); rintro e w1 ⟨rfl, hf, d0, d1, d2⟩)
  go_ret2
  exact ⟨by rw [← HX.out]; rfl, hf.out⟩

end Go.Proofs.Ytfhlnkgiiikbpaa
