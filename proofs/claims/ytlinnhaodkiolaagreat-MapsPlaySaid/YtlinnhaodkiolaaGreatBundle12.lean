/- firewallref08.May: may these be maps, by the document. firewallref07: a memory, and At, Text, Read. firewallref07: Text, Read, Put, Write, Copy's answers. Strings: cut and joined. firewallref07: Put, Write. -/
import Derived.Test.YtlinnhaodkiolaaGreatBundle11
import Derived.Test.YtlinnhaodkiolaaGreatBundle6
import Derived.Test.YtlinnhaodkiolaaGreatBundle9
import Derived.Deep.QuietTactic
import Derived.BigQuiet
import Derived.Deep.RegionHeld3
import Derived.Deep.RegionWith
import Derived.Test.YtlinnhaodkiolaaGreatBundle1
import Derived.Deep.DeepCutAuto
namespace Go.Proofs.YtlinnhaodkiolaaGreat
open Go.RowKit

/-- what a map's tests come to, way by way -/
theorem may_ways (x : MapD) (P : Prop)
    (a1 : ∀ (_ : (x.kind != 1) = true) (_ : (x.kind != 2) = true) (_ : (x.kind == 1) = false), x.may = false → P)
    (a2 : ∀ (_ : (x.kind != 1) = false) (_ : (x.kind == 1) = true) (_ : (x.key != 4) = true), x.may = false → P)
    (tail1 : (x.kind != 1) = false → (x.kind == 1) = true → (x.key != 4) = false → x.kind = 1 ∧ x.key = 4 ∨ x.kind = 2 → P)
    (tail2 : (x.kind != 1) = true → (x.kind != 2) = false → (x.kind == 1) = false → x.kind = 1 ∧ x.key = 4 ∨ x.kind = 2 → P) : P := by
  by_cases h1 : x.kind = 1
  · have q1 : (x.kind == 1) = true := by simpa using h1
    have q2 : (x.kind != 1) = false := by simpa using h1
    by_cases h4 : x.key = 4
    · exact tail1 q2 q1 (by simpa using h4) (.inl ⟨h1, h4⟩)
    · exact a2 q2 q1 (by simpa using h4) (by rw [Bool.eq_false_iff, ne_eq, MapD.may_iff]; omega)
  · have q1 : (x.kind == 1) = false := by simpa using h1
    have q2 : (x.kind != 1) = true := by simpa using h1
    by_cases h2 : x.kind = 2
    · exact tail2 q2 (by simpa using h2) q1 (.inr h2)
    · exact a1 q2 (by simpa using h2) q1 (by rw [Bool.eq_false_iff, ne_eq, MapD.may_iff]; omega)

theorem may_tail (x : MapD) (P : Prop) (hk : x.kind = 1 ∧ x.key = 4 ∨ x.kind = 2)
    (b1 : decide (x.key < 1) = true → x.may = false → P)
    (b2 : decide (x.key < 1) = false → decide (8 < x.key) = true → x.may = false → P)
    (b3 : decide (x.key < 1) = false → decide (8 < x.key) = false → decide (x.value < 1) = true → x.may = false → P)
    (b4 : decide (x.key < 1) = false → decide (8 < x.key) = false → decide (x.value < 1) = false → decide (64 < x.value) = true → x.may = false → P)
    (b5 : decide (x.key < 1) = false → decide (8 < x.key) = false → decide (x.value < 1) = false → decide (64 < x.value) = false → decide (x.max < 1) = true → x.may = false → P)
    (b6 : decide (x.key < 1) = false → decide (8 < x.key) = false → decide (x.value < 1) = false → decide (64 < x.value) = false → decide (x.max < 1) = false → decide (16 < x.max) = true → x.may = false → P)
    (b7 : decide (x.key < 1) = false → decide (8 < x.key) = false → decide (x.value < 1) = false → decide (64 < x.value) = false → decide (x.max < 1) = false → decide (16 < x.max) = false → x.may = true → P) : P := by
  have no : ¬ (x.may = true) → x.may = false := fun h => by simpa using h
  have iff := MapD.may_iff x
  by_cases c1 : x.key < 1
  · exact b1 (by simpa using c1) (no (by rw [iff]; omega))
  by_cases c2 : 8 < x.key
  · exact b2 (by simpa using c1) (by simpa using c2) (no (by rw [iff]; omega))
  by_cases c3 : x.value < 1
  · exact b3 (by simpa using c1) (by simpa using c2) (by simpa using c3) (no (by rw [iff]; omega))
  by_cases c4 : 64 < x.value
  · exact b4 (by simpa using c1) (by simpa using c2) (by simpa using c3) (by simpa using c4) (no (by rw [iff]; omega))
  by_cases c5 : x.max < 1
  · exact b5 (by simpa using c1) (by simpa using c2) (by simpa using c3) (by simpa using c4) (by simpa using c5) (no (by rw [iff]; omega))
  by_cases c6 : 16 < x.max
  · exact b6 (by simpa using c1) (by simpa using c2) (by simpa using c3) (by simpa using c4) (by simpa using c5) (by simpa using c6) (no (by rw [iff]; omega))
  · exact b7 (by simpa using c1) (by simpa using c2) (by simpa using c3) (by simpa using c4) (by simpa using c5) (by simpa using c6) (by rw [iff]; omega)

set_option maxRecDepth 100000 in
set_option maxHeartbeats 4000000 in
theorem refmay_walk (g off n cap : Nat) (l : List MapD) (w : World) (hn : l.length = n) (h4 : n ≤ 4) (hc : CellsAt w g off (mflat l)) :
    Calls Tryz.prog 30 #[.slice (some ⟨g, off, none⟩) n cap] w fun e w' => e = .returned (.bool (mayL l)) ∧ Fr No w w' := by
  have HC := Lib.hid hc
  have HN := Lib.hid hn
  clear hc hn
  go_enter Tryz.func30, Tryz.ntmps30
  go_wp2_with fail
  go_loopw [3] (fun i wr => ∃ k : Nat, k ≤ n ∧ i = .int .i64 k ∧ Hid (Fr No w wr) ∧ Hid (∀ (j : Nat) x, j < k → l[j]? = some x → x.may = true)) (fun i _ => n - (intOf i).toNat)
  case atStart => exact ⟨0, Nat.zero_le _, rfl, Fr.refl _ _, fun j _ h => absurd h (Nat.not_lt_zero _)⟩
  case round =>
    obtain ⟨k, hk, rfl, HF, HJ⟩ := hrel
    by_cases hlt : k < n
    · obtain ⟨x, hx⟩ : ∃ x, l[k]? = some x := ⟨l[k]'(by rw [HN.out]; exact hlt), List.getElem?_eq_getElem _⟩
      obtain ⟨k0, k1, k2, k3⟩ := map_cells (HF.out.cells HC.out id) hx
      have HX := Lib.hid hx
      have HNO : Hid (x.may = false → mayL l = false) := Lib.hid fun hb => by
        have : ¬ (mayL l = true) := fun h => by
          have := ((mayL_iff l).1 h).2 x (List.mem_of_getElem? HX.out)
          rw [hb] at this; cases this
        simpa using this
      have HJ2 : Hid (x.may = true → ∀ (j : Nat) y, j < k + 1 → l[j]? = some y → y.may = true) := Lib.hid fun hb j y hj hy => by
        by_cases e : j = k
        · subst e
          rw [HX.out] at hy
          obtain rfl := Option.some.inj hy
          exact hb
        · exact HJ.out j y (by omega) hy
      clear hx HX
      refine may_ways x _ (fun q1 q2 q3 hb => ?_) (fun q1 q2 q3 hb => ?_) (fun q1 q2 q3 hk => ?_) (fun q1 q2 q3 hk => ?_)
      iterate 2
        · have HR : Hid (mayL l = false) := HNO.out hb
          obtain ⟨kind, key, value, max⟩ := x
          simp only at k0 k1 k2 k3 q1 q2 q3
          clear hb HNO HJ2 HJ
          go_wp2_with fail
          go_ret
          exact ⟨by rw [HR.out]; rfl, HF.out.trans ((Fr.refl _ _).alloc _)⟩
      iterate 2
        · have HK := Lib.hid hk
          clear hk
          refine may_tail x _ HK.out (fun r1 hb => ?_) (fun r1 r2 hb => ?_) (fun r1 r2 r3 hb => ?_) (fun r1 r2 r3 r4 hb => ?_) (fun r1 r2 r3 r4 r5 hb => ?_) (fun r1 r2 r3 r4 r5 r6 hb => ?_) (fun r1 r2 r3 r4 r5 r6 hb => ?_)
          iterate 6
            · have HR : Hid (mayL l = false) := HNO.out hb
              obtain ⟨kind, key, value, max⟩ := x
              simp only at k0 k1 k2 k3 q1 q2 q3
              (try simp only at r1)
              (try simp only at r2)
              (try simp only at r3)
              (try simp only at r4)
              (try simp only at r5)
              (try simp only at r6)
              clear hb HNO HJ2 HJ
              go_wp2_with fail
              go_ret
              exact ⟨by rw [HR.out]; rfl, HF.out.trans ((Fr.refl _ _).alloc _)⟩
          · have HJ3 : Hid (∀ (j : Nat) y, j < k + 1 → l[j]? = some y → y.may = true) := HJ2.out hb
            obtain ⟨kind, key, value, max⟩ := x
            simp only at k0 k1 k2 k3 q1 q2 q3 r1 r2 r3 r4 r5 r6
            clear hb HNO HJ2 HJ
            go_wp2_with fail
            go_roundw
            case rel => exact ⟨k + 1, by omega, by go_num, HF.out.trans ((Fr.refl _ _).alloc _), HJ3⟩
            case measure => simp [intOf] <;> omega
    · obtain rfl : k = n := by omega
      have HR : Hid (mayL l = true) := Lib.hid (by
        rw [mayL_iff]
        refine ⟨by rw [HN.out]; exact h4, fun x hx => ?_⟩
        obtain ⟨j, hj, rfl⟩ := List.getElem_of_mem hx
        exact HJ.out j _ (by rw [← HN.out]; exact hj) (List.getElem?_eq_getElem hj))
      go_wp2_with fail
      go_ret
      exact ⟨by rw [HR.out]; rfl, HF.out⟩

set_option maxHeartbeats 400000 in
theorem refmay_long (a : Option Addr) (n c : Nat) (w : World) (h : 4 < n) :
    Calls Tryz.prog 30 #[.slice a n c] w fun e w' => e = .returned (.bool false) ∧ Fr No w w' := by
  have q : decide (4 < n) = true := by simpa using h
  go_enter Tryz.func30, Tryz.ntmps30
  go_wp2_with fail
  go_ret
  exact ⟨rfl, Fr.refl _ _⟩

set_option maxHeartbeats 400000 in
theorem refmay_zero (a : Option Addr) (c : Nat) (w : World) :
    Calls Tryz.prog 30 #[.slice a 0 c] w fun e w' => e = .returned (.bool true) ∧ Fr No w w' := by
  go_enter Tryz.func30, Tryz.ntmps30
  go_wp2_with fail
  refine wp_loop_rounds 1 ?_
  rw [rounds_succ]
  go_wp2_with fail
  go_ret
  exact ⟨rfl, Fr.refl _ _⟩

theorem refmay_any (v : Value) (l : List MapD) (w : World) (h : MapsIn w v l) :
    Calls Tryz.prog 30 #[v] w fun e w' => e = .returned (.bool (mayL l)) ∧ Fr No w w' := by
  by_cases h4 : l.length ≤ 4
  · rcases h with ⟨rfl, a, c, rfl⟩ | ⟨g, off, cap, rfl, hc⟩
    · exact refmay_zero a c w
    · exact refmay_walk g off l.length cap l w rfl h4 hc
  · obtain ⟨a, c, rfl⟩ := h.form
    have e : mayL l = false := by unfold mayL; simp [h4]
    rw [e]
    exact refmay_long a _ c w (by omega)

end Go.Proofs.YtlinnhaodkiolaaGreat

namespace Go.Proofs.YtlinnhaodkiolaaGreat
open Go.RowKit

/-- the document's memory stands behind a pointer to block b -/
structure RefAt (w : World) (b : Nat) (m : List Reg) (S : Nat → Prop) : Prop where
  wf : WF m
  list : ∃ v, w.cell? ⟨b, 0, none⟩ = some v ∧ ((m = [] ∧ v = .slice none 0 0) ∨ ∃ g cap, v = .slice (some ⟨g, 0, none⟩) m.length cap ∧ m.length ≤ cap ∧ 0 < m.length ∧ CellsAt w g 0 (aflat m) ∧ Open w g 0 (m.length * 3) ∧ g ≠ b ∧ S g)
  openb : w.frozen? ⟨b, 0, none⟩ = false
  own : S b

theorem RefAt.fr {S T : Nat → Prop} {w w' : World} {b : Nat} {m : List Reg} (h : RefAt w b m S) (hf : Fr T w w') (hn : ∀ k, S k → ¬ T k) : RefAt w' b m S := by
  obtain ⟨v, hc, hl⟩ := h.list
  refine ⟨h.wf, ⟨v, hf.cell hc (hn _ h.own), ?_⟩, by rw [hf.frozen hc (hn _ h.own)]; exact h.openb, h.own⟩
  rcases hl with hl | ⟨g, cap, rfl, hcap, h0, hc2, ho, hne, hS⟩
  · exact .inl hl
  · have hlt : g < w.heap.size := World.block_lt_of_cell? w _ (hc2 (0 * 3 + 0) _ (aflat_get m 0 0 h0 (by omega)))
    exact .inr ⟨g, cap, rfl, hcap, h0, hf.cells hc2 (hn _ hS), hf.opened hlt ho (hn _ hS), hne, hS⟩

theorem RefAt.regs {S : Nat → Prop} {w : World} {b : Nat} {m : List Reg} (h : RefAt w b m S) : ∃ v, w.cell? ⟨b, 0, none⟩ = some v ∧ RegsAt w v m := by
  obtain ⟨v, hc, hl⟩ := h.list
  refine ⟨v, hc, h.wf.typed, ?_⟩
  rcases hl with ⟨rfl, rfl⟩ | ⟨g, cap, rfl, _, _, hc2, _⟩
  · exact .inl ⟨rfl, _, _, rfl⟩
  · exact .inr ⟨g, 0, cap, rfl, hc2⟩

/-- no region ahead of k has the bytes -/
def noneTo (m : List Reg) (addr n : Int) (k : Nat) : Prop := ∀ j, j < k → ∀ r, m[j]? = some r → r.has addr n = false

theorem noneTo.step {m : List Reg} {addr n : Int} {k : Nat} {r : Reg} (h : noneTo m addr n k) (hr : m[k]? = some r) (hh : r.has addr n = false) : noneTo m addr n (k + 1) := by
  intro j hj x hx
  by_cases e : j = k
  · subst e; rw [hr] at hx; exact Option.some.inj hx ▸ hh
  · exact h j (by omega) x hx

theorem noneTo.not_there {m : List Reg} {addr n : Int} (h : noneTo m addr n m.length) : spot m addr n = none := by
  unfold Go.Proofs.YtlinnhaodkiolaaGreat.spot
  rw [List.findIdx?_eq_none_iff]
  intro x hx
  obtain ⟨i, hi, rfl⟩ := List.getElem_of_mem hx
  exact h i hi _ (List.getElem?_eq_getElem hi)

theorem noneTo.found {m : List Reg} {addr n : Int} {k : Nat} {r : Reg} (h : noneTo m addr n k) (hr : m[k]? = some r) (hh : r.has addr n = true) : spot m addr n = some k := by
  obtain ⟨hk, hx⟩ := List.getElem?_eq_some_iff.1 hr
  unfold Go.Proofs.YtlinnhaodkiolaaGreat.spot
  rw [List.findIdx?_eq_some_iff_getElem]
  refine ⟨hk, by rw [hx]; exact hh, fun j hj => ?_⟩
  have := h j hj _ (List.getElem?_eq_getElem (by omega))
  simp [this]

def spotInt (m : List Reg) (addr n : Int) : Int := match spot m addr n with | none => -1 | some i => i

set_option maxRecDepth 100000 in
set_option maxHeartbeats 1000000 in
theorem refat_walk (b g cap L : Nat) (m : List Reg) (addr n : Int) (w : World) (hL : m.length = L) (hcell : w.cell? ⟨b, 0, none⟩ = some (.slice (some ⟨g, 0, none⟩) L cap)) (hc : CellsAt w g 0 (aflat m)) (hm : L ≤ 1000000) (hwf : WF m) (h0 : 0 < L)
    (ha : 0 ≤ addr) (h64 : addr ≤ 18446744073709551615) (hn : 1 ≤ n) (hn63 : n ≤ 9223372036854775807) :
    Calls Tryz.prog 53 #[.pointer (some ⟨b, 0, none⟩), .int .u64 addr, .int .i64 n] w fun e w' => e = .returned (.int .i64 (spotInt m addr n)) ∧ Hid (Fr No w w') := by
  have HL := Lib.hid hL
  have HC := Lib.hid hc
  have HW := Lib.hid hwf
  have HB := Lib.hid hcell
  have u0 : IntKind.u64.wrap n = n := IntWalk.u64_in _ (by omega)
  have hglt : g < w.heap.size := World.block_lt_of_cell? w _ (hc (0 * 3 + 0) _ (aflat_get m 0 0 (by omega) (by omega)))
  have hblt : b < w.heap.size := World.block_lt_of_cell? w _ hcell
  have HA := Lib.hid (And.intro ha h64)
  clear hL hc hwf hcell ha h64
  go_enter Tryz.func53, Tryz.ntmps53
  go_wp2_with fail
  go_loopw [7] (fun i wr => ∃ k : Nat, k ≤ L ∧ i = .int .i64 k ∧ Hid (noneTo m addr n k) ∧ Hid (Fr No w wr)) (fun i _ => L - (intOf i).toNat)
  case atStart => exact ⟨0, Nat.zero_le _, rfl, fun j hj => absurd hj (Nat.not_lt_zero _), Fr.refl _ _⟩
  case round =>
    obtain ⟨k, hk, rfl, HN, HF⟩ := hrel
    have hcell : wr.cell? ⟨b, 0, none⟩ = some (.slice (some ⟨g, 0, none⟩) L cap) := HF.out.cell HB.out id
    by_cases hlt : k < L
    · obtain ⟨r, hr⟩ : ∃ r, m[k]? = some r := ⟨m[k]'(by rw [HL.out]; exact hlt), List.getElem?_eq_getElem _⟩
      obtain ⟨k0, k1, k2⟩ := areg_cells0 (HF.out.cells HC.out id) hr
      have o := HW.out.ok r (List.mem_of_getElem? hr)
      have hh := r.has_iff addr n
      obtain ⟨base, data, free⟩ := r
      simp only at k0 k1 k2 hh
      obtain ⟨dl, hdl⟩ : ∃ dl, dl = data.length := ⟨_, rfl⟩
      have o1 := o.low
      have o2 := o.high
      have o3 := o.small
      have o4 := o.some
      simp only [Reg.len] at o1 o2 o3 o4
      have sz : (⟨data.toArray⟩ : ByteArray).size = dl := by rw [hdl]; rfl
      rw [← hdl] at hh o2 o3 o4
      have HR := Lib.hid hr
      have HH := Lib.hid hh
      have x1 : IntKind.u64.wrap (dl : Int) = dl := IntWalk.u64_in _ (by omega)
      have hz := HF.out.size
      have HD := Lib.hid hdl
      have HO := Lib.hid (And.intro o1 (And.intro o2 o3))
      have HAL : ∀ o, Hid (Fr No w (wr.alloc o)) := fun o => HF.out.alloc o
      clear hr hh hdl o o1 o2 o3
      by_cases q1 : base ≤ addr
      · have x2 : IntKind.u64.wrap (addr - base) = addr - base := by have := HA.out; have := HO.out; exact IntWalk.u64_in _ (by omega)
        by_cases q2 : addr - base ≤ dl
        · have x3 : IntKind.u64.wrap ((dl : Int) - (addr - base)) = dl - (addr - base) := by have := HA.out; have := HO.out; exact IntWalk.u64_in _ (by omega)
          by_cases q3 : n ≤ dl - (addr - base)
          · have HF2 : Hid (noneTo m addr n k → spot m addr n = some k) := fun h => h.found HR.out (HH.out.2 ⟨q1, by have := HD.out; omega⟩)
            go_wp2_with fail
            go_ret
            refine ⟨?_, ?_⟩
            · show Ending.returned (.int .i64 (k : Int)) = _
              rw [spotInt, HF2.out HN.out]
            · exact HAL _
          · have HF2 : Hid (noneTo m addr n (k + 1)) := HN.out.step HR.out (by
              cases hb : (⟨base, data, free⟩ : Reg).has addr n with
              | false => rfl
              | true => have := HH.out.1 hb; omega)
            go_wp2_with fail
            go_roundw
            case rel => exact ⟨k + 1, by omega, by go_num, HF2, HAL _⟩
            case measure => simp [intOf] <;> omega
        · have HF2 : Hid (noneTo m addr n (k + 1)) := HN.out.step HR.out (by
            cases hb : (⟨base, data, free⟩ : Reg).has addr n with
            | false => rfl
            | true => have := HH.out.1 hb; omega)
          go_wp2_with fail
          go_roundw
          case rel => exact ⟨k + 1, by omega, by go_num, HF2, HAL _⟩
          case measure => simp [intOf] <;> omega
      · have HF2 : Hid (noneTo m addr n (k + 1)) := HN.out.step HR.out (by
          cases hb : (⟨base, data, free⟩ : Reg).has addr n with
          | false => rfl
          | true => have := HH.out.1 hb; omega)
        go_wp2_with fail
        go_roundw
        case rel => exact ⟨k + 1, by omega, by go_num, HF2, HAL _⟩
        case measure => simp [intOf] <;> omega
    · obtain rfl : k = L := by omega
      go_wp2_with fail
      go_ret
      refine ⟨?_, HF⟩
      have : noneTo m addr n m.length := by rw [HL.out]; exact HN.out
      show Ending.returned (.int .i64 (-1)) = _
      rw [spotInt, this.not_there]

set_option maxHeartbeats 400000 in
theorem refat_empty (b : Nat) (addr n : Value) (w : World) (hcell : w.cell? ⟨b, 0, none⟩ = some (.slice none 0 0)) :
    Calls Tryz.prog 53 #[.pointer (some ⟨b, 0, none⟩), addr, n] w fun e w' => e = .returned (.int .i64 (-1)) ∧ w = w' := by
  go_enter Tryz.func53, Tryz.ntmps53
  go_wp2_with fail
  refine wp_loop_rounds 1 ?_
  rw [rounds_succ]
  go_wp2_with fail
  go_ret
  exact ⟨rfl, rfl⟩

theorem refat_any {S : Nat → Prop} {w : World} {b : Nat} {m : List Reg} (h : RefAt w b m S) (hm : m.length ≤ 1000000) (addr n : Int) (ha : 0 ≤ addr) (h64 : addr ≤ 18446744073709551615) (hn : 1 ≤ n) (hn63 : n ≤ 9223372036854775807) :
    Calls Tryz.prog 53 #[.pointer (some ⟨b, 0, none⟩), .int .u64 addr, .int .i64 n] w fun e w' => e = .returned (.int .i64 (spotInt m addr n)) ∧ Fr No w w' := by
  obtain ⟨v, hc, ⟨rfl, rfl⟩ | ⟨g, cap, rfl, _, h0, hc2, _⟩⟩ := h.list
  · exact (refat_empty b _ _ w hc).mono fun _ _ ⟨he, hw⟩ => ⟨he, hw ▸ Fr.refl _ _⟩
  · exact (refat_walk b g cap _ m addr n w rfl hc hc2 hm h.wf h0 ha h64 hn hn63).mono fun _ _ ⟨he, hw⟩ => ⟨he, hw.out⟩

set_option maxHeartbeats 400000 in
theorem reftext_neg (p addr : Value) (n : Int) (w : World) (hn : n < 0) :
    Calls Tryz.prog 49 #[p, addr, .int .i64 n] w fun e w' => e = .returned (.tuple #[.string ⟨#[]⟩, .int .i64 2]) ∧ Fr No w w' := by
  go_enter Tryz.func49, Tryz.ntmps49
  go_wp2_with fail
  go_ret2
  exact ⟨rfl, Fr.refl _ _⟩

set_option maxHeartbeats 400000 in
theorem reftext_zero (p addr : Value) (w : World) :
    Calls Tryz.prog 49 #[p, addr, .int .i64 0] w fun e w' => e = .returned (.tuple #[.string ⟨#[]⟩, .int .i64 0]) ∧ Fr No w w' := by
  go_enter Tryz.func49, Tryz.ntmps49
  go_wp2_with fail
  go_ret2
  exact ⟨rfl, Fr.refl _ _⟩

set_option maxHeartbeats 400000 in
theorem reftext_off (p : Value) (addr n : Int) (w : World) (hn : 1 ≤ n)
    (hat : Calls Tryz.prog 53 #[p, .int .u64 addr, .int .i64 n] w fun e w' => e = .returned (.int .i64 (-1)) ∧ Fr No w w') :
    Calls Tryz.prog 49 #[p, .int .u64 addr, .int .i64 n] w fun e w' => e = .returned (.tuple #[.string ⟨#[]⟩, .int .i64 70]) ∧ Fr No w w' := by
  have HA := Lib.hid hat
  have z1 : ¬ n < 0 := by omega
  have z2 : (n == 0) = false := by rw [beq_eq_false_iff_ne]; omega
  clear hat
  go_enter Tryz.func49, Tryz.ntmps49
  go_wp2_with (go_at_call 53; (with_reducible refine HA.out.mono ?_); rintro e w1 ⟨rfl, hf⟩)
  go_ret2
  exact ⟨rfl, hf⟩

set_option maxRecDepth 100000 in
set_option maxHeartbeats 400000 in
theorem reftext_at (b g cap L i : Nat) (m : List Reg) (base addr n : Int) (data : List UInt8) (dl F : Nat) (w : World) (_ : m.length = L) (hcell : w.cell? ⟨b, 0, none⟩ = some (.slice (some ⟨g, 0, none⟩) L cap))
    (c0 : w.cell? ⟨g, i * 3, none⟩ = some (.int .u64 base)) (c1 : w.cell? ⟨g, i * 3 + 1, none⟩ = some (.string ⟨data.toArray⟩))
    (hi : i < L) (_ : L ≤ 1000000) (hdl : data.length = dl) (hd63 : dl ≤ 9223372036854775807) (hF : addr - base = F) (hFn : F + n ≤ dl) (hn : 1 ≤ n)
    (hat : Calls Tryz.prog 53 #[.pointer (some ⟨b, 0, none⟩), .int .u64 addr, .int .i64 n] w fun e w' => e = .returned (.int .i64 i) ∧ Fr No w w') :
    Calls Tryz.prog 49 #[.pointer (some ⟨b, 0, none⟩), .int .u64 addr, .int .i64 n] w fun e w' => e = .returned (.tuple #[.string ⟨((data.drop F).take n.toNat).toArray⟩, .int .i64 0]) ∧ Fr No w w' := by
  have HA : Hid (Calls Tryz.prog 53 #[.pointer (some ⟨b, 0, none⟩), .int .u64 addr, .int .i64 n] w fun e w' => e = .returned (.int .i64 i) ∧ Hid (Fr No w w') ∧ w'.cell? ⟨b, 0, none⟩ = some (.slice (some ⟨g, 0, none⟩) L cap) ∧ w'.cell? ⟨g, i * 3, none⟩ = some (.int .u64 base) ∧ w'.cell? ⟨g, i * 3 + 1, none⟩ = some (.string ⟨data.toArray⟩)) :=
    hat.mono fun _ _ ⟨he, hf⟩ => ⟨he, hf, hf.cell hcell id, hf.cell c0 id, hf.cell c1 id⟩
  have z1 : ¬ n < 0 := by omega
  have z2 : (n == 0) = false := by rw [beq_eq_false_iff_ne]; omega
  have sz : (⟨data.toArray⟩ : ByteArray).size = dl := hdl
  have x1 : IntKind.u64.wrap (addr - base) = F := by rw [hF]; exact IntWalk.u64_in _ (by omega)
  have x2 : IntKind.i64.wrap (F : Int) = F := IntWalk.i64_in _ (by omega)
  have hx : (⟨data.toArray⟩ : ByteArray).extract F ((F : Int) + n).toNat = ⟨((data.drop F).take n.toNat).toArray⟩ := by
    rw [show ((F : Int) + n).toNat = F + n.toNat by omega]
    apply ByteArray.ext; apply Array.ext'; simp
  have HX := Lib.hid hx
  have HF := Lib.hid hF
  clear hat hcell c0 c1 hx hdl hF
  go_enter Tryz.func49, Tryz.ntmps49
  go_wp2_with (go_at_call 53; (with_reducible refine HA.out.mono ?_); rintro e w1 ⟨rfl, hf, d0, d1, d2⟩)
  go_ret2
  exact ⟨by rw [← HX.out]; rfl, hf.out⟩

end Go.Proofs.YtlinnhaodkiolaaGreat

namespace Go.Proofs.YtlinnhaodkiolaaGreat
open Go.RowKit

theorem reftext_any {S : Nat → Prop} {w : World} {b : Nat} {m : List Reg} (h : RefAt w b m S) (hm : m.length ≤ 1000000) (addr n : Int) (ha : 0 ≤ addr) (h64 : addr ≤ 18446744073709551615) (hn63 : n ≤ 9223372036854775807) :
    Calls Tryz.prog 49 #[.pointer (some ⟨b, 0, none⟩), .int .u64 addr, .int .i64 n] w fun e w' =>
      e = .returned (.tuple #[.string ⟨(mtext m addr n).1.toArray⟩, .int .i64 (mtext m addr n).2]) ∧ Fr No w w' := by
  by_cases h1 : n < 0
  · refine (reftext_neg _ _ n w h1).mono ?_
    rintro e w' ⟨rfl, hf⟩
    exact ⟨by simp [mtext, h1], hf⟩
  by_cases h0 : n = 0
  · subst h0
    refine (reftext_zero _ _ w).mono ?_
    rintro e w' ⟨rfl, hf⟩
    exact ⟨by simp [mtext], hf⟩
  have hat := refat_any h hm addr n ha h64 (by omega) hn63
  cases hsp : spot m addr n with
  | none =>
    refine (reftext_off _ addr n w (by omega) (hat.mono ?_)).mono ?_
    · rintro e w' ⟨rfl, hf⟩
      rw [spotInt, hsp]
      exact ⟨rfl, hf⟩
    · rintro e w' ⟨rfl, hf⟩
      exact ⟨by rw [mtext_none (by omega) hsp], hf⟩
  | some i =>
    have hi : i < m.length := spot_lt hsp
    have hh := spot_has hsp
    have hr : m[i]? = some m[i] := List.getElem?_eq_getElem hi
    have o := h.wf.ok m[i] (List.getElem_mem hi)
    have hi2 := (Reg.has_iff _ _ _).1 hh
    obtain ⟨v, hc, ⟨rfl, rfl⟩ | ⟨g, cap, rfl, _, hp, hc2, _⟩⟩ := h.list
    · simp at hi
    obtain ⟨c0, c1, _⟩ := areg_cells0 hc2 hr
    refine (reftext_at b g cap m.length i m m[i].base addr n m[i].data m[i].data.length (addr - m[i].base).toNat w rfl hc c0 c1 hi hm rfl o.small (by omega) (by omega) (by omega) (hat.mono ?_)).mono ?_
    · rintro e w' ⟨rfl, hf⟩
      rw [spotInt, hsp]
      exact ⟨rfl, hf⟩
    · rintro e w' ⟨rfl, hf⟩
      exact ⟨by rw [mtext_some (m := m) (by omega) hsp hr]; rfl, hf⟩

set_option maxHeartbeats 400000 in
theorem refread_bad (p addr : Value) (n : Int) (w : World) (h1 : (n != 1) = true) (h2 : (n != 2) = true) (h4 : (n != 4) = true) (h8 : (n != 8) = true) :
    Calls Tryz.prog 52 #[p, addr, .int .i64 n] w fun e w' => e = .returned (.tuple #[.int .u64 0, .int .i64 2]) ∧ Fr No w w' := by
  go_enter Tryz.func52, Tryz.ntmps52
  go_wp2_with fail
  go_ret2
  exact ⟨rfl, Fr.refl _ _⟩

set_option maxHeartbeats 400000 in
theorem refread_ok (p : Value) (addr n err : Int) (bs : List UInt8) (w : World) (hn : n = 1 ∨ n = 2 ∨ n = 4 ∨ n = 8) (hl : bs.length ≤ 8)
    (ht : Calls Tryz.prog 49 #[p, .int .u64 addr, .int .i64 n] w fun e w' => e = .returned (.tuple #[.string ⟨bs.toArray⟩, .int .i64 err]) ∧ Fr No w w') :
    Calls Tryz.prog 52 #[p, .int .u64 addr, .int .i64 n] w fun e w' => e = .returned (.tuple #[.int .u64 (leNum bs), .int .i64 err]) ∧ Fr No w w' := by
  have HT := Lib.hid ht
  have hnum : ∀ W, Calls Tryz.prog 73 #[.string ⟨bs.toArray⟩] W fun e w' => e = .returned (.int .u64 (leNum bs)) ∧ W = w' := fun W => by
    have := refnum_any ⟨bs.toArray⟩ W (by unfold maxLen; simp [ByteArray.size]; omega)
    simpa [List.take_of_length_le hl] using this
  have HM := Lib.hid hnum
  clear ht hnum
  rcases hn with rfl | rfl | rfl | rfl
  all_goals
    go_enter Tryz.func52, Tryz.ntmps52
    go_wp2_with (first | (go_at_call 49; (with_reducible refine HT.out.mono ?_); rintro e w1 ⟨rfl, hf⟩) | (go_at_call 73; (with_reducible refine (HM.out _).mono ?_); rintro e w2 ⟨rfl, rfl⟩))
    go_ret2
    exact ⟨rfl, hf⟩

theorem mtext_length {m : List Reg} {addr n : Int} (hn : 0 ≤ n) : ((mtext m addr n).1.length : Int) ≤ n := by
  unfold mtext
  split
  · simp; exact hn
  split
  · simp; exact hn
  split
  · simp; exact hn
  · rename_i i _
    cases hm : m[i]? with
    | none => simpa using hn
    | some r => simp [Reg.cut]; omega

theorem refread_any {S : Nat → Prop} {w : World} {b : Nat} {m : List Reg} (h : RefAt w b m S) (hm : m.length ≤ 1000000) (addr n : Int) (ha : 0 ≤ addr) (h64 : addr ≤ 18446744073709551615) :
    Calls Tryz.prog 52 #[.pointer (some ⟨b, 0, none⟩), .int .u64 addr, .int .i64 n] w fun e w' =>
      e = .returned (.tuple #[.int .u64 ((mread m addr n).1 : Int), .int .i64 (mread m addr n).2]) ∧ Fr No w w' := by
  by_cases hs : sizeOk n = true
  · have hn := (sizeOk_iff n).1 hs
    have ht := reftext_any h hm addr n ha h64 (by omega)
    have hl := mtext_length (m := m) (addr := addr) (n := n) (by omega)
    refine (refread_ok _ addr n _ _ w hn (by omega) ht).mono ?_
    rintro e w' ⟨rfl, hf⟩
    exact ⟨by simp [mread, hs], hf⟩
  · have hn : ¬ (n = 1 ∨ n = 2 ∨ n = 4 ∨ n = 8) := fun h => hs ((sizeOk_iff n).2 h)
    refine (refread_bad _ _ n w (by rw [bne_iff_ne]; omega) (by rw [bne_iff_ne]; omega) (by rw [bne_iff_ne]; omega) (by rw [bne_iff_ne]; omega)).mono ?_
    rintro e w' ⟨rfl, hf⟩
    exact ⟨by simp [mread, hs], hf⟩

/-! ### writing -/

theorem aflat_put (m : List Reg) (i : Nat) (r : Reg) (d : List UInt8) (hr : m[i]? = some r) : aflat (m.set i { r with data := d }) = (aflat m).set (i * 3 + 1) (.string ⟨d.toArray⟩) := by
  induction m generalizing i with
  | nil => simp at hr
  | cons x m ih =>
    cases i with
    | zero =>
      simp at hr
      subst hr
      simp [aflat, Reg.cells]
    | succ i =>
      have := ih i (by simpa using hr)
      simp only [List.set_cons_succ, aflat, List.flatMap_cons] at this ⊢
      rw [this, show (i + 1) * 3 + 1 = x.cells.length + (i * 3 + 1) by simp [Reg.cells]; omega, List.set_append_right _ _ (by omega), Nat.add_sub_cancel_left]

theorem CellsAt.setOne {w : World} {g : Nat} {vs : List Value} (h : CellsAt w g 0 vs) (j : Nat) (v : Value) (hj : j < vs.length) : CellsAt (w.setCell ⟨g, j, none⟩ v) g 0 (vs.set j v) := by
  intro t u ht
  rw [Nat.zero_add]
  rw [List.getElem?_set] at ht
  split at ht
  · rename_i e
    subst e
    have := h j _ (List.getElem?_eq_getElem hj)
    rw [Nat.zero_add] at this
    rw [World.cell?_setCell_same _ _ _ (by rw [this]; try rfl)]
    exact ht
  · rename_i e
    rw [World.cell?_setCell_other _ _ _ _ (by simp; try omega)]
    have := h t u ht
    rwa [Nat.zero_add] at this

theorem RefAt.put {S : Nat → Prop} {w : World} {b : Nat} {m : List Reg} (h : RefAt w b m S) {g : Nat} {cap : Nat} (hcell : w.cell? ⟨b, 0, none⟩ = some (.slice (some ⟨g, 0, none⟩) m.length cap)) (i : Nat) (r : Reg) (hr : m[i]? = some r) (d : List UInt8) (hd : d.length = r.data.length) :
    RefAt (w.setCell ⟨g, i * 3 + 1, none⟩ (.string ⟨d.toArray⟩)) b (m.set i { r with data := d }) S ∧ S g := by
  obtain ⟨hi, hx⟩ := List.getElem?_eq_some_iff.1 hr
  obtain ⟨v, hc, ⟨rfl, rfl⟩ | ⟨g', cap', rfl, hcap, h0, hc2, ho, hne, hS⟩⟩ := h.list
  · simp at hi
  rw [hcell] at hc
  have := Option.some.inj hc
  injection this with e1 _ e3
  have e4 := Option.some.inj e1
  injection e4 with e5 _ _
  subst e5
  subst e3
  refine ⟨⟨?_, ⟨_, by rw [World.cell?_setCell_other _ _ _ _ (by simp; try (intro e; exact absurd e.symm hne))]; exact hcell, .inr ⟨g, cap, by simp, by simpa using hcap, by simpa using h0, ?_, fun j hj => ?_, hne, hS⟩⟩, by rw [World.frozen?_setCell]; exact h.openb, h.own⟩, hS⟩
  · refine h.wf.same (by simp) (fun j hj hj' => ?_)
    rw [List.getElem_set]
    split
    · rename_i e; subst e; rw [hx]; exact ⟨rfl, hd⟩
    · exact ⟨rfl, rfl⟩
  · rw [aflat_put m i r d hr]
    exact hc2.setOne _ _ (by rw [aflat_length]; omega)
  · rw [World.frozen?_setCell]; exact ho j (by simpa using hj)

end Go.Proofs.YtlinnhaodkiolaaGreat

namespace Go.Proofs.YtlinnhaodkiolaaGreat
open Go.RowKit

theorem ext_take (D : List UInt8) (k : Nat) : (⟨D.toArray⟩ : ByteArray).extract 0 k = ⟨(D.take k).toArray⟩ := by
  apply ByteArray.ext; simp
theorem ext_drop (D : List UInt8) (j L : Nat) (h : D.length = L) : (⟨D.toArray⟩ : ByteArray).extract j L = ⟨(D.drop j).toArray⟩ := by
  subst h
  apply ByteArray.ext; apply Array.ext'; simp
  rw [List.take_of_length_le (by simp)]
theorem bapp (a b : List UInt8) : ((⟨a.toArray⟩ : ByteArray) ++ (⟨b.toArray⟩ : ByteArray)) = ⟨(a ++ b).toArray⟩ := by
  apply ByteArray.ext; simp

end Go.Proofs.YtlinnhaodkiolaaGreat

namespace Go.Proofs.YtlinnhaodkiolaaGreat
open Go.RowKit

set_option maxRecDepth 100000 in
set_option maxHeartbeats 400000 in
theorem refput_at (b g cap L i : Nat) (base addr : Int) (data bs : List UInt8) (dl F n : Nat) (w : World) (hcell : w.cell? ⟨b, 0, none⟩ = some (.slice (some ⟨g, 0, none⟩) L cap))
    (c0 : w.cell? ⟨g, i * 3, none⟩ = some (.int .u64 base)) (c1 : w.cell? ⟨g, i * 3 + 1, none⟩ = some (.string ⟨data.toArray⟩)) (hfz : w.frozen? ⟨g, i * 3 + 1, none⟩ = false)
    (hi : i < L) (_ : L ≤ 1000000) (hdl : data.length = dl) (hd63 : dl ≤ 9223372036854775807) (hF : addr - base = F) (hn : bs.length = n) (hFn : F + n ≤ dl) (_ : ¬ b = g) (hne2 : ¬ g = b)
    (hat : Calls Tryz.prog 53 #[.pointer (some ⟨b, 0, none⟩), .int .u64 addr, .int .i64 n] w fun e w' => e = .returned (.int .i64 i) ∧ Fr No w w') :
    Calls Tryz.prog 54 #[.pointer (some ⟨b, 0, none⟩), .int .u64 addr, .string ⟨bs.toArray⟩] w fun e w' => e = .returned (.tuple #[]) ∧ ∃ w1, Fr No w w1 ∧ w' = (w1.setCell ⟨g, i * 3 + 1, none⟩ (.string ⟨(data.take F ++ bs ++ data.drop (F + n)).toArray⟩)).drew := by
  have HA : Hid (Calls Tryz.prog 53 #[.pointer (some ⟨b, 0, none⟩), .int .u64 addr, .int .i64 n] w fun e w' => e = .returned (.int .i64 i) ∧ Hid (Fr No w w') ∧ w'.cell? ⟨b, 0, none⟩ = some (.slice (some ⟨g, 0, none⟩) L cap) ∧ w'.cell? ⟨g, i * 3, none⟩ = some (.int .u64 base) ∧ w'.cell? ⟨g, i * 3 + 1, none⟩ = some (.string ⟨data.toArray⟩) ∧ w'.frozen? ⟨g, i * 3 + 1, none⟩ = false) :=
    hat.mono fun _ _ ⟨he, hf⟩ => ⟨he, hf, hf.cell hcell id, hf.cell c0 id, hf.cell c1 id, by rw [hf.frozen c1 id]; exact hfz⟩
  have sz : (⟨data.toArray⟩ : ByteArray).size = dl := hdl
  have sz2 : (⟨bs.toArray⟩ : ByteArray).size = n := hn
  have x1 : IntKind.u64.wrap (addr - base) = F := by rw [hF]; exact IntWalk.u64_in _ (by omega)
  have x2 : IntKind.i64.wrap (F : Int) = F := IntWalk.i64_in _ (by omega)
  have x3 : IntKind.i64.wrap ((F : Int) + n) = F + n := IntWalk.i64_in _ (by omega)
  obtain ⟨D1, hD1⟩ : ∃ D1, D1 = data.take F ++ bs := ⟨_, rfl⟩
  obtain ⟨E, hE⟩ : ∃ E, E = data.take F ++ bs ++ data.drop (F + n) := ⟨_, rfl⟩
  have ha1 : ∀ W, (Op.stringOp .add ((⟨data.toArray⟩ : ByteArray).extract 0 F) ⟨bs.toArray⟩).run Tryz.prog W = .ok (.string ⟨D1.toArray⟩) W := fun W => by
    rw [ext_take, run_string_add_sum, bapp, hD1]
    simp [ByteArray.size]; omega
  have ha2 : ∀ W, (Op.stringOp .add ⟨D1.toArray⟩ ((⟨data.toArray⟩ : ByteArray).extract ((F : Int) + n).toNat dl)).run Tryz.prog W = .ok (.string ⟨E.toArray⟩) W := fun W => by
    rw [show ((F : Int) + n).toNat = F + n by omega, ext_drop _ _ _ hdl, run_string_add_sum, bapp, hD1, hE]
    simp [ByteArray.size, hD1]; omega
  rw [← hE]
  have b1 : (0 : Int) ≤ (F : Int) := by omega
  have b2 : (F : Int) ≤ (dl : Int) := by omega
  have b3 : (0 : Int) ≤ (F : Int) + n := by omega
  have b4 : (F : Int) + n ≤ (dl : Int) := by omega
  have b5 : (0 : Int) ≤ (i : Int) := by omega
  have b6 : (i : Int) < (L : Int) := by omega
  clear hat hcell c0 c1 hfz hdl hF hn hD1 hE
  go_enter Tryz.func54, Tryz.ntmps54
  go_wp2_with (go_at_call 53; (with_reducible refine HA.out.mono ?_); rintro e w1 ⟨rfl, hf, d0, d1, d2, d3⟩)
  go_region_held3 (fun W => W.cell? ⟨b, 0, none⟩ = some (.slice (some ⟨g, 0, none⟩) L cap)) (first | assumption | go_keep) (fail)
  go_end0
  exact ⟨rfl, w1, hf.out, rfl⟩

theorem modify_is_set (m : List Reg) (i : Nat) (r : Reg) (f : Reg → Reg) (hr : m[i]? = some r) : m.modify i f = m.set i (f r) := by
  apply List.ext_getElem?
  intro j
  rw [List.getElem?_modify, List.getElem?_set]
  by_cases e : i = j
  · subst e
    obtain ⟨hk, hx⟩ := List.getElem?_eq_some_iff.1 hr
    simp [hk, hx]
  · simp [e]

/-- the document's memory, and the region i's cells -/
structure RefOn (w0 : World) (b g cap i L : Nat) (free : Bool) (m : List Reg) (S : Nat → Prop) (W : World) : Prop where
  at' : Hid (RefAt W b m S)
  fr : Hid (Fr S w0 W)
  c0 : W.cell? ⟨b, 0, none⟩ = some (.slice (some ⟨g, 0, none⟩) L cap)
  c2 : W.cell? ⟨g, i * 3 + 2, none⟩ = some (.bool free)

theorem RefOn.to {w0 : World} {b g cap i L : Nat} {free : Bool} {m : List Reg} {S : Nat → Prop} {W W' : World} (h : RefOn w0 b g cap i L free m S W) (hf : Fr No W W') : RefOn w0 b g cap i L free m S W' :=
  ⟨h.at'.out.fr hf (fun _ _ => id), h.fr.out.trans hf.any, hf.cell h.c0 id, hf.cell h.c2 id⟩

/-- what Write calls, at a region that is there -/
structure RefWr (w0 : World) (b g cap i L : Nat) (free : Bool) (m : List Reg) (S : Nat → Prop) (addr n : Int) (V : Nat) (bs : List UInt8) (m' : List Reg) : Prop where
  read : ∀ W, Hid (RefOn w0 b g cap i L free m S W) → Calls Tryz.prog 52 #[.pointer (some ⟨b, 0, none⟩), .int .u64 addr, .int .i64 n] W fun e w' => ∃ x, e = .returned (.tuple #[x, .int .i64 0]) ∧ Hid (RefOn w0 b g cap i L free m S w') ∧ w'.cell? ⟨b, 0, none⟩ = some (.slice (some ⟨g, 0, none⟩) L cap) ∧ w'.cell? ⟨g, i * 3 + 2, none⟩ = some (.bool free)
  «at» : ∀ W, Hid (RefOn w0 b g cap i L free m S W) → Calls Tryz.prog 53 #[.pointer (some ⟨b, 0, none⟩), .int .u64 addr, .int .i64 n] W fun e w' => e = .returned (.int .i64 i) ∧ Hid (RefOn w0 b g cap i L free m S w') ∧ w'.cell? ⟨b, 0, none⟩ = some (.slice (some ⟨g, 0, none⟩) L cap) ∧ w'.cell? ⟨g, i * 3 + 2, none⟩ = some (.bool free)
  bytes : ∀ W, Hid (RefOn w0 b g cap i L free m S W) → Calls Tryz.prog 42 #[.int .u64 V, .int .i64 n] W fun e w' => e = .returned (.string ⟨bs.toArray⟩) ∧ Hid (RefOn w0 b g cap i L free m S w')
  put : ∀ W, Hid (RefOn w0 b g cap i L free m S W) → Calls Tryz.prog 54 #[.pointer (some ⟨b, 0, none⟩), .int .u64 addr, .string ⟨bs.toArray⟩] W fun e w' => e = .returned (.tuple #[]) ∧ Hid (Fr S w0 w') ∧ Hid (RefAt w' b m' S)

theorem RefWr.make {S : Nat → Prop} {w0 : World} {b g cap i : Nat} {m : List Reg} {r : Reg} (hm : m.length ≤ 1000000) (addr n : Int) (V : Nat) (ha : 0 ≤ addr) (h64 : addr ≤ 18446744073709551615) (hV : V < 2 ^ 64) (hs : sizeOk n = true) (hsp : spot m addr n = some i) (hr : m[i]? = some r) :
    RefWr w0 b g cap i m.length r.free m S addr n V (leBytes n.toNat V) (mput m addr (leBytes n.toNat V)) where
  read := fun W h => by
    have hn := (sizeOk_iff n).1 hs
    refine (refread_any h.out.at'.out hm addr n ha h64).mono ?_
    rintro e w' ⟨rfl, hf⟩
    have := h.out.to hf
    exact ⟨_, by rw [mread, if_pos hs, mtext_some (by omega) hsp hr], this, this.c0, this.c2⟩
  «at» := fun W h => by
    have hn := (sizeOk_iff n).1 hs
    refine (refat_any h.out.at'.out hm addr n ha h64 (by omega) (by omega)).mono ?_
    rintro e w' ⟨rfl, hf⟩
    have := h.out.to hf
    exact ⟨by rw [spotInt, hsp], this, this.c0, this.c2⟩
  bytes := fun W h => by
    have hn := (sizeOk_iff n).1 hs
    have := refbytes_any V n.toNat W hV (by omega)
    rw [show ((n.toNat : Nat) : Int) = n by omega] at this
    refine this.mono ?_
    rintro e w' ⟨rfl, hb⟩
    exact ⟨rfl, h.out.to (Fr.of_below hb)⟩
  put := fun W h => by
    have hn := (sizeOk_iff n).1 hs
    have hi := spot_lt hsp
    have hh := (Reg.has_iff _ _ _).1 (spot_has hsp)
    have hx : m[i] = r := by rw [List.getElem?_eq_getElem hi] at hr; exact Option.some.inj hr
    rw [hx] at hh
    have hre := h.out.at'.out
    have o := hre.wf.ok r (by rw [← hx]; exact List.getElem_mem hi)
    have hN : ((leBytes n.toNat V).length : Int) = n := by simp; omega
    obtain ⟨v, hc, ⟨rfl, rfl⟩ | ⟨g', cap', rfl, hcap, h0, hc2, ho, hne, hS⟩⟩ := id hre.list
    · simp at hi
    have hc0 := h.out.c0
    rw [hc0] at hc
    have e0 := Option.some.inj hc
    injection e0 with e1 _ e3
    have e4 := Option.some.inj e1
    injection e4 with e5 _ _
    subst e5
    subst e3
    obtain ⟨c0, c1, _⟩ := areg_cells0 hc2 hr
    have hat := refat_any hre hm addr n ha h64 (by omega) (by omega)
    have hat2 : Calls Tryz.prog 53 #[.pointer (some ⟨b, 0, none⟩), .int .u64 addr, .int .i64 ((leBytes n.toNat V).length : Int)] W fun e w' => e = .returned (.int .i64 i) ∧ Fr No W w' := by
      rw [hN]
      refine hat.mono ?_
      rintro e w' ⟨rfl, hf⟩
      exact ⟨by rw [spotInt, hsp], hf⟩
    have hF : addr - r.base = ((addr - r.base).toNat : Int) := by omega
    have hfz : W.frozen? ⟨g, i * 3 + 1, none⟩ = false := by
      have := ho (i * 3 + 1) (by omega)
      rwa [Nat.zero_add] at this
    refine (refput_at b g cap m.length i r.base addr r.data (leBytes n.toNat V) r.data.length (addr - r.base).toNat (leBytes n.toNat V).length W hc0 c0 c1 hfz hi hm rfl o.small hF rfl (by omega) (fun e => hne e.symm) hne hat2).mono ?_
    rintro e w' ⟨rfl, w1, hf, rfl⟩
    have hp := (hre.fr hf (fun _ _ => id)).put (hf.cell hc0 id) i r hr (r.data.take (addr - r.base).toNat ++ leBytes n.toNat V ++ r.data.drop ((addr - r.base).toNat + (leBytes n.toNat V).length)) (by simp; omega)
    have hmp : mput m addr (leBytes n.toNat V) = m.set i { r with data := r.data.take (addr - r.base).toNat ++ leBytes n.toNat V ++ r.data.drop ((addr - r.base).toNat + (leBytes n.toNat V).length) } := by
      have hsp2 : spot m addr ((leBytes n.toNat V).length : Int) = some i := by rw [hN]; exact hsp
      rw [mput, hsp2]
      show m.modify i (·.put addr (leBytes n.toNat V)) = _
      rw [modify_is_set m i r _ hr]
      rfl
    rw [hmp]
    exact ⟨rfl, ((h.out.fr.out.trans hf.any).setCell (.inr hp.2) _).drew, hp.1.fr ((Fr.refl No _).drew) (fun _ _ => id)⟩

set_option maxHeartbeats 400000 in
theorem refwrite_err (p addr n v : Value) (err : Int) (w : World) (he : (err != 0) = true)
    (hr : Calls Tryz.prog 52 #[p, addr, n] w fun e w' => ∃ x, e = .returned (.tuple #[x, .int .i64 err]) ∧ Fr No w w') :
    Calls Tryz.prog 21 #[p, addr, n, v] w fun e w' => e = .returned (.int .i64 err) ∧ Fr No w w' := by
  have HR := Lib.hid hr
  clear hr
  go_enter Tryz.func21, Tryz.ntmps21
  go_wp2_with (go_at_call 52; (with_reducible refine HR.out.mono ?_); rintro e w1 ⟨x, rfl, hf⟩)
  go_ret
  exact ⟨rfl, hf⟩

def RefWrPost (w : World) (b : Nat) (free : Bool) (m m' : List Reg) (S : Nat → Prop) (e : Ending) (w' : World) : Prop :=
  (free = true → e = .returned (.int .i64 0) ∧ Fr S w w' ∧ RefAt w' b m' S) ∧ (free = false → e = .returned (.int .i64 71) ∧ Fr S w w' ∧ RefAt w' b m S)

set_option maxRecDepth 100000 in
set_option maxHeartbeats 1000000 in
theorem refwrite_walk (w : World) (b g cap i L : Nat) (free : Bool) (m : List Reg) (S : Nat → Prop) (addr n : Int) (V : Nat) (bs : List UInt8) (m' : List Reg) (hi : i < L) (_ : L ≤ 1000000) (H : Hid (RefWr w b g cap i L free m S addr n V bs m')) (h0 : Hid (RefOn w b g cap i L free m S w)) :
    Calls Tryz.prog 21 #[.pointer (some ⟨b, 0, none⟩), .int .u64 addr, .int .i64 n, .int .u64 V] w (RefWrPost w b free m m' S) := by
  have b5 : (0 : Int) ≤ (i : Int) := by omega
  have b6 : (i : Int) < (L : Int) := by omega
  go_enter Tryz.func21, Tryz.ntmps21
  go_upto_region 4 with (go_at_call 52; (with_reducible refine (H.out.read _ h0).mono ?_); rintro e w1 ⟨x, rfl, h1, c0, c2⟩)
  have h1d : Hid (RefOn w b g cap i L free m S w1.drew) := h1.out.to ((Fr.refl _ _).drew)
  go_region_held3 (fun W => W.cell? ⟨b, 0, none⟩ = some (.slice (some ⟨g, 0, none⟩) L cap) ∧ W.cell? ⟨g, i * 3 + 2, none⟩ = some (.bool free)) (first | (constructor <;> assumption) | go_keep) (first | (go_at_call 53; (with_reducible refine (H.out.at _ h1d).mono ?_); rintro e w2 ⟨rfl, h2, d0, d2⟩))
  cases free with
  | true =>
    go_wp2_with (first
      | (go_at_call 42; (with_reducible refine (H.out.bytes _ h2).mono ?_); rintro e w3 ⟨rfl, h3⟩)
      | (go_at_call 54; (with_reducible refine (H.out.put _ h3).mono ?_); rintro e w4 ⟨rfl, hf4, h4⟩))
    go_ret
    exact ⟨fun _ => ⟨rfl, hf4.out, h4.out⟩, fun h => Bool.noConfusion h⟩
  | false =>
    go_wp2_with fail
    go_ret
    exact ⟨fun h => Bool.noConfusion h, fun _ => ⟨rfl, h2.out.fr.out, h2.out.at'.out⟩⟩

theorem refwrite_any {S : Nat → Prop} {w : World} {b : Nat} {m : List Reg} (h : RefAt w b m S) (hm : m.length ≤ 1000000) (addr n : Int) (v : Nat) (ha : 0 ≤ addr) (h64 : addr ≤ 18446744073709551615) (hv : v < 2 ^ 64) :
    Calls Tryz.prog 21 #[.pointer (some ⟨b, 0, none⟩), .int .u64 addr, .int .i64 n, .int .u64 v] w fun e w' =>
      e = .returned (.int .i64 (mwrite m addr n v).2) ∧ Fr S w w' ∧ RefAt w' b (mwrite m addr n v).1 S := by
  have hrd := refread_any h hm addr n ha h64
  by_cases hs : sizeOk n = true
  · have hn := (sizeOk_iff n).1 hs
    cases hsp : spot m addr n with
    | none =>
      have e1 : mread m addr n = (leNum [], 70) := by rw [mread, if_pos hs, mtext_none (by omega) hsp]
      have e2 : mwrite m addr n v = (m, 70) := by rw [mwrite, if_pos hs, hsp]
      rw [e1] at hrd
      rw [e2]
      refine (refwrite_err _ _ _ _ 70 w (by decide) (hrd.mono fun _ _ ⟨he, hf⟩ => ⟨_, he, hf⟩)).mono ?_
      rintro e w' ⟨rfl, hf⟩
      exact ⟨rfl, hf.any, h.fr hf (fun _ _ => id)⟩
    | some i =>
      have hi := spot_lt hsp
      have hr : m[i]? = some m[i] := List.getElem?_eq_getElem hi
      have e2 : mwrite m addr n v = if m[i].free then (mput m addr (leBytes n.toNat v), 0) else (m, 71) := by
        rw [mwrite, if_pos hs, hsp]; simp [hr]
      obtain ⟨val, hc, ⟨rfl, rfl⟩ | ⟨g, cap, rfl, _, h0, hc2, _⟩⟩ := h.list
      · simp at hi
      obtain ⟨_, _, c2⟩ := areg_cells0 hc2 hr
      refine (refwrite_walk w b g cap i m.length m[i].free m S addr n v _ _ hi hm (RefWr.make hm addr n v ha h64 hv hs hsp hr) ⟨h, Fr.refl _ _, hc, c2⟩).mono ?_
      rintro e w' ⟨p1, p2⟩
      rw [e2]
      cases hfr : m[i].free with
      | true => exact p1 hfr
      | false => exact p2 hfr
  · have e1 : mread m addr n = (0, 2) := by rw [mread, if_neg hs]
    have e2 : mwrite m addr n v = (m, 2) := by rw [mwrite, if_neg hs]
    rw [e1] at hrd
    rw [e2]
    refine (refwrite_err _ _ _ _ 2 w (by decide) (hrd.mono fun _ _ ⟨he, hf⟩ => ⟨_, he, hf⟩)).mono ?_
    rintro e w' ⟨rfl, hf⟩
    exact ⟨rfl, hf.any, h.fr hf (fun _ _ => id)⟩

end Go.Proofs.YtlinnhaodkiolaaGreat
