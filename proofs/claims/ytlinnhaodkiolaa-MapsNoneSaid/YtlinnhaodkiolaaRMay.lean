/- firewallref08.May: may these be maps, by the document. -/
import Derived.Test.YtlinnhaodkiolaaGreat8
namespace Go.Proofs.Ytlinnhaodkiolaa
open Go.RowKit

/-- what a map's tests come to, way by way -/
theorem may_ways (x : MapD) (P : Prop)
    (a1 : ∀ (_ : (x.kind != 1) = true) (_ : (x.kind != 2) = true) (_ : (x.kind == 1) = false), x.may = false → P)
    (a2 : ∀ (_ : (x.kind != 1) = false) (_ : (x.kind == 1) = true) (_ : (x.key != 4) = true), x.may = false → P)
    (tail1 : (x.kind != 1) = false → (x.kind == 1) = true → (x.key != 4) = false → x.kind = 1 ∧ x.key = 4 ∨ x.kind = 2 → P)
    (tail2 : (x.kind != 1) = true → (x.kind != 2) = false → (x.kind == 1) = false → x.kind = 1 ∧ x.key = 4 ∨ x.kind = 2 → P) : P := by
  by_cases h1 : x.kind = 1
  · have q1 : (x.kind == 1) = true := by simpa using h1
    have q2 : (x.kind != 1) = false := by simpa using h1
    by_cases h4 : x.key = 4
    · exact tail1 q2 q1 (by simpa using h4) (.inl ⟨h1, h4⟩)
    · exact a2 q2 q1 (by simpa using h4) (by rw [Bool.eq_false_iff, ne_eq, MapD.may_iff]; omega)
  · have q1 : (x.kind == 1) = false := by simpa using h1
    have q2 : (x.kind != 1) = true := by simpa using h1
    by_cases h2 : x.kind = 2
    · exact tail2 q2 (by simpa using h2) q1 (.inr h2)
    · exact a1 q2 (by simpa using h2) q1 (by rw [Bool.eq_false_iff, ne_eq, MapD.may_iff]; omega)

theorem may_tail (x : MapD) (P : Prop) (hk : x.kind = 1 ∧ x.key = 4 ∨ x.kind = 2)
    (b1 : decide (x.key < 1) = true → x.may = false → P)
    (b2 : decide (x.key < 1) = false → decide (8 < x.key) = true → x.may = false → P)
    (b3 : decide (x.key < 1) = false → decide (8 < x.key) = false → decide (x.value < 1) = true → x.may = false → P)
    (b4 : decide (x.key < 1) = false → decide (8 < x.key) = false → decide (x.value < 1) = false → decide (64 < x.value) = true → x.may = false → P)
    (b5 : decide (x.key < 1) = false → decide (8 < x.key) = false → decide (x.value < 1) = false → decide (64 < x.value) = false → decide (x.max < 1) = true → x.may = false → P)
    (b6 : decide (x.key < 1) = false → decide (8 < x.key) = false → decide (x.value < 1) = false → decide (64 < x.value) = false → decide (x.max < 1) = false → decide (16 < x.max) = true → x.may = false → P)
    (b7 : decide (x.key < 1) = false → decide (8 < x.key) = false → decide (x.value < 1) = false → decide (64 < x.value) = false → decide (x.max < 1) = false → decide (16 < x.max) = false → x.may = true → P) : P := by
  have no : ¬ (x.may = true) → x.may = false := fun h => by simpa using h
  have iff := MapD.may_iff x
  by_cases c1 : x.key < 1
  · exact b1 (by simpa using c1) (no (by rw [iff]; omega))
  by_cases c2 : 8 < x.key
  · exact b2 (by simpa using c1) (by simpa using c2) (no (by rw [iff]; omega))
  by_cases c3 : x.value < 1
  · exact b3 (by simpa using c1) (by simpa using c2) (by simpa using c3) (no (by rw [iff]; omega))
  by_cases c4 : 64 < x.value
  · exact b4 (by simpa using c1) (by simpa using c2) (by simpa using c3) (by simpa using c4) (no (by rw [iff]; omega))
  by_cases c5 : x.max < 1
  · exact b5 (by simpa using c1) (by simpa using c2) (by simpa using c3) (by simpa using c4) (by simpa using c5) (no (by rw [iff]; omega))
  by_cases c6 : 16 < x.max
  · exact b6 (by simpa using c1) (by simpa using c2) (by simpa using c3) (by simpa using c4) (by simpa using c5) (by simpa using c6) (no (by rw [iff]; omega))
  · exact b7 (by simpa using c1) (by simpa using c2) (by simpa using c3) (by simpa using c4) (by simpa using c5) (by simpa using c6) (by rw [iff]; omega)

set_option maxRecDepth 100000 in
set_option maxHeartbeats 4000000 in
theorem refmay_walk (g off n cap : Nat) (l : List MapD) (w : World) (hn : l.length = n) (h4 : n ≤ 4) (hc : CellsAt w g off (mflat l)) :
    Calls Try.prog 18 #[.slice (some ⟨g, off, none⟩) n cap] w fun e w' => e = .returned (.bool (mayL l)) ∧ Fr No w w' := by
  have HC := Lib.hid hc
  have HN := Lib.hid hn
  clear hc hn
  go_enter Try.func18, Try.ntmps18
  go_wp2_with fail
  go_loopw [3] (fun i wr => ∃ k : Nat, k ≤ n ∧ i = .int .i64 k ∧ Hid (Fr No w wr) ∧ Hid (∀ (j : Nat) x, j < k → l[j]? = some x → x.may = true)) (fun i _ => n - (intOf i).toNat)
  case atStart => exact ⟨0, Nat.zero_le _, rfl, Fr.refl _ _, fun j _ h => absurd h (Nat.not_lt_zero _)⟩
  case round =>
    obtain ⟨k, hk, rfl, HF, HJ⟩ := hrel
    by_cases hlt : k < n
    · obtain ⟨x, hx⟩ : ∃ x, l[k]? = some x := ⟨l[k]'(by rw [HN.out]; exact hlt), List.getElem?_eq_getElem _⟩
      obtain ⟨k0, k1, k2, k3⟩ := map_cells (HF.out.cells HC.out id) hx
      have HX := Lib.hid hx
      have HNO : Hid (x.may = false → mayL l = false) := Lib.hid fun hb => by
        have : ¬ (mayL l = true) := fun h => by
          have := ((mayL_iff l).1 h).2 x (List.mem_of_getElem? HX.out)
          rw [hb] at this; cases this
        simpa using this
      have HJ2 : Hid (x.may = true → ∀ (j : Nat) y, j < k + 1 → l[j]? = some y → y.may = true) := Lib.hid fun hb j y hj hy => by
        by_cases e : j = k
        · subst e
          rw [HX.out] at hy
          obtain rfl := Option.some.inj hy
          exact hb
        · exact HJ.out j y (by omega) hy
      clear hx HX
      refine may_ways x _ (fun q1 q2 q3 hb => ?_) (fun q1 q2 q3 hb => ?_) (fun q1 q2 q3 hk => ?_) (fun q1 q2 q3 hk => ?_)
      iterate 2
        · have HR : Hid (mayL l = false) := HNO.out hb
          obtain ⟨kind, key, value, max⟩ := x
          simp only at k0 k1 k2 k3 q1 q2 q3
          clear hb HNO HJ2 HJ
          go_wp2_with fail
          go_ret
          exact ⟨by rw [HR.out]; rfl, HF.out.trans ((Fr.refl _ _).alloc _)⟩
      iterate 2
        · have HK := Lib.hid hk
          clear hk
          refine may_tail x _ HK.out (fun r1 hb => ?_) (fun r1 r2 hb => ?_) (fun r1 r2 r3 hb => ?_) (fun r1 r2 r3 r4 hb => ?_) (fun r1 r2 r3 r4 r5 hb => ?_) (fun r1 r2 r3 r4 r5 r6 hb => ?_) (fun r1 r2 r3 r4 r5 r6 hb => ?_)
          iterate 6
            · have HR : Hid (mayL l = false) := HNO.out hb
              obtain ⟨kind, key, value, max⟩ := x
              simp only at k0 k1 k2 k3 q1 q2 q3
              (try simp only at r1)
              (try simp only at r2)
              (try simp only at r3)
              (try simp only at r4)
              (try simp only at r5)
              (try simp only at r6)
              clear hb HNO HJ2 HJ
              go_wp2_with fail
              go_ret
              exact ⟨by rw [HR.out]; rfl, HF.out.trans ((Fr.refl _ _).alloc _)⟩
          · have HJ3 : Hid (∀ (j : Nat) y, j < k + 1 → l[j]? = some y → y.may = true) := HJ2.out hb
            obtain ⟨kind, key, value, max⟩ := x
            simp only at k0 k1 k2 k3 q1 q2 q3 r1 r2 r3 r4 r5 r6
            clear hb HNO HJ2 HJ
            go_wp2_with fail
            go_roundw
            case rel => exact ⟨k + 1, by omega, by go_num, HF.out.trans ((Fr.refl _ _).alloc _), HJ3⟩
            case measure => simp [intOf] <;> omega
    · obtain rfl : k = n := by omega
      have HR : Hid (mayL l = true) := Lib.hid (by
        rw [mayL_iff]
        refine ⟨by rw [HN.out]; exact h4, fun x hx => ?_⟩
        obtain ⟨j, hj, rfl⟩ := List.getElem_of_mem hx
        exact HJ.out j _ (by rw [← HN.out]; exact hj) (List.getElem?_eq_getElem hj))
      go_wp2_with fail
      go_ret
      exact ⟨by rw [HR.out]; rfl, HF.out⟩

set_option maxHeartbeats 400000 in
theorem refmay_long (a : Option Addr) (n c : Nat) (w : World) (h : 4 < n) :
    Calls Try.prog 18 #[.slice a n c] w fun e w' => e = .returned (.bool false) ∧ Fr No w w' := by
  have q : decide (4 < n) = true := by simpa using h
  go_enter Try.func18, Try.ntmps18
  go_wp2_with fail
  go_ret
  exact ⟨rfl, Fr.refl _ _⟩

set_option maxHeartbeats 400000 in
theorem refmay_zero (a : Option Addr) (c : Nat) (w : World) :
    Calls Try.prog 18 #[.slice a 0 c] w fun e w' => e = .returned (.bool true) ∧ Fr No w w' := by
  go_enter Try.func18, Try.ntmps18
  go_wp2_with fail
  refine wp_loop_rounds 1 ?_
  rw [rounds_succ]
  go_wp2_with fail
  go_ret
  exact ⟨rfl, Fr.refl _ _⟩

theorem refmay_any (v : Value) (l : List MapD) (w : World) (h : MapsIn w v l) :
    Calls Try.prog 18 #[v] w fun e w' => e = .returned (.bool (mayL l)) ∧ Fr No w w' := by
  by_cases h4 : l.length ≤ 4
  · rcases h with ⟨rfl, a, c, rfl⟩ | ⟨g, off, cap, rfl, hc⟩
    · exact refmay_zero a c w
    · exact refmay_walk g off l.length cap l w rfl h4 hc
  · obtain ⟨a, c, rfl⟩ := h.form
    have e : mayL l = false := by unfold mayL; simp [h4]
    rw [e]
    exact refmay_long a _ c w (by omega)

end Go.Proofs.Ytlinnhaodkiolaa
