/- maps: may these be maps? -/
import Derived.Test.YtlinnhaodkiolaaMapP
namespace Go.Proofs.Ytlinnhaodkiolaa
open Go.RowKit

set_option maxHeartbeats 400000 in
theorem may1_k1v1 (kind key value max : Int) (w : World) (h1 : kind = 1) (h2 : key = 4) (g1 : value < 1) :
    Calls Try.prog 48 #[.agg #[.int .i64 kind, .int .i64 key, .int .i64 value, .int .i64 max]] w fun e w' => e = .returned (.bool true) ∧ Fr No w w' := by
  have q1 : (kind == 1) = true := by simpa using h1
  have q2 : (key == 4) = true := by simpa using h2
  have r1 : decide (value < 1) = true := by simpa using g1
  go_enter Try.func48, Try.ntmps48
  go_wp2_with fail
  go_ret
  exact ⟨rfl, (Fr.refl _ _).alloc _⟩

set_option maxHeartbeats 400000 in
theorem may1_k1v2 (kind key value max : Int) (w : World) (h1 : kind = 1) (h2 : key = 4) (g1 : 1 ≤ value) (g2 : 64 < value) :
    Calls Try.prog 48 #[.agg #[.int .i64 kind, .int .i64 key, .int .i64 value, .int .i64 max]] w fun e w' => e = .returned (.bool true) ∧ Fr No w w' := by
  have q1 : (kind == 1) = true := by simpa using h1
  have q2 : (key == 4) = true := by simpa using h2
  have r1 : decide (value < 1) = false := by simp; omega
  have r2 : decide (64 < value) = true := by simpa using g2
  go_enter Try.func48, Try.ntmps48
  go_wp2_with fail
  go_ret
  exact ⟨rfl, (Fr.refl _ _).alloc _⟩

set_option maxHeartbeats 400000 in
theorem may1_k1v3 (kind key value max : Int) (w : World) (h1 : kind = 1) (h2 : key = 4) (g1 : 1 ≤ value) (g2 : value ≤ 64) (g3 : max < 1) :
    Calls Try.prog 48 #[.agg #[.int .i64 kind, .int .i64 key, .int .i64 value, .int .i64 max]] w fun e w' => e = .returned (.bool true) ∧ Fr No w w' := by
  have q1 : (kind == 1) = true := by simpa using h1
  have q2 : (key == 4) = true := by simpa using h2
  have r1 : decide (value < 1) = false := by simp; omega
  have r2 : decide (64 < value) = false := by simp; omega
  have r3 : decide (max < 1) = true := by simpa using g3
  go_enter Try.func48, Try.ntmps48
  go_wp2_with fail
  go_ret
  exact ⟨rfl, (Fr.refl _ _).alloc _⟩

set_option maxHeartbeats 400000 in
theorem may1_k1v4 (kind key value max : Int) (w : World) (h1 : kind = 1) (h2 : key = 4) (g1 : 1 ≤ value) (g2 : value ≤ 64) (g3 : 1 ≤ max) (g4 : 16 < max) :
    Calls Try.prog 48 #[.agg #[.int .i64 kind, .int .i64 key, .int .i64 value, .int .i64 max]] w fun e w' => e = .returned (.bool true) ∧ Fr No w w' := by
  have q1 : (kind == 1) = true := by simpa using h1
  have q2 : (key == 4) = true := by simpa using h2
  have r1 : decide (value < 1) = false := by simp; omega
  have r2 : decide (64 < value) = false := by simp; omega
  have r3 : decide (max < 1) = false := by simp; omega
  have r4 : decide (16 < max) = true := by simpa using g4
  go_enter Try.func48, Try.ntmps48
  go_wp2_with fail
  go_ret
  exact ⟨rfl, (Fr.refl _ _).alloc _⟩

set_option maxHeartbeats 400000 in
theorem may1_k1v5 (kind key value max : Int) (w : World) (h1 : kind = 1) (h2 : key = 4) (g1 : 1 ≤ value) (g2 : value ≤ 64) (g3 : 1 ≤ max) (g4 : max ≤ 16) :
    Calls Try.prog 48 #[.agg #[.int .i64 kind, .int .i64 key, .int .i64 value, .int .i64 max]] w fun e w' => e = .returned (.bool false) ∧ Fr No w w' := by
  have q1 : (kind == 1) = true := by simpa using h1
  have q2 : (key == 4) = true := by simpa using h2
  have r1 : decide (value < 1) = false := by simp; omega
  have r2 : decide (64 < value) = false := by simp; omega
  have r3 : decide (max < 1) = false := by simp; omega
  have r4 : decide (16 < max) = false := by simp; omega
  go_enter Try.func48, Try.ntmps48
  go_wp2_with fail
  go_ret
  exact ⟨rfl, (Fr.refl _ _).alloc _⟩

set_option maxHeartbeats 400000 in
theorem may1_k2 (kind key value max : Int) (w : World) (h1 : kind = 1) (h2 : ¬ key = 4) :
    Calls Try.prog 48 #[.agg #[.int .i64 kind, .int .i64 key, .int .i64 value, .int .i64 max]] w fun e w' => e = .returned (.bool true) ∧ Fr No w w' := by
  have q1 : (kind == 1) = true := by simpa using h1
  have q2 : (key == 4) = false := by simpa using h2
  have q3 : (kind == 2) = false := by simp; omega
  go_enter Try.func48, Try.ntmps48
  go_wp2_with fail
  go_ret
  exact ⟨rfl, (Fr.refl _ _).alloc _⟩

set_option maxHeartbeats 400000 in
theorem may1_k3 (kind key value max : Int) (w : World) (h1 : ¬ kind = 1) (h3 : ¬ kind = 2) :
    Calls Try.prog 48 #[.agg #[.int .i64 kind, .int .i64 key, .int .i64 value, .int .i64 max]] w fun e w' => e = .returned (.bool true) ∧ Fr No w w' := by
  have q1 : (kind == 1) = false := by simpa using h1
  have q3 : (kind == 2) = false := by simpa using h3
  go_enter Try.func48, Try.ntmps48
  go_wp2_with fail
  go_ret
  exact ⟨rfl, (Fr.refl _ _).alloc _⟩

set_option maxHeartbeats 400000 in
theorem may1_k4 (kind key value max : Int) (w : World) (h3 : kind = 2) (h4 : key < 1) :
    Calls Try.prog 48 #[.agg #[.int .i64 kind, .int .i64 key, .int .i64 value, .int .i64 max]] w fun e w' => e = .returned (.bool true) ∧ Fr No w w' := by
  have q1 : (kind == 1) = false := by simp; omega
  have q3 : (kind == 2) = true := by simpa using h3
  have q4 : decide (1 ≤ key) = false := by simp; omega
  go_enter Try.func48, Try.ntmps48
  go_wp2_with fail
  go_ret
  exact ⟨rfl, (Fr.refl _ _).alloc _⟩

set_option maxHeartbeats 400000 in
theorem may1_k5 (kind key value max : Int) (w : World) (h3 : kind = 2) (h4 : 1 ≤ key) (h5 : 8 < key) :
    Calls Try.prog 48 #[.agg #[.int .i64 kind, .int .i64 key, .int .i64 value, .int .i64 max]] w fun e w' => e = .returned (.bool true) ∧ Fr No w w' := by
  have q1 : (kind == 1) = false := by simp; omega
  have q3 : (kind == 2) = true := by simpa using h3
  have q4 : decide (1 ≤ key) = true := by simpa using h4
  have q5 : decide (key ≤ 8) = false := by simp; omega
  go_enter Try.func48, Try.ntmps48
  go_wp2_with fail
  go_ret
  exact ⟨rfl, (Fr.refl _ _).alloc _⟩

set_option maxHeartbeats 400000 in
theorem may1_k6v1 (kind key value max : Int) (w : World) (h3 : kind = 2) (h4 : 1 ≤ key) (h5 : key ≤ 8) (g1 : value < 1) :
    Calls Try.prog 48 #[.agg #[.int .i64 kind, .int .i64 key, .int .i64 value, .int .i64 max]] w fun e w' => e = .returned (.bool true) ∧ Fr No w w' := by
  have q1 : (kind == 1) = false := by simp; omega
  have q3 : (kind == 2) = true := by simpa using h3
  have q4 : decide (1 ≤ key) = true := by simpa using h4
  have q5 : decide (key ≤ 8) = true := by simpa using h5
  have r1 : decide (value < 1) = true := by simpa using g1
  go_enter Try.func48, Try.ntmps48
  go_wp2_with fail
  go_ret
  exact ⟨rfl, (Fr.refl _ _).alloc _⟩

set_option maxHeartbeats 400000 in
theorem may1_k6v2 (kind key value max : Int) (w : World) (h3 : kind = 2) (h4 : 1 ≤ key) (h5 : key ≤ 8) (g1 : 1 ≤ value) (g2 : 64 < value) :
    Calls Try.prog 48 #[.agg #[.int .i64 kind, .int .i64 key, .int .i64 value, .int .i64 max]] w fun e w' => e = .returned (.bool true) ∧ Fr No w w' := by
  have q1 : (kind == 1) = false := by simp; omega
  have q3 : (kind == 2) = true := by simpa using h3
  have q4 : decide (1 ≤ key) = true := by simpa using h4
  have q5 : decide (key ≤ 8) = true := by simpa using h5
  have r1 : decide (value < 1) = false := by simp; omega
  have r2 : decide (64 < value) = true := by simpa using g2
  go_enter Try.func48, Try.ntmps48
  go_wp2_with fail
  go_ret
  exact ⟨rfl, (Fr.refl _ _).alloc _⟩

set_option maxHeartbeats 400000 in
theorem may1_k6v3 (kind key value max : Int) (w : World) (h3 : kind = 2) (h4 : 1 ≤ key) (h5 : key ≤ 8) (g1 : 1 ≤ value) (g2 : value ≤ 64) (g3 : max < 1) :
    Calls Try.prog 48 #[.agg #[.int .i64 kind, .int .i64 key, .int .i64 value, .int .i64 max]] w fun e w' => e = .returned (.bool true) ∧ Fr No w w' := by
  have q1 : (kind == 1) = false := by simp; omega
  have q3 : (kind == 2) = true := by simpa using h3
  have q4 : decide (1 ≤ key) = true := by simpa using h4
  have q5 : decide (key ≤ 8) = true := by simpa using h5
  have r1 : decide (value < 1) = false := by simp; omega
  have r2 : decide (64 < value) = false := by simp; omega
  have r3 : decide (max < 1) = true := by simpa using g3
  go_enter Try.func48, Try.ntmps48
  go_wp2_with fail
  go_ret
  exact ⟨rfl, (Fr.refl _ _).alloc _⟩

set_option maxHeartbeats 400000 in
theorem may1_k6v4 (kind key value max : Int) (w : World) (h3 : kind = 2) (h4 : 1 ≤ key) (h5 : key ≤ 8) (g1 : 1 ≤ value) (g2 : value ≤ 64) (g3 : 1 ≤ max) (g4 : 16 < max) :
    Calls Try.prog 48 #[.agg #[.int .i64 kind, .int .i64 key, .int .i64 value, .int .i64 max]] w fun e w' => e = .returned (.bool true) ∧ Fr No w w' := by
  have q1 : (kind == 1) = false := by simp; omega
  have q3 : (kind == 2) = true := by simpa using h3
  have q4 : decide (1 ≤ key) = true := by simpa using h4
  have q5 : decide (key ≤ 8) = true := by simpa using h5
  have r1 : decide (value < 1) = false := by simp; omega
  have r2 : decide (64 < value) = false := by simp; omega
  have r3 : decide (max < 1) = false := by simp; omega
  have r4 : decide (16 < max) = true := by simpa using g4
  go_enter Try.func48, Try.ntmps48
  go_wp2_with fail
  go_ret
  exact ⟨rfl, (Fr.refl _ _).alloc _⟩

set_option maxHeartbeats 400000 in
theorem may1_k6v5 (kind key value max : Int) (w : World) (h3 : kind = 2) (h4 : 1 ≤ key) (h5 : key ≤ 8) (g1 : 1 ≤ value) (g2 : value ≤ 64) (g3 : 1 ≤ max) (g4 : max ≤ 16) :
    Calls Try.prog 48 #[.agg #[.int .i64 kind, .int .i64 key, .int .i64 value, .int .i64 max]] w fun e w' => e = .returned (.bool false) ∧ Fr No w w' := by
  have q1 : (kind == 1) = false := by simp; omega
  have q3 : (kind == 2) = true := by simpa using h3
  have q4 : decide (1 ≤ key) = true := by simpa using h4
  have q5 : decide (key ≤ 8) = true := by simpa using h5
  have r1 : decide (value < 1) = false := by simp; omega
  have r2 : decide (64 < value) = false := by simp; omega
  have r3 : decide (max < 1) = false := by simp; omega
  have r4 : decide (16 < max) = false := by simp; omega
  go_enter Try.func48, Try.ntmps48
  go_wp2_with fail
  go_ret
  exact ⟨rfl, (Fr.refl _ _).alloc _⟩

theorem may1_any (x : MapD) (w : World) :
    Calls Try.prog 48 #[.agg #[.int .i64 x.kind, .int .i64 x.key, .int .i64 x.value, .int .i64 x.max]] w fun e w' => e = .returned (.bool (!x.may)) ∧ Fr No w w' := by
  have yes : x.may = true → (!x.may) = false := fun h => by rw [h]; rfl
  have no : ¬ (x.may = true) → (!x.may) = true := fun h => by simpa using h
  have iff := MapD.may_iff x
  have tail : ∀ (P : (Bool → Prop)), ((x.kind = 1 ∧ x.key = 4) ∨ (x.kind = 2 ∧ 1 ≤ x.key ∧ x.key ≤ 8)) →
      (x.value < 1 → P true) → (1 ≤ x.value → 64 < x.value → P true) → (1 ≤ x.value → x.value ≤ 64 → x.max < 1 → P true) → (1 ≤ x.value → x.value ≤ 64 → 1 ≤ x.max → 16 < x.max → P true) → (1 ≤ x.value → x.value ≤ 64 → 1 ≤ x.max → x.max ≤ 16 → P false) → P (!x.may) := by
    intro P hk a b c d e
    by_cases g1 : x.value < 1
    · rw [no (by rw [iff]; omega)]; exact a g1
    by_cases g2 : 64 < x.value
    · rw [no (by rw [iff]; omega)]; exact b (by omega) g2
    by_cases g3 : x.max < 1
    · rw [no (by rw [iff]; omega)]; exact c (by omega) (by omega) g3
    by_cases g4 : 16 < x.max
    · rw [no (by rw [iff]; omega)]; exact d (by omega) (by omega) (by omega) g4
    · rw [yes (by rw [iff]; omega)]; exact e (by omega) (by omega) (by omega) (by omega)
  by_cases h1 : x.kind = 1
  · by_cases h2 : x.key = 4
    · exact tail (fun r => Calls Try.prog 48 #[.agg #[.int .i64 x.kind, .int .i64 x.key, .int .i64 x.value, .int .i64 x.max]] w fun e w' => e = .returned (.bool r) ∧ Fr No w w') (.inl ⟨h1, h2⟩)
        (may1_k1v1 _ _ _ _ w h1 h2) (may1_k1v2 _ _ _ _ w h1 h2) (may1_k1v3 _ _ _ _ w h1 h2) (may1_k1v4 _ _ _ _ w h1 h2) (may1_k1v5 _ _ _ _ w h1 h2)
    · rw [no (by rw [iff]; omega)]
      exact may1_k2 _ _ _ _ w h1 h2
  · by_cases h3 : x.kind = 2
    · by_cases h4 : x.key < 1
      · rw [no (by rw [iff]; omega)]
        exact may1_k4 _ _ _ _ w h3 h4
      · by_cases h5 : 8 < x.key
        · rw [no (by rw [iff]; omega)]
          exact may1_k5 _ _ _ _ w h3 (by omega) h5
        · exact tail (fun r => Calls Try.prog 48 #[.agg #[.int .i64 x.kind, .int .i64 x.key, .int .i64 x.value, .int .i64 x.max]] w fun e w' => e = .returned (.bool r) ∧ Fr No w w') (.inr ⟨h3, by omega, by omega⟩)
            (may1_k6v1 _ _ _ _ w h3 (by omega) (by omega)) (may1_k6v2 _ _ _ _ w h3 (by omega) (by omega)) (may1_k6v3 _ _ _ _ w h3 (by omega) (by omega)) (may1_k6v4 _ _ _ _ w h3 (by omega) (by omega)) (may1_k6v5 _ _ _ _ w h3 (by omega) (by omega))
    · rw [no (by rw [iff]; omega)]
      exact may1_k3 _ _ _ _ w h1 h3

end Go.Proofs.Ytlinnhaodkiolaa
