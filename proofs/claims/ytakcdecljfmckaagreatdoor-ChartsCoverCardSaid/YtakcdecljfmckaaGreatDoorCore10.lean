/- firewallref03.char. UTF-8, as the library decodes it, and as the document says it. No condition. How lines.split goes through a line, without the program. No condition. -/
import Derived.Test.YtakcdecljfmckaaGreatDoorCore9
import Derived.BigGuardPart
import Derived.Handy
import Derived.Lib.TrimUEq
import Derived.Lib.MapLaws
import Derived.Lib.ValidLaws
set_option linter.all false
set_option linter.unusedVariables false
set_option linter.unusedSimpArgs false
namespace Go.Proofs.YtakcdecljfmckaaGreatDoor
open Go.RowKit

/-- charN by numbers: the bytes in front, -1 where there is none -/
def chr4 (c x y z : Int) : Int :=
  if c < 128 then 1
  else if c < 194 then 0
  else if 245 ≤ c then 0
  else if x < (if c = 224 then 160 else if c = 240 then 144 else 128) then 0
  else if (if c = 237 then 159 else if c = 244 then 143 else 191) < x then 0
  else if c < 224 then 2
  else if y < 128 ∨ 191 < y then 0
  else if c < 240 then 3
  else if z < 128 ∨ 191 < z then 0 else 4

theorem chr_is1 {c x y z : Int} (h : c < 128) : 1 = chr4 c x y z := by unfold chr4; rw [if_pos h]
theorem chr_is0 {c x y z : Int} (h : 128 ≤ c) (h2 : c < 194 ∨ 245 ≤ c ∨ x < 128 ∨ 191 < x ∨ (c = 224 ∧ x < 160) ∨ (c = 240 ∧ x < 144) ∨ (c = 237 ∧ 159 < x) ∨ (c = 244 ∧ 143 < x) ∨ (224 ≤ c ∧ (y < 128 ∨ 191 < y)) ∨ (240 ≤ c ∧ (z < 128 ∨ 191 < z))) : 0 = chr4 c x y z := by
  unfold chr4
  rw [if_neg (by omega)]
  by_cases a1 : c < 194
  · rw [if_pos a1]
  rw [if_neg a1]
  by_cases a2 : 245 ≤ c
  · rw [if_pos a2]
  rw [if_neg a2]
  by_cases a3 : x < (if c = 224 then 160 else if c = 240 then 144 else 128)
  · rw [if_pos a3]
  rw [if_neg a3]
  by_cases a4 : (if c = 237 then 159 else if c = 244 then 143 else 191) < x
  · rw [if_pos a4]
  rw [if_neg a4]
  by_cases a5 : c < 224
  · exfalso
    rw [if_neg (by omega), if_neg (by omega)] at a3
    rw [if_neg (by omega), if_neg (by omega)] at a4
    omega
  rw [if_neg a5]
  by_cases a6 : y < 128 ∨ 191 < y
  · rw [if_pos a6]
  rw [if_neg a6]
  by_cases a7 : c < 240
  · exfalso
    by_cases b1 : c = 224
    · rw [if_pos b1] at a3; rw [if_neg (by omega), if_neg (by omega)] at a4; omega
    rw [if_neg b1, if_neg (by omega)] at a3
    by_cases b2 : c = 237
    · rw [if_pos b2] at a4; omega
    rw [if_neg b2, if_neg (by omega)] at a4
    omega
  rw [if_neg a7]
  by_cases a8 : z < 128 ∨ 191 < z
  · rw [if_pos a8]
  rw [if_neg a8]
  exfalso
  rw [if_neg (by omega)] at a3
  rw [if_neg (by omega)] at a4
  by_cases b1 : c = 240
  · rw [if_pos b1] at a3; rw [if_neg (by omega)] at a4; omega
  rw [if_neg b1] at a3
  by_cases b2 : c = 244
  · rw [if_pos b2] at a4; omega
  rw [if_neg b2] at a4
  omega
theorem chr_low {c x : Int} (h : (c = 224 → 160 ≤ x) ∧ (c = 240 → 144 ≤ x) ∧ 128 ≤ x) : ¬ x < (if c = 224 then 160 else if c = 240 then 144 else 128) := by
  split
  · omega
  · split <;> omega
theorem chr_high {c x : Int} (h : (c = 237 → x ≤ 159) ∧ (c = 244 → x ≤ 143) ∧ x ≤ 191) : ¬ (if c = 237 then 159 else if c = 244 then 143 else 191) < x := by
  split
  · omega
  · split <;> omega
theorem chr_is2 {c x y z : Int} (h : 194 ≤ c ∧ c < 224 ∧ 128 ≤ x ∧ x ≤ 191) : 2 = chr4 c x y z := by
  unfold chr4
  rw [if_neg (by omega), if_neg (by omega), if_neg (by omega), if_neg (chr_low (by omega)), if_neg (chr_high (by omega)), if_pos (by omega)]
theorem chr_is3 {c x y z : Int} (h : 224 ≤ c ∧ c < 240 ∧ (c = 224 → 160 ≤ x) ∧ (c = 237 → x ≤ 159) ∧ 128 ≤ x ∧ x ≤ 191 ∧ 128 ≤ y ∧ y ≤ 191) : 3 = chr4 c x y z := by
  unfold chr4
  rw [if_neg (by omega), if_neg (by omega), if_neg (by omega), if_neg (chr_low (by omega)), if_neg (chr_high (by omega)), if_neg (by omega), if_neg (by omega), if_pos (by omega)]
theorem chr_is4 {c x y z : Int} (h : 240 ≤ c ∧ c < 245 ∧ (c = 240 → 144 ≤ x) ∧ (c = 244 → x ≤ 143) ∧ 128 ≤ x ∧ x ≤ 191 ∧ 128 ≤ y ∧ y ≤ 191 ∧ 128 ≤ z ∧ z ≤ 191) : 4 = chr4 c x y z := by
  unfold chr4
  rw [if_neg (by omega), if_neg (by omega), if_neg (by omega), if_neg (chr_low (by omega)), if_neg (chr_high (by omega)), if_neg (by omega), if_neg (by omega), if_neg (by omega), if_neg (by omega)]

/-- the byte at a place of a list, -1 behind the end -/
def zb (t : List UInt8) (k : Nat) : Int := match t[k]? with | some a => (a.toNat : Int) | none => -1
theorem lead_nat (c : UInt8) : lead c = if c.toNat < 128 then 1 else if 194 ≤ c.toNat ∧ c.toNat < 224 then 2 else if 224 ≤ c.toNat ∧ c.toNat < 240 then 3 else if 240 ≤ c.toNat ∧ c.toNat < 245 then 4 else 0 := by
  unfold lead
  simp only [UInt8.lt_iff_toNat_lt, UInt8.le_iff_toNat_le]
  rfl
theorem eq8 (c : UInt8) (n : Nat) (h : n < 256) : c = UInt8.ofNat n ↔ c.toNat = n := by
  constructor
  · rintro rfl; simp; omega
  · intro e; apply UInt8.toNat.inj; simp; omega
theorem least_nat (c : UInt8) : (least2 c).toNat = if c.toNat = 224 then 160 else if c.toNat = 240 then 144 else 128 := by
  unfold least2
  have e1 := eq8 c 224 (by omega)
  have e2 := eq8 c 240 (by omega)
  simp only [show (224 : UInt8) = UInt8.ofNat 224 from rfl, show (240 : UInt8) = UInt8.ofNat 240 from rfl, e1, e2]
  split
  · rfl
  · split <;> rfl
theorem most_nat (c : UInt8) : (most2 c).toNat = if c.toNat = 237 then 159 else if c.toNat = 244 then 143 else 191 := by
  unfold most2
  have e1 := eq8 c 237 (by omega)
  have e2 := eq8 c 244 (by omega)
  simp only [show (237 : UInt8) = UInt8.ofNat 237 from rfl, show (244 : UInt8) = UInt8.ofNat 244 from rfl, e1, e2]
  split
  · rfl
  · split <;> rfl
theorem cont_zb (t : List UInt8) (k : Nat) : contB t k = decide (128 ≤ zb t k ∧ zb t k ≤ 191) := by
  unfold contB zb
  cases t[k]? with
  | none => simp
  | some a =>
    show decide (128 ≤ a ∧ a ≤ 191) = _
    rw [decide_eq_decide, UInt8.le_iff_toNat_le, UInt8.le_iff_toNat_le]
    show (128 ≤ a.toNat ∧ a.toNat ≤ 191) ↔ _
    dsimp only
    omega
theorem zb_lt (t : List UInt8) (k : Nat) (h : t.length ≤ k) : zb t k = -1 := by
  unfold zb
  rw [List.getElem?_eq_none h]

theorem charN_chr (c : UInt8) (t : List UInt8) : ((charN (c :: t) : Nat) : Int) = chr4 c.toNat (zb t 0) (zb t 1) (zb t 2) := by
  have hl := lead_nat c
  have hc := c.toNat_lt
  unfold charN
  dsimp only
  by_cases h1 : c.toNat < 128
  · rw [if_pos h1] at hl
    rw [hl, if_pos (by omega)]
    exact chr_is1 (by omega)
  rw [if_neg h1] at hl
  by_cases h0 : c.toNat < 194 ∨ 245 ≤ c.toNat
  · rw [if_neg (by omega), if_neg (by omega), if_neg (by omega)] at hl
    rw [hl, if_pos (by omega)]
    exact chr_is0 (by omega) (by omega)
  have l2 : 2 ≤ lead c ∧ lead c ≤ 4 := by
    rw [hl]
    split
    · omega
    · split
      · omega
      · rw [if_pos (by omega)]; omega
  rw [if_neg (by omega)]
  by_cases hs : t.length + 1 < lead c
  · rw [if_pos hs]
    refine chr_is0 (by omega) ?_
    have z0 := zb_lt t 0
    have z1 := zb_lt t 1
    have z2 := zb_lt t 2
    by_cases a : t.length ≤ 0
    · have := z0 a; omega
    by_cases b : t.length ≤ 1
    · have := z1 b
      by_cases h2 : c.toNat < 224
      · rw [if_pos (by omega)] at hl; omega
      · omega
    by_cases d : t.length ≤ 2
    · have := z2 d
      by_cases h2 : c.toNat < 224
      · rw [if_pos (by omega)] at hl; omega
      · rw [if_neg (by omega)] at hl
        by_cases h3 : c.toNat < 240
        · rw [if_pos (by omega)] at hl; omega
        · omega
    omega
  rw [if_neg hs]
  cases t with
  | nil => simp at hs; omega
  | cons a t =>
    have za : zb (a :: t) 0 = a.toNat := rfl
    have k1 := cont_zb (a :: t) 1
    have k2 := cont_zb (a :: t) 2
    have hm := most_nat c
    have hle := least_nat c
    dsimp only
    rw [za]
    generalize zb (a :: t) 1 = y at *
    generalize zb (a :: t) 2 = z at *
    have hx : (a < least2 c ∨ most2 c < a) ↔ (a.toNat < (if c.toNat = 224 then 160 else if c.toNat = 240 then 144 else 128) ∨ (if c.toNat = 237 then 159 else if c.toNat = 244 then 143 else 191) < a.toNat) := by
      rw [UInt8.lt_iff_toNat_lt, UInt8.lt_iff_toNat_lt, hm, hle]
    by_cases hb : a < least2 c ∨ most2 c < a
    · rw [if_pos hb]
      refine chr_is0 (by omega) ?_
      rw [hx] at hb
      rcases hb with hb | hb
      · split at hb
        · omega
        · split at hb <;> omega
      · split at hb
        · omega
        · split at hb <;> omega
    rw [if_neg hb]
    rw [hx] at hb
    have hxx : (c.toNat = 224 → 160 ≤ a.toNat) ∧ (c.toNat = 240 → 144 ≤ a.toNat) ∧ (c.toNat = 237 → a.toNat ≤ 159) ∧ (c.toNat = 244 → a.toNat ≤ 143) ∧ 128 ≤ a.toNat ∧ a.toNat ≤ 191 := by
      rcases Nat.lt_or_ge c.toNat 245 with _ | _
      · refine ⟨?_, ?_, ?_, ?_, ?_, ?_⟩
        · intro e; rw [if_pos e] at hb; omega
        · intro e; rw [if_neg (by omega), if_pos e] at hb; omega
        · intro e
          have : ¬ (if c.toNat = 237 then 159 else if c.toNat = 244 then 143 else 191) < a.toNat := fun h => hb (.inr h)
          rw [if_pos e] at this; omega
        · intro e
          have : ¬ (if c.toNat = 237 then 159 else if c.toNat = 244 then 143 else 191) < a.toNat := fun h => hb (.inr h)
          rw [if_neg (by omega), if_pos e] at this; omega
        · have : ¬ a.toNat < (if c.toNat = 224 then 160 else if c.toNat = 240 then 144 else 128) := fun h => hb (.inl h)
          split at this
          · omega
          · split at this <;> omega
        · have : ¬ (if c.toNat = 237 then 159 else if c.toNat = 244 then 143 else 191) < a.toNat := fun h => hb (.inr h)
          split at this
          · omega
          · split at this <;> omega
      · omega
    clear hb hx hm hle
    by_cases h2 : c.toNat < 224
    · rw [if_pos (by omega)] at hl
      rw [hl, if_pos rfl]
      exact chr_is2 (by omega)
    rw [if_neg (by omega)] at hl
    have hne : lead c ≠ 2 := by
      rw [hl]; split
      · omega
      · rw [if_pos (by omega)]; omega
    rw [if_neg hne, k1]
    by_cases hy : 128 ≤ y ∧ y ≤ 191
    · rw [decide_eq_true hy, if_neg (by simp)]
      by_cases h3 : c.toNat < 240
      · rw [if_pos (by omega)] at hl
        rw [hl, if_pos rfl]
        exact chr_is3 (by omega)
      · rw [if_neg (by omega), if_pos (by omega)] at hl
        rw [hl, if_neg (by omega), k2]
        by_cases hz : 128 ≤ z ∧ z ≤ 191
        · rw [decide_eq_true hz, if_neg (by simp)]
          exact chr_is4 (by omega)
        · rw [decide_eq_false hz, if_pos (by simp)]
          exact chr_is0 (by omega) (by omega)
    · rw [decide_eq_false hy, if_pos (by simp)]
      exact chr_is0 (by omega) (by omega)

/-- the byte at a place, -1 behind the end -/
def byteZ (S : ByteArray) (a : Nat) : Int := if h : a < S.size then (S[a].toNat : Int) else -1
theorem byteZ_in {S : ByteArray} {a : Nat} (h : a < S.size) : byteZ S a = (S[a].toNat : Int) := dif_pos h
theorem byteZ_out {S : ByteArray} {a : Nat} (h : ¬ a < S.size) : byteZ S a = -1 := dif_neg h
theorem byteZ_zb (s : List UInt8) (a : Nat) : byteZ ⟨s.toArray⟩ a = zb s a := by
  unfold byteZ zb
  split
  · rename_i h
    have h2 : a < s.length := by simpa [ByteArray.size] using h
    rw [List.getElem?_eq_getElem h2]
    rfl
  · rename_i h
    have h2 : s.length ≤ a := by simpa [ByteArray.size] using h
    rw [List.getElem?_eq_none h2]

theorem char_chr (s : List UInt8) (a : Nat) (h : a < s.length) : chr4 (byteZ ⟨s.toArray⟩ a) (byteZ ⟨s.toArray⟩ (a + 1)) (byteZ ⟨s.toArray⟩ (a + 2)) (byteZ ⟨s.toArray⟩ (a + 3)) = ((charN (s.drop a) : Nat) : Int) := by
  rw [byteZ_zb, byteZ_zb, byteZ_zb, byteZ_zb, List.drop_eq_getElem_cons h, charN_chr]
  have e : ∀ k, zb (s.drop (a + 1)) k = zb s (a + (k + 1)) := fun k => by
    unfold zb
    rw [List.getElem?_drop, show a + 1 + k = a + (k + 1) by omega]
  have e0 : zb s a = (s[a].toNat : Int) := by
    unfold zb
    rw [List.getElem?_eq_getElem h]
  rw [e, e, e, e0]
end Go.Proofs.YtakcdecljfmckaaGreatDoor

namespace Go.Proofs.YtakcdecljfmckaaGreatDoor
open Go.RowKit

/-- both fail, or both find the same bytes -/
def DecIs (n c x y z : Nat) (X Y Z : Int) : Prop :=
  (chr4 c X Y Z = 0 ∧ Lib.decodeN n c x y z = (65533, 1)) ∨ ∃ k r : Nat, 1 ≤ k ∧ chr4 c X Y Z = k ∧ Lib.decodeN n c x y z = (r, k) ∧ ¬ (r = 65533 ∧ k = 1)

theorem chr_dec (n c x y z : Nat) (X Y Z : Int) (hn : 1 ≤ n) (hc : c < 256) (hx : x < 256) (hy : y < 256) (hz : z < 256) (hX : (1 < n ∧ X = x) ∨ (n ≤ 1 ∧ X = -1)) (hY : (2 < n ∧ Y = y) ∨ (n ≤ 2 ∧ Y = -1)) (hZ : (3 < n ∧ Z = z) ∨ (n ≤ 3 ∧ Z = -1)) : DecIs n c x y z X Y Z := by
  unfold DecIs Lib.decodeN
  by_cases c1 : c < 128
  · rw [if_pos c1]
    exact .inr ⟨1, c, Nat.le_refl _, (chr_is1 (by omega)).symm, rfl, by omega⟩
  rw [if_neg c1]
  by_cases c2 : c < 194
  · have h0 := (chr_is0 (c := c) (x := X) (y := Y) (z := Z) (by omega) (by omega)).symm
    refine .inl ⟨h0, ?_⟩
    by_cases d : c / 32 = 6 ∧ (1 < n ∧ x / 64 = 2)
    · rw [if_pos d, if_neg (by omega)]
    · rw [if_neg d, if_neg (by omega), if_neg (by omega)]
  by_cases c3 : 245 ≤ c
  · have h0 := (chr_is0 (c := c) (x := X) (y := Y) (z := Z) (by omega) (by omega)).symm
    refine .inl ⟨h0, ?_⟩
    rw [if_neg (by omega), if_neg (by omega)]
    by_cases d : c / 8 = 30 ∧ (1 < n ∧ x / 64 = 2) ∧ (2 < n ∧ y / 64 = 2) ∧ (3 < n ∧ z / 64 = 2)
    · rw [if_pos d, if_neg (by omega)]
    · rw [if_neg d]
  by_cases c4 : c < 224
  · by_cases d : 1 < n ∧ x / 64 = 2
    · rw [if_pos ⟨by omega, d⟩, if_pos (by omega)]
      exact .inr ⟨2, _, by omega, (chr_is2 (by omega)).symm, rfl, by omega⟩
    · rw [if_neg (by omega), if_neg (by omega), if_neg (by omega)]
      exact .inl ⟨(chr_is0 (by omega) (by omega)).symm, rfl⟩
  rw [if_neg (by omega)]
  by_cases c5 : c < 240
  · by_cases d : (1 < n ∧ x / 64 = 2) ∧ (2 < n ∧ y / 64 = 2)
    · rw [if_pos ⟨by omega, d⟩]
      by_cases v : (c = 224 → 160 ≤ x) ∧ (c = 237 → x ≤ 159)
      · rw [if_pos (by omega)]
        exact .inr ⟨3, _, by omega, (chr_is3 (by omega)).symm, rfl, by omega⟩
      · rw [if_neg (by omega)]
        exact .inl ⟨(chr_is0 (by omega) (by omega)).symm, rfl⟩
    · rw [if_neg (by omega), if_neg (by omega)]
      exact .inl ⟨(chr_is0 (by omega) (by omega)).symm, rfl⟩
  rw [if_neg (by omega)]
  by_cases d : (1 < n ∧ x / 64 = 2) ∧ (2 < n ∧ y / 64 = 2) ∧ (3 < n ∧ z / 64 = 2)
  · rw [if_pos ⟨by omega, d⟩]
    by_cases v : (c = 240 → 144 ≤ x) ∧ (c = 244 → x ≤ 143)
    · rw [if_pos (by omega)]
      exact .inr ⟨4, _, by omega, (chr_is4 (by omega)).symm, rfl, by omega⟩
    · rw [if_neg (by omega)]
      exact .inl ⟨(chr_is0 (by omega) (by omega)).symm, rfl⟩
  · rw [if_neg (by omega)]
    exact .inl ⟨(chr_is0 (by omega) (by omega)).symm, rfl⟩

theorem zb_getD (t : List UInt8) (k : Nat) : (k < t.length ∧ zb t k = ((t.getD k 0).toNat : Int)) ∨ (t.length ≤ k ∧ zb t k = -1) := by
  rcases Nat.lt_or_ge k t.length with h | h
  · refine .inl ⟨h, ?_⟩
    unfold zb
    rw [List.getElem?_eq_getElem h]
    simp [List.getD, h]
  · exact .inr ⟨h, zb_lt t k h⟩
/-- what stands in front is no character, for both, or the same bytes for both -/
theorem char_dec (l : List UInt8) (h : l ≠ []) : (charN l = 0 ∧ Lib.decodeL l = (65533, 1)) ∨ (charN l ≠ 0 ∧ (Lib.decodeL l).2 = charN l ∧ ¬ ((Lib.decodeL l).1 = 65533 ∧ (Lib.decodeL l).2 = 1)) := by
  cases l with
  | nil => exact absurd rfl h
  | cons c t =>
    have hd := Lib.decodeL_N (c :: t)
    have hk := charN_chr c t
    have z0 := zb_getD t 0
    have z1 := zb_getD t 1
    have z2 := zb_getD t 2
    have e0 : (c :: t).getD 0 0 = c := rfl
    have e1 : (c :: t).getD 1 0 = t.getD 0 0 := rfl
    have e2 : (c :: t).getD 2 0 = t.getD 1 0 := rfl
    have e3 : (c :: t).getD 3 0 = t.getD 2 0 := rfl
    rw [e0, e1, e2, e3] at hd
    have hc := chr_dec (c :: t).length c.toNat (t.getD 0 0).toNat (t.getD 1 0).toNat (t.getD 2 0).toNat (zb t 0) (zb t 1) (zb t 2) (by simp) c.toNat_lt (t.getD 0 0).toNat_lt (t.getD 1 0).toNat_lt (t.getD 2 0).toNat_lt (by simp only [List.length_cons]; omega) (by simp only [List.length_cons]; omega) (by simp only [List.length_cons]; omega)
    rcases hc with ⟨h1, h2⟩ | ⟨k, r, hk1, h1, h2, h3⟩
    · refine .inl ⟨by omega, ?_⟩
      rw [hd, h2]
    · have : charN (c :: t) = k := by omega
      refine .inr ⟨by omega, ?_, ?_⟩
      · rw [hd, h2, this]
      · rw [hd, h2]; exact h3

/-- a rune by its bytes -/
theorem rune_is (l : List UInt8) (h : l ≠ []) (hc : charN l ≠ 0) (r : Nat) (bs : List UInt8) (he : Lib.encodeRune (r : Int) = bs) (hb : ∀ t, Lib.decodeL (bs ++ t) = (r, bs.length)) : ((Lib.decodeL l).1 == r) = (l.take (charN l) == bs) := by
  rcases char_dec l h with ⟨h0, _⟩ | ⟨_, h2, h3⟩
  · exact absurd h0 hc
  have hen := Lib.encode_decode l h h3
  rw [h2] at hen
  rw [Bool.eq_iff_iff]
  simp only [beq_iff_eq]
  constructor
  · intro e
    rw [← hen, e, he]
  · intro e
    have hl : l = bs ++ l.drop (charN l) := by rw [← e, List.take_append_drop]
    rw [hl, hb]
theorem dec1 (c : UInt8) (h : c.toNat < 128) (t : List UInt8) : Lib.decodeL ([c] ++ t) = (c.toNat, 1) := Lib.decodeL_ascii c t h
theorem dec160 (t : List UInt8) : Lib.decodeL ([194, 160] ++ t) = (160, 2) := by
  rw [Lib.decodeL_N]
  simp [Lib.decodeN, List.getD]
theorem dec8195 (t : List UInt8) : Lib.decodeL ([226, 128, 131] ++ t) = (8195, 3) := by
  rw [Lib.decodeL_N]
  simp [Lib.decodeN, List.getD]

/-- a line's bytes are all of characters -/
theorem valid_words : ∀ (n : Nat) (s : List UInt8) (over : Bool) (word : List UInt8) (acc : List (List UInt8)), s.length ≤ n → (Lib.validD s = true ↔ WF1 s over word acc ≠ none)
  | 0, s, over, word, acc, h => by
    have : s = [] := List.eq_nil_of_length_eq_zero (by omega)
    subst this
    simp [Lib.validD_nil, WF1_nil]
  | n + 1, s, over, word, acc, h => by
    by_cases hs : s = []
    · subst hs
      simp [Lib.validD_nil, WF1_nil]
    rw [Lib.validD_step s hs]
    rcases char_dec s hs with ⟨h0, h1⟩ | ⟨h0, h2, h3⟩
    · rw [h1]
      have hw : WF1 s over word acc = none := by
        unfold WF1
        cases s with
        | nil => exact absurd rfl hs
        | cons c t =>
          show wordsF (t.length + 1) (c :: t) over word acc = none
          unfold wordsF
          rw [if_neg hs, if_pos h0]
      rw [hw]
      simp
    · rw [if_neg h3, h2]
      have hlt : (s.drop (charN s)).length ≤ n := by simp; omega
      rw [WF1_char (charN s) s over word acc rfl h0]
      split
      · exact valid_words n _ _ _ _ hlt
      · exact valid_words n _ _ _ _ hlt
end Go.Proofs.YtakcdecljfmckaaGreatDoor

namespace Go.Proofs.YtakcdecljfmckaaGreatDoor
open Go.RowKit

theorem WF1_over_any : ∀ (n : Nat) (s : List UInt8) (acc ws : List (List UInt8)), s.length ≤ n → WF1 s true [] acc = some ws → ws = acc
  | 0, s, acc, ws, h, he => by
    have : s = [] := List.eq_nil_of_length_eq_zero (by omega)
    subst this
    rw [WF1_nil] at he
    exact (Option.some.inj he).symm
  | n + 1, s, acc, ws, h, he => by
    by_cases hs : s = []
    · subst hs
      rw [WF1_nil] at he
      exact (Option.some.inj he).symm
    by_cases h0 : charN s = 0
    · have := (valid_words s.length s true [] acc (Nat.le_refl _)).2 (by rw [he]; simp)
      rw [Lib.validD_step s hs] at this
      rcases char_dec s hs with ⟨_, h1⟩ | ⟨h1, _⟩
      · rw [h1] at this; simp at this
      · exact absurd h0 h1
    · rw [WF1_char (charN s) s true [] acc rfl h0] at he
      simp only [Bool.true_or, if_true] at he
      exact WF1_over_any n _ acc ws (by simp; omega) he

/-- where the loop of split stands -/
structure SplitSt (s : List UInt8) (ws : List (List UInt8)) (pos : Nat) (f : Int) (acc : List (List UInt8)) : Prop where
  le : pos ≤ s.length
  few : acc.length ≤ pos
  at' : (f = -1 ∧ WF1 (s.drop pos) false [] acc = some ws) ∨ ∃ m : Nat, f = m ∧ m < pos ∧ acc.length ≤ m ∧ WF1 (s.drop pos) false ((s.drop m).take (pos - m)) acc = some ws

theorem SplitSt.char {s : List UInt8} {ws : List (List UInt8)} {pos : Nat} {f : Int} {acc : List (List UInt8)} (h : SplitSt s ws pos f acc) (hp : pos < s.length) : charN (s.drop pos) ≠ 0 := by
  intro h0
  have hne : s.drop pos ≠ [] := by
    intro e
    have := congrArg List.length e
    simp at this
    omega
  have key : ∀ word, WF1 (s.drop pos) false word acc ≠ some ws := by
    intro word he
    have := (valid_words _ (s.drop pos) false word acc (Nat.le_refl _)).2 (by rw [he]; simp)
    rw [Lib.validD_step _ hne] at this
    rcases char_dec _ hne with ⟨_, h1⟩ | ⟨h1, _⟩
    · rw [h1] at this; simp at this
    · exact absurd h0 h1
  rcases h.at' with ⟨_, h1⟩ | ⟨m, _, _, _, h1⟩
  · exact key _ h1
  · exact key _ h1
theorem take_more (s : List UInt8) (m pos n : Nat) (h : m < pos) : (s.drop m).take (pos - m) ++ (s.drop pos).take n = (s.drop m).take (pos + n - m) := by
  have e : s.drop pos = (s.drop m).drop (pos - m) := by rw [List.drop_drop]; congr 1; omega
  rw [e, show pos + n - m = (pos - m) + n by omega, List.take_add]
variable {s : List UInt8} {ws : List (List UInt8)} {pos : Nat} {acc : List (List UInt8)}
theorem charN_dle (hp : pos < s.length) : pos + charN (s.drop pos) ≤ s.length := by
  have := charN_le (s.drop pos)
  simp at this
  omega
/-- a blank, behind none -/
theorem SplitSt.blank0 (h : SplitSt s ws pos (-1) acc) (hp : pos < s.length) (h59 : ((s.drop pos).take (charN (s.drop pos)) == [59]) = false) (hb : blankB ((s.drop pos).take (charN (s.drop pos))) = true) : SplitSt s ws (pos + charN (s.drop pos)) (-1) acc := by
  have hc := h.char hp
  rcases h.at' with ⟨_, h1⟩ | ⟨m, h1, _⟩
  · rw [WF1_char _ _ false [] acc rfl hc, h59, hb] at h1
    simp only [Bool.false_or, if_true, List.drop_drop] at h1
    exact ⟨charN_dle hp, by have := h.few; omega, .inl ⟨rfl, h1⟩⟩
  · omega
/-- a blank behind a word -/
theorem SplitSt.blank1 {m : Nat} (h : SplitSt s ws pos m acc) (hp : pos < s.length) (h59 : ((s.drop pos).take (charN (s.drop pos)) == [59]) = false) (hb : blankB ((s.drop pos).take (charN (s.drop pos))) = true) : m < pos ∧ SplitSt s ws (pos + charN (s.drop pos)) (-1) (acc ++ [(s.drop m).take (pos - m)]) := by
  have hc := h.char hp
  rcases h.at' with ⟨h1, _⟩ | ⟨k, h1, h2, h3, h4⟩
  · omega
  · obtain rfl : m = k := by omega
    rw [WF1_char _ _ false _ acc rfl hc, h59, hb] at h4
    have hw : (s.drop m).take (pos - m) ≠ [] := by
      intro e
      have := congrArg List.length e
      simp at this
      omega
    simp only [Bool.false_or, if_true, List.drop_drop, pushW_clean hw] at h4
    exact ⟨h2, charN_dle hp, by simp; omega, .inl ⟨rfl, h4⟩⟩
/-- a comment, behind no word -/
theorem SplitSt.semi0 (h : SplitSt s ws pos (-1) acc) (hp : pos < s.length) (h59 : ((s.drop pos).take (charN (s.drop pos)) == [59]) = true) : ws = acc := by
  have hc := h.char hp
  rcases h.at' with ⟨_, h1⟩ | ⟨m, h1, _⟩
  · rw [WF1_char _ _ false [] acc rfl hc, h59] at h1
    simp only [Bool.false_or, Bool.true_or, if_true, List.drop_drop] at h1
    exact WF1_over_any _ _ acc ws (Nat.le_refl _) h1
  · omega
theorem SplitSt.semi1 {m : Nat} (h : SplitSt s ws pos m acc) (hp : pos < s.length) (h59 : ((s.drop pos).take (charN (s.drop pos)) == [59]) = true) : m < pos ∧ ws = acc ++ [(s.drop m).take (pos - m)] := by
  have hc := h.char hp
  rcases h.at' with ⟨h1, _⟩ | ⟨k, h1, h2, h3, h4⟩
  · omega
  · obtain rfl : m = k := by omega
    rw [WF1_char _ _ false _ acc rfl hc, h59] at h4
    have hw : (s.drop m).take (pos - m) ≠ [] := by
      intro e
      have := congrArg List.length e
      simp at this
      omega
    simp only [Bool.false_or, Bool.true_or, if_true, List.drop_drop, pushW_clean hw] at h4
    exact ⟨h2, WF1_over_any _ _ _ ws (Nat.le_refl _) h4⟩
/-- another character -/
theorem SplitSt.on0 (h : SplitSt s ws pos (-1) acc) (hp : pos < s.length) (h59 : ((s.drop pos).take (charN (s.drop pos)) == [59]) = false) (hb : blankB ((s.drop pos).take (charN (s.drop pos))) = false) : SplitSt s ws (pos + charN (s.drop pos)) (pos : Nat) acc := by
  have hc := h.char hp
  rcases h.at' with ⟨_, h1⟩ | ⟨m, h1, _⟩
  · rw [WF1_char _ _ false [] acc rfl hc, h59, hb] at h1
    simp only [Bool.false_or, Bool.false_eq_true, if_false, List.drop_drop, List.nil_append] at h1
    refine ⟨charN_dle hp, by have := h.few; omega, .inr ⟨pos, rfl, by omega, h.few, ?_⟩⟩
    rw [show pos + charN (s.drop pos) - pos = charN (s.drop pos) by omega]
    exact h1
  · omega
theorem SplitSt.on1 {m : Nat} (h : SplitSt s ws pos m acc) (hp : pos < s.length) (h59 : ((s.drop pos).take (charN (s.drop pos)) == [59]) = false) (hb : blankB ((s.drop pos).take (charN (s.drop pos))) = false) : SplitSt s ws (pos + charN (s.drop pos)) m acc := by
  have hc := h.char hp
  rcases h.at' with ⟨h1, _⟩ | ⟨k, h1, h2, h3, h4⟩
  · omega
  · obtain rfl : m = k := by omega
    rw [WF1_char _ _ false _ acc rfl hc, h59, hb] at h4
    simp only [Bool.false_or, Bool.false_eq_true, if_false, List.drop_drop, take_more s m pos _ h2] at h4
    exact ⟨charN_dle hp, by have := h.few; omega, .inr ⟨m, rfl, by omega, h3, h4⟩⟩
/-- the end -/
theorem SplitSt.end0 (h : SplitSt s ws pos (-1) acc) (hp : ¬ pos < s.length) : ws = acc := by
  have hd : s.drop pos = [] := List.drop_of_length_le (by omega)
  rcases h.at' with ⟨_, h1⟩ | ⟨m, h1, _⟩
  · rw [hd, WF1_nil] at h1
    exact (Option.some.inj h1).symm
  · omega
theorem SplitSt.end1 {m : Nat} (h : SplitSt s ws pos m acc) (hp : ¬ pos < s.length) : m < pos ∧ ws = acc ++ [(s.drop m).take (pos - m)] := by
  have hd : s.drop pos = [] := List.drop_of_length_le (by omega)
  rcases h.at' with ⟨h1, _⟩ | ⟨k, h1, h2, h3, h4⟩
  · omega
  · obtain rfl : m = k := by omega
    rw [hd, WF1_nil] at h4
    have hw : (s.drop m).take (pos - m) ≠ [] := by
      intro e
      have := congrArg List.length e
      simp at this
      have := h.le
      omega
    rw [pushW_clean hw] at h4
    exact ⟨h2, (Option.some.inj h4).symm⟩
theorem SplitSt.start (h : wordsL s = some ws) : SplitSt s ws 0 (-1) [] := ⟨Nat.zero_le _, Nat.le_refl _, .inl ⟨rfl, by rw [List.drop_zero]; exact h⟩⟩
theorem SplitSt.f {f : Int} (h : SplitSt s ws pos f acc) : f = -1 ∨ ∃ m : Nat, f = m ∧ m < pos := by
  rcases h.at' with ⟨h1, _⟩ | ⟨m, h1, h2, _⟩
  · exact .inl h1
  · exact .inr ⟨m, h1, h2⟩
end Go.Proofs.YtakcdecljfmckaaGreatDoor
