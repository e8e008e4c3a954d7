/- Two regions that touch: what is there, at each address and size; the contracts of Read, Write, Text over such a memory. -/
import Derived.Test.YtfhlnkgiiikbpaaLaid7
namespace Go.Proofs.Ytfhlnkgiiikbpaa
open Go.RowKit

/-- two regions that touch: of n bytes, and of one -/
def Edge (F : Int) (n : Nat) (free : Bool) (m : List Reg) : Prop := ∃ d1 d2 : List UInt8, m = [⟨F, d1, free⟩, ⟨F + n, d2, free⟩] ∧ d1.length = n ∧ d2.length = 1

def there (n i s : Int) : Bool := decide ((0 ≤ i ∧ i + s ≤ n) ∨ (i = n ∧ s = 1))

theorem Edge.spot {F : Int} {n : Nat} {free : Bool} {m : List Reg} (h : Edge F n free m) (i s : Int) (h1 : 1 ≤ s) :
    (there n i s = false ∧ Go.Proofs.Ytfhlnkgiiikbpaa.spot m (F + i) s = none) ∨ (there n i s = true ∧ ∃ j r, Go.Proofs.Ytfhlnkgiiikbpaa.spot m (F + i) s = some j ∧ m[j]? = some r ∧ r.free = free) := by
  obtain ⟨d1, d2, rfl, l1, l2⟩ := h
  have h0 := Reg.has_iff ⟨F, d1, free⟩ (F + i) s
  have hh := Reg.has_iff ⟨F + n, d2, free⟩ (F + i) s
  simp only [l1, l2] at h0 hh
  unfold Go.Proofs.Ytfhlnkgiiikbpaa.spot there
  by_cases a : (0 ≤ i ∧ i + s ≤ n)
  · right
    have e0 := h0.2 (by omega)
    refine ⟨by simp [a], 0, _, by simp [List.findIdx?_cons, e0], rfl, rfl⟩
  · have e0 : (⟨F, d1, free⟩ : Reg).has (F + i) s = false := by
      cases hb : (⟨F, d1, free⟩ : Reg).has (F + i) s with
      | false => rfl
      | true => have := h0.1 hb; omega
    by_cases c : i = n ∧ s = 1
    · right
      have e1 := hh.2 (by omega)
      refine ⟨by simp [c], 1, _, by simp [List.findIdx?_cons, e0, e1], rfl, rfl⟩
    · left
      have e1 : (⟨F + n, d2, free⟩ : Reg).has (F + i) s = false := by
        cases hb : (⟨F + n, d2, free⟩ : Reg).has (F + i) s with
        | false => rfl
        | true => have := hh.1 hb; omega
      refine ⟨by rw [decide_eq_false_iff_not]; omega, by simp [List.findIdx?_cons, e0, e1]⟩

def thereCode (n i s : Int) : Int := if there n i s then 0 else 70
def writeCode (n i s : Int) (free : Bool) : Int := if there n i s then (if free then 0 else 71) else 70

theorem Edge.text {F : Int} {n : Nat} {free : Bool} {m : List Reg} (h : Edge F n free m) (i s : Int) (h1 : 1 ≤ s) : (mtext m (F + i) s).2 = thereCode n i s := by
  rcases h.spot i s h1 with ⟨a, b⟩ | ⟨a, j, r, b, c, _⟩
  · rw [mtext_none h1 b]; simp [thereCode, a]
  · rw [mtext_some h1 b c]; simp [thereCode, a]

theorem Edge.read {F : Int} {n : Nat} {free : Bool} {m : List Reg} (h : Edge F n free m) (i s : Int) (hs : sizeOk s = true) : (mread m (F + i) s).2 = thereCode n i s := by
  have h1 := (sizeOk_iff s).1 hs
  unfold mread
  rw [if_pos hs]
  exact h.text i s (by omega)

theorem Edge.write {F : Int} {n : Nat} {free : Bool} {m : List Reg} (h : Edge F n free m) (i s : Int) (hs : sizeOk s = true) (v : Nat) : (mwrite m (F + i) s v).2 = writeCode n i s free ∧ Edge F n free (mwrite m (F + i) s v).1 := by
  have h1 := (sizeOk_iff s).1 hs
  unfold mwrite
  rw [if_pos hs]
  rcases h.spot i s (by omega) with ⟨a, b⟩ | ⟨a, j, r, b, c, d⟩
  · rw [b]; simp only [writeCode, a]; exact ⟨rfl, h⟩
  · rw [b]
    simp only [writeCode, a, c, d, Option.map_some, Option.getD_some]
    cases free with
    | false => exact ⟨rfl, h⟩
    | true =>
      refine ⟨rfl, ?_⟩
      obtain ⟨k, rfl⟩ := Int.eq_ofNat_of_zero_le (show 0 ≤ s by omega)
      have hh := spot_has b
      have hl := spot_lt b
      have hb2 : Go.Proofs.Ytfhlnkgiiikbpaa.spot m (F + i) ((leBytes (k : Int).toNat v).length : Int) = some j := by rw [leBytes_length]; exact b
      simp only [if_true, mput, hb2]
      obtain ⟨d1, d2, rfl, l1, l2⟩ := h
      have keep : ∀ (R : Reg), R.has (F + i) k = true → (R.put (F + i) (leBytes (k : Int).toNat v)).data.length = R.data.length := fun R hR => by
        have := (Reg.has_iff _ _ _).1 hR
        simp [Reg.put]
        omega
      match j, hl with
      | 0, _ => exact ⟨_, d2, rfl, by rw [← l1]; exact keep ⟨F, d1, true⟩ (by simpa using hh), l2⟩
      | 1, _ => exact ⟨d1, _, rfl, l1, by rw [← l2]; exact keep ⟨F + n, d2, true⟩ (by simpa using hh)⟩

/-- such a memory stands in a world -/
structure EdgeW (w : World) (b : Nat) (S : Nat → Prop) (F : Int) (n : Nat) (free : Bool) (wr : World) : Prop where
  mem : ∃ m, Edge F n free m ∧ MemAt wr b m S
  fr : Fr (From w) w wr
  own : ∀ k, S k → From w k

theorem EdgeW.to {w wr w' : World} {b : Nat} {S : Nat → Prop} {F : Int} {n : Nat} {free : Bool} (h : EdgeW w b S F n free wr) (hf : Fr No wr w') : EdgeW w b S F n free w' := by
  obtain ⟨m, he, hm⟩ := h.mem
  exact ⟨⟨m, he, hm.fr hf (fun _ _ => id)⟩, h.fr.trans hf.any, h.own⟩

theorem EdgeW.read {w wr : World} {b : Nat} {S : Nat → Prop} {F : Int} {n : Nat} {free : Bool} (h : EdgeW w b S F n free wr) (A i s : Int) (hA : A = F + i) (hs : sizeOk s = true) (h0 : 0 ≤ A) (h64 : A ≤ 18446744073709551615) :
    Calls Try.prog 12 #[.pointer (some ⟨b, 0, none⟩), .int .u64 A, .int .i64 s] wr fun e w' => ∃ x, e = .returned (.tuple #[x, .int .i64 (thereCode n i s)]) ∧ EdgeW w b S F n free w' := by
  subst hA
  obtain ⟨m, he, hm⟩ := id h.mem
  refine (read_any hm _ s h0 h64).mono ?_
  rintro e w' ⟨rfl, hf⟩
  exact ⟨_, by rw [he.read i s hs], h.to hf⟩

theorem EdgeW.text {w wr : World} {b : Nat} {S : Nat → Prop} {F : Int} {n : Nat} {free : Bool} (h : EdgeW w b S F n free wr) (A i s : Int) (hA : A = F + i) (hs : sizeOk s = true) (h0 : 0 ≤ A) (h64 : A ≤ 18446744073709551615) :
    Calls Try.prog 14 #[.pointer (some ⟨b, 0, none⟩), .int .u64 A, .int .i64 s] wr fun e w' => ∃ x, e = .returned (.tuple #[x, .int .i64 (thereCode n i s)]) ∧ EdgeW w b S F n free w' := by
  subst hA
  obtain ⟨m, he, hm⟩ := id h.mem
  have h1 := (sizeOk_iff s).1 hs
  refine (text_any hm _ s h0 h64 (by omega)).mono ?_
  rintro e w' ⟨rfl, hf⟩
  exact ⟨_, by rw [he.text i s (by omega)], h.to hf⟩

theorem EdgeW.write {w wr : World} {b : Nat} {S : Nat → Prop} {F : Int} {n : Nat} {free : Bool} (h : EdgeW w b S F n free wr) (A i s : Int) (hA : A = F + i) (hs : sizeOk s = true) (h0 : 0 ≤ A) (h64 : A ≤ 18446744073709551615) :
    Calls Try.prog 13 #[.pointer (some ⟨b, 0, none⟩), .int .u64 A, .int .i64 s, .int .u64 1] wr fun e w' => e = .returned (.int .i64 (writeCode n i s free)) ∧ EdgeW w b S F n free w' := by
  subst hA
  obtain ⟨m, he, hm⟩ := id h.mem
  refine (write_any hm _ s 1 h0 h64 (by decide)).mono ?_
  rintro e w' ⟨rfl, hf, hm'⟩
  have hw := he.write i s hs 1
  exact ⟨by rw [hw.1], ⟨⟨_, hw.2, hm'⟩, h.fr.trans (hf.mono fun k _ hk => h.own k hk), h.own⟩⟩

end Go.Proofs.Ytfhlnkgiiikbpaa
