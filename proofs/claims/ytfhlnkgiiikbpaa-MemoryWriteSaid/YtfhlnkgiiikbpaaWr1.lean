/- MemoryWrite, the plain law: what is written, read and told of two regions that touch. -/
import Derived.Test.YtfhlnkgiiikbpaaLaid7
namespace Go.Proofs.Ytfhlnkgiiikbpaa
open Go.RowKit

def wreg (B : Int) (D : List UInt8) : List Reg := [⟨B, D, true⟩, ⟨B + D.length, D, false⟩]
def wlaid (D : List UInt8) (k n V : Nat) : List UInt8 := D.take k ++ leBytes n V ++ D.drop (k + n)
def wreg2 (B : Int) (D : List UInt8) (k n V : Nat) : List Reg := [⟨B, wlaid D k n V, true⟩, ⟨B + D.length, D, false⟩]

theorem wlaid_length (D : List UInt8) (k n V : Nat) (h : k + n ≤ D.length) : (wlaid D k n V).length = D.length := by simp [wlaid]; omega

theorem wreg_wf (B : Int) (D E : List UInt8) (h0 : 0 ≤ B) (h1 : 1 ≤ D.length) (h2 : D.length ≤ 300) (h3 : B ≤ 4294967296) (hE : E.length = D.length) : WF [⟨B, E, true⟩, ⟨B + D.length, D, false⟩] :=
  ⟨by intro r hr; simp at hr; rcases hr with rfl | rfl
      · exact ⟨h0, by simp [hE]; omega, by simp [Reg.len, hE]; omega, by simp [hE]; omega⟩
      · exact ⟨by show 0 ≤ B + _; omega, by show 0 < D.length; omega, by simp [Reg.len]; omega, by show D.length ≤ _; omega⟩, by simp [Reg.len, hE], by simp⟩

theorem spot_first (B : Int) (D E : List UInt8) (r : Reg) (k : Int) (n : Int) (h0 : 0 ≤ k) (h : k + n ≤ E.length) : spot [⟨B, E, true⟩, r] (B + k) n = some 0 := by
  have := (Reg.has_iff ⟨B, E, true⟩ (B + k) n).2 ⟨by show B ≤ _; omega, by show _ ≤ B + (E.length : Int); omega⟩
  simp [spot, List.findIdx?_cons, this]

theorem spot_second (B : Int) (D E : List UInt8) (h : 1 ≤ D.length) (hE : E.length = D.length) : spot [⟨B, E, true⟩, ⟨B + D.length, D, false⟩] (B + D.length) D.length = some 1 := by
  have e1 := (Reg.has_iff ⟨B + D.length, D, false⟩ (B + D.length) D.length).2 ⟨Int.le_refl _, Int.le_refl _⟩
  have e0 : (⟨B, E, true⟩ : Reg).has (B + D.length) D.length = false := by
    cases hb : (⟨B, E, true⟩ : Reg).has (B + D.length) D.length with
    | false => rfl
    | true =>
      have := (Reg.has_iff _ _ _).1 hb
      simp only [hE] at this
      omega
  simp [spot, List.findIdx?_cons, e0, e1]

theorem w_write (B : Int) (D : List UInt8) (k n V : Nat) (hn : sizeOk n = true) (h : k + n ≤ D.length) : mwrite (wreg B D) (B + k) n V = (wreg2 B D k n V, 0) := by
  have hs := spot_first B D D ⟨B + D.length, D, false⟩ k n (by omega) (by omega)
  unfold mwrite wreg
  rw [if_pos hn, hs]
  have hb2 : spot [⟨B, D, true⟩, ⟨B + D.length, D, false⟩] (B + k) ((leBytes (n : Int).toNat V).length : Int) = some 0 := by simpa using hs
  simp only [List.getElem?_cons_zero, Option.map_some, Option.getD_some, if_true, mput, hb2]
  have e : (B + k - B).toNat = k := by omega
  simp [Reg.put, wreg2, wlaid, e]

theorem w_read (B : Int) (D : List UInt8) (k n V : Nat) (hn : sizeOk n = true) (h : k + n ≤ D.length) : mread (wreg2 B D k n V) (B + k) n = (V % 256 ^ n, 0) := by
  have h1 := (sizeOk_iff (n : Int)).1 hn
  have hs := spot_first B D (wlaid D k n V) ⟨B + D.length, D, false⟩ k n (by omega) (by rw [wlaid_length D k n V h]; omega)
  unfold mread
  rw [if_pos hn]
  have ht := mtext_some (m := wreg2 B D k n V) (addr := B + k) (n := n) (i := 0) (by omega) hs rfl
  rw [ht]
  have : (⟨B, wlaid D k n V, true⟩ : Reg).cut (B + k) n = leBytes n V := by
    have e : (B + k - B).toNat = k := by omega
    simp only [Reg.cut, e, wlaid]
    rw [List.append_assoc, List.drop_append_of_le_length (by simp; omega), List.drop_of_length_le (by simp; omega)]
    simp
  rw [this, leNum_leBytes]

theorem w_text (B : Int) (D E : List UInt8) (h1 : 1 ≤ D.length) (hE : E.length = D.length) : mtext [⟨B, E, true⟩, ⟨B + D.length, D, false⟩] B D.length = (E, 0) := by
  have hs := spot_first B D E ⟨B + D.length, D, false⟩ 0 D.length (by omega) (by omega)
  rw [Int.add_zero] at hs
  rw [mtext_some (by omega) hs rfl]
  simp [Reg.cut, hE.symm]

theorem w_text2 (B : Int) (D E : List UInt8) (h1 : 1 ≤ D.length) (hE : E.length = D.length) : mtext [⟨B, E, true⟩, ⟨B + D.length, D, false⟩] (B + D.length) D.length = (D, 0) := by
  rw [mtext_some (by omega) (spot_second B D E h1 hE) rfl]
  simp [Reg.cut]

end Go.Proofs.Ytfhlnkgiiikbpaa
