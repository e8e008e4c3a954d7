/- Strings: cut and joined. -/
import Derived.Test.YtfhlnkgiiikbpaaBase
namespace Go.Proofs.Ytfhlnkgiiikbpaa
open Go.RowKit

theorem ext_take (D : List UInt8) (k : Nat) : (⟨D.toArray⟩ : ByteArray).extract 0 k = ⟨(D.take k).toArray⟩ := by
  apply ByteArray.ext; simp
theorem ext_drop (D : List UInt8) (j L : Nat) (h : D.length = L) : (⟨D.toArray⟩ : ByteArray).extract j L = ⟨(D.drop j).toArray⟩ := by
  subst h
  apply ByteArray.ext; apply Array.ext'; simp
  rw [List.take_of_length_le (by simp)]
theorem bapp (a b : List UInt8) : ((⟨a.toArray⟩ : ByteArray) ++ (⟨b.toArray⟩ : ByteArray)) = ⟨(a ++ b).toArray⟩ := by
  apply ByteArray.ext; simp

end Go.Proofs.Ytfhlnkgiiikbpaa
