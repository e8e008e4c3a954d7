/- make([]byte, n) as a string of zeros. -/
import Derived.Test.YtfhlnkgiiikbpaaMem4
namespace Go.Proofs.Ytfhlnkgiiikbpaa
open Go.RowKit

def zs (n : Nat) : ByteArray := ⟨(List.replicate n (0 : UInt8)).toArray⟩
def zcells (n : Nat) : Array Value := (u8s (List.replicate n 0)).toArray
theorem zs_size (n : Nat) : (zs n).size = n := by simp [zs, ByteArray.size]

theorem make_z (n : Nat) (hn : n ≤ 4294967296) (w : World) : (Instr.makeSlice 24 (.int .i64 n) (.int .i64 n)).run Try.prog w = .ok (.slice (some ⟨w.heap.size, 0, none⟩) n n) (w.alloc (.cells (zcells n) 5)) := make_bytes n hn w

theorem str_zs (n : Nat) (W : World) : (convert 24 9 (.slice (some ⟨W.heap.size, 0, none⟩) n n)).run Try.prog (W.alloc (.cells (zcells n) 5)) = .ok (.string (zs n)) (W.alloc (.cells (zcells n) 5)) := by
  have h := str_at (CellsAt.new W (u8s (List.replicate n 0)) 5) n
  rw [List.length_replicate] at h
  exact h

end Go.Proofs.Ytfhlnkgiiikbpaa
