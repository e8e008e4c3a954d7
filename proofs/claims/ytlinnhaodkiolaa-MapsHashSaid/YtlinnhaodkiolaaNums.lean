/- What nums.Num, Bytes and Low compute. -/
import Derived.Test.YtlinnhaodkiolaaBase
namespace Go.Proofs.Ytlinnhaodkiolaa
open Go.RowKit

set_option maxHeartbeats 400000 in
theorem num_any (s : ByteArray) (w : World) (hs : s.size ≤ maxLen) :
    Calls Try.prog 107 #[.string s] w fun e w' => e = .returned (.int .u64 (leNum (s.data.toList.take 8))) ∧ w = w' := by
  unfold maxLen at hs
  go_enter Try.func107, Try.ntmps107
  go_wp2
  all_goals
    go_loop [3, 8] (fun v i => ∃ k : Nat, k ≤ 8 ∧ k ≤ s.size ∧ i = .int .i64 k ∧ v = .int .u64 (leNum (s.data.toList.take k))) (fun _ i => s.size - (intOf i).toNat)
    case atStart => exact ⟨0, by omega, by omega, rfl, rfl⟩
    case round =>
      obtain ⟨k, hk8, hks, rfl, rfl⟩ := hrel
      go_wp2
      all_goals first
        | (go_round
           case rel =>
             have h8 : k < 8 := by omega
             have hk : k < s.data.toList.length := by simpa using ‹k < s.size›
             have e1 := leNum_take s.data.toList k hk
             have hlt : leNum (s.data.toList.take k) < 256 ^ k := by
               have := leNum_lt (s.data.toList.take k)
               rwa [List.length_take, Nat.min_eq_left (by omega)] at this
             refine ⟨k + 1, by omega, by omega, by go_num, ?_⟩
             rw [e1, ← or_high _ _ k hlt (UInt8.toNat_lt _) h8]
             rfl
           case measure => simp [intOf] <;> omega)
        | (go_ret
           have : s.data.toList.take 8 = s.data.toList.take k := by
             by_cases h : k = 8
             · rw [h]
             · have hl : s.data.toList.length = s.size := by simp
               rw [List.take_of_length_le (by omega), List.take_of_length_le (by omega)]
           exact ⟨by rw [this]; rfl, rfl⟩)


set_option maxHeartbeats 400000 in
theorem bytes_bad (v n : Int) (w : World) (hn : n < 0 ∨ 8 < n) :
    Calls Try.prog 9 #[.int .u64 v, .int .i64 n] w fun e w' => e = .returned (.string ⟨#[]⟩) ∧ w = w' := by
  rcases hn with hn | hn
  · go_enter Try.func9, Try.ntmps9
    go_wp2
    all_goals (go_ret; exact ⟨rfl, rfl⟩)
  · have h' : ¬ n < 0 := by omega
    go_enter Try.func9, Try.ntmps9
    go_wp2
    all_goals (go_ret; exact ⟨rfl, rfl⟩)

theorem Try.info_u8 : (Try.prog.info? 5).map (fun i => (i.zero, i.size, i.bytes)) = some (some (.int .u8 0), 1, 1) := by kernel_rfl

theorem make_bytes (n : Nat) (hn : n ≤ 4294967296) (w : World) : (Instr.makeSlice 43 (.int .i64 n) (.int .i64 n)).run Try.prog w = .ok (.slice (some ⟨w.heap.size, 0, none⟩) n n) (w.alloc (.cells (u8s (List.replicate n 0)).toArray 5)) := by
  obtain ⟨i0, hi, hz0, hz1, hz2⟩ := info_parts Try.info_u8
  have h := run_make (P := Try.prog) w 43 5 i0 (.int .u8 0) Try.underlying43 hi hz0 .i64 .i64 n n (by omega) (by omega) (by rw [hz2]; omega) (by omega)
  rw [h, hz1]
  clear h hn
  simp only [Int.toNat_natCast, Nat.mul_one]
  have e : ∀ A B : Array Value, A = B → (Result.ok (Value.slice (some ⟨w.heap.size, 0, none⟩) n n) (w.alloc (.cells A 5)) : Result Value) = .ok (.slice (some ⟨w.heap.size, 0, none⟩) n n) (w.alloc (.cells B 5)) := fun A B h => by rw [h]
  refine e _ _ ?_
  apply Array.ext'
  simp [madeCells, u8s, Value.cells, Nat.mod_one]
  apply List.ext_getElem?
  intro j
  simp only [List.getElem?_replicate]
  by_cases hj : j < n <;> simp [hj]

def byteCells (n v k : Nat) : Array Value := (u8s (leBytes k v ++ List.replicate (n - k) 0)).toArray
theorem byteCells_size (n v k : Nat) (h : k ≤ n) : (byteCells n v k).size = n := by simp [byteCells]; omega
theorem byteCells_set (n v k : Nat) (h : k < n) : (byteCells n v k).setIfInBounds k (.int .u8 ((v : Int) / 2 ^ (8 * k) % 256)) = byteCells n v (k + 1) := by
  have e : ((v : Int) / 2 ^ (8 * k) % 256) = ((UInt8.ofNat (v / 256 ^ k)).toNat : Int) := by
    rw [show (256 : Nat) ^ k = 2 ^ (8 * k) by rw [Nat.pow_mul]]
    simp
  rw [e]
  apply Array.ext'
  rw [Array.toList_setIfInBounds]
  unfold byteCells
  rw [leBytes_snoc, show n - k = n - (k + 1) + 1 by omega, List.replicate_succ]
  simp [u8s, List.set_append_right]

set_option maxHeartbeats 400000 in
theorem bytes_any (v : Nat) (n : Nat) (w : World) (hv : v < 2 ^ 64) (hn : n ≤ 8) :
    Calls Try.prog 9 #[.int .u64 v, .int .i64 n] w fun e w' => e = .returned (.string ⟨(leBytes n v).toArray⟩) ∧ Below w.heap.size w w' := by
  have HV := Lib.hid hv; clear hv
  have h8 : ¬ 8 < n := by omega
  have hmk := make_bytes n (by omega)
  go_enter Try.func9, Try.ntmps9
  go_wp2
  go_loopw [16] (fun i wr => ∃ k : Nat, k ≤ n ∧ i = .int .i64 k ∧ wr = w.alloc (.cells (byteCells n v k) 5)) (fun i _ => n - (intOf i).toNat)
  case atStart => exact ⟨0, by omega, rfl, by simp [byteCells, leBytes]⟩
  case round =>
    obtain ⟨k, hk, rfl, rfl⟩ := hrel
    clear hmk
    have hsz := byteCells_size n v k hk
    have hfin : k = n → byteCells n v k = (u8s (leBytes n v)).toArray := fun h => by subst h; simp [byteCells]
    have hset : k < n → _ := byteCells_set n v k
    generalize byteCells n v k = C at hsz hset hfin
    have HS := Lib.hid hset; clear hset
    by_cases hlt : k < n
    · clear hfin
      go_wp2
      go_roundw
      case rel => exact ⟨k + 1, by omega, by go_num, by rw [HS.out hlt]⟩
      case measure => simp [intOf] <;> omega
    · obtain rfl : k = n := by omega
      have hcv := run_str_of_bytes (P := Try.prog) (w.alloc (.cells C 5)) 43 9 5 Try.underlying43 Try.underlying5 Try.underlying9 w.heap.size 0 k (leBytes k v) k (by simp) (by rw [hfin rfl]; exact CellsAt.new _ _ _)
      clear hfin
      go_wp2
      go_ret
      exact ⟨rfl, (Below.refl _ _).alloc (Nat.le_refl _) _⟩


theorem leNum_cons_drop (L : List UInt8) (k : Nat) (h : k < L.length) : leNum (L.drop k) = L[k].toNat + 256 * leNum (L.drop (k + 1)) := by
  rw [List.drop_eq_getElem_cons h]; rfl

theorem back_step (V b r m : Nat) (hV : V < 256 ^ 7) (hb : b < 256) (hr : r = b + 256 * V) :
    IntKind.u64.wrap (IntKind.u64.wrap ((V : Int) * 256) + IntKind.u64.wrap (b : Int)) = (r : Int) := by
  have hu : ∀ m : Int, 0 ≤ m → m < 18446744073709551616 → IntKind.u64.wrap m = m := fun m h h' => IntWalk.u64_in _ (by omega)
  have h3 : V < 72057594037927936 := by omega
  have e1 := hu ((V : Int) * 256) (by omega) (by omega)
  have e2 := hu (b : Int) (by omega) (by omega)
  rw [e1, e2, hu _ (by omega) (by omega)]
  omega

theorem one_byte (W : World) (x : Int) (h0 : 0 ≤ x) (h1 : x < 256) : (convert 43 9 (.slice (some ⟨W.heap.size, 0, none⟩) 1 1)).run Try.prog (W.alloc (.cells #[.int .u8 x] 5)) = .ok (.string ⟨#[UInt8.ofNat x.toNat]⟩) (W.alloc (.cells #[.int .u8 x] 5)) :=
  run_str_of_bytes _ 43 9 5 Try.underlying43 Try.underlying5 Try.underlying9 W.heap.size 0 1 [UInt8.ofNat x.toNat] 1 rfl (by
    have h := CellsAt.new W [.int .u8 x] 5
    have e : u8s [UInt8.ofNat x.toNat] = [.int .u8 x] := by
      simp only [u8s, List.map_cons, List.map_nil]
      have : ((UInt8.ofNat x.toNat).toNat : Int) = x := by simp; omega
      rw [this]
    rw [e]; exact h)

end Go.Proofs.Ytlinnhaodkiolaa
