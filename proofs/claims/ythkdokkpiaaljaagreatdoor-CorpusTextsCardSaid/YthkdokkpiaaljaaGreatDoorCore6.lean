/- firewallref03: numerals. firewallref02.Size; firewallref03: name, Half, Wide. firewallref03: name. firewallref03: Half, Wide. -/
import Derived.Test.YthkdokkpiaaljaaGreatDoorCore2
import Derived.Test.YthkdokkpiaaljaaGreatDoorCore3
import Derived.Test.YthkdokkpiaaljaaGreatDoorCore5
import Derived.Lib.Strings
import Derived.Laws.Concat
import Derived.Handy
import Derived.BigGuardPart
set_option linter.all false
set_option linter.unusedVariables false
set_option linter.unusedSimpArgs false
namespace Go.Proofs.YthkdokkpiaaljaaGreatDoor
open Go.RowKit

theorem str_nil (l : List UInt8) : ((⟨l.toArray⟩ : ByteArray).toList == ([] : List UInt8)) = decide (l = []) := by
  rw [Lib.toList_data]
  cases l <;> simp

theorem one_str (W : World) (n : Nat) (h : n < 256) : (convert 31 9 (.slice (some ⟨W.heap.size, 0, none⟩) 1 1)).run Tryz.prog (W.alloc (.cells #[.int .u8 (n : Int)] 5)) = .ok (.string ⟨#[UInt8.ofNat n]⟩) (W.alloc (.cells #[.int .u8 (n : Int)] 5)) := by
  have e : ((n : Nat) : Int) = ((UInt8.ofNat n).toNat : Int) := by simp; omega
  have hc : CellsAt (W.alloc (.cells #[.int .u8 (n : Int)] 5)) W.heap.size 0 (u8s [UInt8.ofNat n]) := by
    have := CellsAt.new W [.int .u8 (n : Int)] 5
    rw [e] at this ⊢
    exact this
  exact run_str_of_bytes _ 31 9 5 Tryz.underlying31 Tryz.underlying5 Tryz.underlying9 W.heap.size 0 1 [UInt8.ofNat n] 1 rfl hc

theorem add_str (a b : List UInt8) (ha : a.length ≤ 100000) (hb : b.length ≤ 100000) (W : World) : (Op.stringOp .add ⟨a.toArray⟩ ⟨b.toArray⟩).run Tryz.prog W = .ok (.string ⟨(a ++ b).toArray⟩) W := by
  have e : ((⟨a.toArray⟩ : ByteArray) ++ ⟨b.toArray⟩) = ⟨(a ++ b).toArray⟩ := by apply ByteArray.ext; simp [ByteArray.data_append]
  rw [← e]
  have sa : (⟨a.toArray⟩ : ByteArray).size = a.length := by simp [ByteArray.size]
  have sb : (⟨b.toArray⟩ : ByteArray).size = b.length := by simp [ByteArray.size]
  apply run_string_add
  · rw [sa]; omega
  · rw [sb]; omega

/-- where the loop of digits stands: m is left, S is what was laid -/
def DigIs (N m : Nat) (S : List UInt8) : Prop := (m = 0 ∧ S ≠ [] ∧ S = Lib.decDigits N) ∨ (Lib.decDigits m ++ S = Lib.decDigits N ∧ (0 < m ∨ S = []))
theorem DigIs.step {N m : Nat} {S : List UInt8} (h : DigIs N m S) (hgo : 0 < m ∨ S = []) : DigIs N (m / 10) (UInt8.ofNat (48 + m % 10) :: S) := by
  have h2 : Lib.decDigits m ++ S = Lib.decDigits N := by
    rcases h with ⟨h0, h1, _⟩ | ⟨h1, _⟩
    · rcases hgo with h | h
      · omega
      · exact absurd h h1
    · exact h1
  rw [Lib.decDigits] at h2
  by_cases h10 : m < 10
  · rw [dif_pos h10] at h2
    refine .inl ⟨by omega, by simp, ?_⟩
    rw [← h2, Nat.mod_eq_of_lt h10]
    rfl
  · rw [dif_neg h10] at h2
    refine .inr ⟨?_, .inl (by omega)⟩
    rw [← h2]
    simp
theorem DigIs.len {N m : Nat} {S : List UInt8} (h : DigIs N m S) : S.length ≤ (Lib.decDigits N).length := by
  rcases h with ⟨_, _, h⟩ | ⟨h, _⟩
  · rw [h]; exact Nat.le_refl _
  · rw [← h, List.length_append]; omega
/-- how long a string's value is -/
def strLen : Value → Nat
  | .string b => b.size
  | _ => 0
theorem DigIs.done {N m : Nat} {S : List UInt8} (h : DigIs N m S) (h0 : ¬ (0 < m ∨ S = [])) : S = Lib.decDigits N := by
  rcases h with ⟨_, _, h⟩ | ⟨_, h⟩
  · exact h
  · exact absurd h h0

set_option maxRecDepth 100000 in
set_option maxHeartbeats 1000000 in
theorem digits_any (N : Nat) (hN : N < 18446744073709551616) (w : World) : Calls Tryz.prog 33 #[.int .u64 N] w fun e w' => e = .returned (.string ⟨(decN N).toArray⟩) ∧ Fr No w w' := by
  have hdec : decN N = Lib.decDigits N := decN_dec (by omega)
  have HD := Lib.hid hdec
  have HS : Hid (DigIs N N []) := Lib.hid (.inr ⟨by simp, .inr rfl⟩)
  have HB := Lib.hid hN
  clear hdec hN
  go_enter Tryz.func33, Tryz.ntmps33
  go_wp2_with fail
  go_loopw [0, 3] (fun s0 s3 wr => ∃ (m : Nat) (S : List UInt8), s0 = .int .u64 m ∧ s3 = .string ⟨S.toArray⟩ ∧ m ≤ N ∧ Hid (DigIs N m S) ∧ Hid (Fr No w wr)) (fun s0 s3 _ => 2 * (intOf s0).toNat + (if strLen s3 = 0 then 1 else 0))
  case atStart => exact ⟨N, [], rfl, rfl, Nat.le_refl _, HS.out, Fr.refl _ _⟩
  case round =>
    obtain ⟨m, S, rfl, rfl, hm, HI, HF⟩ := hrel
    have q0 := str_nil S
    have h20 : S.length ≤ 20 := Nat.le_trans HI.out.len (by rw [← HD.out]; exact dec_len20 HB.out)
    have hmN := HB.out
    by_cases h0 : 0 < m
    · have f1 : (m : Int) % 10 = ((m % 10 : Nat) : Int) := by omega
      have f1' : (m : Int).tmod 10 = ((m % 10 : Nat) : Int) := by rw [Int.tmod_eq_emod_of_nonneg (by omega)]; omega
      have f2 : IntKind.u64.wrap (48 + ((m % 10 : Nat) : Int)) = ((48 + m % 10 : Nat) : Int) := by rw [IntWalk.u64_in _ (by omega)]; omega
      have f2' : (48 + ((m % 10 : Nat) : Int)) = ((48 + m % 10 : Nat) : Int) := by omega
      have f3 : IntKind.u8.wrap ((48 + m % 10 : Nat) : Int) = ((48 + m % 10 : Nat) : Int) := IntWalk.u8_in _ (by omega)
      have f4 : (m : Int).tdiv 10 = ((m / 10 : Nat) : Int) := by rw [Int.tdiv_eq_ediv_of_nonneg (by omega)]; omega
      have f4' : (m : Int) / 10 = ((m / 10 : Nat) : Int) := by omega
      have hcv := one_str wr (48 + m % 10) (by omega)
      have had := add_str [UInt8.ofNat (48 + m % 10)] S (by simp) (by omega)
      have HI2 := Lib.hid (HI.out.step (.inl h0))
      have HM : Hid (m / 10 ≤ N ∧ 2 * (m / 10) < 2 * m) := Lib.hid ⟨by omega, by omega⟩
      simp only [List.cons_append, List.nil_append] at had
      generalize UInt8.ofNat (48 + m % 10) = c at *
      generalize 48 + m % 10 = d at *
      generalize m % 10 = e at *
      generalize m / 10 = m2 at *
      have q1 : decide ((m : Int) > 0) = true := by simp; omega
      clear q0
      go_wp2_with fail
      go_roundw
      case rel => exact ⟨m2, c :: S, rfl, rfl, HM.out.1, HI2.out, HF.out.alloc _⟩
      case measure =>
        have := HM.out.2
        simp [intOf, strLen, ByteArray.size]
        omega
    · obtain rfl : m = 0 := by omega
      by_cases hS : S = []
      · subst hS
        have hcv : (convert 31 9 (.slice (some ⟨wr.heap.size, 0, none⟩) 1 1)).run Tryz.prog (wr.alloc (.cells #[.int .u8 48] 5)) = .ok (.string ⟨#[48]⟩) (wr.alloc (.cells #[.int .u8 48] 5)) := one_str wr 48 (by omega)
        have had : ∀ W, (Op.stringOp .add ⟨#[48]⟩ ⟨#[]⟩).run Tryz.prog W = .ok (.string ⟨#[48]⟩) W := fun W => add_str [48] [] (by simp) (by simp) W
        have HI2 := Lib.hid (HI.out.step (.inr rfl))
        clear q0 h0
        go_wp2_with fail
        go_roundw
        case rel => exact ⟨0, [48], rfl, rfl, Nat.zero_le _, HI2.out, HF.out.alloc _⟩
        case measure => simp [intOf, strLen, ByteArray.size]
      · have hgo : ¬ (0 < 0 ∨ S = []) := by simp [hS]
        have HE := Lib.hid (HI.out.done hgo)
        obtain ⟨c, S, rfl⟩ := List.exists_cons_of_ne_nil hS
        clear q0 hgo hS h0
        go_wp2_with fail
        go_ret
        exact ⟨by rw [HE.out, ← HD.out]; rfl, HF.out⟩

set_option maxRecDepth 100000 in
set_option maxHeartbeats 1000000 in
theorem refnumber_any (n : Int) (h0 : -9223372036854775808 < n) (h1 : n ≤ 9223372036854775807) (w : World) : Calls Tryz.prog 32 #[.int .i64 n] w fun e w' => e = .returned (.string ⟨(itoaN n).toArray⟩) ∧ Fr No w w' := by
  have HDG : Hid (∀ (N : Nat) W, N < 18446744073709551616 → Calls Tryz.prog 33 #[.int .u64 N] W fun e w' => e = .returned (.string ⟨(decN N).toArray⟩) ∧ Fr No W w') := fun N W h => digits_any N h W
  by_cases hn : n < 0
  · obtain ⟨m, rfl⟩ : ∃ m : Nat, n = -(m : Int) := ⟨n.natAbs, by omega⟩
    have e : itoaN (-(m : Int)) = 45 :: decN m := by unfold itoaN; rw [if_pos hn]; simp
    have f1 : IntKind.i64.wrap (m : Int) = m := IntWalk.i64_in _ (by omega)
    have f2 : IntKind.u64.wrap (m : Int) = m := IntWalk.u64_in _ (by omega)
    have f3 : -(-(m : Int)) = m := by omega
    have q : decide (-(m : Int) < 0) = true := by simpa using hn
    have hl : (decN m).length ≤ 20 := dec_len20 (by omega)
    have HD := Lib.hid (fun W => HDG.out m W (by omega))
    have had := add_str [45] (decN m) (by simp) (by omega)
    simp only [List.cons_append, List.nil_append] at had
    rw [e]
    clear HDG h0 h1 e hl
    generalize decN m = D at *
    go_enter Tryz.func32, Tryz.ntmps32
    go_wp2_with (go_at_call 33; (with_reducible refine (HD.out _).mono ?_); rintro e w1 ⟨rfl, hf1⟩)
    go_ret
    exact ⟨rfl, hf1⟩
  · obtain ⟨m, rfl⟩ := Int.eq_ofNat_of_zero_le (show 0 ≤ n by omega)
    have e : itoaN (m : Int) = decN m := by unfold itoaN; rw [if_neg hn]; simp
    have f2 : IntKind.u64.wrap (m : Int) = m := IntWalk.u64_in _ (by omega)
    have q : decide ((m : Int) < 0) = false := by simp
    have HD := Lib.hid (fun W => HDG.out m W (by omega))
    rw [e]
    clear HDG h0 h1 e
    generalize decN m = D at *
    go_enter Tryz.func32, Tryz.ntmps32
    go_wp2_with (go_at_call 33; (with_reducible refine (HD.out _).mono ?_); rintro e w1 ⟨rfl, hf1⟩)
    go_ret
    exact ⟨rfl, hf1⟩

set_option maxRecDepth 100000 in
theorem signed_any (n : Int) (h0 : -9223372036854775808 < n) (h1 : n ≤ 9223372036854775807) (w : World) : Calls Tryz.prog 67 #[.int .i64 n] w fun e w' => e = .returned (.string ⟨(signN n).toArray⟩) ∧ Fr No w w' := by
  have HN := Lib.hid (fun W => refnumber_any n h0 h1 W)
  by_cases hn : n < 0
  · have q : decide (n < 0) = true := by simpa using hn
    have e : signN n = itoaN n := by unfold signN; rw [if_pos hn]
    rw [e]
    clear h0 h1 e
    generalize itoaN n = D at *
    go_enter Tryz.func67, Tryz.ntmps67
    go_wp2_with (go_at_call 32; (with_reducible refine (HN.out _).mono ?_); rintro e w1 ⟨rfl, hf1⟩)
    go_ret
    exact ⟨rfl, hf1⟩
  · have q : decide (n < 0) = false := by simpa using hn
    have e : signN n = 43 :: itoaN n := by unfold signN; rw [if_neg hn]
    have hl : (itoaN n).length ≤ 100000 := by
      have : itoaN n = decN n.toNat := by unfold itoaN; rw [if_neg hn]
      rw [this]
      have := dec_len20 (n := n.toNat) (by omega)
      omega
    have had := add_str [43] (itoaN n) (by simp) hl
    simp only [List.cons_append, List.nil_append] at had
    rw [e]
    clear h0 h1 e hl
    generalize itoaN n = D at *
    go_enter Tryz.func67, Tryz.ntmps67
    go_wp2_with (go_at_call 32; (with_reducible refine (HN.out _).mono ?_); rintro e w1 ⟨rfl, hf1⟩)
    go_ret
    exact ⟨rfl, hf1⟩

set_option maxRecDepth 100000 in
theorem refreg_any (n : Nat) (h : n < 256) (w : World) : Calls Tryz.prog 31 #[.int .u8 n] w fun e w' => e = .returned (.string ⟨(regN n).toArray⟩) ∧ Fr No w w' := by
  have HN := Lib.hid (fun W => refnumber_any n (by omega) (by omega) W)
  have f1 : IntKind.i64.wrap (n : Int) = n := IntWalk.i64_in _ (by omega)
  have e : itoaN (n : Int) = decN n := by unfold itoaN; rw [if_neg (by omega)]; simp
  have hl : (decN n).length ≤ 100000 := by have := dec_len20 (n := n) (by omega); omega
  have had := add_str [114] (decN n) (by simp) hl
  simp only [List.cons_append, List.nil_append] at had
  rw [e] at HN
  unfold regN
  clear h e hl
  generalize decN n = D at *
  go_enter Tryz.func31, Tryz.ntmps31
  go_wp2_with (go_at_call 32; (with_reducible refine (HN.out _).mono ?_); rintro e w1 ⟨rfl, hf1⟩)
  go_ret
  exact ⟨rfl, hf1⟩
end Go.Proofs.YthkdokkpiaaljaaGreatDoor

namespace Go.Proofs.YthkdokkpiaaljaaGreatDoor
open Go.RowKit

def sizeOps : List Nat := [113, 105, 97, 121, 114, 106, 98, 122, 115, 107, 99, 123]
theorem size_none {op : Nat} (h : op ∉ sizeOps) : sizeN op = 0 := by
  simp only [sizeOps, List.mem_cons, List.not_mem_nil, or_false, not_or] at h
  unfold sizeN
  simp [h]

set_option maxRecDepth 100000 in
set_option maxHeartbeats 4000000 in
theorem refsize_one (op : Nat) (h : op ∈ sizeOps) (w : World) : Calls Tryz.prog 65 #[.int .u8 op] w fun e w' => e = .returned (.int .i64 (sizeN op)) ∧ Fr No w w' := by
  simp only [sizeOps, List.mem_cons, List.not_mem_nil, or_false] at h
  rcases h with rfl | rfl | rfl | rfl | rfl | rfl | rfl | rfl | rfl | rfl | rfl | rfl
  all_goals simp only [sizeN]
  all_goals go_enter Tryz.func65, Tryz.ntmps65
  all_goals go_wp2_with fail
  all_goals go_rounds 12
  all_goals go_ret
  all_goals exact ⟨rfl, (Fr.refl _ _).alloc _⟩

set_option maxRecDepth 100000 in
set_option maxHeartbeats 4000000 in
theorem refsize_no (op : Nat) (h : op ∉ sizeOps) (w : World) : Calls Tryz.prog 65 #[.int .u8 op] w fun e w' => e = .returned (.int .i64 0) ∧ Fr No w w' := by
  simp only [sizeOps, List.mem_cons, List.not_mem_nil, or_false, not_or] at h
  obtain ⟨h0, h1, h2, h3, h4, h5, h6, h7, h8, h9, h10, h11⟩ := h
  have q0 : ((113 : Int) == (op : Int)) = false := by simp; omega
  have q1 : ((105 : Int) == (op : Int)) = false := by simp; omega
  have q2 : ((97 : Int) == (op : Int)) = false := by simp; omega
  have q3 : ((121 : Int) == (op : Int)) = false := by simp; omega
  have q4 : ((114 : Int) == (op : Int)) = false := by simp; omega
  have q5 : ((106 : Int) == (op : Int)) = false := by simp; omega
  have q6 : ((98 : Int) == (op : Int)) = false := by simp; omega
  have q7 : ((122 : Int) == (op : Int)) = false := by simp; omega
  have q8 : ((115 : Int) == (op : Int)) = false := by simp; omega
  have q9 : ((107 : Int) == (op : Int)) = false := by simp; omega
  have q10 : ((99 : Int) == (op : Int)) = false := by simp; omega
  have q11 : ((123 : Int) == (op : Int)) = false := by simp; omega
  clear h0 h1 h2 h3 h4 h5 h6 h7 h8 h9 h10 h11
  go_enter Tryz.func65, Tryz.ntmps65
  go_wp2_with fail
  go_rounds 13
  all_goals go_ret
  all_goals exact ⟨rfl, (Fr.refl _ _).alloc _⟩

theorem refsize_any (op : Nat) (w : World) : Calls Tryz.prog 65 #[.int .u8 op] w fun e w' => e = .returned (.int .i64 (sizeN op)) ∧ Fr No w w' := by
  by_cases h : op ∈ sizeOps
  · exact refsize_one op h w
  · rw [size_none h]
    exact refsize_no op h w
end Go.Proofs.YthkdokkpiaaljaaGreatDoor

namespace Go.Proofs.YthkdokkpiaaljaaGreatDoor
open Go.RowKit

theorem idx_arith (k : Nat) (hk : k < 16) (W : World) : (Instr.index 124 (.agg #[.string ⟨#[97, 100, 100]⟩, .string ⟨#[115, 117, 98]⟩, .string ⟨#[109, 117, 108]⟩, .string ⟨#[100, 105, 118]⟩, .string ⟨#[111, 114]⟩, .string ⟨#[97, 110, 100]⟩, .string ⟨#[108, 115, 104]⟩, .string ⟨#[114, 115, 104]⟩, .string ⟨#[110, 101, 103]⟩, .string ⟨#[109, 111, 100]⟩, .string ⟨#[120, 111, 114]⟩, .string ⟨#[109, 111, 118]⟩, .string ⟨#[97, 114, 115, 104]⟩, .string ⟨#[]⟩, .string ⟨#[]⟩, .string ⟨#[]⟩]) (.int .u8 k)).run Tryz.prog W = .ok (.string ⟨((arithN[k]?).getD []).toArray⟩) W :=
  match k, hk with
  | 0, _ => by kernel_rfl
  | 1, _ => by kernel_rfl
  | 2, _ => by kernel_rfl
  | 3, _ => by kernel_rfl
  | 4, _ => by kernel_rfl
  | 5, _ => by kernel_rfl
  | 6, _ => by kernel_rfl
  | 7, _ => by kernel_rfl
  | 8, _ => by kernel_rfl
  | 9, _ => by kernel_rfl
  | 10, _ => by kernel_rfl
  | 11, _ => by kernel_rfl
  | 12, _ => by kernel_rfl
  | 13, _ => by kernel_rfl
  | 14, _ => by kernel_rfl
  | 15, _ => by kernel_rfl
  | k + 16, h => absurd h (by omega)
theorem idx_jump (k : Nat) (hk : k < 16) (W : World) : (Instr.index 124 (.agg #[.string ⟨#[]⟩, .string ⟨#[106, 101, 113]⟩, .string ⟨#[106, 103, 116]⟩, .string ⟨#[106, 103, 101]⟩, .string ⟨#[106, 115, 101, 116]⟩, .string ⟨#[106, 110, 101]⟩, .string ⟨#[106, 115, 103, 116]⟩, .string ⟨#[106, 115, 103, 101]⟩, .string ⟨#[]⟩, .string ⟨#[]⟩, .string ⟨#[106, 108, 116]⟩, .string ⟨#[106, 108, 101]⟩, .string ⟨#[106, 115, 108, 116]⟩, .string ⟨#[106, 115, 108, 101]⟩, .string ⟨#[]⟩, .string ⟨#[]⟩]) (.int .u8 k)).run Tryz.prog W = .ok (.string ⟨((jumpN[k]?).getD []).toArray⟩) W :=
  match k, hk with
  | 0, _ => by kernel_rfl
  | 1, _ => by kernel_rfl
  | 2, _ => by kernel_rfl
  | 3, _ => by kernel_rfl
  | 4, _ => by kernel_rfl
  | 5, _ => by kernel_rfl
  | 6, _ => by kernel_rfl
  | 7, _ => by kernel_rfl
  | 8, _ => by kernel_rfl
  | 9, _ => by kernel_rfl
  | 10, _ => by kernel_rfl
  | 11, _ => by kernel_rfl
  | 12, _ => by kernel_rfl
  | 13, _ => by kernel_rfl
  | 14, _ => by kernel_rfl
  | 15, _ => by kernel_rfl
  | k + 16, h => absurd h (by omega)

set_option maxRecDepth 100000 in
set_option maxHeartbeats 1000000 in
theorem refname_any (op : Nat) (h : op < 256) (w : World) : Calls Tryz.prog 66 #[.int .u8 op] w fun e w' => e = .returned (.string ⟨(nameN op).toArray⟩) ∧ w = w' := by
  have HA : Hid (∀ W, Calls Tryz.prog 57 #[.int .u8 op] W fun e w' => e = .returned (.bool (arithB op)) ∧ W = w') := fun W => arith_any op h W
  have f2 : (op : Int).tdiv 16 = ((op / 16 : Nat) : Int) := by rw [Int.tdiv_eq_ediv_of_nonneg (by omega)]; omega
  have f2' : (op : Int) / 16 = ((op / 16 : Nat) : Int) := by omega
  have hk : op / 16 < 16 := by omega
  have e : nameN op = if arithB op then (arithN[op / 16]?).getD [] else (jumpN[op / 16]?).getD [] := rfl
  have f5 : ((op / 16 : Nat) : Int) % 256 = ((op / 16 : Nat) : Int) := by omega
  have i1 := idx_arith (op / 16) hk
  have i2 := idx_jump (op / 16) hk
  rw [e]
  generalize arithB op = a at *
  generalize op / 16 = k at *
  clear e h hk
  generalize (arithN[k]?).getD [] = X at *
  generalize (jumpN[k]?).getD [] = Y at *
  cases a
  · go_enter Tryz.func66, Tryz.ntmps66
    go_wp2_with (go_at_call 57; (with_reducible refine (HA.out _).mono ?_); rintro e w1 ⟨rfl, rfl⟩)
    go_ret
    exact ⟨rfl, rfl⟩
  · go_enter Tryz.func66, Tryz.ntmps66
    go_wp2_with (go_at_call 57; (with_reducible refine (HA.out _).mono ?_); rintro e w1 ⟨rfl, rfl⟩)
    go_ret
    exact ⟨rfl, rfl⟩
end Go.Proofs.YthkdokkpiaaljaaGreatDoor

namespace Go.Proofs.YthkdokkpiaaljaaGreatDoor
open Go.RowKit

set_option maxRecDepth 100000 in
set_option maxHeartbeats 1000000 in
theorem wide_any (i j : Ins) (w : World) : Calls Tryz.prog 34 #[i.agg, j.agg] w fun e w' => e = .returned (.int .u64 (wideN i j)) ∧ Fr No w w' := by
  have a1 := u32_lt i.imm
  have a2 := u32_lt j.imm
  have f1 : IntKind.u32.wrap i.imm = (u32 i.imm : Int) := by rw [IntKind.wrap_u32]; unfold u32; omega
  have f2 : IntKind.u32.wrap j.imm = (u32 j.imm : Int) := by rw [IntKind.wrap_u32]; unfold u32; omega
  have f3 : IntKind.u64.wrap (u32 i.imm : Int) = u32 i.imm := IntWalk.u64_in _ (by omega)
  have f4 : IntKind.u64.wrap (u32 j.imm : Int) = u32 j.imm := IntWalk.u64_in _ (by omega)
  have f5 : IntKind.u64.wrap ((u32 j.imm : Int) * 4294967296) = (u32 j.imm : Int) * 4294967296 := IntWalk.u64_in _ (by omega)
  have f6 : IntKind.u64.wrap ((u32 j.imm : Int) * 4294967296 + (u32 i.imm : Int)) = (u32 j.imm : Int) * 4294967296 + (u32 i.imm : Int) := IntWalk.u64_in _ (by omega)
  have e : ((wideN i j : Nat) : Int) = (u32 j.imm : Int) * 4294967296 + (u32 i.imm : Int) := by unfold wideN; omega
  rw [e]
  generalize u32 i.imm = x at *
  generalize u32 j.imm = y at *
  clear a1 a2 e
  unfold Ins.agg
  go_enter Tryz.func34, Tryz.ntmps34
  go_wp2_with fail
  go_ret
  exact ⟨rfl, ((Fr.refl _ _).alloc _).alloc _⟩

set_option maxRecDepth 100000 in
set_option maxHeartbeats 1000000 in
theorem half_any (j : Ins) (ref : Bool) (w : World) : Calls Tryz.prog 30 #[j.agg, .bool ref] w fun e w' => e = .returned (.bool (halfB j ref)) ∧ Fr No w w' := by
  obtain ⟨R, hR⟩ : ∃ R, halfB j ref = R := ⟨_, rfl⟩
  have q0 : ((j.op : Int) == 0) = (j.op == 0) := beq_nat j.op 0
  have q1 : ((j.dst : Int) == 0) = (j.dst == 0) := beq_nat j.dst 0
  have q2 : ((j.src : Int) == 0) = (j.src == 0) := beq_nat j.src 0
  obtain ⟨b3, q3⟩ : ∃ b, (j.off == 0) = b := ⟨_, rfl⟩
  obtain ⟨b4, q4⟩ : ∃ b, (j.imm == 0) = b := ⟨_, rfl⟩
  have HX : Hid ((j.op == 0 && j.dst == 0 && j.src == 0 && b3 && (b4 || !ref)) = R) := by rw [← q3, ← q4]; exact hR
  rw [hR]
  clear hR
  generalize (j.op == 0) = b0 at *
  generalize (j.dst == 0) = b1 at *
  generalize (j.src == 0) = b2 at *
  unfold Ins.agg
  go_enter Tryz.func30, Tryz.ntmps30
  go_wp2_with fail
  all_goals clear q0 q1 q2 q3 q4
  all_goals subst_vars
  all_goals go_ret
  all_goals exact ⟨by first | rfl | (rw [← HX.out]; rfl) | (rw [← HX.out]; simp [*]) | simp [*], (Fr.refl _ _).alloc _⟩
end Go.Proofs.YthkdokkpiaaljaaGreatDoor
