/- maps: the small functions: Len, base, slices.Index of a hash's keys; array's and hash's methods. -/
import Derived.Test.YtlinnhaodkiolaaMapH
import Derived.Deep.QuietTactic
import Derived.BigQuiet
import Derived.Outline
namespace Go.Proofs.Ytlinnhaodkiolaa
open Go.RowKit

def optI : Option Nat → Int
  | none => -1
  | some p => p

set_option maxHeartbeats 400000 in
theorem mlen_any (b n cap : Nat) (a : Option Addr) (w : World) (h : w.cell? ⟨b, 1, none⟩ = some (.slice a n cap)) :
    Calls Try.prog 15 #[.pointer (some ⟨b, 0, none⟩)] w fun e w' => e = .returned (.int .i64 n) ∧ w = w' := by
  go_enter Try.func15, Try.ntmps15
  go_wp2_with fail
  go_ret
  exact ⟨rfl, rfl⟩

set_option maxHeartbeats 400000 in
theorem mlen_nil (w : World) : Calls Try.prog 15 #[.pointer none] w fun e w' => e = .returned (.int .i64 0) ∧ w = w' := by
  go_enter Try.func15, Try.ntmps15
  go_wp2_with fail
  go_ret
  exact ⟨rfl, rfl⟩

theorem u64_nat (n : Nat) (h : n ≤ 18446744073709551615) : IntKind.u64.wrap (n : Int) = n := IntWalk.u64_in _ (by omega)

set_option maxHeartbeats 400000 in
theorem mbase_any (i : Nat) (w : World) (hi : i ≤ 1000) : Calls Try.prog 38 #[.int .i64 i] w fun e w' => e = .returned (.int .u64 (mbase i)) ∧ w = w' := by
  have e1 : IntKind.u64.wrap (i : Int) = i := u64_nat i (by omega)
  have e2 : IntKind.u64.wrap ((i : Int) * 65536) = (i : Int) * 65536 := IntWalk.u64_in _ (by omega)
  have e3 : IntKind.u64.wrap (1048576 + (i : Int) * 65536) = 1048576 + (i : Int) * 65536 := IntWalk.u64_in _ (by omega)
  go_enter Try.func38, Try.ntmps38
  go_wp2_with fail
  go_ret
  exact ⟨by unfold mbase; rfl, rfl⟩

theorem bytes_eql (a b : List UInt8) : ((⟨a.toArray⟩ : ByteArray).toList == (⟨b.toArray⟩ : ByteArray).toList) = decide (a = b) := by
  rw [Bool.eq_iff_iff]
  simp [ByteArray.toList_eq]

set_option maxHeartbeats 400000 in
theorem index_walk (g n cap : Nat) (ks : List (List UInt8)) (key : List UInt8) (w : World) (hn : ks.length = n) (hm : n ≤ 1000000) (hc : CellsAt w g 0 (strs ks)) :
    Calls Try.prog 40 #[.slice (some ⟨g, 0, none⟩) n cap, .string ⟨key.toArray⟩] w fun e w' => e = .returned (.int .i64 (optI (ks.findIdx? (· == key)))) ∧ w = w' := by
  obtain ⟨K, hK⟩ : ∃ K : ByteArray, K = ⟨key.toArray⟩ := ⟨_, rfl⟩
  rw [← hK]
  have HK := Lib.hid hK
  have HN := Lib.hid hn
  have HC := Lib.hid hc
  clear hK hn hc
  go_enter Try.func40, Try.ntmps40
  go_wp2_with fail
  go_loop [5, 8] (fun _ i => ∃ k : Nat, k ≤ n ∧ i = .int .i64 k ∧ Hid (∀ (j : Nat) x, j < k → ks[j]? = some x → x ≠ key)) (fun _ i => n - (intOf i).toNat)
  case atStart => exact ⟨0, Nat.zero_le _, rfl, fun j _ h => absurd h (Nat.not_lt_zero _)⟩
  case round =>
    obtain ⟨k, hk, rfl, HJ⟩ := hrel
    by_cases hlt : k < n
    · obtain ⟨x, hx⟩ : ∃ x, ks[k]? = some x := ⟨ks[k]'(by rw [HN.out]; exact hlt), List.getElem?_eq_getElem _⟩
      have hcell : w.cell? ⟨g, k, none⟩ = some (.string ⟨x.toArray⟩) := by
        have := HC.out k (.string ⟨x.toArray⟩) (by rw [strs_get, hx]; rfl)
        rwa [Nat.zero_add] at this
      have heq : ((K : ByteArray).toList == (⟨x.toArray⟩ : ByteArray).toList) = decide (key = x) := by rw [HK.out]; exact bytes_eql _ _
      obtain ⟨X, hX⟩ : ∃ X : ByteArray, X = ⟨x.toArray⟩ := ⟨_, rfl⟩
      rw [← hX] at hcell heq
      have HX := Lib.hid hx
      clear hX hx
      by_cases he : key = x
      · have q : ((K : ByteArray).toList == X.toList) = true := by rw [heq]; simpa using he
        have HF : Hid (ks.findIdx? (· == key) = some k) := Lib.hid (by
          rw [List.findIdx?_eq_some_iff_getElem]
          refine ⟨by rw [HN.out]; exact hlt, ?_, fun j hj => ?_⟩
          · have := HX.out
            rw [List.getElem?_eq_getElem (by rw [HN.out]; exact hlt)] at this
            rw [Option.some.inj this, he]; simp
          · have := HJ.out j _ hj (List.getElem?_eq_getElem (by rw [HN.out]; omega))
            simpa using this)
        clear heq he
        go_wp2_with fail
        go_ret
        exact ⟨by rw [HF.out]; rfl, rfl⟩
      · have q : ((K : ByteArray).toList == X.toList) = false := by rw [heq]; simpa using he
        have HJ2 : Hid (∀ (j : Nat) y, j < k + 1 → ks[j]? = some y → y ≠ key) := fun j y hj hy => by
          by_cases e : j = k
          · subst e
            rw [HX.out] at hy
            obtain rfl := Option.some.inj hy
            exact fun e => he e.symm
          · exact HJ.out j y (by omega) hy
        clear heq he
        go_wp2_with fail
        go_round
        case rel => exact ⟨k + 1, by omega, by go_num, HJ2⟩
        case measure => simp [intOf] <;> omega
    · obtain rfl : k = n := by omega
      have HF : Hid (ks.findIdx? (· == key) = none) := Lib.hid (by
        rw [List.findIdx?_eq_none_iff]
        intro x hx
        obtain ⟨j, hj, rfl⟩ := List.getElem_of_mem hx
        have := HJ.out j _ (by rw [← HN.out]; exact hj) (List.getElem?_eq_getElem hj)
        simpa using this)
      go_wp2_with fail
      go_ret
      exact ⟨by rw [HF.out]; rfl, rfl⟩

set_option maxHeartbeats 400000 in
theorem hfind_walk (v : Value) (K : ByteArray) (r : Int) (w : World) (hi : Calls Try.prog 40 #[v, .string K] w fun e w' => e = .returned (.int .i64 r) ∧ w = w') :
    Calls Try.prog 25 #[v, .string K] w fun e w' => e = .returned (.int .i64 r) ∧ w = w' := by
  have HI := Lib.hid hi
  clear hi
  go_enter Try.func25, Try.ntmps25
  go_wp2_with (go_at_call 40; (with_reducible refine (HI.out).mono ?_); rintro e w' ⟨rfl, rfl⟩)
  go_ret
  exact ⟨rfl, rfl⟩

theorem hfind_any {w : World} {x : HTab} (hh : x.here w) (h16 : x.t.ks.length ≤ 1000000) (key : List UInt8) :
    Calls Try.prog 25 #[.slice (some ⟨x.h, 0, none⟩) x.t.ks.length x.cap, .string ⟨key.toArray⟩] w fun e w' => e = .returned (.int .i64 (optI (x.t.find key))) ∧ w = w' :=
  hfind_walk _ _ _ w (index_walk x.h x.t.ks.length x.cap x.t.ks key w rfl h16 hh.keys)

def arrI (v n : Nat) : Int := if v < n then v else -1

set_option maxHeartbeats 400000 in
theorem afind_walk (n v : Nat) (K : ByteArray) (w : World) (hn : n ≤ 1000000) (hv : v < 18446744073709551616)
    (hnum : Calls Try.prog 107 #[.string K] w fun e w' => e = .returned (.int .u64 v) ∧ w = w') :
    Calls Try.prog 104 #[.int .i64 n, .string K] w fun e w' => e = .returned (.int .i64 (arrI v n)) ∧ w = w' := by
  have e1 : IntKind.u64.wrap (n : Int) = n := u64_nat n (by omega)
  have HN := Lib.hid hnum
  have HV := Lib.hid hv
  clear hnum hv
  by_cases h : v < n
  · have e2 : IntKind.i64.wrap (v : Int) = v := IntWalk.i64_in _ (by omega)
    go_enter Try.func104, Try.ntmps104
    go_wp2_with (go_at_call 107; (with_reducible refine (HN.out).mono ?_); rintro e w' ⟨rfl, rfl⟩)
    go_ret
    exact ⟨by unfold arrI; rw [if_pos h]; rfl, rfl⟩
  · go_enter Try.func104, Try.ntmps104
    go_wp2_with (go_at_call 107; (with_reducible refine (HN.out).mono ?_); rintro e w' ⟨rfl, rfl⟩)
    go_ret
    exact ⟨by unfold arrI; rw [if_neg h]; rfl, rfl⟩

theorem afind_any {w : World} {t : Tab} (ht : t.ok) (h1 : t.d.kind = 1) (key : List UInt8) (hk : key.length = 4) :
    Calls Try.prog 104 #[.int .i64 t.d.max, .string ⟨key.toArray⟩] w fun e w' => e = .returned (.int .i64 (optI (t.find key))) ∧ w = w' := by
  have hb := ht.bounds
  have hl := ht.len
  have hlt : leNum key < 2 ^ 32 := by have := leNum_lt key; rw [hk] at this; exact this
  rw [← hl]
  refine (afind_walk t.ks.length (leNum key) ⟨key.toArray⟩ w (by omega) (by omega) ((num_any _ w (by show key.length ≤ maxLen; unfold maxLen; omega)).mono ?_)).mono ?_
  · rintro e w' ⟨rfl, rfl⟩
    refine ⟨?_, rfl⟩
    show Ending.returned (.int .u64 ((leNum (key.take 8) : Nat) : Int)) = _
    rw [List.take_of_length_le (by omega)]
  · rintro e w' ⟨rfl, rfl⟩
    refine ⟨?_, rfl⟩
    rw [find_arr ht h1 key hk]
    unfold arrI
    split <;> rfl

set_option maxHeartbeats 400000 in
theorem alay_any {w : World} {t : Tab} (ht : t.ok) (h1 : t.d.kind = 1) (key : List UInt8) (hk : key.length = 4) :
    Calls Try.prog 106 #[.int .i64 t.d.max, .string ⟨key.toArray⟩] w fun e w' => e = .returned (.tuple #[.int .i64 (optI (t.find key)), .int .i64 (-2)]) ∧ w = w' := by
  have HF := Lib.hid (afind_any (w := w) ht h1 key hk)
  go_enter Try.func106, Try.ntmps106
  go_wp2_with (go_at_call 104; (with_reducible refine (HF.out).mono ?_); rintro e w' ⟨rfl, rfl⟩)
  go_ret2
  exact ⟨rfl, rfl⟩

set_option maxHeartbeats 400000 in
theorem akey_any (n : Int) (p : Nat) (w : World) (hp : p ≤ 1000) :
    Calls Try.prog 105 #[.int .i64 n, .int .i64 p] w fun e w' => e = .returned (.tuple #[.string ⟨(leBytes 4 p).toArray⟩, .bool true]) ∧ Fr No w w' := by
  have e1 : IntKind.u64.wrap (p : Int) = p := u64_nat p (by omega)
  have HB : Hid (Calls Try.prog 9 #[.int .u64 p, .int .i64 4] w fun e w' => e = .returned (.string ⟨(leBytes 4 p).toArray⟩) ∧ Below w.heap.size w w') := bytes_any p 4 w (by omega) (by omega)
  go_enter Try.func105, Try.ntmps105
  go_wp2_with (go_at_call 9; (with_reducible refine (HB.out).mono ?_); rintro e w' ⟨rfl, hf⟩)
  go_ret2
  exact ⟨rfl, Fr.of_below hf⟩

end Go.Proofs.Ytlinnhaodkiolaa
