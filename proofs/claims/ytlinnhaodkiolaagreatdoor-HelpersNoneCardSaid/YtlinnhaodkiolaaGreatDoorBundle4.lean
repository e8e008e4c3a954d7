/- maps: the small functions: Len, base, slices.Index of a hash's keys; array's and hash's methods. maps: hash's lay and key; has; value. maps: Lookup, Update, Delete: the walks. maps: Update. maps: Update and Delete at any maps. -/
import Derived.Test.YtlinnhaodkiolaaGreatDoorBundle3
import Derived.Deep.QuietTactic
import Derived.BigQuiet
import Derived.Outline
import Derived.Deep.RegionHeld3
import Derived.Shelf.Abstract
import Derived.Deep.DeepCutAuto
import Derived.Deep.CutBlock
namespace Go.Proofs.YtlinnhaodkiolaaGreatDoor
open Go.RowKit

def optI : Option Nat → Int
  | none => -1
  | some p => p

set_option maxHeartbeats 400000 in
theorem mlen_any (b n cap : Nat) (a : Option Addr) (w : World) (h : w.cell? ⟨b, 1, none⟩ = some (.slice a n cap)) :
    Calls Tryz.prog 14 #[.pointer (some ⟨b, 0, none⟩)] w fun e w' => e = .returned (.int .i64 n) ∧ w = w' := by
  go_enter Tryz.func14, Tryz.ntmps14
  go_wp2_with fail
  go_ret
  exact ⟨rfl, rfl⟩

set_option maxHeartbeats 400000 in
theorem mlen_nil (w : World) : Calls Tryz.prog 14 #[.pointer none] w fun e w' => e = .returned (.int .i64 0) ∧ w = w' := by
  go_enter Tryz.func14, Tryz.ntmps14
  go_wp2_with fail
  go_ret
  exact ⟨rfl, rfl⟩

theorem u64_nat (n : Nat) (h : n ≤ 18446744073709551615) : IntKind.u64.wrap (n : Int) = n := IntWalk.u64_in _ (by omega)

set_option maxHeartbeats 400000 in
theorem mbase_any (i : Nat) (w : World) (hi : i ≤ 1000) : Calls Tryz.prog 48 #[.int .i64 i] w fun e w' => e = .returned (.int .u64 (mbase i)) ∧ w = w' := by
  have e1 : IntKind.u64.wrap (i : Int) = i := u64_nat i (by omega)
  have e2 : IntKind.u64.wrap ((i : Int) * 65536) = (i : Int) * 65536 := IntWalk.u64_in _ (by omega)
  have e3 : IntKind.u64.wrap (1048576 + (i : Int) * 65536) = 1048576 + (i : Int) * 65536 := IntWalk.u64_in _ (by omega)
  go_enter Tryz.func48, Tryz.ntmps48
  go_wp2_with fail
  go_ret
  exact ⟨by unfold mbase; rfl, rfl⟩

theorem bytes_eql (a b : List UInt8) : ((⟨a.toArray⟩ : ByteArray).toList == (⟨b.toArray⟩ : ByteArray).toList) = decide (a = b) := by
  rw [Bool.eq_iff_iff]
  simp [ByteArray.toList_eq]

set_option maxHeartbeats 400000 in
theorem index_walk (g n cap : Nat) (ks : List (List UInt8)) (key : List UInt8) (w : World) (hn : ks.length = n) (hm : n ≤ 1000000) (hc : CellsAt w g 0 (strs ks)) :
    Calls Tryz.prog 49 #[.slice (some ⟨g, 0, none⟩) n cap, .string ⟨key.toArray⟩] w fun e w' => e = .returned (.int .i64 (optI (ks.findIdx? (· == key)))) ∧ w = w' := by
  obtain ⟨K, hK⟩ : ∃ K : ByteArray, K = ⟨key.toArray⟩ := ⟨_, rfl⟩
  rw [← hK]
  have HK := Lib.hid hK
  have HN := Lib.hid hn
  have HC := Lib.hid hc
  clear hK hn hc
  go_enter Tryz.func49, Tryz.ntmps49
  go_wp2_with fail
  go_loop [5, 8] (fun _ i => ∃ k : Nat, k ≤ n ∧ i = .int .i64 k ∧ Hid (∀ (j : Nat) x, j < k → ks[j]? = some x → x ≠ key)) (fun _ i => n - (intOf i).toNat)
  case atStart => exact ⟨0, Nat.zero_le _, rfl, fun j _ h => absurd h (Nat.not_lt_zero _)⟩
  case round =>
    obtain ⟨k, hk, rfl, HJ⟩ := hrel
    by_cases hlt : k < n
    · obtain ⟨x, hx⟩ : ∃ x, ks[k]? = some x := ⟨ks[k]'(by rw [HN.out]; exact hlt), List.getElem?_eq_getElem _⟩
      have hcell : w.cell? ⟨g, k, none⟩ = some (.string ⟨x.toArray⟩) := by
        have := HC.out k (.string ⟨x.toArray⟩) (by rw [strs_get, hx]; rfl)
        rwa [Nat.zero_add] at this
      have heq : ((K : ByteArray).toList == (⟨x.toArray⟩ : ByteArray).toList) = decide (key = x) := by rw [HK.out]; exact bytes_eql _ _
      obtain ⟨X, hX⟩ : ∃ X : ByteArray, X = ⟨x.toArray⟩ := ⟨_, rfl⟩
      rw [← hX] at hcell heq
      have HX := Lib.hid hx
      clear hX hx
      by_cases he : key = x
      · have q : ((K : ByteArray).toList == X.toList) = true := by rw [heq]; simpa using he
        have HF : Hid (ks.findIdx? (· == key) = some k) := Lib.hid (by
          rw [List.findIdx?_eq_some_iff_getElem]
          refine ⟨by rw [HN.out]; exact hlt, ?_, fun j hj => ?_⟩
          · have := HX.out
            rw [List.getElem?_eq_getElem (by rw [HN.out]; exact hlt)] at this
            rw [Option.some.inj this, he]; simp
          · have := HJ.out j _ hj (List.getElem?_eq_getElem (by rw [HN.out]; omega))
            simpa using this)
        clear heq he
        go_wp2_with fail
        go_ret
        exact ⟨by rw [HF.out]; rfl, rfl⟩
      · have q : ((K : ByteArray).toList == X.toList) = false := by rw [heq]; simpa using he
        have HJ2 : Hid (∀ (j : Nat) y, j < k + 1 → ks[j]? = some y → y ≠ key) := fun j y hj hy => by
          by_cases e : j = k
          · subst e
            rw [HX.out] at hy
            obtain rfl := Option.some.inj hy
            exact fun e => he e.symm
          · exact HJ.out j y (by omega) hy
        clear heq he
        go_wp2_with fail
        go_round
        case rel => exact ⟨k + 1, by omega, by go_num, HJ2⟩
        case measure => simp [intOf] <;> omega
    · obtain rfl : k = n := by omega
      have HF : Hid (ks.findIdx? (· == key) = none) := Lib.hid (by
        rw [List.findIdx?_eq_none_iff]
        intro x hx
        obtain ⟨j, hj, rfl⟩ := List.getElem_of_mem hx
        have := HJ.out j _ (by rw [← HN.out]; exact hj) (List.getElem?_eq_getElem hj)
        simpa using this)
      go_wp2_with fail
      go_ret
      exact ⟨by rw [HF.out]; rfl, rfl⟩

set_option maxHeartbeats 400000 in
theorem hfind_walk (v : Value) (K : ByteArray) (r : Int) (w : World) (hi : Calls Tryz.prog 49 #[v, .string K] w fun e w' => e = .returned (.int .i64 r) ∧ w = w') :
    Calls Tryz.prog 30 #[v, .string K] w fun e w' => e = .returned (.int .i64 r) ∧ w = w' := by
  have HI := Lib.hid hi
  clear hi
  go_enter Tryz.func30, Tryz.ntmps30
  go_wp2_with (go_at_call 49; (with_reducible refine (HI.out).mono ?_); rintro e w' ⟨rfl, rfl⟩)
  go_ret
  exact ⟨rfl, rfl⟩

theorem hfind_any {w : World} {x : HTab} (hh : x.here w) (h16 : x.t.ks.length ≤ 1000000) (key : List UInt8) :
    Calls Tryz.prog 30 #[.slice (some ⟨x.h, 0, none⟩) x.t.ks.length x.cap, .string ⟨key.toArray⟩] w fun e w' => e = .returned (.int .i64 (optI (x.t.find key))) ∧ w = w' :=
  hfind_walk _ _ _ w (index_walk x.h x.t.ks.length x.cap x.t.ks key w rfl h16 hh.keys)

def arrI (v n : Nat) : Int := if v < n then v else -1

set_option maxHeartbeats 400000 in
theorem afind_walk (n v : Nat) (K : ByteArray) (w : World) (hn : n ≤ 1000000) (hv : v < 18446744073709551616)
    (hnum : Calls Tryz.prog 45 #[.string K] w fun e w' => e = .returned (.int .u64 v) ∧ w = w') :
    Calls Tryz.prog 116 #[.int .i64 n, .string K] w fun e w' => e = .returned (.int .i64 (arrI v n)) ∧ w = w' := by
  have e1 : IntKind.u64.wrap (n : Int) = n := u64_nat n (by omega)
  have HN := Lib.hid hnum
  have HV := Lib.hid hv
  clear hnum hv
  by_cases h : v < n
  · have e2 : IntKind.i64.wrap (v : Int) = v := IntWalk.i64_in _ (by omega)
    go_enter Tryz.func116, Tryz.ntmps116
    go_wp2_with (go_at_call 45; (with_reducible refine (HN.out).mono ?_); rintro e w' ⟨rfl, rfl⟩)
    go_ret
    exact ⟨by unfold arrI; rw [if_pos h]; rfl, rfl⟩
  · go_enter Tryz.func116, Tryz.ntmps116
    go_wp2_with (go_at_call 45; (with_reducible refine (HN.out).mono ?_); rintro e w' ⟨rfl, rfl⟩)
    go_ret
    exact ⟨by unfold arrI; rw [if_neg h]; rfl, rfl⟩

theorem afind_any {w : World} {t : Tab} (ht : t.ok) (h1 : t.d.kind = 1) (key : List UInt8) (hk : key.length = 4) :
    Calls Tryz.prog 116 #[.int .i64 t.d.max, .string ⟨key.toArray⟩] w fun e w' => e = .returned (.int .i64 (optI (t.find key))) ∧ w = w' := by
  have hb := ht.bounds
  have hl := ht.len
  have hlt : leNum key < 2 ^ 32 := by have := leNum_lt key; rw [hk] at this; exact this
  rw [← hl]
  refine (afind_walk t.ks.length (leNum key) ⟨key.toArray⟩ w (by omega) (by omega) ((num_any _ w (by show key.length ≤ maxLen; unfold maxLen; omega)).mono ?_)).mono ?_
  · rintro e w' ⟨rfl, rfl⟩
    refine ⟨?_, rfl⟩
    show Ending.returned (.int .u64 ((leNum (key.take 8) : Nat) : Int)) = _
    rw [List.take_of_length_le (by omega)]
  · rintro e w' ⟨rfl, rfl⟩
    refine ⟨?_, rfl⟩
    rw [find_arr ht h1 key hk]
    unfold arrI
    split <;> rfl

set_option maxHeartbeats 400000 in
theorem alay_any {w : World} {t : Tab} (ht : t.ok) (h1 : t.d.kind = 1) (key : List UInt8) (hk : key.length = 4) :
    Calls Tryz.prog 118 #[.int .i64 t.d.max, .string ⟨key.toArray⟩] w fun e w' => e = .returned (.tuple #[.int .i64 (optI (t.find key)), .int .i64 (-2)]) ∧ w = w' := by
  have HF := Lib.hid (afind_any (w := w) ht h1 key hk)
  go_enter Tryz.func118, Tryz.ntmps118
  go_wp2_with (go_at_call 116; (with_reducible refine (HF.out).mono ?_); rintro e w' ⟨rfl, rfl⟩)
  go_ret2
  exact ⟨rfl, rfl⟩



end Go.Proofs.YtlinnhaodkiolaaGreatDoor

namespace Go.Proofs.YtlinnhaodkiolaaGreatDoor
open Go.RowKit

theorem quiet_eq {P : Program} {f : FuncId} {args : Array Value} {w : World} {n : Nat} {v : Value}
    (h : Calls P f args (w.drewN n) fun e w' => e = .returned v ∧ w.drewN n = w') : Calls P f args (w.drewN n) fun e w'' => e = .returned v ∧ ∃ m, w'' = w.drewN m :=
  h.mono fun _ _ ⟨he, hm⟩ => ⟨he, n, hm.symm⟩

set_option maxHeartbeats 400000 in
theorem hlay_has (v : Value) (K : ByteArray) (p : Nat) (w : World) (hi : Calls Tryz.prog 30 #[v, .string K] w fun e w' => e = .returned (.int .i64 p) ∧ w = w') :
    Calls Tryz.prog 113 #[v, .string K] w fun e w' => e = .returned (.tuple #[.int .i64 p, .int .i64 (-7)]) ∧ w = w' := by
  have HI := Lib.hid hi
  clear hi
  go_enter Tryz.func113, Tryz.ntmps113
  go_wp2_with (go_at_call 30; (with_reducible refine (HI.out).mono ?_); rintro e w' ⟨rfl, rfl⟩)
  go_ret2
  exact ⟨rfl, rfl⟩

set_option maxHeartbeats 400000 in
theorem hlay_full (v : Value) (K : ByteArray) (w : World) (hi : Calls Tryz.prog 30 #[v, .string K] w fun e w' => e = .returned (.int .i64 (-1)) ∧ w = w')
    (he : Calls Tryz.prog 30 #[v, .string ⟨#[]⟩] w fun e w' => e = .returned (.int .i64 (-1)) ∧ w = w') :
    Calls Tryz.prog 113 #[v, .string K] w fun e w' => e = .returned (.tuple #[.int .i64 (-1), .int .i64 (-7)]) ∧ w = w' := by
  have HI := Lib.hid hi
  have HE := Lib.hid he
  clear hi he
  go_enter Tryz.func113, Tryz.ntmps113
  go_wp2_with fail
  refine (HI.out).mono ?_
  rintro e w' ⟨rfl, rfl⟩
  go_wp2_with fail
  refine (HE.out).mono ?_
  rintro e w' ⟨rfl, rfl⟩
  go_wp2_with fail
  go_ret2
  exact ⟨rfl, rfl⟩

set_option maxHeartbeats 400000 in
theorem hlay_new (g n cap p : Nat) (K : ByteArray) (old : Value) (w : World) (hp : p < n) (hn : n ≤ 1000000) (hold : w.cell? ⟨g, p, none⟩ = some old) (hfree : w.frozen? ⟨g, p, none⟩ = false)
    (hi : Calls Tryz.prog 30 #[.slice (some ⟨g, 0, none⟩) n cap, .string K] w fun e w' => e = .returned (.int .i64 (-1)) ∧ w = w')
    (he : Calls Tryz.prog 30 #[.slice (some ⟨g, 0, none⟩) n cap, .string ⟨#[]⟩] w fun e w' => e = .returned (.int .i64 p) ∧ w = w') :
    Calls Tryz.prog 113 #[.slice (some ⟨g, 0, none⟩) n cap, .string K] w fun e w' => e = .returned (.tuple #[.int .i64 p, .int .i64 (-7)]) ∧ w' = w.setCell ⟨g, p, none⟩ (.string K) := by
  have HI := Lib.hid hi
  have HE := Lib.hid he
  clear hi he
  go_enter Tryz.func113, Tryz.ntmps113
  go_wp2_with fail
  refine (HI.out).mono ?_
  rintro e w' ⟨rfl, rfl⟩
  go_wp2_with fail
  refine (HE.out).mono ?_
  rintro e w' ⟨rfl, rfl⟩
  go_wp2_with fail
  go_ret2
  exact ⟨rfl, rfl⟩

/-- what lay of a hash comes to -/
def LayPost (t : Tab) (g : Nat) (key : List UInt8) (w : World) (e : Ending) (w' : World) : Prop :=
  match t.find key with
  | some p => e = .returned (.tuple #[.int .i64 p, .int .i64 (-7)]) ∧ w = w'
  | none => match t.find [] with
    | some p => e = .returned (.tuple #[.int .i64 p, .int .i64 (-7)]) ∧ w' = w.setCell ⟨g, p, none⟩ (.string ⟨key.toArray⟩)
    | none => e = .returned (.tuple #[.int .i64 (-1), .int .i64 (-7)]) ∧ w = w'

theorem hlay_any {w : World} {x : HTab} (hh : x.here w) (h16 : x.t.ks.length ≤ 1000000) (key : List UInt8) :
    Calls Tryz.prog 113 #[.slice (some ⟨x.h, 0, none⟩) x.t.ks.length x.cap, .string ⟨key.toArray⟩] w (LayPost x.t x.h key w) := by
  have h1 := hfind_any hh h16 key
  have h2 := hfind_any hh h16 []
  unfold LayPost
  cases hk : x.t.find key with
  | some p =>
    rw [hk] at h1
    exact hlay_has _ _ p w h1
  | none =>
    rw [hk] at h1
    cases he : x.t.find [] with
    | none =>
      rw [he] at h2
      exact hlay_full _ _ w h1 h2
    | some p =>
      rw [he] at h2
      obtain ⟨hp, hpk⟩ := find_some he
      have c := hh.keys p (.string ⟨#[]⟩) (by rw [strs_get, hpk]; rfl)
      have o := hh.opened p hp
      rw [Nat.zero_add] at c o
      exact hlay_new x.h _ _ p _ _ w hp h16 c o h1 h2





set_option maxHeartbeats 400000 in
theorem has_lo (b : Nat) (i : Int) (K : ByteArray) (w : World) (hi : i < 0) :
    Calls Tryz.prog 28 #[.pointer (some ⟨b, 0, none⟩), .int .i64 i, .string K] w fun e w' => e = .returned (.bool false) ∧ w = w' := by
  have q : decide (i ≥ 0) = false := by simp; omega
  go_enter Tryz.func28, Tryz.ntmps28
  go_wp2_with fail
  go_ret
  exact ⟨rfl, rfl⟩

set_option maxHeartbeats 400000 in
theorem has_hi (b i n cap : Nat) (a : Option Addr) (K : ByteArray) (w : World) (hi : n ≤ i) (h : w.cell? ⟨b, 1, none⟩ = some (.slice a n cap)) :
    Calls Tryz.prog 28 #[.pointer (some ⟨b, 0, none⟩), .int .i64 i, .string K] w fun e w' => e = .returned (.bool false) ∧ w = w' := by
  have HL := Lib.hid (mlen_any b n cap a w h)
  go_enter Tryz.func28, Tryz.ntmps28
  go_wp2_with (go_at_call 14; (with_reducible refine (HL.out).mono ?_); rintro e w' ⟨rfl, rfl⟩)
  go_ret
  exact ⟨rfl, rfl⟩

set_option maxHeartbeats 400000 in
theorem has_in (b i n cl gl kl : Nat) (key : Int) (t : Bool) (K : ByteArray) (w : World) (hi : i < n) (hn : n ≤ 1000) (hk : K.size = kl) (h : w.cell? ⟨b, 1, none⟩ = some (.slice (some ⟨gl, 0, none⟩) n cl)) (hc : w.cell? ⟨gl, i * 4 + 1, none⟩ = some (.int .i64 key))
    (ht : ((kl : Int) == key) = t) :
    Calls Tryz.prog 28 #[.pointer (some ⟨b, 0, none⟩), .int .i64 i, .string K] w fun e w' => e = .returned (.bool t) ∧ w = w' := by
  have HL := Lib.hid (mlen_any b n cl _ w h)
  have b1 : (0 : Int) ≤ (i : Int) := by omega
  have b2 : (i : Int) < (n : Int) := by omega
  go_enter Tryz.func28, Tryz.ntmps28
  go_wp2_with (go_at_call 14; (with_reducible refine (HL.out).mono ?_); rintro e w' ⟨rfl, rfl⟩)
  go_ret
  exact ⟨rfl, rfl⟩

theorem has_any {A H : Nat → Prop} {w : World} {b mb : Nat} {S : List Tab} (h : MapsAt w b mb S A H) (i : Int) (key : List UInt8) :
    Calls Tryz.prog 28 #[.pointer (some ⟨b, 0, none⟩), .int .i64 i, .string ⟨key.toArray⟩] w fun e w' => e = .returned (.bool (mhas S i key).isSome) ∧ w = w' := by
  obtain ⟨l, rfl, h⟩ := h
  by_cases h0 : i < 0
  · have e : mhas (l.map (·.t)) i key = none := by unfold mhas; rw [if_neg (by omega)]
    rw [e]
    exact has_lo b i _ w h0
  · obtain ⟨k, rfl⟩ := Int.eq_ofNat_of_zero_le (show 0 ≤ i by omega)
    have hfew := h.few
    by_cases h1 : k < l.length
    · have hx : l[k]? = some l[k] := List.getElem?_eq_getElem h1
      obtain ⟨gl, cl, gt, ct, c1, c2, hi, _, _, d0, d1, d2, d3, _⟩ := h.at hx
      have e : (mhas (l.map (·.t)) k key).isSome = ((key.length : Int) == l[k].t.d.key) := by
        unfold mhas
        rw [if_pos (by omega), Int.toNat_natCast, List.getElem?_map, hx]
        simp only [Option.map_some]
        by_cases hk : (key.length : Int) = l[k].t.d.key <;> simp [hk]
      rw [e]
      exact has_in b k l.length cl gl key.length _ _ _ w h1 (by omega) rfl c1 d1 rfl
    · obtain ⟨a, c, c1⟩ := h.len
      have e : mhas (l.map (·.t)) k key = none := by
        unfold mhas
        rw [if_pos (by omega), Int.toNat_natCast, List.getElem?_map, List.getElem?_eq_none (by omega)]
        rfl
      rw [e]
      exact has_hi b k l.length c a _ w (by omega) c1

set_option maxHeartbeats 400000 in
theorem has_nil (i : Int) (K : ByteArray) (w : World) :
    Calls Tryz.prog 28 #[.pointer none, .int .i64 i, .string K] w fun e w' => e = .returned (.bool false) ∧ w = w' := by
  by_cases hi : i < 0
  · have q : decide (i ≥ 0) = false := by simp; omega
    go_enter Tryz.func28, Tryz.ntmps28
    go_wp2_with fail
    go_ret
    exact ⟨rfl, rfl⟩
  · obtain ⟨k, rfl⟩ := Int.eq_ofNat_of_zero_le (show 0 ≤ i by omega)
    have HL := Lib.hid (mlen_nil w)
    go_enter Tryz.func28, Tryz.ntmps28
    go_wp2_with (go_at_call 14; (with_reducible refine (HL.out).mono ?_); rintro e w' ⟨rfl, rfl⟩)
    go_ret
    exact ⟨rfl, rfl⟩

set_option maxHeartbeats 1000000 in
theorem mvalue_walk (b i p n cl gl : Nat) (V : Int) (w : World) (hi : i < n) (hn : n ≤ 4) (h : w.cell? ⟨b, 1, none⟩ = some (.slice (some ⟨gl, 0, none⟩) n cl)) (hc : w.cell? ⟨gl, i * 4 + 2, none⟩ = some (.int .i64 V))
    (h0 : 0 ≤ (p : Int) * V) (h1 : (p : Int) * V ≤ 1024) :
    Calls Tryz.prog 29 #[.pointer (some ⟨b, 0, none⟩), .int .i64 i, .int .i64 p] w fun e w' => e = .returned (.int .u64 (mbase i + (p : Int) * V)) ∧ ∃ q, w' = w.drewN q := by
  have b1 : (0 : Int) ≤ (i : Int) := by omega
  have b2 : (i : Int) < (n : Int) := by omega
  obtain ⟨M, hM⟩ : ∃ M, M = (p : Int) * V := ⟨_, rfl⟩
  have e0 : IntKind.i64.wrap ((p : Int) * V) = M := by rw [hM]; exact IntWalk.i64_in _ (by omega)
  rw [← hM] at h0 h1 ⊢
  have e1 : IntKind.u64.wrap M = M := IntWalk.u64_in _ (by omega)
  obtain ⟨B, hB⟩ : ∃ B, B = mbase i := ⟨_, rfl⟩
  have hB0 : 0 ≤ B ∧ B ≤ 2000000 := by rw [hB]; unfold mbase; omega
  have HB : Hid (∀ W, Calls Tryz.prog 48 #[.int .i64 i] W fun e w' => e = .returned (.int .u64 B) ∧ W = w') := fun W => by rw [hB]; exact mbase_any i W (by omega)
  rw [← hB]
  have e2 : IntKind.u64.wrap (B + M) = B + M := IntWalk.u64_in _ (by omega)
  clear hM hB hB0
  go_enter Tryz.func29, Tryz.ntmps29
  go_wp2_with fail
  go_quiet ((go_at_call 48; exact quiet_eq (HB.out _)))
  go_wp2_with fail
  go_ret
  exact ⟨rfl, _, rfl⟩

theorem mvalue_any {A H : Nat → Prop} {w : World} {b mb : Nat} {S : List Tab} (h : MapsAt w b mb S A H) {i p : Nat} {t : Tab} (ht : S[i]? = some t) (hp : p < t.ks.length) :
    Calls Tryz.prog 29 #[.pointer (some ⟨b, 0, none⟩), .int .i64 i, .int .i64 p] w fun e w' => e = .returned (.int .u64 (mplace i p t)) ∧ Fr No w w' := by
  obtain ⟨l, rfl, h⟩ := h
  rw [List.getElem?_map] at ht
  obtain ⟨x, hx, rfl⟩ := Option.map_eq_some_iff.1 ht
  obtain ⟨gl, cl, gt, ct, c1, c2, hi, _, _, d0, d1, d2, d3, _⟩ := h.at hx
  have hb := mplace_bounds (i := i) (h.ok x (List.mem_of_getElem? hx)) hp (by have := h.few; omega)
  refine (mvalue_walk b i p l.length cl gl x.t.d.value w hi h.few c1 d2 hb.2.2.1 hb.2.2.2).mono ?_
  rintro e w' ⟨rfl, q, rfl⟩
  exact ⟨rfl, (Fr.refl _ _).drewN _⟩

end Go.Proofs.YtlinnhaodkiolaaGreatDoor

namespace Go.Proofs.YtlinnhaodkiolaaGreatDoor
open Go.RowKit

theorem method_afind (n : Int) (w : World) : (method 285 126 (.int .i64 n) "firewall/maps.find").run Tryz.prog w = .ok (116, .int .i64 n) w := by kernel_rfl
theorem method_hfind (a : Option Addr) (n c : Nat) (w : World) : (method 285 82 (.slice a n c) "firewall/maps.find").run Tryz.prog w = .ok (30, .slice a n c) w := by kernel_rfl
theorem method_alay (n : Int) (w : World) : (method 285 126 (.int .i64 n) "firewall/maps.lay").run Tryz.prog w = .ok (118, .int .i64 n) w := by kernel_rfl
theorem method_hlay (a : Option Addr) (n c : Nat) (w : World) : (method 285 82 (.slice a n c) "firewall/maps.lay").run Tryz.prog w = .ok (113, .slice a n c) w := by kernel_rfl

/-- a table behind an interface value: what finds, and what lays a key in it -/
structure Face (T : TypeId) (v : Value) (name : String) (f : Nat) : Prop where
  meth : ∀ w, (method 285 T v name).run Tryz.prog w = .ok (f, v) w
  enters : ∀ args w, (callFunc f args).run Tryz.prog w = .ok (.enter f args) w

theorem face_afind (n : Int) : Face 126 (.int .i64 n) "firewall/maps.find" 116 := ⟨method_afind n, enters_of Tryz.func116 (by kernel_rfl) rfl⟩
theorem face_hfind (a : Option Addr) (n c : Nat) : Face 82 (.slice a n c) "firewall/maps.find" 30 := ⟨method_hfind a n c, enters_of Tryz.func30 (by kernel_rfl) rfl⟩
theorem face_alay (n : Int) : Face 126 (.int .i64 n) "firewall/maps.lay" 118 := ⟨method_alay n, enters_of Tryz.func118 (by kernel_rfl) rfl⟩
theorem face_hlay (a : Option Addr) (n c : Nat) : Face 82 (.slice a n c) "firewall/maps.lay" 113 := ⟨method_hlay a n c, enters_of Tryz.func113 (by kernel_rfl) rfl⟩

set_option maxHeartbeats 400000 in
theorem lookup_bad (p : Value) (i : Int) (K : ByteArray) (w : World) (hh : Calls Tryz.prog 28 #[p, .int .i64 i, .string K] w fun e w' => e = .returned (.bool false) ∧ w = w') :
    Calls Tryz.prog 16 #[p, .int .i64 i, .string K] w fun e w' => e = .returned (.int .u64 0) ∧ w = w' := by
  have HH := Lib.hid hh
  clear hh
  go_enter Tryz.func16, Tryz.ntmps16
  go_wp2_with (go_at_call 28; (with_reducible refine (HH.out).mono ?_); rintro e w' ⟨rfl, rfl⟩)
  go_ret
  exact ⟨rfl, rfl⟩

set_option maxHeartbeats 400000 in
theorem lookup_off (b i n ct gt : Nat) (T : TypeId) (v : Value) (f : Nat) (K : ByteArray) (w : World) (hi : i < n) (h2 : w.cell? ⟨b, 2, none⟩ = some (.slice (some ⟨gt, 0, none⟩) n ct)) (hc : w.cell? ⟨gt, i, none⟩ = some (.iface T v))
    (hh : Calls Tryz.prog 28 #[.pointer (some ⟨b, 0, none⟩), .int .i64 i, .string K] w fun e w' => e = .returned (.bool true) ∧ w = w')
    (hm : Face T v "firewall/maps.find" f) (hf : Calls Tryz.prog f #[v, .string K] w fun e w' => e = .returned (.int .i64 (-1)) ∧ w = w') :
    Calls Tryz.prog 16 #[.pointer (some ⟨b, 0, none⟩), .int .i64 i, .string K] w fun e w' => e = .returned (.int .u64 0) ∧ w = w' := by
  have b1 : (0 : Int) ≤ (i : Int) := by omega
  have b2 : (i : Int) < (n : Int) := by omega
  have HH := Lib.hid hh
  have HF := Lib.hid hf
  obtain ⟨hm, he⟩ := hm
  clear hh hf
  go_enter Tryz.func16, Tryz.ntmps16
  go_wp2_with (go_at_call 28; (with_reducible refine (HH.out).mono ?_); rintro e w' ⟨rfl, rfl⟩)
  refine (HF.out).mono ?_
  rintro e w' ⟨rfl, rfl⟩
  go_wp2_with fail
  go_ret
  exact ⟨rfl, rfl⟩

set_option maxHeartbeats 400000 in
theorem lookup_in (b i n ct gt p : Nat) (T : TypeId) (v : Value) (f : Nat) (K : ByteArray) (w : World) (r : Int) (hi : i < n) (h2 : w.cell? ⟨b, 2, none⟩ = some (.slice (some ⟨gt, 0, none⟩) n ct)) (hc : w.cell? ⟨gt, i, none⟩ = some (.iface T v))
    (hh : Calls Tryz.prog 28 #[.pointer (some ⟨b, 0, none⟩), .int .i64 i, .string K] w fun e w' => e = .returned (.bool true) ∧ w = w')
    (hm : Face T v "firewall/maps.find" f) (hf : Calls Tryz.prog f #[v, .string K] w fun e w' => e = .returned (.int .i64 p) ∧ w = w')
    (hv : Calls Tryz.prog 29 #[.pointer (some ⟨b, 0, none⟩), .int .i64 i, .int .i64 p] w fun e w' => e = .returned (.int .u64 r) ∧ Fr No w w') :
    Calls Tryz.prog 16 #[.pointer (some ⟨b, 0, none⟩), .int .i64 i, .string K] w fun e w' => e = .returned (.int .u64 r) ∧ Fr No w w' := by
  have b1 : (0 : Int) ≤ (i : Int) := by omega
  have b2 : (i : Int) < (n : Int) := by omega
  have HH := Lib.hid hh
  have HF := Lib.hid hf
  have HV := Lib.hid hv
  obtain ⟨hm, he⟩ := hm
  clear hh hf hv
  go_enter Tryz.func16, Tryz.ntmps16
  go_wp2_with (go_at_call 28; (with_reducible refine (HH.out).mono ?_); rintro e w' ⟨rfl, rfl⟩)
  refine (HF.out).mono ?_
  rintro e w' ⟨rfl, rfl⟩
  go_wp2_with fail
  refine (HV.out).mono ?_
  rintro e w' ⟨rfl, hw⟩
  go_wp2_with fail
  go_ret
  exact ⟨rfl, hw⟩

/-- a table's value and what its find comes to -/
theorem HTab.find_face {w : World} {x : HTab} (ok : x.t.ok) (hh : x.t.d.kind = 2 → x.here w) (key : List UInt8) (hk : (key.length : Int) = x.t.d.key) :
    ∃ T v f, x.cell = .iface T v ∧ Face T v "firewall/maps.find" f ∧ Calls Tryz.prog f #[v, .string ⟨key.toArray⟩] w fun e w' => e = .returned (.int .i64 (optI (x.t.find key))) ∧ w = w' := by
  rcases ok.kinds with h1 | h2
  · refine ⟨_, _, _, by unfold HTab.cell; rw [if_pos h1], face_afind _, afind_any ok h1 key (by have := ok.key1 h1; omega)⟩
  · exact ⟨_, _, _, by unfold HTab.cell; rw [if_neg (by omega)], face_hfind _ _ _, hfind_any (hh h2) (by have := ok.bounds; omega) key⟩

theorem lookup_any {A H : Nat → Prop} {w : World} {b mb : Nat} {S : List Tab} (h : MapsAt w b mb S A H) (i : Int) (key : List UInt8) :
    Calls Tryz.prog 16 #[.pointer (some ⟨b, 0, none⟩), .int .i64 i, .string ⟨key.toArray⟩] w fun e w' => e = .returned (.int .u64 (mlookup S i key)) ∧ Fr No w w' := by
  have hh := has_any h i key
  have hmaps := h
  obtain ⟨l, rfl, h⟩ := h
  unfold mlookup
  cases hm : mhas (l.map (·.t)) i key with
  | none =>
    rw [hm] at hh
    exact (lookup_bad _ i _ w hh).mono fun e w' ⟨he, hw⟩ => ⟨he, hw ▸ Fr.refl _ _⟩
  | some t =>
    rw [hm] at hh
    obtain ⟨k, rfl, hk, hkl⟩ := mhas_some hm
    have hk0 := hk
    rw [List.getElem?_map] at hk
    obtain ⟨x, hx, rfl⟩ := Option.map_eq_some_iff.1 hk
    have hxm := List.mem_of_getElem? hx
    obtain ⟨gl, cl, gt, ct, c1, c2, hi, _, _, d0, d1, d2, d3, d4⟩ := h.at hx
    obtain ⟨T, v, f, hcell, face, hf⟩ := HTab.find_face (h.ok x hxm) (fun h2 => (h.here x hxm h2).1) key hkl
    rw [hcell] at d4
    cases hp : x.t.find key with
    | none =>
      rw [hp] at hf
      exact (lookup_off b k l.length ct gt T v f _ w hi c2 d4 hh face hf).mono fun e w' ⟨he, hw⟩ => ⟨by simpa [hp] using he, hw ▸ Fr.refl _ _⟩
    | some p =>
      rw [hp] at hf
      refine (lookup_in b k l.length ct gt p T v f _ w _ hi c2 d4 hh face hf (mvalue_any hmaps hk0 (find_some hp).1)).mono fun e w' ⟨he, hw⟩ => ⟨?_, hw⟩
      simpa [hp] using he

theorem lookup_nil (i : Int) (K : ByteArray) (w : World) : Calls Tryz.prog 16 #[.pointer none, .int .i64 i, .string K] w fun e w' => e = .returned (.int .u64 0) ∧ w = w' :=
  lookup_bad _ i K w (has_nil i K w)

end Go.Proofs.YtlinnhaodkiolaaGreatDoor

namespace Go.Proofs.YtlinnhaodkiolaaGreatDoor
open Go.RowKit

set_option maxHeartbeats 400000 in
theorem update_bad (p : Value) (i : Int) (K V : ByteArray) (w : World) (hh : Calls Tryz.prog 28 #[p, .int .i64 i, .string K] w fun e w' => e = .returned (.bool false) ∧ w = w') :
    Calls Tryz.prog 18 #[p, .int .i64 i, .string K, .string V] w fun e w' => e = .returned (.int .i64 (-22)) ∧ w = w' := by
  have HH := Lib.hid hh
  clear hh
  go_enter Tryz.func18, Tryz.ntmps18
  go_wp2_with (go_at_call 28; (with_reducible refine (HH.out).mono ?_); rintro e w' ⟨rfl, rfl⟩)
  go_ret
  exact ⟨rfl, rfl⟩

set_option maxHeartbeats 400000 in
theorem update_len (b i n cl gl vl : Nat) (size : Int) (K V : ByteArray) (w : World) (hi : i < n) (h1 : w.cell? ⟨b, 1, none⟩ = some (.slice (some ⟨gl, 0, none⟩) n cl)) (hs : w.cell? ⟨gl, i * 4 + 2, none⟩ = some (.int .i64 size)) (hV : V.size = vl)
    (hne : ((vl : Int) != size) = true)
    (hh : Calls Tryz.prog 28 #[.pointer (some ⟨b, 0, none⟩), .int .i64 i, .string K] w fun e w' => e = .returned (.bool true) ∧ w = w') :
    Calls Tryz.prog 18 #[.pointer (some ⟨b, 0, none⟩), .int .i64 i, .string K, .string V] w fun e w' => e = .returned (.int .i64 (-22)) ∧ w = w' := by
  have b1 : (0 : Int) ≤ (i : Int) := by omega
  have b2 : (i : Int) < (n : Int) := by omega
  have HH := Lib.hid hh
  clear hh
  go_enter Tryz.func18, Tryz.ntmps18
  go_wp2_with (go_at_call 28; (with_reducible refine (HH.out).mono ?_); rintro e w' ⟨rfl, rfl⟩)
  go_ret
  exact ⟨rfl, rfl⟩

set_option maxHeartbeats 400000 in
theorem update_off (b i n cl ct gl gt vl : Nat) (size why : Int) (T : TypeId) (v : Value) (f : Nat) (K V : ByteArray) (w : World) (hi : i < n) (h1 : w.cell? ⟨b, 1, none⟩ = some (.slice (some ⟨gl, 0, none⟩) n cl)) (hs : w.cell? ⟨gl, i * 4 + 2, none⟩ = some (.int .i64 size)) (hV : V.size = vl)
    (hne : ((vl : Int) != size) = false) (h2 : w.cell? ⟨b, 2, none⟩ = some (.slice (some ⟨gt, 0, none⟩) n ct)) (hc : w.cell? ⟨gt, i, none⟩ = some (.iface T v))
    (hh : Calls Tryz.prog 28 #[.pointer (some ⟨b, 0, none⟩), .int .i64 i, .string K] w fun e w' => e = .returned (.bool true) ∧ w = w')
    (hm : Face T v "firewall/maps.lay" f) (hf : Calls Tryz.prog f #[v, .string K] w fun e w' => e = .returned (.tuple #[.int .i64 (-1), .int .i64 why]) ∧ w = w') :
    Calls Tryz.prog 18 #[.pointer (some ⟨b, 0, none⟩), .int .i64 i, .string K, .string V] w fun e w' => e = .returned (.int .i64 why) ∧ w = w' := by
  have b1 : (0 : Int) ≤ (i : Int) := by omega
  have b2 : (i : Int) < (n : Int) := by omega
  have HH := Lib.hid hh
  have HF := Lib.hid hf
  obtain ⟨hm, he⟩ := hm
  clear hh hf
  go_enter Tryz.func18, Tryz.ntmps18
  go_wp2_with (go_at_call 28; (with_reducible refine (HH.out).mono ?_); rintro e w' ⟨rfl, rfl⟩)
  refine (HF.out).mono ?_
  rintro e w' ⟨rfl, rfl⟩
  go_wp2_with fail
  go_ret
  exact ⟨rfl, rfl⟩

set_option maxRecDepth 100000 in
set_option maxHeartbeats 1000000 in
theorem update_in (b mb i n cl ct gl gt vl p : Nat) (size why addr : Int) (T : TypeId) (v : Value) (f : Nat) (K V : ByteArray) (w : World) (hi : i < n) (h1 : w.cell? ⟨b, 1, none⟩ = some (.slice (some ⟨gl, 0, none⟩) n cl)) (hs : w.cell? ⟨gl, i * 4 + 2, none⟩ = some (.int .i64 size)) (hV : V.size = vl)
    (hne : ((vl : Int) != size) = false) (h2 : w.cell? ⟨b, 2, none⟩ = some (.slice (some ⟨gt, 0, none⟩) n ct)) (hc : w.cell? ⟨gt, i, none⟩ = some (.iface T v)) (hvl : vl ≤ 64) (ha0 : 0 ≤ addr) (ha1 : addr ≤ 100000000)
    (Q : World → Prop) (U : Nat → World → Prop)
    (hh : Calls Tryz.prog 28 #[.pointer (some ⟨b, 0, none⟩), .int .i64 i, .string K] w fun e w' => e = .returned (.bool true) ∧ w = w')
    (hm : Face T v "firewall/maps.lay" f) (hf : Calls Tryz.prog f #[v, .string K] w fun e w' => e = .returned (.tuple #[.int .i64 p, .int .i64 why]) ∧ Hid (Q w'))
    (hU0 : ∀ w', Q w' → U 0 w') (hmem : ∀ k W, U k W → W.cell? ⟨b, 3, none⟩ = some (.pointer (some ⟨mb, 0, none⟩)))
    (hval : ∀ k W, U k W → ∀ W', Fr No W W' → Calls Tryz.prog 29 #[.pointer (some ⟨b, 0, none⟩), .int .i64 i, .int .i64 p] W' fun e w' => e = .returned (.int .u64 addr) ∧ Fr No W' w')
    (hwr : ∀ k W (hk : k < V.size), U k W → ∀ W', Fr No W W' → Calls Tryz.prog 31 #[.pointer (some ⟨mb, 0, none⟩), .int .u64 (addr + k), .int .i64 1, .int .u64 (V[k].toNat : Int)] W' fun e w' => e = .returned (.int .i64 0) ∧ Hid (U (k + 1) w')) :
    Calls Tryz.prog 18 #[.pointer (some ⟨b, 0, none⟩), .int .i64 i, .string K, .string V] w fun e w' => e = .returned (.int .i64 0) ∧ U vl w' := by
  have b1 : (0 : Int) ≤ (i : Int) := by omega
  have b2 : (i : Int) < (n : Int) := by omega
  have HH := Lib.hid hh
  have HF := Lib.hid hf
  have HU0 := Lib.hid hU0
  have HMEM := Lib.hid hmem
  have HVAL := Lib.hid hval
  have HWR := Lib.hid hwr
  obtain ⟨hm, he⟩ := hm
  clear hh hf hU0 hmem hval hwr
  go_enter Tryz.func18, Tryz.ntmps18
  go_wp2_with (go_at_call 28; (with_reducible refine (HH.out).mono ?_); rintro e w' ⟨rfl, rfl⟩)
  refine (HF.out).mono ?_
  rintro e w1 ⟨rfl, HQ⟩
  have HU1 : Hid (U 0 w1) := HU0.out _ HQ.out
  clear h1 hs h2 hc hm he HQ HU0 HH HF
  go_wp2_with fail
  go_loopw [47] (fun s wr => ∃ k : Nat, k ≤ vl ∧ s = .int .i64 k ∧ Hid (U k wr)) (fun s _ => vl - (intOf s).toNat)
  case atStart => exact ⟨0, Nat.zero_le _, rfl, HU1⟩
  case round =>
    obtain ⟨k, hk, rfl, HU⟩ := hrel
    by_cases hlt : k < vl
    · have hkV : k < V.size := by rw [hV]; exact hlt
      have f1 : IntKind.u64.wrap (k : Int) = k := u64_nat k (by omega)
      have f2 : IntKind.u64.wrap (addr + (k : Int)) = addr + k := IntWalk.u64_in _ (by omega)
      have f3 : IntKind.u64.wrap (V[k].toNat : Int) = V[k].toNat := u64_nat _ (by have := V[k].toNat_lt; omega)
      have c3 := HMEM.out k wr HU.out
      have b3 : (0 : Int) ≤ (k : Int) := by omega
      have b4 : (k : Int) < (vl : Int) := by omega
      go_upto_region 16 with fail
      have HV1 : Hid (∀ W', Fr No wr W' → Calls Tryz.prog 29 #[.pointer (some ⟨b, 0, none⟩), .int .i64 i, .int .i64 p] W' fun e w' => e = .returned (.int .u64 addr) ∧ Fr No W' w') := HVAL.out k wr HU.out
      have HW1 : Hid (∀ W', Fr No wr W' → Calls Tryz.prog 31 #[.pointer (some ⟨mb, 0, none⟩), .int .u64 (addr + k), .int .i64 1, .int .u64 (V[k].toNat : Int)] W' fun e w' => e = .returned (.int .i64 0) ∧ Hid (U (k + 1) w') ∧ w'.cell? ⟨b, 3, none⟩ = some (.pointer (some ⟨mb, 0, none⟩))) := fun W' hW => (HWR.out k wr hkV HU.out W' hW).mono fun e w' ⟨he, hu⟩ => ⟨he, hu, HMEM.out _ w' hu.out⟩
      have HC3 := Lib.hid c3
      clear HVAL HWR HMEM HU1
      go_region_held3 (fun W => W.cell? ⟨b, 3, none⟩ = some (.pointer (some ⟨mb, 0, none⟩)))
        (first | go_keep | exact hf5.cell (by go_keep) id)
        (first
          | (go_at_call 29; (with_reducible refine (HV1.out _ (by exact (Fr.refl _ _).drew)).mono ?_); rintro e w5 ⟨rfl, hf5⟩)
          | (go_at_call 31; (with_reducible refine (HW1.out _ (by exact ((Fr.refl _ _).drew).trans hf5)).mono ?_); rintro e w6 ⟨rfl, HU6, hc6⟩))
      all_goals
        go_wp2_with fail
        go_roundw
        case rel => exact ⟨k + 1, by omega, by go_num, HU6⟩
        case measure => simp [intOf] <;> omega
    · obtain rfl : k = vl := by omega
      go_wp2_with fail
      go_ret
      exact ⟨rfl, HU.out⟩

end Go.Proofs.YtlinnhaodkiolaaGreatDoor

namespace Go.Proofs.YtlinnhaodkiolaaGreatDoor
open Go.RowKit

theorem MemAt.wf {w : World} {b : Nat} {m : List Reg} {S : Nat → Prop} (h : MemAt w b m S) : WF m := by
  obtain ⟨v, l, rfl, h⟩ := h
  exact h.wf

def Or2 (H T : Nat → Prop) : Nat → Prop := fun k => H k ∨ T k

/-- what a call that changes maps and their memory leaves -/
structure MapsOn (w : World) (b mb : Nat) (S : List Tab) (m : List Reg) (A H T : Nat → Prop) (w' : World) : Prop where
  fr : Fr (Or2 H T) w w'
  maps : MapsAt w' b mb S A H
  mem : MemAt w' mb m T

theorem MapsOn.no {w : World} {b mb : Nat} {S : List Tab} {m : List Reg} {A H T : Nat → Prop} {w' w2 : World} (h : MapsOn w b mb S m A H T w') (hf : Fr No w' w2) : MapsOn w b mb S m A H T w2 :=
  ⟨h.fr.trans hf.any, h.maps.no hf, h.mem.fr hf (fun _ _ => id)⟩

def whyOf (t : Tab) : Int := if t.d.kind = 1 then -2 else -7
/-- a table's value and what its lay comes to -/
def LayQ (t : Tab) (g : Nat) (key : List UInt8) (w : World) (e : Ending) (w' : World) : Prop :=
  match t.find key with
  | some p => e = .returned (.tuple #[.int .i64 p, .int .i64 (whyOf t)]) ∧ w = w'
  | none => if t.d.kind = 1 then e = .returned (.tuple #[.int .i64 (-1), .int .i64 (-2)]) ∧ w = w' else LayPost t g key w e w'

theorem HTab.lay_face {w : World} {x : HTab} (ok : x.t.ok) (hh : x.t.d.kind = 2 → x.here w) (key : List UInt8) (hk : (key.length : Int) = x.t.d.key) :
    ∃ T v f, x.cell = .iface T v ∧ Face T v "firewall/maps.lay" f ∧ Calls Tryz.prog f #[v, .string ⟨key.toArray⟩] w (LayQ x.t x.h key w) := by
  rcases ok.kinds with h1 | h2
  · refine ⟨_, _, _, by unfold HTab.cell; rw [if_pos h1], face_alay _, (alay_any ok h1 key (by have := ok.key1 h1; omega)).mono ?_⟩
    rintro e w' ⟨he, hw⟩
    unfold LayQ
    cases hf : x.t.find key with
    | some p => rw [hf] at he; unfold whyOf; rw [if_pos h1]; exact ⟨he, hw⟩
    | none => rw [hf] at he; simp only [if_pos h1]; exact ⟨he, hw⟩
  · refine ⟨_, _, _, by unfold HTab.cell; rw [if_neg (by omega)], face_hlay _ _ _, (hlay_any (hh h2) (by have := ok.bounds; omega) key).mono ?_⟩
    rintro e w' he
    unfold LayQ
    have he0 := he
    unfold LayPost at he
    cases hf : x.t.find key with
    | some p => rw [hf] at he; unfold whyOf; rw [if_neg (by omega)]; exact he
    | none => simp only [if_neg (show ¬ x.t.d.kind = 1 by omega)]; exact he0

theorem HoldsM.new {S : List Tab} {m : List Reg} (h : HoldsM S m) {i : Nat} {t : Tab} (hi : S[i]? = some t) (p : Nat) (key : List UInt8) : HoldsM (S.set i (t.lay p key)) m := h.set hi rfl

/-- the loop that lays a value, byte by byte -/
theorem update_lays {A H T : Nat → Prop} {w : World} {b mb : Nat} {S S' : List Tab} {m : List Reg} (hm : MemAt w mb m T) (hT : ∀ k, T k → ¬ A k ∧ ¬ H k) {i : Nat} {x : HTab} {l : List HTab} (hS : l.map (·.t) = S) (h : MapsL w b mb l A H) (hx : l[i]? = some x)
    (key val : List UInt8) (hkey : (key.length : Int) = x.t.d.key) (hlen : (val.length : Int) = x.t.d.value) {p : Nat} (hp : p < x.t.ks.length) {why : Int} {TT : TypeId} {v : Value} {f : Nat} (hcell : x.cell = .iface TT v) (face : Face TT v "firewall/maps.lay" f)
    (hold : HoldsM S m) {t' : Tab} (hS' : S'[i]? = some t') (ht' : t'.d = x.t.d ∧ t'.ks.length = x.t.ks.length)
    (hf : Calls Tryz.prog f #[v, .string ⟨key.toArray⟩] w fun e w' => e = .returned (.tuple #[.int .i64 p, .int .i64 why]) ∧ Hid (Fr H w w' ∧ MapsAt w' b mb S' A H)) :
    Calls Tryz.prog 18 #[.pointer (some ⟨b, 0, none⟩), .int .i64 i, .string ⟨key.toArray⟩, .string ⟨val.toArray⟩] w fun e w' => e = .returned (.int .i64 0) ∧ MapsOn w b mb S' (mput m (mplace i p x.t) val) A H T w' := by
  have hxm := List.mem_of_getElem? hx
  have ok := h.ok x hxm
  have hb := ok.bounds
  obtain ⟨gl, cl, gt, ct, c1, c2, hi, _, _, d0, d1, d2, d3, d4⟩ := h.at hx
  have hfew := h.few
  have hpb := mplace_bounds (i := i) ok hp (by omega)
  have hSi : S[i]? = some x.t := by rw [← hS, List.getElem?_map, hx]; rfl
  obtain ⟨j, r, hr, hr0, hr1, hfree, _, _⟩ := hold.place hSi ok hp
  have hwf := hm.wf
  have hmaps : MapsAt w b mb S A H := ⟨l, hS, h⟩
  have hh := has_any hmaps i key
  have hhas : (mhas S i key).isSome = true := by rw [mhas_of hSi hkey]; rfl
  rw [hhas] at hh
  rw [hcell] at d4
  have hv : mplace i p t' = mplace i p x.t := by unfold mplace; rw [ht'.1]
  refine (update_in b mb i l.length cl ct gl gt val.length p x.t.d.value why (mplace i p x.t) TT v f ⟨key.toArray⟩ ⟨val.toArray⟩ w hi c1 d2 rfl (by simpa using hlen) c2 d4 (by omega) (by omega) (by omega)
    (fun w' => Fr H w w' ∧ MapsAt w' b mb S' A H) (fun k w' => MapsOn w b mb S' (mput m (mplace i p x.t) (val.take k)) A H T w') hh face hf ?_ ?_ ?_ ?_).mono ?_
  · rintro w' ⟨hf1, hm1⟩
    refine ⟨hf1.mono (fun _ _ => .inl), hm1, ?_⟩
    rw [List.take_zero, mput_nil]
    exact hm.fr hf1 (fun k hk => (hT k hk).2)
  · intro k W hU
    obtain ⟨l2, _, h2⟩ := hU.maps
    exact h2.mem
  · intro k W hU W' hW'
    rw [← hv]
    exact mvalue_any (hU.maps.no hW') hS' (by rw [ht'.2]; exact hp)
  · intro k W hk hU W' hW'
    have hk' : k < val.length := hk
    have hget : val[k]? = some ((⟨val.toArray⟩ : ByteArray)[k]) := by
      rw [List.getElem?_eq_getElem hk']
      rfl
    have hstep := mput_step hwf hr hfree hget hr0 (by rw [hlen]; exact hr1)
    have hlt := ((⟨val.toArray⟩ : ByteArray)[k]).toNat_lt
    refine (write_any (hU.mem.fr hW' (fun _ _ => id)) (mplace i p x.t + k) 1 ((⟨val.toArray⟩ : ByteArray)[k]).toNat (by omega) (by omega) (by omega)).mono ?_
    rw [hstep]
    rintro e w' ⟨he, hf1, hm1⟩
    refine ⟨he, (hU.fr.trans hW'.any).trans (hf1.mono fun _ _ => .inr), ?_, hm1⟩
    exact (hU.maps.no hW').fr hf1 (fun k hA hk => (hT k hk).1 hA) (fun k hH hk => (hT k hk).2 hH)
  · rintro e w' ⟨he, hU⟩
    refine ⟨he, ?_⟩
    rwa [List.take_of_length_le (Nat.le_refl _)] at hU

theorem update_any {A H T : Nat → Prop} {w : World} {b mb : Nat} {S : List Tab} {m : List Reg} (h : MapsAt w b mb S A H) (hm : MemAt w mb m T) (hT : ∀ k, T k → ¬ A k ∧ ¬ H k) (hold : HoldsM S m) (i : Int) (key val : List UInt8) :
    Calls Tryz.prog 18 #[.pointer (some ⟨b, 0, none⟩), .int .i64 i, .string ⟨key.toArray⟩, .string ⟨val.toArray⟩] w fun e w' =>
      e = .returned (.int .i64 (mupdate S m i key val).2) ∧ MapsOn w b mb (mupdate S m i key val).1.1 (mupdate S m i key val).1.2 A H T w' := by
  have hh := has_any h i key
  have hmaps := h
  have same : MapsOn w b mb S m A H T w := ⟨Fr.refl _ _, h, hm⟩
  obtain ⟨l, hS, h⟩ := h
  unfold mupdate
  cases hmh : mhas S i key with
  | none =>
    rw [hmh] at hh
    exact (update_bad _ i _ _ w hh).mono fun e w' ⟨he, hw⟩ => ⟨he, hw ▸ same⟩
  | some t =>
    rw [hmh] at hh
    obtain ⟨k, rfl, hk, hkl⟩ := mhas_some hmh
    have hk0 := hk
    rw [← hS, List.getElem?_map] at hk
    obtain ⟨x, hx, rfl⟩ := Option.map_eq_some_iff.1 hk
    have hxm := List.mem_of_getElem? hx
    have ok := h.ok x hxm
    obtain ⟨gl, cl, gt, ct, c1, c2, hi, _, _, d0, d1, d2, d3, d4⟩ := h.at hx
    by_cases hlen : (val.length : Int) = x.t.d.value
    · simp only [hlen, if_true, Int.toNat_natCast]
      obtain ⟨TT, v, f, hcell, face, hf⟩ := HTab.lay_face ok (fun h2 => (h.here x hxm h2).1) key hkl
      have d4' := d4
      rw [hcell] at d4
      unfold LayQ at hf
      have off : ∀ why : Int, (Calls Tryz.prog f #[v, .string ⟨key.toArray⟩] w fun e w' => e = .returned (.tuple #[.int .i64 (-1), .int .i64 why]) ∧ w = w') →
          Calls Tryz.prog 18 #[.pointer (some ⟨b, 0, none⟩), .int .i64 k, .string ⟨key.toArray⟩, .string ⟨val.toArray⟩] w fun e w' => e = .returned (.int .i64 why) ∧ MapsOn w b mb S m A H T w' := fun why hf =>
        (update_off b k l.length cl ct gl gt val.length x.t.d.value why TT v f ⟨key.toArray⟩ ⟨val.toArray⟩ w hi c1 d2 rfl (by simpa using hlen) c2 d4 hh face hf).mono fun e w' ⟨he, hw⟩ => ⟨he, hw ▸ same⟩
      cases hfi : x.t.find key with
      | some p =>
        simp only [hfi] at hf
        have hp := (find_some hfi).1
        exact update_lays hm hT hS h hx key val hkl hlen hp hcell face hold hk0 ⟨rfl, rfl⟩ (hf.mono fun e w' ⟨he, hw⟩ => ⟨he, hw ▸ ⟨Fr.refl _ _, hmaps⟩⟩)
      | none =>
        simp only [hfi] at hf
        rcases ok.kinds with h1 | h2
        · simp only [h1, if_true] at hf ⊢
          exact off _ hf
        · have hn1 : ¬ x.t.d.kind = 1 := by omega
          simp only [if_neg hn1] at hf ⊢
          unfold LayPost at hf
          simp only [hfi] at hf
          cases hfe : x.t.find [] with
          | none =>
            simp only [hfe] at hf
            exact off _ hf
          | some p =>
            simp only [hfe] at hf
            have hp := (find_some hfe).1
            obtain ⟨g1, g2⟩ := h.lay hx h2 hp (key := key) (.inr hkl)
            have hSt : (l.set k (x.lay p key)).map (·.t) = S.set k (x.t.lay p key) := by rw [List.map_set, hS]; rfl
            have hSk : (S.set k (x.t.lay p key))[k]? = some (x.t.lay p key) := by
              obtain ⟨hk1, _⟩ := List.getElem?_eq_some_iff.1 hk0
              rw [List.getElem?_set]; simp [hk1]
            exact update_lays hm hT hS h hx key val hkl hlen hp hcell face hold hSk ⟨rfl, by simp [Tab.lay]⟩ (hf.mono fun e w' ⟨he, hw⟩ => ⟨he, by rw [hw]; exact ⟨g2, _, hSt, g1⟩⟩)
    · have hne : ((val.length : Int) != x.t.d.value) = true := by simpa using hlen
      simp only [hlen, if_false]
      exact (update_len b k l.length cl gl val.length x.t.d.value ⟨key.toArray⟩ ⟨val.toArray⟩ w hi c1 d2 rfl hne hh).mono fun e w' ⟨he, hw⟩ => ⟨he, hw ▸ same⟩

end Go.Proofs.YtlinnhaodkiolaaGreatDoor
