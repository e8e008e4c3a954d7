/- maps: hash's lay and key; has; value. -/
import Derived.Test.YtlinnhaodkiolaaMapI
import Derived.Deep.RegionHeld3
namespace Go.Proofs.Ytlinnhaodkiolaa
open Go.RowKit

theorem quiet_eq {P : Program} {f : FuncId} {args : Array Value} {w : World} {n : Nat} {v : Value}
    (h : Calls P f args (w.drewN n) fun e w' => e = .returned v ∧ w.drewN n = w') : Calls P f args (w.drewN n) fun e w'' => e = .returned v ∧ ∃ m, w'' = w.drewN m :=
  h.mono fun _ _ ⟨he, hm⟩ => ⟨he, n, hm.symm⟩

set_option maxHeartbeats 400000 in
theorem hlay_has (v : Value) (K : ByteArray) (p : Nat) (w : World) (hi : Calls Try.prog 25 #[v, .string K] w fun e w' => e = .returned (.int .i64 p) ∧ w = w') :
    Calls Try.prog 101 #[v, .string K] w fun e w' => e = .returned (.tuple #[.int .i64 p, .int .i64 (-7)]) ∧ w = w' := by
  have HI := Lib.hid hi
  clear hi
  go_enter Try.func101, Try.ntmps101
  go_wp2_with (go_at_call 25; (with_reducible refine (HI.out).mono ?_); rintro e w' ⟨rfl, rfl⟩)
  go_ret2
  exact ⟨rfl, rfl⟩

set_option maxHeartbeats 400000 in
theorem hlay_full (v : Value) (K : ByteArray) (w : World) (hi : Calls Try.prog 25 #[v, .string K] w fun e w' => e = .returned (.int .i64 (-1)) ∧ w = w')
    (he : Calls Try.prog 25 #[v, .string ⟨#[]⟩] w fun e w' => e = .returned (.int .i64 (-1)) ∧ w = w') :
    Calls Try.prog 101 #[v, .string K] w fun e w' => e = .returned (.tuple #[.int .i64 (-1), .int .i64 (-7)]) ∧ w = w' := by
  have HI := Lib.hid hi
  have HE := Lib.hid he
  clear hi he
  go_enter Try.func101, Try.ntmps101
  go_wp2_with fail
  refine (HI.out).mono ?_
  rintro e w' ⟨rfl, rfl⟩
  go_wp2_with fail
  refine (HE.out).mono ?_
  rintro e w' ⟨rfl, rfl⟩
  go_wp2_with fail
  go_ret2
  exact ⟨rfl, rfl⟩

set_option maxHeartbeats 400000 in
theorem hlay_new (g n cap p : Nat) (K : ByteArray) (old : Value) (w : World) (hp : p < n) (hn : n ≤ 1000000) (hold : w.cell? ⟨g, p, none⟩ = some old) (hfree : w.frozen? ⟨g, p, none⟩ = false)
    (hi : Calls Try.prog 25 #[.slice (some ⟨g, 0, none⟩) n cap, .string K] w fun e w' => e = .returned (.int .i64 (-1)) ∧ w = w')
    (he : Calls Try.prog 25 #[.slice (some ⟨g, 0, none⟩) n cap, .string ⟨#[]⟩] w fun e w' => e = .returned (.int .i64 p) ∧ w = w') :
    Calls Try.prog 101 #[.slice (some ⟨g, 0, none⟩) n cap, .string K] w fun e w' => e = .returned (.tuple #[.int .i64 p, .int .i64 (-7)]) ∧ w' = w.setCell ⟨g, p, none⟩ (.string K) := by
  have HI := Lib.hid hi
  have HE := Lib.hid he
  clear hi he
  go_enter Try.func101, Try.ntmps101
  go_wp2_with fail
  refine (HI.out).mono ?_
  rintro e w' ⟨rfl, rfl⟩
  go_wp2_with fail
  refine (HE.out).mono ?_
  rintro e w' ⟨rfl, rfl⟩
  go_wp2_with fail
  go_ret2
  exact ⟨rfl, rfl⟩

/-- what lay of a hash comes to -/
def LayPost (t : Tab) (g : Nat) (key : List UInt8) (w : World) (e : Ending) (w' : World) : Prop :=
  match t.find key with
  | some p => e = .returned (.tuple #[.int .i64 p, .int .i64 (-7)]) ∧ w = w'
  | none => match t.find [] with
    | some p => e = .returned (.tuple #[.int .i64 p, .int .i64 (-7)]) ∧ w' = w.setCell ⟨g, p, none⟩ (.string ⟨key.toArray⟩)
    | none => e = .returned (.tuple #[.int .i64 (-1), .int .i64 (-7)]) ∧ w = w'

theorem hlay_any {w : World} {x : HTab} (hh : x.here w) (h16 : x.t.ks.length ≤ 1000000) (key : List UInt8) :
    Calls Try.prog 101 #[.slice (some ⟨x.h, 0, none⟩) x.t.ks.length x.cap, .string ⟨key.toArray⟩] w (LayPost x.t x.h key w) := by
  have h1 := hfind_any hh h16 key
  have h2 := hfind_any hh h16 []
  unfold LayPost
  cases hk : x.t.find key with
  | some p =>
    rw [hk] at h1
    exact hlay_has _ _ p w h1
  | none =>
    rw [hk] at h1
    cases he : x.t.find [] with
    | none =>
      rw [he] at h2
      exact hlay_full _ _ w h1 h2
    | some p =>
      rw [he] at h2
      obtain ⟨hp, hpk⟩ := find_some he
      have c := hh.keys p (.string ⟨#[]⟩) (by rw [strs_get, hpk]; rfl)
      have o := hh.opened p hp
      rw [Nat.zero_add] at c o
      exact hlay_new x.h _ _ p _ _ w hp h16 c o h1 h2

set_option maxHeartbeats 400000 in
theorem hkey_walk (g n cap p : Nat) (K : ByteArray) (w : World) (hp : p < n) (hn : n ≤ 1000000) (hc : w.cell? ⟨g, p, none⟩ = some (.string K)) (b : Bool) (hb : (!K.toList.isEmpty) = b) :
    Calls Try.prog 100 #[.slice (some ⟨g, 0, none⟩) n cap, .int .i64 p] w fun e w' => e = .returned (.tuple #[.string K, .bool b]) ∧ Fr No w w' := by
  have b1 : (0 : Int) ≤ (p : Int) := by omega
  have b2 : (p : Int) < (n : Int) := by omega
  go_enter Try.func100, Try.ntmps100
  go_wp2_with fail
  go_quiet (fail)
  go_wp2_with fail
  go_ret2
  exact ⟨rfl, (Fr.refl _ _).drewN _⟩

theorem hkey_any {w : World} {x : HTab} (hh : x.here w) (h16 : x.t.ks.length ≤ 1000000) (p : Nat) (key : List UInt8) (hk : x.t.ks[p]? = some key) :
    Calls Try.prog 100 #[.slice (some ⟨x.h, 0, none⟩) x.t.ks.length x.cap, .int .i64 p] w fun e w' => e = .returned (.tuple #[.string ⟨key.toArray⟩, .bool (decide (key ≠ []))]) ∧ Fr No w w' := by
  have c := hh.keys p (.string ⟨key.toArray⟩) (by rw [strs_get, hk]; rfl)
  rw [Nat.zero_add] at c
  obtain ⟨hp, _⟩ := List.getElem?_eq_some_iff.1 hk
  exact hkey_walk x.h _ _ p _ w hp h16 c _ (by simp [ByteArray.toList_eq]; cases key <;> simp)

set_option maxHeartbeats 400000 in
theorem has_lo (b : Nat) (i : Int) (K : ByteArray) (w : World) (hi : i < 0) :
    Calls Try.prog 24 #[.pointer (some ⟨b, 0, none⟩), .int .i64 i, .string K] w fun e w' => e = .returned (.bool false) ∧ w = w' := by
  have q : decide (i ≥ 0) = false := by simp; omega
  go_enter Try.func24, Try.ntmps24
  go_wp2_with fail
  go_ret
  exact ⟨rfl, rfl⟩

set_option maxHeartbeats 400000 in
theorem has_hi (b i n cap : Nat) (a : Option Addr) (K : ByteArray) (w : World) (hi : n ≤ i) (h : w.cell? ⟨b, 1, none⟩ = some (.slice a n cap)) :
    Calls Try.prog 24 #[.pointer (some ⟨b, 0, none⟩), .int .i64 i, .string K] w fun e w' => e = .returned (.bool false) ∧ w = w' := by
  have HL := Lib.hid (mlen_any b n cap a w h)
  go_enter Try.func24, Try.ntmps24
  go_wp2_with (go_at_call 15; (with_reducible refine (HL.out).mono ?_); rintro e w' ⟨rfl, rfl⟩)
  go_ret
  exact ⟨rfl, rfl⟩

set_option maxHeartbeats 400000 in
theorem has_in (b i n cl gl kl : Nat) (key : Int) (t : Bool) (K : ByteArray) (w : World) (hi : i < n) (hn : n ≤ 1000) (hk : K.size = kl) (h : w.cell? ⟨b, 1, none⟩ = some (.slice (some ⟨gl, 0, none⟩) n cl)) (hc : w.cell? ⟨gl, i * 4 + 1, none⟩ = some (.int .i64 key))
    (ht : ((kl : Int) == key) = t) :
    Calls Try.prog 24 #[.pointer (some ⟨b, 0, none⟩), .int .i64 i, .string K] w fun e w' => e = .returned (.bool t) ∧ w = w' := by
  have HL := Lib.hid (mlen_any b n cl _ w h)
  have b1 : (0 : Int) ≤ (i : Int) := by omega
  have b2 : (i : Int) < (n : Int) := by omega
  go_enter Try.func24, Try.ntmps24
  go_wp2_with (go_at_call 15; (with_reducible refine (HL.out).mono ?_); rintro e w' ⟨rfl, rfl⟩)
  go_ret
  exact ⟨rfl, rfl⟩

theorem has_any {A H : Nat → Prop} {w : World} {b mb : Nat} {S : List Tab} (h : MapsAt w b mb S A H) (i : Int) (key : List UInt8) :
    Calls Try.prog 24 #[.pointer (some ⟨b, 0, none⟩), .int .i64 i, .string ⟨key.toArray⟩] w fun e w' => e = .returned (.bool (mhas S i key).isSome) ∧ w = w' := by
  obtain ⟨l, rfl, h⟩ := h
  by_cases h0 : i < 0
  · have e : mhas (l.map (·.t)) i key = none := by unfold mhas; rw [if_neg (by omega)]
    rw [e]
    exact has_lo b i _ w h0
  · obtain ⟨k, rfl⟩ := Int.eq_ofNat_of_zero_le (show 0 ≤ i by omega)
    have hfew := h.few
    by_cases h1 : k < l.length
    · have hx : l[k]? = some l[k] := List.getElem?_eq_getElem h1
      obtain ⟨gl, cl, gt, ct, c1, c2, hi, _, _, d0, d1, d2, d3, _⟩ := h.at hx
      have e : (mhas (l.map (·.t)) k key).isSome = ((key.length : Int) == l[k].t.d.key) := by
        unfold mhas
        rw [if_pos (by omega), Int.toNat_natCast, List.getElem?_map, hx]
        simp only [Option.map_some]
        by_cases hk : (key.length : Int) = l[k].t.d.key <;> simp [hk]
      rw [e]
      exact has_in b k l.length cl gl key.length _ _ _ w h1 (by omega) rfl c1 d1 rfl
    · obtain ⟨a, c, c1⟩ := h.len
      have e : mhas (l.map (·.t)) k key = none := by
        unfold mhas
        rw [if_pos (by omega), Int.toNat_natCast, List.getElem?_map, List.getElem?_eq_none (by omega)]
        rfl
      rw [e]
      exact has_hi b k l.length c a _ w (by omega) c1

set_option maxHeartbeats 400000 in
theorem has_nil (i : Int) (K : ByteArray) (w : World) :
    Calls Try.prog 24 #[.pointer none, .int .i64 i, .string K] w fun e w' => e = .returned (.bool false) ∧ w = w' := by
  by_cases hi : i < 0
  · have q : decide (i ≥ 0) = false := by simp; omega
    go_enter Try.func24, Try.ntmps24
    go_wp2_with fail
    go_ret
    exact ⟨rfl, rfl⟩
  · obtain ⟨k, rfl⟩ := Int.eq_ofNat_of_zero_le (show 0 ≤ i by omega)
    have HL := Lib.hid (mlen_nil w)
    go_enter Try.func24, Try.ntmps24
    go_wp2_with (go_at_call 15; (with_reducible refine (HL.out).mono ?_); rintro e w' ⟨rfl, rfl⟩)
    go_ret
    exact ⟨rfl, rfl⟩

set_option maxHeartbeats 1000000 in
theorem mvalue_walk (b i p n cl gl : Nat) (V : Int) (w : World) (hi : i < n) (hn : n ≤ 4) (h : w.cell? ⟨b, 1, none⟩ = some (.slice (some ⟨gl, 0, none⟩) n cl)) (hc : w.cell? ⟨gl, i * 4 + 2, none⟩ = some (.int .i64 V))
    (h0 : 0 ≤ (p : Int) * V) (h1 : (p : Int) * V ≤ 1024) :
    Calls Try.prog 27 #[.pointer (some ⟨b, 0, none⟩), .int .i64 i, .int .i64 p] w fun e w' => e = .returned (.int .u64 (mbase i + (p : Int) * V)) ∧ ∃ q, w' = w.drewN q := by
  have b1 : (0 : Int) ≤ (i : Int) := by omega
  have b2 : (i : Int) < (n : Int) := by omega
  obtain ⟨M, hM⟩ : ∃ M, M = (p : Int) * V := ⟨_, rfl⟩
  have e0 : IntKind.i64.wrap ((p : Int) * V) = M := by rw [hM]; exact IntWalk.i64_in _ (by omega)
  rw [← hM] at h0 h1 ⊢
  have e1 : IntKind.u64.wrap M = M := IntWalk.u64_in _ (by omega)
  obtain ⟨B, hB⟩ : ∃ B, B = mbase i := ⟨_, rfl⟩
  have hB0 : 0 ≤ B ∧ B ≤ 2000000 := by rw [hB]; unfold mbase; omega
  have HB : Hid (∀ W, Calls Try.prog 38 #[.int .i64 i] W fun e w' => e = .returned (.int .u64 B) ∧ W = w') := fun W => by rw [hB]; exact mbase_any i W (by omega)
  rw [← hB]
  have e2 : IntKind.u64.wrap (B + M) = B + M := IntWalk.u64_in _ (by omega)
  clear hM hB hB0
  go_enter Try.func27, Try.ntmps27
  go_wp2_with fail
  go_quiet ((go_at_call 38; exact quiet_eq (HB.out _)))
  go_wp2_with fail
  go_ret
  exact ⟨rfl, _, rfl⟩

theorem mvalue_any {A H : Nat → Prop} {w : World} {b mb : Nat} {S : List Tab} (h : MapsAt w b mb S A H) {i p : Nat} {t : Tab} (ht : S[i]? = some t) (hp : p < t.ks.length) :
    Calls Try.prog 27 #[.pointer (some ⟨b, 0, none⟩), .int .i64 i, .int .i64 p] w fun e w' => e = .returned (.int .u64 (mplace i p t)) ∧ Fr No w w' := by
  obtain ⟨l, rfl, h⟩ := h
  rw [List.getElem?_map] at ht
  obtain ⟨x, hx, rfl⟩ := Option.map_eq_some_iff.1 ht
  obtain ⟨gl, cl, gt, ct, c1, c2, hi, _, _, d0, d1, d2, d3, _⟩ := h.at hx
  have hb := mplace_bounds (i := i) (h.ok x (List.mem_of_getElem? hx)) hp (by have := h.few; omega)
  refine (mvalue_walk b i p l.length cl gl x.t.d.value w hi h.few c1 d2 hb.2.2.1 hb.2.2.2).mono ?_
  rintro e w' ⟨rfl, q, rfl⟩
  exact ⟨rfl, (Fr.refl _ _).drewN _⟩

end Go.Proofs.Ytlinnhaodkiolaa
