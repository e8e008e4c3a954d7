/- maps: Lookup, Update, Delete: the walks. -/
import Derived.Test.YtlinnhaodkiolaaMapJ
import Derived.Shelf.Abstract
namespace Go.Proofs.Ytlinnhaodkiolaa
open Go.RowKit

theorem method_afind (n : Int) (w : World) : (method 271 96 (.int .i64 n) "firewall/maps.find").run Try.prog w = .ok (104, .int .i64 n) w := by kernel_rfl
theorem method_hfind (a : Option Addr) (n c : Nat) (w : World) : (method 271 74 (.slice a n c) "firewall/maps.find").run Try.prog w = .ok (25, .slice a n c) w := by kernel_rfl
theorem method_alay (n : Int) (w : World) : (method 271 96 (.int .i64 n) "firewall/maps.lay").run Try.prog w = .ok (106, .int .i64 n) w := by kernel_rfl
theorem method_hlay (a : Option Addr) (n c : Nat) (w : World) : (method 271 74 (.slice a n c) "firewall/maps.lay").run Try.prog w = .ok (101, .slice a n c) w := by kernel_rfl
theorem method_akey (n : Int) (w : World) : (method 271 96 (.int .i64 n) "firewall/maps.key").run Try.prog w = .ok (105, .int .i64 n) w := by kernel_rfl
theorem method_hkey (a : Option Addr) (n c : Nat) (w : World) : (method 271 74 (.slice a n c) "firewall/maps.key").run Try.prog w = .ok (100, .slice a n c) w := by kernel_rfl

/-- a table behind an interface value: what finds, and what lays a key in it -/
structure Face (T : TypeId) (v : Value) (name : String) (f : Nat) : Prop where
  meth : ∀ w, (method 271 T v name).run Try.prog w = .ok (f, v) w
  enters : ∀ args w, (callFunc f args).run Try.prog w = .ok (.enter f args) w

theorem face_afind (n : Int) : Face 96 (.int .i64 n) "firewall/maps.find" 104 := ⟨method_afind n, enters_of Try.func104 (by kernel_rfl) rfl⟩
theorem face_hfind (a : Option Addr) (n c : Nat) : Face 74 (.slice a n c) "firewall/maps.find" 25 := ⟨method_hfind a n c, enters_of Try.func25 (by kernel_rfl) rfl⟩
theorem face_alay (n : Int) : Face 96 (.int .i64 n) "firewall/maps.lay" 106 := ⟨method_alay n, enters_of Try.func106 (by kernel_rfl) rfl⟩
theorem face_hlay (a : Option Addr) (n c : Nat) : Face 74 (.slice a n c) "firewall/maps.lay" 101 := ⟨method_hlay a n c, enters_of Try.func101 (by kernel_rfl) rfl⟩
theorem face_akey (n : Int) : Face 96 (.int .i64 n) "firewall/maps.key" 105 := ⟨method_akey n, enters_of Try.func105 (by kernel_rfl) rfl⟩
theorem face_hkey (a : Option Addr) (n c : Nat) : Face 74 (.slice a n c) "firewall/maps.key" 100 := ⟨method_hkey a n c, enters_of Try.func100 (by kernel_rfl) rfl⟩

set_option maxHeartbeats 400000 in
theorem lookup_bad (p : Value) (i : Int) (K : ByteArray) (w : World) (hh : Calls Try.prog 24 #[p, .int .i64 i, .string K] w fun e w' => e = .returned (.bool false) ∧ w = w') :
    Calls Try.prog 12 #[p, .int .i64 i, .string K] w fun e w' => e = .returned (.int .u64 0) ∧ w = w' := by
  have HH := Lib.hid hh
  clear hh
  go_enter Try.func12, Try.ntmps12
  go_wp2_with (go_at_call 24; (with_reducible refine (HH.out).mono ?_); rintro e w' ⟨rfl, rfl⟩)
  go_ret
  exact ⟨rfl, rfl⟩

set_option maxHeartbeats 400000 in
theorem lookup_off (b i n ct gt : Nat) (T : TypeId) (v : Value) (f : Nat) (K : ByteArray) (w : World) (hi : i < n) (h2 : w.cell? ⟨b, 2, none⟩ = some (.slice (some ⟨gt, 0, none⟩) n ct)) (hc : w.cell? ⟨gt, i, none⟩ = some (.iface T v))
    (hh : Calls Try.prog 24 #[.pointer (some ⟨b, 0, none⟩), .int .i64 i, .string K] w fun e w' => e = .returned (.bool true) ∧ w = w')
    (hm : Face T v "firewall/maps.find" f) (hf : Calls Try.prog f #[v, .string K] w fun e w' => e = .returned (.int .i64 (-1)) ∧ w = w') :
    Calls Try.prog 12 #[.pointer (some ⟨b, 0, none⟩), .int .i64 i, .string K] w fun e w' => e = .returned (.int .u64 0) ∧ w = w' := by
  have b1 : (0 : Int) ≤ (i : Int) := by omega
  have b2 : (i : Int) < (n : Int) := by omega
  have HH := Lib.hid hh
  have HF := Lib.hid hf
  obtain ⟨hm, he⟩ := hm
  clear hh hf
  go_enter Try.func12, Try.ntmps12
  go_wp2_with (go_at_call 24; (with_reducible refine (HH.out).mono ?_); rintro e w' ⟨rfl, rfl⟩)
  refine (HF.out).mono ?_
  rintro e w' ⟨rfl, rfl⟩
  go_wp2_with fail
  go_ret
  exact ⟨rfl, rfl⟩

set_option maxHeartbeats 400000 in
theorem lookup_in (b i n ct gt p : Nat) (T : TypeId) (v : Value) (f : Nat) (K : ByteArray) (w : World) (r : Int) (hi : i < n) (h2 : w.cell? ⟨b, 2, none⟩ = some (.slice (some ⟨gt, 0, none⟩) n ct)) (hc : w.cell? ⟨gt, i, none⟩ = some (.iface T v))
    (hh : Calls Try.prog 24 #[.pointer (some ⟨b, 0, none⟩), .int .i64 i, .string K] w fun e w' => e = .returned (.bool true) ∧ w = w')
    (hm : Face T v "firewall/maps.find" f) (hf : Calls Try.prog f #[v, .string K] w fun e w' => e = .returned (.int .i64 p) ∧ w = w')
    (hv : Calls Try.prog 27 #[.pointer (some ⟨b, 0, none⟩), .int .i64 i, .int .i64 p] w fun e w' => e = .returned (.int .u64 r) ∧ Fr No w w') :
    Calls Try.prog 12 #[.pointer (some ⟨b, 0, none⟩), .int .i64 i, .string K] w fun e w' => e = .returned (.int .u64 r) ∧ Fr No w w' := by
  have b1 : (0 : Int) ≤ (i : Int) := by omega
  have b2 : (i : Int) < (n : Int) := by omega
  have HH := Lib.hid hh
  have HF := Lib.hid hf
  have HV := Lib.hid hv
  obtain ⟨hm, he⟩ := hm
  clear hh hf hv
  go_enter Try.func12, Try.ntmps12
  go_wp2_with (go_at_call 24; (with_reducible refine (HH.out).mono ?_); rintro e w' ⟨rfl, rfl⟩)
  refine (HF.out).mono ?_
  rintro e w' ⟨rfl, rfl⟩
  go_wp2_with fail
  refine (HV.out).mono ?_
  rintro e w' ⟨rfl, hw⟩
  go_wp2_with fail
  go_ret
  exact ⟨rfl, hw⟩

/-- a table's value and what its find comes to -/
theorem HTab.find_face {w : World} {x : HTab} (ok : x.t.ok) (hh : x.t.d.kind = 2 → x.here w) (key : List UInt8) (hk : (key.length : Int) = x.t.d.key) :
    ∃ T v f, x.cell = .iface T v ∧ Face T v "firewall/maps.find" f ∧ Calls Try.prog f #[v, .string ⟨key.toArray⟩] w fun e w' => e = .returned (.int .i64 (optI (x.t.find key))) ∧ w = w' := by
  rcases ok.kinds with h1 | h2
  · refine ⟨_, _, _, by unfold HTab.cell; rw [if_pos h1], face_afind _, afind_any ok h1 key (by have := ok.key1 h1; omega)⟩
  · exact ⟨_, _, _, by unfold HTab.cell; rw [if_neg (by omega)], face_hfind _ _ _, hfind_any (hh h2) (by have := ok.bounds; omega) key⟩

theorem lookup_any {A H : Nat → Prop} {w : World} {b mb : Nat} {S : List Tab} (h : MapsAt w b mb S A H) (i : Int) (key : List UInt8) :
    Calls Try.prog 12 #[.pointer (some ⟨b, 0, none⟩), .int .i64 i, .string ⟨key.toArray⟩] w fun e w' => e = .returned (.int .u64 (mlookup S i key)) ∧ Fr No w w' := by
  have hh := has_any h i key
  have hmaps := h
  obtain ⟨l, rfl, h⟩ := h
  unfold mlookup
  cases hm : mhas (l.map (·.t)) i key with
  | none =>
    rw [hm] at hh
    exact (lookup_bad _ i _ w hh).mono fun e w' ⟨he, hw⟩ => ⟨he, hw ▸ Fr.refl _ _⟩
  | some t =>
    rw [hm] at hh
    obtain ⟨k, rfl, hk, hkl⟩ := mhas_some hm
    have hk0 := hk
    rw [List.getElem?_map] at hk
    obtain ⟨x, hx, rfl⟩ := Option.map_eq_some_iff.1 hk
    have hxm := List.mem_of_getElem? hx
    obtain ⟨gl, cl, gt, ct, c1, c2, hi, _, _, d0, d1, d2, d3, d4⟩ := h.at hx
    obtain ⟨T, v, f, hcell, face, hf⟩ := HTab.find_face (h.ok x hxm) (fun h2 => (h.here x hxm h2).1) key hkl
    rw [hcell] at d4
    cases hp : x.t.find key with
    | none =>
      rw [hp] at hf
      exact (lookup_off b k l.length ct gt T v f _ w hi c2 d4 hh face hf).mono fun e w' ⟨he, hw⟩ => ⟨by simpa [hp] using he, hw ▸ Fr.refl _ _⟩
    | some p =>
      rw [hp] at hf
      refine (lookup_in b k l.length ct gt p T v f _ w _ hi c2 d4 hh face hf (mvalue_any hmaps hk0 (find_some hp).1)).mono fun e w' ⟨he, hw⟩ => ⟨?_, hw⟩
      simpa [hp] using he

theorem lookup_nil (i : Int) (K : ByteArray) (w : World) : Calls Try.prog 12 #[.pointer none, .int .i64 i, .string K] w fun e w' => e = .returned (.int .u64 0) ∧ w = w' :=
  lookup_bad _ i K w (has_nil i K w)

end Go.Proofs.Ytlinnhaodkiolaa
