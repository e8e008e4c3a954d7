/- maps: Update. -/
import Derived.Test.YtlinnhaodkiolaaMapK
import Derived.Deep.DeepCutAuto
import Derived.Deep.CutBlock
import Derived.Outline
namespace Go.Proofs.Ytlinnhaodkiolaa
open Go.RowKit

set_option maxHeartbeats 400000 in
theorem update_bad (p : Value) (i : Int) (K V : ByteArray) (w : World) (hh : Calls Try.prog 24 #[p, .int .i64 i, .string K] w fun e w' => e = .returned (.bool false) ∧ w = w') :
    Calls Try.prog 11 #[p, .int .i64 i, .string K, .string V] w fun e w' => e = .returned (.int .i64 (-22)) ∧ w = w' := by
  have HH := Lib.hid hh
  clear hh
  go_enter Try.func11, Try.ntmps11
  go_wp2_with (go_at_call 24; (with_reducible refine (HH.out).mono ?_); rintro e w' ⟨rfl, rfl⟩)
  go_ret
  exact ⟨rfl, rfl⟩

set_option maxHeartbeats 400000 in
theorem update_len (b i n cl gl vl : Nat) (size : Int) (K V : ByteArray) (w : World) (hi : i < n) (h1 : w.cell? ⟨b, 1, none⟩ = some (.slice (some ⟨gl, 0, none⟩) n cl)) (hs : w.cell? ⟨gl, i * 4 + 2, none⟩ = some (.int .i64 size)) (hV : V.size = vl)
    (hne : ((vl : Int) != size) = true)
    (hh : Calls Try.prog 24 #[.pointer (some ⟨b, 0, none⟩), .int .i64 i, .string K] w fun e w' => e = .returned (.bool true) ∧ w = w') :
    Calls Try.prog 11 #[.pointer (some ⟨b, 0, none⟩), .int .i64 i, .string K, .string V] w fun e w' => e = .returned (.int .i64 (-22)) ∧ w = w' := by
  have b1 : (0 : Int) ≤ (i : Int) := by omega
  have b2 : (i : Int) < (n : Int) := by omega
  have HH := Lib.hid hh
  clear hh
  go_enter Try.func11, Try.ntmps11
  go_wp2_with (go_at_call 24; (with_reducible refine (HH.out).mono ?_); rintro e w' ⟨rfl, rfl⟩)
  go_ret
  exact ⟨rfl, rfl⟩

set_option maxHeartbeats 400000 in
theorem update_off (b i n cl ct gl gt vl : Nat) (size why : Int) (T : TypeId) (v : Value) (f : Nat) (K V : ByteArray) (w : World) (hi : i < n) (h1 : w.cell? ⟨b, 1, none⟩ = some (.slice (some ⟨gl, 0, none⟩) n cl)) (hs : w.cell? ⟨gl, i * 4 + 2, none⟩ = some (.int .i64 size)) (hV : V.size = vl)
    (hne : ((vl : Int) != size) = false) (h2 : w.cell? ⟨b, 2, none⟩ = some (.slice (some ⟨gt, 0, none⟩) n ct)) (hc : w.cell? ⟨gt, i, none⟩ = some (.iface T v))
    (hh : Calls Try.prog 24 #[.pointer (some ⟨b, 0, none⟩), .int .i64 i, .string K] w fun e w' => e = .returned (.bool true) ∧ w = w')
    (hm : Face T v "firewall/maps.lay" f) (hf : Calls Try.prog f #[v, .string K] w fun e w' => e = .returned (.tuple #[.int .i64 (-1), .int .i64 why]) ∧ w = w') :
    Calls Try.prog 11 #[.pointer (some ⟨b, 0, none⟩), .int .i64 i, .string K, .string V] w fun e w' => e = .returned (.int .i64 why) ∧ w = w' := by
  have b1 : (0 : Int) ≤ (i : Int) := by omega
  have b2 : (i : Int) < (n : Int) := by omega
  have HH := Lib.hid hh
  have HF := Lib.hid hf
  obtain ⟨hm, he⟩ := hm
  clear hh hf
  go_enter Try.func11, Try.ntmps11
  go_wp2_with (go_at_call 24; (with_reducible refine (HH.out).mono ?_); rintro e w' ⟨rfl, rfl⟩)
  refine (HF.out).mono ?_
  rintro e w' ⟨rfl, rfl⟩
  go_wp2_with fail
  go_ret
  exact ⟨rfl, rfl⟩

set_option maxRecDepth 100000 in
set_option maxHeartbeats 1000000 in
theorem update_in (b mb i n cl ct gl gt vl p : Nat) (size why addr : Int) (T : TypeId) (v : Value) (f : Nat) (K V : ByteArray) (w : World) (hi : i < n) (h1 : w.cell? ⟨b, 1, none⟩ = some (.slice (some ⟨gl, 0, none⟩) n cl)) (hs : w.cell? ⟨gl, i * 4 + 2, none⟩ = some (.int .i64 size)) (hV : V.size = vl)
    (hne : ((vl : Int) != size) = false) (h2 : w.cell? ⟨b, 2, none⟩ = some (.slice (some ⟨gt, 0, none⟩) n ct)) (hc : w.cell? ⟨gt, i, none⟩ = some (.iface T v)) (hvl : vl ≤ 64) (ha0 : 0 ≤ addr) (ha1 : addr ≤ 100000000)
    (Q : World → Prop) (U : Nat → World → Prop)
    (hh : Calls Try.prog 24 #[.pointer (some ⟨b, 0, none⟩), .int .i64 i, .string K] w fun e w' => e = .returned (.bool true) ∧ w = w')
    (hm : Face T v "firewall/maps.lay" f) (hf : Calls Try.prog f #[v, .string K] w fun e w' => e = .returned (.tuple #[.int .i64 p, .int .i64 why]) ∧ Hid (Q w'))
    (hU0 : ∀ w', Q w' → U 0 w') (hmem : ∀ k W, U k W → W.cell? ⟨b, 3, none⟩ = some (.pointer (some ⟨mb, 0, none⟩)))
    (hval : ∀ k W, U k W → ∀ W', Fr No W W' → Calls Try.prog 27 #[.pointer (some ⟨b, 0, none⟩), .int .i64 i, .int .i64 p] W' fun e w' => e = .returned (.int .u64 addr) ∧ Fr No W' w')
    (hwr : ∀ k W (hk : k < V.size), U k W → ∀ W', Fr No W W' → Calls Try.prog 26 #[.pointer (some ⟨mb, 0, none⟩), .int .u64 (addr + k), .int .i64 1, .int .u64 (V[k].toNat : Int)] W' fun e w' => e = .returned (.int .i64 0) ∧ Hid (U (k + 1) w')) :
    Calls Try.prog 11 #[.pointer (some ⟨b, 0, none⟩), .int .i64 i, .string K, .string V] w fun e w' => e = .returned (.int .i64 0) ∧ U vl w' := by
  have b1 : (0 : Int) ≤ (i : Int) := by omega
  have b2 : (i : Int) < (n : Int) := by omega
  have HH := Lib.hid hh
  have HF := Lib.hid hf
  have HU0 := Lib.hid hU0
  have HMEM := Lib.hid hmem
  have HVAL := Lib.hid hval
  have HWR := Lib.hid hwr
  obtain ⟨hm, he⟩ := hm
  clear hh hf hU0 hmem hval hwr
  go_enter Try.func11, Try.ntmps11
  go_wp2_with (go_at_call 24; (with_reducible refine (HH.out).mono ?_); rintro e w' ⟨rfl, rfl⟩)
  refine (HF.out).mono ?_
  rintro e w1 ⟨rfl, HQ⟩
  have HU1 : Hid (U 0 w1) := HU0.out _ HQ.out
  clear h1 hs h2 hc hm he HQ HU0 HH HF
  go_wp2_with fail
  go_loopw [47] (fun s wr => ∃ k : Nat, k ≤ vl ∧ s = .int .i64 k ∧ Hid (U k wr)) (fun s _ => vl - (intOf s).toNat)
  case atStart => exact ⟨0, Nat.zero_le _, rfl, HU1⟩
  case round =>
    obtain ⟨k, hk, rfl, HU⟩ := hrel
    by_cases hlt : k < vl
    · have hkV : k < V.size := by rw [hV]; exact hlt
      have f1 : IntKind.u64.wrap (k : Int) = k := u64_nat k (by omega)
      have f2 : IntKind.u64.wrap (addr + (k : Int)) = addr + k := IntWalk.u64_in _ (by omega)
      have f3 : IntKind.u64.wrap (V[k].toNat : Int) = V[k].toNat := u64_nat _ (by have := V[k].toNat_lt; omega)
      have c3 := HMEM.out k wr HU.out
      have b3 : (0 : Int) ≤ (k : Int) := by omega
      have b4 : (k : Int) < (vl : Int) := by omega
      go_upto_region 16 with fail
      have HV1 : Hid (∀ W', Fr No wr W' → Calls Try.prog 27 #[.pointer (some ⟨b, 0, none⟩), .int .i64 i, .int .i64 p] W' fun e w' => e = .returned (.int .u64 addr) ∧ Fr No W' w') := HVAL.out k wr HU.out
      have HW1 : Hid (∀ W', Fr No wr W' → Calls Try.prog 26 #[.pointer (some ⟨mb, 0, none⟩), .int .u64 (addr + k), .int .i64 1, .int .u64 (V[k].toNat : Int)] W' fun e w' => e = .returned (.int .i64 0) ∧ Hid (U (k + 1) w') ∧ w'.cell? ⟨b, 3, none⟩ = some (.pointer (some ⟨mb, 0, none⟩))) := fun W' hW => (HWR.out k wr hkV HU.out W' hW).mono fun e w' ⟨he, hu⟩ => ⟨he, hu, HMEM.out _ w' hu.out⟩
      have HC3 := Lib.hid c3
      clear HVAL HWR HMEM HU1
      go_region_held3 (fun W => W.cell? ⟨b, 3, none⟩ = some (.pointer (some ⟨mb, 0, none⟩)))
        (first | go_keep | exact hf5.cell (by go_keep) id)
        (first
          | (go_at_call 27; (with_reducible refine (HV1.out _ (by exact (Fr.refl _ _).drew)).mono ?_); rintro e w5 ⟨rfl, hf5⟩)
          | (go_at_call 26; (with_reducible refine (HW1.out _ (by exact ((Fr.refl _ _).drew).trans hf5)).mono ?_); rintro e w6 ⟨rfl, HU6, hc6⟩))
      all_goals
        go_wp2_with fail
        go_roundw
        case rel => exact ⟨k + 1, by omega, by go_num, HU6⟩
        case measure => simp [intOf] <;> omega
    · obtain rfl : k = vl := by omega
      go_wp2_with fail
      go_ret
      exact ⟨rfl, HU.out⟩

end Go.Proofs.Ytlinnhaodkiolaa
