/- firewalllaw07.MemoryNone: the walk. -/
import Derived.Test.YtfhlnkgiiikbpaaCopy2
import Derived.Test.YtfhlnkgiiikbpaaRgn
import Derived.Test.YtfhlnkgiiikbpaaLaid7
namespace Go.Proofs.Ytfhlnkgiiikbpaa
open Go.RowKit

/-- a pointer to a memory that is none, beside the box of an act -/
structure NoneSt (w : World) (bx a V : Nat) (n : Int) (p : Value) (wr : World) : Prop where
  c1 : wr.cell? ⟨bx, 1, none⟩ = some (.int .u64 a)
  c2 : wr.cell? ⟨bx, 2, none⟩ = some (.int .u64 V)
  c3 : wr.cell? ⟨bx, 3, none⟩ = some (.int .i64 n)
  nn : ∀ W, Fr No wr W → Calls Try.prog 26 #[p] W fun e w' => e = .returned (.bool true) ∧ W = w'
  fr : Fr No w wr

theorem NoneSt.to {w : World} {bx a V : Nat} {n : Int} {p : Value} {wr w' : World} (h : NoneSt w bx a V n p wr) (hf : Fr No wr w') : NoneSt w bx a V n p w' :=
  ⟨hf.cell h.c1 id, hf.cell h.c2 id, hf.cell h.c3 id, fun W hW => h.nn W (hf.trans hW), h.fr.trans hf⟩

/-- what a call behind which the memory is none leaves -/
structure NoneOn (w : World) (bx a V : Nat) (n : Int) (p : Value) (wr : World) : Prop where
  st : Hid (NoneSt w bx a V n p wr)
  c1 : wr.cell? ⟨bx, 1, none⟩ = some (.int .u64 a)
  c2 : wr.cell? ⟨bx, 2, none⟩ = some (.int .u64 V)
  c3 : wr.cell? ⟨bx, 3, none⟩ = some (.int .i64 n)
theorem NoneSt.on {w : World} {bx a V : Nat} {n : Int} {p : Value} {wr : World} (h : NoneSt w bx a V n p wr) : NoneOn w bx a V n p wr := ⟨h, h.c1, h.c2, h.c3⟩

theorem NoneSt.read {w : World} {bx a V : Nat} {n : Int} {p : Value} {wr : World} (h : NoneSt w bx a V n p wr) : Calls Try.prog 12 #[p, .int .u64 a, .int .i64 n] wr fun e w' => e = .returned (.tuple #[.int .u64 0, .int .i64 1]) ∧ NoneOn w bx a V n p w' :=
  (read_none p a n wr (h.nn wr (Fr.refl _ _))).mono fun _ _ ⟨he, hf⟩ => ⟨he, (h.to hf).on⟩
theorem NoneSt.text {w : World} {bx a V : Nat} {n : Int} {p : Value} {wr : World} (h : NoneSt w bx a V n p wr) : Calls Try.prog 14 #[p, .int .u64 a, .int .i64 n] wr fun e w' => e = .returned (.tuple #[.string ⟨#[]⟩, .int .i64 1]) ∧ NoneOn w bx a V n p w' :=
  (text_none p a n wr (h.nn wr (Fr.refl _ _))).mono fun _ _ ⟨he, hf⟩ => ⟨he, hf ▸ h.on⟩
theorem NoneSt.write {w : World} {bx a V : Nat} {n : Int} {p : Value} {wr : World} (h : NoneSt w bx a V n p wr) : Calls Try.prog 13 #[p, .int .u64 a, .int .i64 n, .int .u64 V] wr fun e w' => e = .returned (.int .i64 1) ∧ NoneOn w bx a V n p w' :=
  (write_err p a n V 1 false wr rfl ((number_none p a n wr (h.nn wr (Fr.refl _ _))).mono fun _ _ ⟨he, hw⟩ => ⟨he, hw ▸ Fr.refl _ _⟩)).mono fun _ _ ⟨he, hf⟩ => ⟨he, (h.to hf).on⟩
theorem NoneSt.regions {w : World} {bx a V : Nat} {n : Int} {p : Value} {wr : World} (h : NoneSt w bx a V n p wr) : Calls Try.prog 11 #[p] wr fun e w' => e = .returned (.slice none 0 0) ∧ NoneOn w bx a V n p w' :=
  (regions_none p wr (h.nn wr (Fr.refl _ _))).mono fun _ _ ⟨he, hf⟩ => ⟨he, hf ▸ h.on⟩
theorem NoneSt.copy {w : World} {bx a V : Nat} {n : Int} {p : Value} {wr : World} (h : NoneSt w bx a V n p wr) : Calls Try.prog 15 #[p] wr fun e w' => e = .returned (.pointer none) ∧ NoneOn w bx a V n p w' :=
  (copy_none p wr (h.nn wr (Fr.refl _ _))).mono fun _ _ ⟨he, hf⟩ => ⟨he, hf ▸ h.on⟩

/-- the loop's head -/
def NoneRel (w : World) (bx a V : Nat) (n : Int) (s3 s4 : Value) (wr : World) : Prop :=
  ∃ (p : Value) (k : Int), 0 ≤ k ∧ k ≤ 2 ∧ s3 = p ∧ s4 = .int .i64 k ∧ NoneOn w bx a V n p wr

theorem NoneSt.next {w : World} {bx a V : Nat} {n : Int} {p : Value} {wr : World} (h : NoneSt w bx a V n p wr) :
    NoneOn w bx a V n (.pointer (some ⟨wr.heap.size, 0, none⟩)) (wr.alloc (.cells #[.bool false, .slice none 0 0] 59)) := by
  have hf : Fr No wr (wr.alloc (.cells #[.bool false, .slice none 0 0] 59)) := (Fr.refl _ _).alloc _
  have h2 := h.to hf
  exact NoneSt.on ⟨h2.c1, h2.c2, h2.c3, fun W hW => none_unmade _ _ (hW.cell (by rw [World.cell?_alloc_new]; rfl) id), h2.fr⟩

set_option maxRecDepth 100000 in
set_option maxHeartbeats 1000000 in
theorem none_walk (kind a V : Nat) (n : Int) (w : World) :
    Calls Try.prog 7 #[.agg #[.int .u8 kind, .int .u64 a, .int .u64 V, .int .i64 n]] w fun e w' => e = .returned (.bool true) ∧ Fr No w w' := by
  go_enter Try.func7, Try.ntmps7
  go_wp2_with fail
  go_loopw [3, 4] (fun s3 s4 wr => NoneRel w w.heap.size a V n s3 s4 wr) (fun _ s4 _ => (2 - intOf s4).toNat)
  case atStart =>
    refine ⟨.pointer none, 0, by omega, by omega, rfl, rfl, NoneSt.on ⟨?_, ?_, ?_, fun W _ => none_nil W, (Fr.refl _ _).alloc _⟩⟩ <;> (rw [World.cell?_alloc_new]; rfl)
  case round =>
    obtain ⟨p, k, k0, k2, rfl, rfl, HS, c1, c2, c3⟩ := hrel
    by_cases hlt : k < 2
    · have f1 : IntKind.i64.wrap (k + 1) = k + 1 := IntWalk.i64_in _ (by omega)
      go_wp2_with (first
        | (go_at_call 12; (with_reducible refine (HS.out.read).mono ?_); rintro e w1 ⟨rfl, HS1, d1, d2, d3⟩)
        | (go_at_call 14; (with_reducible refine (HS1.out.text).mono ?_); rintro e w2 ⟨rfl, HS2, e1, e2, e3⟩)
        | (go_at_call 13; (with_reducible refine (HS2.out.write).mono ?_); rintro e w3 ⟨rfl, HS3, g1, g2, g3⟩)
        | (go_at_call 11; (with_reducible refine (HS3.out.regions).mono ?_); rintro e w4 ⟨rfl, HS4, _, _, _⟩)
        | (go_at_call 15; (with_reducible refine (HS4.out.copy).mono ?_); rintro e w5 ⟨rfl, HS5, _, _, _⟩))
      go_roundw
      case rel => exact ⟨_, k + 1, by omega, by omega, rfl, rfl, HS5.out.next⟩
      case measure => simp [intOf] <;> omega
    · obtain rfl : k = 2 := by omega
      go_wp2_with (go_at_call 9; refine (laid_any _).mono ?_; rintro e w9 ⟨rfl, hlf⟩)
      go_ret
      exact ⟨rfl, HS.out.fr.trans hlf⟩

end Go.Proofs.Ytfhlnkgiiikbpaa
