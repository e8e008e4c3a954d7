/- firewalllaw08.hashed: a hash of so many places behind an array. -/
import Derived.Test.YtlinnhaodkiolaaKept
namespace Go.Proofs.Ytlinnhaodkiolaa
open Go.RowKit

def hashL (many : Nat) : List MapD := [⟨1, 4, 1, 3⟩, ⟨2, 2, 3, many⟩]

theorem hashL_may (many : Nat) (h1 : 1 ≤ many) (h16 : many ≤ 16) : mayL (hashL many) = true := by
  rw [mayL_iff]
  refine ⟨by simp [hashL], fun x hx => ?_⟩
  simp only [hashL, List.mem_cons, List.not_mem_nil, or_false] at hx
  rcases hx with rfl | rfl
  · decide
  · rw [MapD.may_iff]
    refine ⟨.inr ⟨rfl, show (1 : Int) ≤ 2 by decide, show (2 : Int) ≤ 8 by decide⟩, show (1 : Int) ≤ 3 by decide, show (3 : Int) ≤ 64 by decide, ?_, ?_⟩
    · show (1 : Int) ≤ (many : Int); omega
    · show (many : Int) ≤ 16; omega

set_option maxHeartbeats 1000000 in
theorem hashed_any (many : Nat) (h1 : 1 ≤ many) (h16 : many ≤ 16) (w : World) :
    Calls Try.prog 8 #[.int .i64 many] w fun e w' => ∃ b mb A H T, e = .returned (.tuple #[.pointer (some ⟨b, 0, none⟩), .pointer (some ⟨mb, 0, none⟩)]) ∧ Hid (KSt w b mb ((hashL many).map Tab.new) (mregs (hashL many)) A H T w') ∧ Hid (∀ k, A k ∨ H k ∨ T k → k < w'.heap.size) := by
  have hm := hashL_may many h1 h16
  have HM := Lib.hid hm
  have HI : Hid (MapsIn (w.alloc (.cells #[.int .i64 1, .int .i64 4, .int .i64 1, .int .i64 3, .int .i64 2, .int .i64 2, .int .i64 3, .int .i64 many] 49)) (.slice (some ⟨w.heap.size, 0, none⟩) 2 2) (hashL many)) := .inr ⟨_, _, _, rfl, CellsAt.new w (mflat (hashL many)) _⟩
  clear hm
  go_enter Try.func8, Try.ntmps8
  go_wp2_with fail
  refine (mregions_any _ (hashL many) _ HI.out (by simp [hashL])).mono ?_
  rintro e w1 ⟨u, rfl, hu, hf1⟩
  have HF1 : Hid (Fr No w w1) := ((Fr.refl _ _).alloc _).trans hf1
  have HI1 : Hid (MapsIn w1 (.slice (some ⟨w.heap.size, 0, none⟩) 2 2) (hashL many)) := HI.out.fr hf1
  have HU := Lib.hid hu
  clear hf1 hu HI
  go_wp2_with fail
  refine (mem_of_maps (hashL many) HM.out u w1 HU.out).mono ?_
  rintro e w2 ⟨mb, rfl, HMm, hf2⟩
  have HF2 : Hid (Fr No w w2) := HF1.out.trans hf2
  have HI2 : Hid (MapsIn w2 (.slice (some ⟨w.heap.size, 0, none⟩) 2 2) (hashL many)) := HI1.out.fr hf2
  have HT : Hid (∀ k, Made w1 w2 k → From w k ∧ k < w2.heap.size) := fun k hk => ⟨by have := HF1.out.size; have := hk.1; unfold From; omega, hk.2⟩
  generalize Made w1 w2 = T at HMm HT
  clear hf2 HF1 HI1 HU
  go_wp2_with fail
  refine (maps_over w (hashL many) HM.out _ mb T w2 HI2.out HMm.out HT.out HF2.out).mono ?_
  rintro e w3 ⟨b, A, H, rfl, HK, HB, _⟩
  clear HMm HT HI2 HF2
  go_wp2_with fail
  go_ret2
  exact ⟨b, mb, A, H, T, rfl, HK, HB⟩

end Go.Proofs.Ytlinnhaodkiolaa
