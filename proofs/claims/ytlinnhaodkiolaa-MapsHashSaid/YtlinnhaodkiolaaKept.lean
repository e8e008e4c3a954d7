/- firewalllaw08.kept: the chapter's maps. -/
import Derived.Test.YtlinnhaodkiolaaESame
import Derived.Test.YtlinnhaodkiolaaLaid7
namespace Go.Proofs.Ytlinnhaodkiolaa
open Go.RowKit

theorem mem_of_maps (l : List MapD) (h : mayL l = true) (u : Value) (W : World) (hu : RegsAt W u (mregsOf l)) :
    Calls Try.prog 17 #[u] W fun e w' => ∃ mb, e = .returned (.tuple #[.pointer (some ⟨mb, 0, none⟩), .int .i64 0]) ∧ Hid (MemAt w' mb (mregs l) (Made W w')) ∧ Fr No W w' := by
  have e1 : mregsOf l = mregs l := by unfold mregsOf; rw [if_pos h]
  rw [e1] at hu
  refine (new_is hu (by rw [mregs_length]; have := ((mayL_iff l).1 h).1; omega) (List.Perm.refl _) (mregs_wf h)).mono ?_
  rintro e w' ⟨b, he, hf, hm⟩
  exact ⟨b, he, hm, hf⟩

theorem maps_over (w0 : World) (l : List MapD) (h : mayL l = true) (v : Value) (mb : Nat) (T : Nat → Prop) (W : World) (hv : MapsIn W v l) (hm : MemAt W mb (mregs l) T) (hT : ∀ k, T k → From w0 k ∧ k < W.heap.size) (hf : Fr No w0 W) :
    Calls Try.prog 19 #[v, .pointer (some ⟨mb, 0, none⟩)] W fun e w' => ∃ b A H, e = .returned (.tuple #[.pointer (some ⟨b, 0, none⟩), .int .i64 0]) ∧ Hid (KSt w0 b mb (l.map Tab.new) (mregs l) A H T w') ∧ Hid (∀ k, A k ∨ H k ∨ T k → k < w'.heap.size) ∧ Fr No W w' := by
  have h4 := ((mayL_iff l).1 h).1
  refine (mnew_any hm (mregs_ok h) v l hv (by omega)).mono ?_
  intro e w' hq
  unfold NewQ at hq
  rw [if_pos ⟨h, holds_self h⟩] at hq
  obtain ⟨b, he, ⟨A, H, ha, hA, hH⟩, hf2⟩ := hq
  have hsz := hf.size
  have hsz2 := hf2.size
  refine ⟨b, A, H, he, ⟨ha, hm.fr hf2 (fun _ _ => id), fun k hk => ⟨fun hk2 => ?_, fun hk2 => ?_⟩, holds_new h (holds_self h), hf.trans hf2, fun k hk => ?_⟩, (fun k hk => ?_), hf2⟩
  · have := (hT k hk).2
    rcases hA k hk2 with h | h
    · omega
    · exact h
  · have := (hT k hk).2
    have := hH k hk2
    omega
  · rcases hk with hk | hk
    · have := hH k hk
      unfold From
      omega
    · exact (hT k hk).1
  · rcases hk with hk | hk | hk
    · rcases hA k hk with h | h
      · exact h.2
      · exact h.elim
    · exact (hH k hk).2
    · have := (hT k hk).2
      omega

theorem KSt.updates {w0 wr : World} {b mb : Nat} {S : List Tab} {m : List Reg} {A H T : Nat → Prop} (h : KSt w0 b mb S m A H T wr) (i : Int) (key val : List UInt8) (r : Int) (hr : (mupdate S m i key val).2 = r) :
    Calls Try.prog 11 #[.pointer (some ⟨b, 0, none⟩), .int .i64 i, .string ⟨key.toArray⟩, .string ⟨val.toArray⟩] wr fun e w' => e = .returned (.int .i64 r) ∧ Hid (KSt w0 b mb (mupdate S m i key val).1.1 (mupdate S m i key val).1.2 A H T w') ∧ Fr (Or2 H T) wr w' :=
  h.update i key val _ _ r (by rw [← hr])

theorem KSt.deletes {w0 wr : World} {b mb : Nat} {S : List Tab} {m : List Reg} {A H T : Nat → Prop} (h : KSt w0 b mb S m A H T wr) (i : Int) (key : List UInt8) (r : Int) (hr : (mdelete S i key).2 = r) :
    Calls Try.prog 10 #[.pointer (some ⟨b, 0, none⟩), .int .i64 i, .string ⟨key.toArray⟩] wr fun e w' => e = .returned (.int .i64 r) ∧ Hid (KSt w0 b mb (mdelete S i key).1 m A H T w') ∧ Fr H wr w' :=
  h.delete i key _ r (by rw [← hr])

theorem EntsAt.new (w : World) (l : List (List UInt8 × List UInt8)) (cap : Nat) : EntsAt (w.alloc (.cells (eflat (l.map bpair)).toArray 72)) (.slice (some ⟨w.heap.size, 0, none⟩) l.length cap) l :=
  .inr ⟨_, _, _, rfl, CellsAt.new _ _ _⟩

theorem esame_yes (v1 v2 : Value) (l : List (List UInt8 × List UInt8)) (w : World) (h1 : EntsAt w v1 l) (h2 : EntsAt w v2 l) (hm : l.length ≤ 4294967296) :
    Calls Try.prog 23 #[v1, v2] w fun e w' => e = .returned (.bool true) ∧ Fr No w w' :=
  (esame_any v1 v2 l l w h1 h2 hm).mono fun e w' ⟨⟨r, he, hr⟩, hf⟩ => ⟨by rw [he, hr.2 rfl], hf⟩

def keptL : List MapD := [⟨1, 4, 1, 2⟩, ⟨2, 1, 2, 1⟩]
def kS0 : List Tab := keptL.map Tab.new
def kM0 : List Reg := mregs keptL
def kU1 := mupdate kS0 kM0 1 [97] [120, 121]
def kU2 := mupdate kU1.1.1 kU1.1.2 1 [98] [120, 121]
def kU3 := mupdate kU2.1.1 kU2.1.2 0 [2, 0, 0, 0] [120]
def kU4 := mupdate kU3.1.1 kU3.1.2 0 [1, 0, 0, 0] [120]
def kD1 := mdelete kU4.1.1 0 [1, 0, 0, 0]
def kD2 := mdelete kD1.1 1 [97]
def kD3 := mdelete kD2.1 1 [97]

theorem keptIn (w : World) : MapsIn (w.alloc (.cells #[.int .i64 1, .int .i64 4, .int .i64 1, .int .i64 2, .int .i64 2, .int .i64 1, .int .i64 2, .int .i64 1] 49)) (.slice (some ⟨w.heap.size, 0, none⟩) 2 2) keptL :=
  .inr ⟨_, _, _, rfl, CellsAt.new w (mflat keptL) _⟩

set_option maxRecDepth 100000 in
set_option maxHeartbeats 2000000 in
theorem kept_any (w : World) : Calls Try.prog 7 #[] w fun e w' => e = .returned (.bool true) ∧ Fr No w w' := by
  have HI := Lib.hid (keptIn w)
  go_enter Try.func7, Try.ntmps7
  go_wp2_with fail
  refine (mregions_any _ keptL _ HI.out (by decide)).mono ?_
  rintro e w1 ⟨u, rfl, hu, hf1⟩
  have HF1 : Hid (Fr No w w1) := ((Fr.refl _ _).alloc _).trans hf1
  have HI1 : Hid (MapsIn w1 (.slice (some ⟨w.heap.size, 0, none⟩) 2 2) keptL) := HI.out.fr hf1
  have HU := Lib.hid hu
  clear hf1 hu HI
  go_wp2_with fail
  refine (mem_of_maps keptL (by decide) u w1 HU.out).mono ?_
  rintro e w2 ⟨mb, rfl, HM, hf2⟩
  have HF2 : Hid (Fr No w w2) := HF1.out.trans hf2
  have HI2 : Hid (MapsIn w2 (.slice (some ⟨w.heap.size, 0, none⟩) 2 2) keptL) := HI1.out.fr hf2
  have HT : Hid (∀ k, Made w1 w2 k → From w k ∧ k < w2.heap.size) := fun k hk => ⟨by have := HF1.out.size; have := hk.1; unfold From; omega, hk.2⟩
  generalize Made w1 w2 = T at HM HT
  clear hf2 HF1 HI1 HU
  go_wp2_with fail
  refine (maps_over w keptL (by decide) _ mb T w2 HI2.out HM.out HT.out HF2.out).mono ?_
  rintro e w3 ⟨b, A, H, rfl, HK, _, _⟩
  have HK3 : Hid (KSt w b mb kS0 kM0 A H T w3) := HK
  clear HK HM HT HI2 HF2
  go_wp2_with fail
  refine (HK3.out.len).mono ?_
  rintro e w4 ⟨rfl, rfl⟩
  go_wp2_with fail
  refine (HK3.out.lookup 0 [1, 0, 0, 0] 1048577 (by decide +kernel)).mono ?_
  rintro e w5 ⟨rfl, HK5, _⟩
  clear HK3
  go_wp2_with fail
  refine (HK5.out.lookup 0 [2, 0, 0, 0] 0 (by decide +kernel)).mono ?_
  rintro e w6 ⟨rfl, HK6, _⟩
  clear HK5
  go_wp2_with fail
  refine (HK6.out.lookup 1 [97] 0 (by decide +kernel)).mono ?_
  rintro e w7 ⟨rfl, HK7, _⟩
  clear HK6
  go_wp2_with fail
  refine (HK7.out.updates 1 [97] [120, 121] 0 (by decide +kernel)).mono ?_
  rintro e w8 ⟨rfl, HK, _⟩
  have HK8 : Hid (KSt w b mb kU1.1.1 kU1.1.2 A H T w8) := HK
  clear HK7 HK
  go_wp2_with fail
  refine (HK8.out.updates 1 [98] [120, 121] (-7) (by decide +kernel)).mono ?_
  rintro e w9 ⟨rfl, HK, _⟩
  have HK9 : Hid (KSt w b mb kU2.1.1 kU2.1.2 A H T w9) := HK
  clear HK8 HK
  go_wp2_with fail
  refine (HK9.out.lookup 1 [97] 1114112 (by decide +kernel)).mono ?_
  rintro e w10 ⟨rfl, HK10, _⟩
  clear HK9
  go_wp2_with fail
  refine (HK10.out.updates 0 [2, 0, 0, 0] [120] (-2) (by decide +kernel)).mono ?_
  rintro e w11 ⟨rfl, HK, _⟩
  have HK11 : Hid (KSt w b mb kU3.1.1 kU3.1.2 A H T w11) := HK
  clear HK10 HK
  go_wp2_with fail
  refine (HK11.out.updates 0 [1, 0, 0, 0] [120] 0 (by decide +kernel)).mono ?_
  rintro e w12 ⟨rfl, HK, _⟩
  have HK12 : Hid (KSt w b mb kU4.1.1 kU4.1.2 A H T w12) := HK
  clear HK11 HK
  go_wp2_with fail
  refine (HK12.out.deletes 0 [1, 0, 0, 0] (-22) (by decide +kernel)).mono ?_
  rintro e w13 ⟨rfl, HK, _⟩
  have HK13 : Hid (KSt w b mb kD1.1 kU4.1.2 A H T w13) := HK
  clear HK12 HK
  go_wp2_with fail
  refine (HK13.out.entries 0 [([0, 0, 0, 0], [0]), ([1, 0, 0, 0], [120])] (by decide +kernel)).mono ?_
  rintro e w14 ⟨ea, ec, rfl, HE, HK14, _⟩
  have HN : Hid (EntsAt (w14.alloc (.cells #[.string ⟨#[0, 0, 0, 0]⟩, .string ⟨#[0]⟩, .string ⟨#[1, 0, 0, 0]⟩, .string ⟨#[120]⟩] 72)) (.slice (some ⟨w14.heap.size, 0, none⟩) 2 2) [([0, 0, 0, 0], [0]), ([1, 0, 0, 0], [120])]) := EntsAt.new w14 [([0, 0, 0, 0], [0]), ([1, 0, 0, 0], [120])] 2
  clear HK13
  go_wp2_with fail
  refine (esame_yes _ _ [([0, 0, 0, 0], [0]), ([1, 0, 0, 0], [120])] _ (HE.out.fr ((Fr.refl _ _).alloc _)) HN.out (by decide)).mono ?_
  rintro e w15 ⟨rfl, hf15⟩
  have HK15 : Hid (KSt w b mb kD1.1 kU4.1.2 A H T w15) := HK14.out.to (((Fr.refl _ _).alloc _).trans hf15)
  clear HK14 HE HN hf15
  go_wp2_with fail
  refine (HK15.out.entries 1 [([97], [120, 121])] (by decide +kernel)).mono ?_
  rintro e w16 ⟨ea2, ec2, rfl, HE, HK16, _⟩
  have HN : Hid (EntsAt (w16.alloc (.cells #[.string ⟨#[97]⟩, .string ⟨#[120, 121]⟩] 72)) (.slice (some ⟨w16.heap.size, 0, none⟩) 1 1) [([97], [120, 121])]) := EntsAt.new w16 [([97], [120, 121])] 1
  clear HK15
  go_wp2_with fail
  refine (esame_yes _ _ [([97], [120, 121])] _ (HE.out.fr ((Fr.refl _ _).alloc _)) HN.out (by decide)).mono ?_
  rintro e w17 ⟨rfl, hf17⟩
  have HK17 : Hid (KSt w b mb kD1.1 kU4.1.2 A H T w17) := HK16.out.to (((Fr.refl _ _).alloc _).trans hf17)
  clear HK16 HE HN hf17
  go_wp2_with fail
  refine (HK17.out.deletes 1 [97] 0 (by decide +kernel)).mono ?_
  rintro e w18 ⟨rfl, HK, _⟩
  have HK18 : Hid (KSt w b mb kD2.1 kU4.1.2 A H T w18) := HK
  clear HK17 HK
  go_wp2_with fail
  refine (HK18.out.deletes 1 [97] (-2) (by decide +kernel)).mono ?_
  rintro e w19 ⟨rfl, HK, _⟩
  have HK19 : Hid (KSt w b mb kD3.1 kU4.1.2 A H T w19) := HK
  clear HK18 HK
  go_wp2_with fail
  refine (HK19.out.entries 1 [] (by decide +kernel)).mono ?_
  rintro e w20 ⟨ea3, ec3, rfl, HE, HK20, _⟩
  clear HK19 HE
  go_wp2_with fail
  go_ret
  exact ⟨rfl, HK20.out.fr⟩

end Go.Proofs.Ytlinnhaodkiolaa
