/- firewalllaw09.HelpersLaid: the walk. Arrays of bytes among the arguments, opened (printed by a program). The listed variable helpers.args: what a row's condition gives. -/
import Derived.Test.YtlinnhaodkiolaaDoorBundle16
import Derived.Test.YtlinnhaodkiolaaDoorBundle9
import Derived.Deep.CutBlock
import Derived.Deep.DeepCutAuto
import Derived.BigQuiet
import Derived.Test.YtlinnhaodkiolaaDoorBundle1
import Derived.ProofKit
import Derived.OpenShut
import Derived.Test.YtlinnhaodkiolaaDoorBundle13
import Derived.LaidMore
import Derived.Stop.Joined
namespace Go.Proofs.YtlinnhaodkiolaaDoor
open Go.RowKit

theorem regions_new {S : Nat → Prop} {w : World} {b : Nat} {m : List Reg} (h : MemAt w b m S) (hm : m.length ≤ 1000000) :
    Calls Tryd.prog 8 #[.pointer (some ⟨b, 0, none⟩)] w fun e w' => ∃ v, e = .returned v ∧ RegsAt w' v m ∧ Fr No w w' ∧ ∀ k, v.ownBlock = some k → w.heap.size ≤ k := by
  obtain ⟨v, l, rfl, h⟩ := h
  rcases h.list with ⟨rfl, rfl⟩ | ⟨bl, cap, rfl, hlt, hc, ho, hne⟩
  · refine (regions_empty b w h.made h.cell).mono ?_
    rintro e w' ⟨rfl, rfl⟩
    exact ⟨_, rfl, ⟨by simp, .inl ⟨rfl, _, _, rfl⟩⟩, Fr.refl _ _, fun k hk => by simp [Value.ownBlock] at hk⟩
  · refine (regions_walk b bl l.length cap l w h.made h.cell rfl hc (fun x hx => (h.here x hx).bytes) (by simpa using hm)).mono ?_
    rintro e w' ⟨v, rfl, hi⟩
    have hi' : RgnInv w (l.map (·.r)) (l.map (·.r)).length v w' := by simpa using hi
    exact ⟨v, rfl, hi'.regs h.wf.typed, hi.fr, fun k hk => (hi.own.lt _ hk).1⟩

set_option maxRecDepth 100000 in
theorem sign_22 (w : World) : Calls Tryd.prog 12 #[.int .u64 4294967274, .int .i64 32] w fun e w' => e = .returned (.int .u64 18446744073709551594) ∧ w = w' := by
  go_enter Tryd.func12, Tryd.ntmps12
  go_wp2_with fail
  go_ret
  have e : IntKind.u64.wrap (wrap64 (IntKind.u64.wrap (4294967274 * 2 ^ ((64 : Int) - min 32 64).toNat)) / 2 ^ ((64 : Int) - min 32 64).toNat) = 18446744073709551594 := by decide +kernel
  refine ⟨?_, rfl⟩
  show Ending.returned (.int .u64 (IntKind.u64.wrap (wrap64 (IntKind.u64.wrap (4294967274 * 2 ^ ((64 : Int) - min 32 64).toNat)) / 2 ^ ((64 : Int) - min 32 64).toNat))) = _
  rw [e]

/-- the world that HelpersLaid makes -/
def LAt (k0 k1 v0 v1 v2 v3 : UInt8) (w0 : World) (bw b mb : Nat) (S : List Tab) (m : List Reg) (A H T : Nat → Prop) (wr : World) : Prop := ∃ mv ov dv, WAt w0 bw b mb lD 10 (ownL 10 7 (lP k0 k1 v0 v1 v2 v3) lD) [] S m A H T mv ov dv wr

set_option maxRecDepth 100000 in
set_option maxHeartbeats 4000000 in
theorem laid_walk (k0 k1 v0 v1 v2 v3 : UInt8) (flag : Nat) (hfl : flag < 18446744073709551616) (w : World) (ha : ArgsAt w) :
    Calls Tryd.prog 4 #[.agg #[.int .u8 k0.toNat, .int .u8 k1.toNat], .agg #[.int .u8 v0.toNat, .int .u8 v1.toNat, .int .u8 v2.toNat, .int .u8 v3.toNat], .int .u64 flag] w fun e w' => e = .returned (.bool true) ∧ Fr No w w' := by
  have HC : Hid (∀ W, Fr No w W → Calls Tryd.prog 10 #[] W fun e w' => e = .returned (.bool true) ∧ Fr No W w') := fun W hW => called_any W (ha.fr hW)
  have HA := Lib.hid ha
  clear ha
  go_enter Tryd.func4, Tryd.ntmps4
  go_upto_region 2 with fail
  obtain ⟨Wa, hWa⟩ : ∃ Wa, Wa = (w.alloc (.cells #[.int .u8 k0.toNat, .int .u8 k1.toNat] 49)).alloc (.cells #[.int .u8 v0.toNat, .int .u8 v1.toNat, .int .u8 v2.toNat, .int .u8 v3.toNat] 50) := ⟨_, rfl⟩
  have za : Wa.heap.size = w.heap.size + 1 + 1 := by rw [hWa]; simp only [World.alloc, Array.size_push]
  have fa : Fr No w Wa := by rw [hWa]; exact ((Fr.refl _ _).alloc _).alloc _
  have ca : CellsAt Wa w.heap.size 0 (u8s [k0, k1]) := by rw [hWa]; exact ((Fr.refl No _).alloc _).cells (CellsAt.new w (u8s [k0, k1]) _) id
  have cv : CellsAt Wa (w.heap.size + 1) 0 (u8s [v0, v1, v2, v3]) := by
    have := CellsAt.new (w.alloc (.cells #[.int .u8 k0.toNat, .int .u8 k1.toNat] 49)) (u8s [v0, v1, v2, v3]) 50
    rw [World.size_alloc] at this
    rw [hWa]
    exact this
  rw [← hWa]
  obtain ⟨Wb, hWb⟩ : ∃ Wb, Wb = Wa.alloc (.cells #[.int .i64 1, .int .i64 4, .int .i64 8, .int .i64 2, .int .i64 2, .int .i64 2, .int .i64 4, .int .i64 3] 24) := ⟨_, rfl⟩
  have zb : Wb.heap.size = w.heap.size + 1 + 1 + 1 := by rw [hWb, ← za]; simp only [World.alloc, Array.size_push]
  have fb : Fr No Wa Wb := by rw [hWb]; exact (Fr.refl _ _).alloc _
  have mb : CellsAt Wb (w.heap.size + 1 + 1) 0 (mflat lD) := by rw [hWb, ← za]; exact CellsAt.new Wa [.int .i64 1, .int .i64 4, .int .i64 8, .int .i64 2, .int .i64 2, .int .i64 2, .int .i64 4, .int .i64 3] _
  rw [← hWb]
  obtain ⟨W0, hW0⟩ : ∃ W0, W0 = Wb.alloc (.cells #[.slice (some ⟨w.heap.size + 1 + 1, 0, none⟩) 2 2, .int .i64 10] 27) := ⟨_, rfl⟩
  have fc : Fr No Wb W0 := by rw [hW0]; exact (Fr.refl _ _).alloc _
  have cc : CellsAt W0 (w.heap.size + 1 + 1 + 1) 0 [.slice (some ⟨w.heap.size + 1 + 1, 0, none⟩) 2 2, .int .i64 10] := by rw [hW0, ← zb]; exact CellsAt.new Wb [.slice (some ⟨w.heap.size + 1 + 1, 0, none⟩) 2 2, .int .i64 10] _
  rw [← hW0]
  have HF0 := Lib.hid ((fa.trans fb).trans fc)
  have HCK := Lib.hid (fc.cells (fb.cells ca id) id)
  have HCV := Lib.hid (fc.cells (fb.cells cv id) id)
  have HM0 := Lib.hid (fc.cells mb id)
  have HCL := Lib.hid cc
  clear hWa za fa ca cv hWb zb fb mb hW0 fc cc
  have HCV0 : Hid (∀ W, Fr No W0 W → (convert 35 9 (.slice (some ⟨w.heap.size + 1, 0, none⟩) 4 4)).run Tryd.prog W = .ok (.string ⟨#[v0, v1, v2, v3]⟩) W) := fun W hW => str_at (hW.cells HCV.out id) 4
  go_cut [8] (fun s8 wx => s8 = .string ⟨#[97, 98, 99, k0, k1, v0, v1, v2, v3, 122]⟩ ∧ Hid (Fr No W0 wx))
  case first =>
    have hc1 : ∀ W, Fr No W0 W → (convert 35 9 (.slice (some ⟨w.heap.size, 0, none⟩) 2 2)).run Tryd.prog W = .ok (.string ⟨#[k0, k1]⟩) W := fun W hW => str_at (hW.cells HCK.out id) 2
    have c1 := fun n => hc1 (W0.drewN n) ((Fr.refl _ _).drewN n)
    have c2 := fun n => HCV0.out (W0.drewN n) ((Fr.refl _ _).drewN n)
    have a1 : ∀ W, (Op.stringOp .add ⟨#[97, 98, 99]⟩ ⟨#[k0, k1]⟩).run Tryd.prog W = .ok (.string ⟨#[97, 98, 99, k0, k1]⟩) W := fun W => rfl
    have a2 : ∀ W, (Op.stringOp .add ⟨#[97, 98, 99, k0, k1]⟩ ⟨#[v0, v1, v2, v3]⟩).run Tryd.prog W = .ok (.string ⟨#[97, 98, 99, k0, k1, v0, v1, v2, v3]⟩) W := fun W => rfl
    have a3 : ∀ W, (Op.stringOp .add ⟨#[97, 98, 99, k0, k1, v0, v1, v2, v3]⟩ ⟨#[122]⟩).run Tryd.prog W = .ok (.string ⟨#[97, 98, 99, k0, k1, v0, v1, v2, v3, 122]⟩) W := fun W => rfl
    clear hc1
    go_quiet (fail)
    all_goals go_wp2_with fail
    all_goals go_meet
    all_goals exact ⟨rfl, (Fr.refl _ _).drewN _⟩
  case rest =>
    obtain ⟨rfl, HF1⟩ := hcut
    have l0 := HF1.out.cell (HCL.out 0 _ rfl) id
    have l1 := HF1.out.cell (HCL.out 1 _ rfl) id
    rw [Nat.zero_add] at l0 l1
    have HNW := Lib.hid (hnew_made (lP k0 k1 v0 v1 v2 v3) ⟨#[97, 98, 99, k0, k1, v0, v1, v2, v3, 122]⟩ 10 7 (.slice (some ⟨w.heap.size + 1 + 1, 0, none⟩) 2 2) (.slice none 0 0) (.slice none 0 0) lD wc rfl rfl (.inr ⟨_, 0, 2, rfl, HF1.out.cells HM0.out id⟩) l_may [] 0 0 none (.inl ⟨rfl, rfl, rfl⟩) rfl rfl more_nil [] (.inl ⟨rfl, none, 0, rfl⟩) (by decide) (by decide) (by decide))
    have HA1 := Lib.hid (HA.out.fr (HF0.out.trans HF1.out))
    go_wp2_with fail
    refine (HNW.out).mono ?_
    rintro e w1 ⟨bw, b, mb, A, H, T, mv, ov, dv, rfl, HW1, _⟩
    have HM : Hid (MemAt w1 mb (lM k0 k1 v0 v1 v2 v3) T) := HW1.out.k.mem
    have HLT := Lib.hid HW1.out.lt
    clear l0 l1 HNW HCL HCK HM0
    go_wp2_with fail
    refine (hmemory_any bw mb w1 HW1.out.c0 HW1.out.c4).mono ?_
    rintro e w2 ⟨rfl, rfl⟩
    go_wp2_with fail
    refine (regions_new HM.out (by rw [(l_len k0 k1 v0 v1 v2 v3).2]; decide)).mono ?_
    rintro e w2 ⟨u, rfl, hu, hf2, hnew⟩
    obtain ⟨g1, o1, c1, rfl, HU⟩ : ∃ g o c, u = .slice (some ⟨g, o, none⟩) 7 c ∧ Hid (CellsAt w2 g o (aflat (lM k0 k1 v0 v1 v2 v3))) := by
      rcases hu.2 with ⟨h0, _⟩ | ⟨g, o, c, h1, h2⟩
      · exact absurd h0 (by rw [l_form]; simp)
      · exact ⟨g, o, c, h1, h2⟩
    have HG1 : Hid (w1.heap.size ≤ g1) := hnew g1 rfl
    have HW2 := Lib.hid (HW1.out.to hf2)
    have HZ2 : Hid (w1.heap.size ≤ w2.heap.size) := hf2.size
    have HLL : Hid ((memL 10 7 (lP k0 k1 v0 v1 v2 v3) lD []).length ≤ 1000000) := Lib.hid (by show (lM k0 k1 v0 v1 v2 v3).length ≤ 1000000; rw [(l_len k0 k1 v0 v1 v2 v3).2]; decide)
    clear hu hnew hf2 HW1 HM
    go_upto_if 51 with fail
    obtain ⟨W3, hW3⟩ : ∃ W3, W3 = w2.alloc (.cells #[.int .u64 9437185, .int .u64 196611, .int .u64 196613, .int .u64 flag, .int .u64 9] 44) := ⟨_, rfl⟩
    have f3 : Fr No w2 W3 := by rw [hW3]; exact (Fr.refl _ _).alloc _
    have ac : CellsAt W3 w2.heap.size 0 [.int .u64 9437185, .int .u64 196611, .int .u64 196613, .int .u64 flag, .int .u64 9] := by rw [hW3]; exact CellsAt.new w2 [.int .u64 9437185, .int .u64 196611, .int .u64 196613, .int .u64 flag, .int .u64 9] _
    have fz : W3.frozen? ⟨w2.heap.size, 3, none⟩ = false := by rw [hW3]; exact World.frozen?_alloc_new _ _ _ _
    rw [← hW3]
    have HW3 := Lib.hid (HW2.out.to f3)
    have HF3 := Lib.hid f3
    have HAC : Hid (∀ W, Fr No W3 W → W.cell? ⟨w2.heap.size, 0, none⟩ = some (.int .u64 9437185) ∧ W.cell? ⟨w2.heap.size, 1, none⟩ = some (.int .u64 196611) ∧ W.cell? ⟨w2.heap.size, 2, none⟩ = some (.int .u64 196613) ∧ W.cell? ⟨w2.heap.size, 3, none⟩ = some (.int .u64 flag) ∧ W.cell? ⟨w2.heap.size, 4, none⟩ = some (.int .u64 9)) := fun W hW =>
      ⟨hW.cell (ac 0 _ rfl) id, hW.cell (ac 1 _ rfl) id, hW.cell (ac 2 _ rfl) id, hW.cell (ac 3 _ rfl) id, hW.cell (ac 4 _ rfl) id⟩
    have HFZ : Hid (∀ W, Fr No W3 W → W.frozen? ⟨w2.heap.size, 3, none⟩ = false) := fun W hW => by rw [hW.frozen (ac 3 _ rfl) id]; exact fz
    clear hW3 f3 ac fz
    obtain ⟨t, ht⟩ : ∃ t, ((flag : Int) != 0) = t := ⟨_, rfl⟩
    go_cut [9] (fun s9 wx => s9 = .pointer (some ⟨bw, 0, none⟩) ∧ Hid (Fr No W3 wx))
    case first =>
      cases t with
      | false =>
        go_wp2_with fail
        go_meet
        exact ⟨rfl, Fr.refl _ _⟩
      | true =>
        obtain ⟨m0, m1, m2, m3, m4⟩ := HAC.out W3 (Fr.refl _ _)
        have hq : ((flag : Int) == 0) = false := by simpa using ht
        have HFL := Lib.hid (wcall_flag HW3.out HA1.out rfl (by decide) (i := 1) (x := ⟨2, 2, 4, 3⟩) rfl 196611 196613 flag 9 (by decide) (by decide) (by decide) (by decide) (by decide) (by decide) [k0, k1] [v0, v1, v2, v3] (l_key k0 k1 v0 v1 v2 v3) (l_val k0 k1 v0 v1 v2 v3) hq)
        clear hq
        go_wp2_with fail
        refine (HFL.out).mono ?_
        rintro e w4 ⟨rfl, h4⟩
        have HW4 := Lib.hid h4.out.1
        have HF4 := Lib.hid h4.out.2
        clear HFL h4 m0 m1 m2 m3 m4
        go_wp2_with fail
        refine (sign_22 _).mono ?_
        rintro e w5 ⟨rfl, rfl⟩
        go_wp2_with fail
        refine (hmemory_any bw mb w4 HW4.out.c0 HW4.out.c4).mono ?_
        rintro e w5 ⟨rfl, rfl⟩
        go_wp2_with fail
        refine (regions_any HW4.out.k.mem HLL.out).mono ?_
        rintro e w5 ⟨u, rfl, hu, hf5⟩
        have HUO : Hid (RegsAt w5 (.slice (some ⟨g1, o1, none⟩) 7 c1) (lM k0 k1 v0 v1 v2 v3)) := ⟨hu.1, .inr ⟨g1, o1, c1, rfl, ((HF3.out.trans HF4.out).trans hf5).cells HU.out id⟩⟩
        go_wp2_with fail
        refine (same_any _ _ _ _ w5 hu HUO.out (Nat.le_trans HLL.out (by decide))).mono ?_
        rintro e w6 ⟨⟨r, rfl, hr⟩, hf6⟩
        obtain rfl : r = true := hr.2 rfl
        go_wp2_with fail
        go_meet
        exact ⟨rfl, (HF4.out.trans hf5).trans hf6⟩
    case rest =>
      obtain ⟨rfl, HF4⟩ := hcut
      have HFP := Lib.hid (HF1.out.trans HW3.out.k.fr)
      clear ht hfl HLL
      have hz := HFZ.out _ HF4.out
      obtain ⟨m0, m1, m2, m3, m4⟩ := HAC.out _ HF4.out
      go_upto_region 13 with fail
      obtain ⟨W4, hW4⟩ : ∃ W4, W4 = wc.setCell ⟨w2.heap.size, 3, none⟩ (.int .u64 0) := ⟨_, rfl⟩
      have f4 : Fr No w2 W4 := by
        have h1 : Fr (From w2) w2 W4 := by
          rw [hW4]
          exact ((HF3.out.trans HF4.out).any).setCell (p := ⟨w2.heap.size, 3, none⟩) (.inl (Nat.le_refl _)) _
        exact h1.ours
      have s3 : W4.cell? ⟨w2.heap.size, 3, none⟩ = some (.int .u64 0) := by rw [hW4]; exact World.cell?_setCell_same _ _ _ m3
      have so : ∀ j v, j ≠ 3 → wc.cell? ⟨w2.heap.size, j, none⟩ = some v → W4.cell? ⟨w2.heap.size, j, none⟩ = some v := fun j v hj hc => by
        rw [hW4, World.cell?_setCell_other _ _ _ _ (by intro e; simp only [Addr.mk.injEq] at e; omega)]; exact hc
      have s0 := so 0 _ (by decide) m0
      have s1 := so 1 _ (by decide) m1
      have s2 := so 2 _ (by decide) m2
      have s4 := so 4 _ (by decide) m4
      rw [← hW4]
      have HW5 := Lib.hid (HW2.out.to f4)
      have HU4 := Lib.hid (f4.cells HU.out id)
      clear hW4 so m0 m1 m2 m3 m4 hz HAC HFZ HW3 HW2 HF3 HF4 HU
      have HNB : Hid (∀ q, w1.heap.size ≤ q → ¬ Or2 H T q) := fun q hq h => by
        have := HLT.out q (h.elim (fun h => .inr (.inl h)) (fun h => .inr (.inr h)))
        omega
      have HUP := Lib.hid (wcall_update HW5.out HA1.out rfl (by decide) (i := 1) (x := ⟨2, 2, 4, 3⟩) rfl 196611 196613 9 (by decide) (by decide) (by decide) (by decide) (by decide) (by decide) [k0, k1] [v0, v1, v2, v3] (l_key k0 k1 v0 v1 v2 v3) (l_val k0 k1 v0 v1 v2 v3) 0 (by rw [show mupdate (List.map Tab.new lD) (memL 10 7 (lP k0 k1 v0 v1 v2 v3) lD []) ((1 : Nat) : Int) [k0, k1] [v0, v1, v2, v3] = _ from l_upd k0 k1 v0 v1 v2 v3]; rfl))
      go_wp2_with fail
      refine (HUP.out).mono ?_
      rintro e w5 ⟨rfl, h5⟩
      have HW6 : Hid (WAt _ bw b mb lD 10 (ownL 10 7 (lP k0 k1 v0 v1 v2 v3) lD) [] (lS1 k0 k1) (lM1 k0 k1 v0 v1 v2 v3) A H T mv ov dv w5) := Lib.hid (by
        have := h5.out.1
        rw [show mupdate (List.map Tab.new lD) (memL 10 7 (lP k0 k1 v0 v1 v2 v3) lD []) ((1 : Nat) : Int) [k0, k1] [v0, v1, v2, v3] = _ from l_upd k0 k1 v0 v1 v2 v3] at this
        exact this)
      have f5 := h5.out.2
      have HU5 := Lib.hid (f5.cells HU4.out (HNB.out g1 HG1.out))
      have n5 := HNB.out w2.heap.size HZ2.out
      have t0 := f5.cell s0 n5
      have t1 := f5.cell s1 n5
      have t2 := f5.cell s2 n5
      have t3 := f5.cell s3 n5
      have t4 := f5.cell s4 n5
      clear HUP h5 f5 HU4 n5 HW5 s0 s1 s2 s3 s4 f4
      have HLK := Lib.hid (wcall_lookup HW6.out HA1.out rfl (by decide) (i := 1) (x := ⟨2, 2, 4, 3⟩) rfl 196611 196613 0 9 (by decide) (by decide) (by decide) [k0, k1] (l_key1 k0 k1 v0 v1 v2 v3))
      go_wp2_with fail
      refine (HLK.out).mono ?_
      rintro e w6 ⟨he, h6⟩
      obtain rfl : e = .returned (.tuple #[.int .u64 1114112, .int .i64 0]) := by rw [he]; exact congrArg (fun x => Ending.returned (.tuple #[.int .u64 x, .int .i64 0])) (l_look k0 k1)
      have HW7 := Lib.hid h6.out.1
      have HF7 := Lib.hid h6.out.2
      have HAC : Hid (∀ W, Fr No w6 W → W.cell? ⟨w2.heap.size, 0, none⟩ = some (.int .u64 9437185) ∧ W.cell? ⟨w2.heap.size, 1, none⟩ = some (.int .u64 196611) ∧ W.cell? ⟨w2.heap.size, 2, none⟩ = some (.int .u64 196613) ∧ W.cell? ⟨w2.heap.size, 3, none⟩ = some (.int .u64 0) ∧ W.cell? ⟨w2.heap.size, 4, none⟩ = some (.int .u64 9)) := fun W hW =>
        ⟨(HF7.out.trans hW).cell t0 id, (HF7.out.trans hW).cell t1 id, (HF7.out.trans hW).cell t2 id, (HF7.out.trans hW).cell t3 id, (HF7.out.trans hW).cell t4 id⟩
      clear HLK he h6 t0 t1 t2 t3 t4 HW6
      go_wp2_with fail
      refine (hmemory_any bw mb w6 HW7.out.c0 HW7.out.c4).mono ?_
      rintro e w7 ⟨rfl, rfl⟩
      go_wp2_with fail
      refine (HW7.out.k.text 1114112 4 ([v0, v1, v2, v3], 0) (by decide) (by decide) (by decide) (l_text k0 k1 v0 v1 v2 v3)).mono ?_
      rintro e w7 ⟨rfl, _, hf8⟩
      have HW8 := Lib.hid (HW7.out.to hf8)
      have HF8 := Lib.hid hf8
      clear hf8 HW7
      go_wp2_with fail
      refine (hmemory_any bw mb w7 HW8.out.c0 HW8.out.c4).mono ?_
      rintro e w8 ⟨rfl, rfl⟩
      go_wp2_with fail
      refine (regions_any HW8.out.k.mem (by rw [(l_len k0 k1 v0 v1 v2 v3).1]; decide)).mono ?_
      rintro e w9 ⟨u, rfl, hu, hf9⟩
      obtain ⟨g2, o2, c2, rfl, HU2⟩ : ∃ g o c, u = .slice (some ⟨g, o, none⟩) 7 c ∧ Hid (CellsAt w9 g o (aflat (lM1 k0 k1 v0 v1 v2 v3))) := by
        rcases hu.2 with ⟨h0, _⟩ | ⟨g, o, c, h1, h2⟩
        · exact absurd h0 (by unfold lM1; simp)
        · exact ⟨g, o, c, h1, h2⟩
      have HW9 := Lib.hid (HW8.out.to hf9)
      have HF9 := Lib.hid ((HF7.out.trans HF8.out).trans hf9)
      have HF9' := Lib.hid (HF8.out.trans hf9)
      have HU9 := Lib.hid (HF9.out.cells HU5.out id)
      clear hu hf9 HW8 HU5
      have hcv := HCV0.out w9 (HF1.out.trans HW9.out.k.fr)
      have hl1 : g1 < w9.heap.size := World.block_lt_of_cell? w9 _ (HU9.out 0 _ rfl)
      have hl2 : g2 < w9.heap.size := World.block_lt_of_cell? w9 _ (HU2.out 0 _ rfl)
      go_wp2_with fail
      clear hcv
      go_loopw [22] (fun s wr => ∃ i : Nat, i ≤ 7 ∧ s = .int .i64 i ∧ Hid (Fr No w9 wr)) (fun s _ => 7 - (intOf s).toNat)
      case atStart => exact ⟨0, Nat.zero_le _, rfl, Fr.refl _ _⟩
      case round =>
        obtain ⟨i, hi, rfl, HFi⟩ := hrel
        have hz := HFi.out.size
        have hb1 : g1 < wr.heap.size := by omega
        have hb2 : g2 < wr.heap.size := by omega
        clear hl1 hl2 hz
        by_cases hlt : i < 7
        · obtain ⟨x, y, hx, hy, hxy⟩ := l_at k0 k1 v0 v1 v2 v3 i hlt
          obtain ⟨k0', k1', k2'⟩ := areg_cells (HFi.out.cells HU2.out id) hx
          obtain ⟨m0', m1', m2'⟩ := areg_cells (HFi.out.cells HU9.out id) hy
          obtain ⟨r, q1, hr⟩ : ∃ r : Bool, (∀ w, (binOp .neq 30 (.agg #[.int .u64 x.base, .string ⟨x.data.toArray⟩, .bool x.free]) (.agg #[.int .u64 y.base, .string ⟨y.data.toArray⟩, .bool y.free])).run Tryd.prog w = .ok (.bool r) w) ∧ (x = y → r = false) := by
            refine ⟨_, neq_areg _ _ _ _ _ _, ?_⟩
            rintro rfl
            simp
          have b1 : (0 : Int) ≤ (i : Int) := by omega
          have b2 : (i : Int) < 7 := by omega
          have hxb : r = true → x.base = 1114112 := fun h => hxy.resolve_left (fun e => by rw [hr e] at h; cases h)
          clear hx hy hxy hr hlt
          generalize (⟨x.data.toArray⟩ : ByteArray) = s1 at *
          generalize (⟨y.data.toArray⟩ : ByteArray) = s2 at *
          generalize x.base = a1 at *
          generalize y.base = a2 at *
          generalize x.free = f1 at *
          generalize y.free = f2 at *
          have q2 := guard_areg
          cases r with
          | false =>
            clear hxb
            go_wp2_with fail
            go_quiet (fail)
            go_wp2_with fail
            go_roundw
            case rel => exact ⟨i + 1, by omega, by go_num, HFi.out.drewN _⟩
            case measure => simp [intOf] <;> omega
          | true =>
            obtain rfl := hxb rfl
            clear hxb
            go_wp2_with fail
            go_quiet (fail)
            go_wp2_with fail
            go_roundw
            case rel => exact ⟨i + 1, by omega, by go_num, HFi.out.drewN _⟩
            case measure => simp [intOf] <;> omega
        · obtain rfl : i = 7 := by omega
          have HWA := Lib.hid (HW9.out.to HFi.out)
          have HFA := Lib.hid (HF9'.out.trans HFi.out)
          obtain ⟨m0, m1, m2, m3, m4⟩ := HAC.out _ HFA.out
          have HDL := Lib.hid (wcall_delete HWA.out HA1.out rfl (by decide) (i := 1) (x := ⟨2, 2, 4, 3⟩) rfl 196611 196613 0 9 (by decide) (by decide) (by decide) [k0, k1] (l_key1 k0 k1 v0 v1 v2 v3) 0 (by rw [show mdelete (lS1 k0 k1) ((1 : Nat) : Int) [k0, k1] = _ from l_del k0 k1]; rfl))
          clear hlt HW9 HU2 HU9 HFi
          go_wp2_with fail
          refine (HDL.out).mono ?_
          rintro e w10 ⟨rfl, h10⟩
          have HWB : Hid (WAt _ bw b mb lD 10 (ownL 10 7 (lP k0 k1 v0 v1 v2 v3) lD) [] lS (lM1 k0 k1 v0 v1 v2 v3) A H T mv ov dv w10) := Lib.hid (by
            have := h10.out.1
            rw [show mdelete (lS1 k0 k1) ((1 : Nat) : Int) [k0, k1] = _ from l_del k0 k1] at this
            exact this)
          have f10 := h10.out.2
          have n10 : ¬ H w2.heap.size := fun h => HNB.out w2.heap.size HZ2.out (.inl h)
          have t0 := f10.cell m0 n10
          have t1 := f10.cell m1 n10
          have t2 := f10.cell m2 n10
          have t3 := f10.cell m3 n10
          have t4 := f10.cell m4 n10
          clear HDL h10 f10 n10 m0 m1 m2 m3 m4 HWA HFA
          have HLK := Lib.hid (wcall_lookup HWB.out HA1.out rfl (by decide) (i := 1) (x := ⟨2, 2, 4, 3⟩) rfl 196611 196613 0 9 (by decide) (by decide) (by decide) [k0, k1] (l_key1 k0 k1 v0 v1 v2 v3))
          go_wp2_with fail
          refine (HLK.out).mono ?_
          rintro e w11 ⟨he, h11⟩
          obtain rfl : e = .returned (.tuple #[.int .u64 0, .int .i64 0]) := by rw [he]; exact congrArg (fun x => Ending.returned (.tuple #[.int .u64 x, .int .i64 0])) (l_none k0 k1)
          have HFE := Lib.hid ((HF0.out.trans HF1.out).trans h11.out.1.k.fr)
          clear HLK he h11 HWB t0 t1 t2 t3 t4
          go_wp2_with fail
          refine (HC.out _ HFE.out).mono ?_
          rintro e w12 ⟨rfl, hf12⟩
          go_wp2_with fail
          go_ret
          exact ⟨rfl, HFE.out.trans hf12⟩
end Go.Proofs.YtlinnhaodkiolaaDoor

namespace Go.Proofs.YtlinnhaodkiolaaDoor
open Go.ChangeShapes Go.WideShapes Go.ChangeAt Go.RowKit

theorem byte_ofI {n : Int} (h0 : 0 ≤ n) (h1 : n < 256) : ∃ b : UInt8, n = (b.toNat : Int) := ⟨UInt8.ofNat n.toNat, by simp; omega⟩
theorem cells_b1 : Tryd.prog.cellsOf 5 = 1 := by kernel_rfl
theorem cells_b2 : Tryd.prog.cellsOf 49 = 2 := by kernel_rfl
set_option maxRecDepth 100000 in
theorem open_b2 {H : Type} {enc : TypeId × Value → H} {r : Reach} {base bb : Nat} {spare : Nat → Bool} {held : Bool} {w : World} {v : Value} {d : DataW H} {p : List MemPlace} (hv : Value.okWide Tryd.prog w r bb 49 v) (h : DataW.Trod enc Tryd.prog w base spare held 49 v d p) :
    ∃ b0 b1 : UInt8, v = .agg #[.int .u8 b0.toNat, .int .u8 b1.toNat] := by
  unfold Value.okWide at hv
  rw [Tryd.underlying49] at hv
  obtain ⟨cs, rfl, hsz, _⟩ := hv
  rw [cells_b2] at hsz
  obtain ⟨c0, c1, rfl⟩ : ∃ c0 c1, cs = #[c0, c1] := by
    match cs, hsz with
    | ⟨[c0, c1]⟩, _ => exact ⟨c0, c1, rfl⟩
  obtain ⟨fuel, hf⟩ := h
  obtain ⟨xs, m, rfl, hx, hl, hn, hall⟩ := DataW.trod_array Tryd.underlying49 hf
  have h0 := hall 0 (by omega)
  have h1 := hall 1 (by omega)
  rw [cells_b1] at h0 h1
  simp only [Value.cells, List.drop_zero, Nat.zero_mul, Nat.one_mul, Nat.mul_one, List.take_succ_cons, List.take_zero, List.drop_succ_cons] at h0 h1
  have e0 : xs[0]? = some xs[0] := List.getElem?_eq_getElem (by omega)
  rw [e0] at h0
  obtain ⟨x0, ea0, _, wa0⟩ := DataW.trod_int Tryd.underlying5 h0
  have ba0 := bounds_u8 wa0
  have e1 : xs[1]? = some xs[1] := List.getElem?_eq_getElem (by omega)
  rw [e1] at h1
  obtain ⟨x1, ea1, _, wa1⟩ := DataW.trod_int Tryd.underlying5 h1
  have ba1 := bounds_u8 wa1
  simp at ea0 ea1
  subst ea0 ea1
  obtain ⟨b0, rfl⟩ := byte_ofI (n := x0) (by omega) (by omega)
  obtain ⟨b1, rfl⟩ := byte_ofI (n := x1) (by omega) (by omega)
  exact ⟨b0, b1, rfl⟩

theorem cells_b4 : Tryd.prog.cellsOf 50 = 4 := by kernel_rfl
set_option maxRecDepth 100000 in
theorem open_b4 {H : Type} {enc : TypeId × Value → H} {r : Reach} {base bb : Nat} {spare : Nat → Bool} {held : Bool} {w : World} {v : Value} {d : DataW H} {p : List MemPlace} (hv : Value.okWide Tryd.prog w r bb 50 v) (h : DataW.Trod enc Tryd.prog w base spare held 50 v d p) :
    ∃ b0 b1 b2 b3 : UInt8, v = .agg #[.int .u8 b0.toNat, .int .u8 b1.toNat, .int .u8 b2.toNat, .int .u8 b3.toNat] := by
  unfold Value.okWide at hv
  rw [Tryd.underlying50] at hv
  obtain ⟨cs, rfl, hsz, _⟩ := hv
  rw [cells_b4] at hsz
  obtain ⟨c0, c1, c2, c3, rfl⟩ : ∃ c0 c1 c2 c3, cs = #[c0, c1, c2, c3] := by
    match cs, hsz with
    | ⟨[c0, c1, c2, c3]⟩, _ => exact ⟨c0, c1, c2, c3, rfl⟩
  obtain ⟨fuel, hf⟩ := h
  obtain ⟨xs, m, rfl, hx, hl, hn, hall⟩ := DataW.trod_array Tryd.underlying50 hf
  have h0 := hall 0 (by omega)
  have h1 := hall 1 (by omega)
  have h2 := hall 2 (by omega)
  have h3 := hall 3 (by omega)
  rw [cells_b1] at h0 h1 h2 h3
  simp only [Value.cells, List.drop_zero, Nat.zero_mul, Nat.one_mul, Nat.mul_one, List.take_succ_cons, List.take_zero, List.drop_succ_cons] at h0 h1 h2 h3
  have e0 : xs[0]? = some xs[0] := List.getElem?_eq_getElem (by omega)
  rw [e0] at h0
  obtain ⟨x0, ea0, _, wa0⟩ := DataW.trod_int Tryd.underlying5 h0
  have ba0 := bounds_u8 wa0
  have e1 : xs[1]? = some xs[1] := List.getElem?_eq_getElem (by omega)
  rw [e1] at h1
  obtain ⟨x1, ea1, _, wa1⟩ := DataW.trod_int Tryd.underlying5 h1
  have ba1 := bounds_u8 wa1
  have e2 : xs[2]? = some xs[2] := List.getElem?_eq_getElem (by omega)
  rw [e2] at h2
  obtain ⟨x2, ea2, _, wa2⟩ := DataW.trod_int Tryd.underlying5 h2
  have ba2 := bounds_u8 wa2
  have e3 : xs[3]? = some xs[3] := List.getElem?_eq_getElem (by omega)
  rw [e3] at h3
  obtain ⟨x3, ea3, _, wa3⟩ := DataW.trod_int Tryd.underlying5 h3
  have ba3 := bounds_u8 wa3
  simp at ea0 ea1 ea2 ea3
  subst ea0 ea1 ea2 ea3
  obtain ⟨b0, rfl⟩ := byte_ofI (n := x0) (by omega) (by omega)
  obtain ⟨b1, rfl⟩ := byte_ofI (n := x1) (by omega) (by omega)
  obtain ⟨b2, rfl⟩ := byte_ofI (n := x2) (by omega) (by omega)
  obtain ⟨b3, rfl⟩ := byte_ofI (n := x3) (by omega) (by omega)
  exact ⟨b0, b1, b2, b3, rfl⟩
end Go.Proofs.YtlinnhaodkiolaaDoor

namespace Go.Proofs.YtlinnhaodkiolaaDoor
open Go.ChangeShapes Go.WideShapes Go.ChangeAt Go.WideMaps Go.WideElems Go.RowKit

def laidA : List (String × DataW Unit) := [("firewall/helpers.args", Rows.laid_firewall_helpers_args)]
theorem gArgs : Tryd.prog.globalNamed "firewall/helpers.args" = some 0 := by kernel_rfl
theorem tArgs : (Tryd.prog.globals[0]?).map (·.type) = some 122 := by kernel_rfl

theorem door_met (os : Os) (args : Array Value) : laidMetH Tryd.prog laidA ((World.doorLaid Tryd.prog 400 os).forCall (fun _ _ => 0) ⟨#[], args, []⟩).memory :=
  laidMetH_of_parts3 (fuel := 8) (laidMet_of_run' 8 (by kernel_rfl) (by kernel_rfl)) (by kernel_rfl) (by kernel_rfl)

set_option maxRecDepth 100000 in
theorem of_laid {W : World} (h : laidMetH Tryd.prog laidA W) : ArgsAt W := by
  rw [MakeChecks.laidMetH_plain _ _ _ (by kernel_rfl)] at h
  obtain ⟨ps, ⟨g0, t0, cs0, f0, p0, q0, hg0, ht0, hv0, hd0, _⟩, _, _⟩ := h
  obtain rfl := Option.some.inj (gArgs.symm.trans hg0)
  obtain rfl := Option.some.inj (tArgs.symm.trans ht0)
  rcases open_map Tryd.underlying122 hd0 with ⟨_, hx⟩ | ⟨bm, es, clock, m, rfl, hcs, hb, _, F, hx⟩
  · simp [Rows.laid_firewall_helpers_args] at hx
  simp only [Prod.mk.injEq] at hx
  have hcell : W.cell? ⟨0, 0, none⟩ = some (.map (some bm)) := by
    have := World.var?_cell hg0 hv0 0
    rw [Array.eq_one_of_toList hcs] at this
    simpa using this
  refine ⟨bm, es.size, hcell, ?_⟩
  have := World.ownsMap_of_fit hb F (fun x _ z hz => elemAt_plainElem_int Tryd.underlying3 hz)
  rw [← hx.1] at this
  exact this
end Go.Proofs.YtlinnhaodkiolaaDoor
