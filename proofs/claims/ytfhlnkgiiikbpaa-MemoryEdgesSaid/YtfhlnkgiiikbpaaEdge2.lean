/- firewalllaw07.MemoryEdges: the walk. -/
import Derived.Test.YtfhlnkgiiikbpaaEdge1
import Derived.Test.YtfhlnkgiiikbpaaZeros
import Derived.Test.YtfhlnkgiiikbpaaSame
import Derived.Test.YtfhlnkgiiikbpaaRgn
import Derived.Deep.DeepCutAuto
import Derived.Deep.RegionWith
namespace Go.Proofs.Ytfhlnkgiiikbpaa
open Go.RowKit

def eone (F : Int) (n : Nat) (free : Bool) : Reg := ⟨F, List.replicate n 0, free⟩
def etwo (F : Int) (n : Nat) (free : Bool) : Reg := ⟨F + n, [120], free⟩

theorem edge_wf (F : Int) (n : Nat) (free : Bool) (h0 : 0 ≤ F) (h1 : 1 ≤ n) (h2 : n ≤ 40) (h3 : F ≤ 4294967396) : WF [eone F n free, etwo F n free] :=
  ⟨by intro r hr; simp at hr; rcases hr with rfl | rfl
      · exact ⟨h0, by simp [eone]; omega, by simp [eone, Reg.len]; omega, by simp [eone]; omega⟩
      · exact ⟨by simp [etwo]; omega, by simp [etwo], by simp [etwo, Reg.len]; omega, by simp [etwo]⟩, by simp [eone, etwo, Reg.len], by simp⟩

/-- a box of a region: its three cells -/
structure BoxR (w : World) (b : Nat) (base : Int) (s : ByteArray) (free : Bool) : Prop where
  c0 : w.cell? ⟨b, 0, none⟩ = some (.int .u64 base)
  c1 : w.cell? ⟨b, 1, none⟩ = some (.string s)
  c2 : w.cell? ⟨b, 2, none⟩ = some (.bool free)

theorem BoxR.fr {S : Nat → Prop} {w w' : World} {b : Nat} {base : Int} {s : ByteArray} {free : Bool} (h : BoxR w b base s free) (hf : Fr S w w') (hn : ¬ S b) : BoxR w' b base s free := ⟨hf.cell h.c0 hn, hf.cell h.c1 hn, hf.cell h.c2 hn⟩

theorem BoxR.new (w : World) (base : Int) (s : ByteArray) (free : Bool) : BoxR (w.alloc (.cells #[.int .u64 base, .string s, .bool free] 26)) w.heap.size base s free :=
  ⟨by rw [World.cell?_alloc_new]; rfl, by rw [World.cell?_alloc_new]; rfl, by rw [World.cell?_alloc_new]; rfl⟩

theorem edge_at (F : Int) (n : Nat) (z : Int) (h0 : 100 ≤ F) (h3 : F ≤ 4294967396) (h2 : n ≤ 40) (z1 : -9 ≤ z) (z2 : z ≤ n + 10) :
    ∃ X A : Int, IntKind.i64.wrap ((n : Int) - z) = n - z ∧ IntKind.u64.wrap ((n : Int) - z) = X ∧ IntKind.u64.wrap (F + n - X) = A ∧ A = F + z ∧ Hid (0 ≤ A ∧ A ≤ 18446744073709551615) := by
  have e : IntKind.u64.wrap (F + n - IntKind.u64.wrap ((n : Int) - z)) = F + z := by rw [IntKind.wrap_u64, IntKind.wrap_u64]; omega
  exact ⟨_, _, IntWalk.i64_in _ (by omega), rfl, rfl, e, by rw [e]; exact ⟨by omega, by omega⟩⟩

def want (free : Bool) : Int := if free then 0 else 71
theorem code_in {n z k : Int} (free : Bool) (h : (0 ≤ z ∧ z + k ≤ n) ∨ (z = n ∧ k = 1)) : thereCode n z k = 0 ∧ writeCode n z k free = want free := by
  have : there n z k = true := by unfold there; exact decide_eq_true_iff.2 h
  simp [thereCode, writeCode, this, want]
theorem code_out {n z k : Int} (free : Bool) (h : ¬ ((0 ≤ z ∧ z + k ≤ n) ∨ (z = n ∧ k = 1))) : thereCode n z k = 70 ∧ writeCode n z k free = 70 := by
  have : there n z k = false := by unfold there; exact decide_eq_false_iff_not.2 h
  simp [thereCode, writeCode, this]

/-- the three contracts, at numbers -/
structure Trio (w : World) (b : Nat) (S : Nat → Prop) (F : Int) (n : Nat) (free : Bool) (A k c d : Int) : Prop where
  read : ∀ W, EdgeW w b S F n free W → Calls Try.prog 12 #[.pointer (some ⟨b, 0, none⟩), .int .u64 A, .int .i64 k] W fun e w' => ∃ x, e = .returned (.tuple #[x, .int .i64 c]) ∧ Hid (EdgeW w b S F n free w')
  write : ∀ W, EdgeW w b S F n free W → Calls Try.prog 13 #[.pointer (some ⟨b, 0, none⟩), .int .u64 A, .int .i64 k, .int .u64 1] W fun e w' => e = .returned (.int .i64 d) ∧ Hid (EdgeW w b S F n free w')
  text : ∀ W, EdgeW w b S F n free W → Calls Try.prog 14 #[.pointer (some ⟨b, 0, none⟩), .int .u64 A, .int .i64 k] W fun e w' => ∃ x, e = .returned (.tuple #[x, .int .i64 c]) ∧ Hid (EdgeW w b S F n free w')

theorem Trio.make {w wr : World} {b : Nat} {S : Nat → Prop} {F : Int} {n : Nat} {free : Bool} {A z k c d : Int} (_ : Hid (EdgeW w b S F n free wr)) (hA : A = F + z) (hs : sizeOk k = true) (h : Hid (0 ≤ A ∧ A ≤ 18446744073709551615)) (hc : thereCode n z k = c ∧ writeCode n z k free = d) : Hid (Trio w b S F n free A k c d) :=
  ⟨fun W H => by have := H.read A z k hA hs h.out.1 h.out.2; rw [hc.1] at this; exact this, fun W H => by have := H.write A z k hA hs h.out.1 h.out.2; rw [hc.2] at this; exact this, fun W H => by have := H.text A z k hA hs h.out.1 h.out.2; rw [hc.1] at this; exact this⟩

theorem Trio.pick {w wr : World} {b : Nat} {S : Nat → Prop} {F : Int} {n : Nat} {free t : Bool} {A z k : Int} (H : Hid (EdgeW w b S F n free wr)) (hA : A = F + z) (hs : sizeOk k = true) (h : Hid (0 ≤ A ∧ A ≤ 18446744073709551615))
    (ht : t = true ↔ ((0 ≤ z ∧ z + k ≤ n) ∨ (z = n ∧ k = 1))) : Hid (Trio w b S F n free A k (if t then 0 else 70) (if t then want free else 70)) := by
  cases t with
  | true => exact Trio.make H hA hs h (code_in _ (ht.1 rfl))
  | false => exact Trio.make H hA hs h (code_out _ (fun h => Bool.noConfusion (ht.2 h)))

set_option maxRecDepth 100000 in
set_option maxHeartbeats 4000000 in
theorem edges_walk (mn base n : Nat) (F : Int) (free : Bool) (w : World) (e1 : IntKind.i64.wrap (mn : Int) = mn) (e2 : (mn : Int).tmod 40 = ((mn % 40 : Nat) : Int)) (e3 : IntKind.i64.wrap (1 + ((mn % 40 : Nat) : Int)) = (n : Int))
    (e4 : IntKind.u64.wrap (base : Int) = base) (e5 : IntKind.u64.wrap ((base : Int) + 100) = F) (h1 : 1 ≤ n) (h2 : n ≤ 40) (h0 : 100 ≤ F) (h3 : F ≤ 4294967396) :
    Calls Try.prog 4 #[.int .u8 mn, .int .u32 base, .bool free] w fun e w' => e = .returned (.bool true) ∧ Fr No w w' := by
  have HW := Lib.hid (edge_wf F n free (by omega) h1 h2 h3)
  generalize mn % 40 = x at *
  have hmk := make_z n (by omega)
  have hcv := str_zs n
  have e6 : IntKind.u64.wrap (n : Int) = n := IntWalk.u64_in _ (by omega)
  have e7 : IntKind.u64.wrap (F + (n : Int)) = F + n := IntWalk.u64_in _ (by omega)
  have hty : ∀ r ∈ [etwo F n free, eone F n free], r.typed := fun r hr => by
    simp at hr; rcases hr with rfl | rfl
    · exact ⟨by simp [etwo]; omega, by simp [etwo]; omega, by simp [etwo]⟩
    · exact ⟨by simp [eone]; omega, by simp [eone]; omega, by simp [eone]; omega⟩
  have HN : Hid (∀ W cap, Calls Try.prog 8 #[.slice (some ⟨W.heap.size, 0, none⟩) 2 cap] (W.alloc (.cells #[.int .u64 (F + n), .string ⟨#[120]⟩, .bool free, .int .u64 F, .string (zs n), .bool free] 26)) fun e w' => ∃ b S, e = .returned (.tuple #[.pointer (some ⟨b, 0, none⟩), .int .i64 0]) ∧ Fr No W w' ∧ MemAt w' b [eone F n free, etwo F n free] S ∧ ∀ k, S k → From W k) := fun W cap => by
    have f0 : Fr No W (W.alloc (.cells (aflat [etwo F n free, eone F n free]).toArray 26)) := (Fr.refl _ _).alloc _
    refine (new_is (RegsAt.new W [etwo F n free, eone F n free] cap hty) (by simp) (List.Perm.swap _ _ _) HW.out).mono ?_
    rintro e w' ⟨b, rfl, hf, hm⟩
    exact ⟨b, _, rfl, f0.trans hf, hm, fun k hk => by have := hk.1; have := f0.size; unfold From; omega⟩
  have HT := Lib.hid hty
  have H3 := Lib.hid h3
  clear hty h3
  go_enter Try.func4, Try.ntmps4
  go_upto_region 4 with fail
  have HB := Lib.hid (BoxR.new (w.alloc (.cells (zcells n) 5)) F (zs n) free)
  have HF := Lib.hid (((Fr.refl No w).alloc (.cells (zcells n) 5)).alloc (.cells #[.int .u64 F, .string (zs n), .bool free] 26))
  rw [World.size_alloc] at HB
  generalize (w.alloc (.cells (zcells n) 5)).alloc (.cells #[.int .u64 F, .string (zs n), .bool free] 26) = W1 at *
  generalize w.heap.size + 1 = B9 at *
  clear hmk hcv e1 e2 e3 e4 e5
  go_upto_region 5 with fail
  have HB2 := Lib.hid (BoxR.new W1 (F + n) ⟨#[120]⟩ free)
  have HB1 := Lib.hid (HB.out.fr ((Fr.refl No W1).alloc (.cells #[.int .u64 (F + n), .string ⟨#[120]⟩, .bool free] 26)) id)
  have HF2 := Lib.hid (HF.out.alloc (.cells #[.int .u64 (F + n), .string ⟨#[120]⟩, .bool free] 26))
  clear HB HF
  generalize W1.alloc (.cells #[.int .u64 (F + n), .string ⟨#[120]⟩, .bool free] 26) = W2 at *
  generalize W1.heap.size = B10 at *
  generalize hZ : zs n = Z at *
  have HZ := Lib.hid hZ
  clear hZ
  have x0 := HB1.out.c0
  have x1 := HB1.out.c1
  have x2 := HB1.out.c2
  have y0 := HB2.out.c0
  have y1 := HB2.out.c1
  have y2 := HB2.out.c2
  go_upto_region 6 with (go_at_call 8; refine (HN.out _ _).mono ?_; rintro e w1 ⟨b, S, rfl, hf, hm, hS⟩)
  have HE : Hid (EdgeW w b S F n free w1) := ⟨⟨_, ⟨_, _, rfl, by simp, rfl⟩, hm⟩, HF2.out.any.trans hf.any, fun k hk => by have := hS k hk; have := HF2.out.size; unfold From at *; omega⟩
  have HR : Hid (∀ W, Fr No w1 W → Calls Try.prog 11 #[.pointer (some ⟨b, 0, none⟩)] W fun e w2 => ∃ v, e = .returned v ∧ Hid (∀ W', Fr No w2 W' → RegsAt W' v [eone F n free, etwo F n free]) ∧ Hid (Fr No W w2) ∧ Hid (EdgeW w b S F n free w2) ∧
      (w2.cell? ⟨B9, 0, none⟩ = some (.int .u64 F) ∧ w2.cell? ⟨B9, 1, none⟩ = some (.string Z) ∧ w2.cell? ⟨B9, 2, none⟩ = some (.bool free)) ∧ (w2.cell? ⟨B10, 0, none⟩ = some (.int .u64 (F + n)) ∧ w2.cell? ⟨B10, 1, none⟩ = some (.string ⟨#[120]⟩) ∧ w2.cell? ⟨B10, 2, none⟩ = some (.bool free))) := fun W hW => by
    refine (regions_any (hm.fr hW (fun _ _ => id)) (by simp)).mono ?_
    rintro e w2 ⟨v, rfl, hv, hf2⟩
    have f := (hf.trans hW).trans hf2
    exact ⟨v, rfl, fun W' hW' => hv.fr hW', hf2, HE.out.to (hW.trans hf2), ⟨f.cell x0 id, f.cell x1 id, f.cell x2 id⟩, f.cell y0 id, f.cell y1 id, f.cell y2 id⟩
  have HSm : Hid (∀ (W : World) (v : Value) (g : Nat), RegsAt W v [eone F n free, etwo F n free] → CellsAt W g 0 (aflat [eone F n free, etwo F n free]) → Calls Try.prog 10 #[v, .slice (some ⟨g, 0, none⟩) 2 2] W fun e w' => e = .returned (.bool true) ∧ Fr No W w') := fun W v g h1 h2 => by
    refine (same_any v _ _ _ W h1 ⟨h1.1, .inr ⟨g, 0, 2, rfl, h2⟩⟩ (by simp)).mono ?_
    rintro e w' ⟨⟨r, rfl, hr⟩, hf⟩
    rw [hr.2 rfl]
    exact ⟨rfl, hf⟩
  have hfl : aflat [eone F n free, etwo F n free] = [.int .u64 F, .string Z, .bool free, .int .u64 (F + n), .string ⟨#[120]⟩, .bool free] := by rw [← HZ.out]; rfl
  have HFl := Lib.hid hfl
  have z0 := hf.cell x0 id
  have z1 := hf.cell x1 id
  have z2 := hf.cell x2 id
  have u0 := hf.cell y0 id
  have u1 := hf.cell y1 id
  have u2 := hf.cell y2 id
  clear hfl hf hm hS x0 x1 x2 y0 y1 y2 HB1 HB2
  go_cut [59] (fun s wx => s = .bool false ∧ Hid (EdgeW w b S F n free wx))
  case first =>
    have hA1 : Fr No w1 w1.drew := (Fr.refl _ _).drew
    have hA2 : ∀ o, Fr No w1 (w1.drew.alloc o) := fun o => ((Fr.refl _ _).drew).alloc o
    go_region_with (first
      | (go_at_call 11; refine (HR.out _ (by (first | (exact hA1) | (exact hA2 _)))).mono ?_; rintro e w2 ⟨v, rfl, hv, hr, HE2, ⟨a0, a1, a2⟩, b0, b1, b2⟩)
      | (go_at_call 10; refine (HSm.out _ _ _ (by (first | (exact hv.out _ (Fr.refl _ _)) | (exact hv.out _ ((Fr.refl _ _).alloc _)))) (by (rw [HFl.out]; (first | (exact CellsAt.new _ _ _) | (exact hr.out.cells (CellsAt.new _ _ _) id))))).mono ?_; rintro e w3 ⟨rfl, hs⟩))
    all_goals go_wp2_with fail
    all_goals go_meet
    all_goals (first | exact ⟨rfl, HE2.out.to hs⟩ | exact ⟨rfl, HE2.out.to (((Fr.refl _ _).alloc _).trans hs)⟩)
  case rest =>
    obtain ⟨rfl, HE3⟩ := hcut
    have c1 : ∀ i : Int, -9 ≤ i → i ≤ n + 10 → i + 1 ≤ n + 10 → IntKind.i64.wrap (i + 1) = i + 1 := fun i _ _ _ => IntWalk.i64_in _ (by omega)
    have HC1 : Hid _ := c1
    clear c1
    cases free
    all_goals
      go_wp2_with fail
      go_loopw [14] (fun i wr => ∃ z : Int, -9 ≤ z ∧ z ≤ n + 10 ∧ i = .int .i64 z ∧ Hid (EdgeW w b S F n _ wr)) (fun i _ => (n + 10 - intOf i).toNat)
      case atStart => exact ⟨-9, by omega, by omega, rfl, HE3⟩
      case round =>
        obtain ⟨z, z1, z2, rfl, HE4⟩ := hrel
        have f1 : IntKind.i64.wrap ((n : Int) + 10) = n + 10 := IntWalk.i64_in _ (by omega)
        by_cases hlt : z < n + 10
        · obtain ⟨X, A, f2, f3, f4, f5, HA⟩ := edge_at F n z h0 H3.out h2 z1 z2
          have f6 := HC1.out z z1 z2 (by omega)
          have F5 := Lib.hid f5
          clear f5
          go_wp2_with fail
          go_loopw [16] (fun s wr => ∃ k : Int, (sizeOk k = true ∨ k = 16) ∧ s = .int .i64 k ∧ Hid (EdgeW w b S F n _ wr)) (fun s _ => (17 - intOf s).toNat)
          case atStart => exact ⟨1, .inl rfl, rfl, HE4⟩
          case round =>
            obtain ⟨k, hk, rfl, HE5⟩ := hrel
            rcases hk with hk | rfl
            · have hs := (sizeOk_iff k).1 hk
              have hk8 : k ≤ 8 := by omega
              have hk1 : 1 ≤ k := by omega
              have f8 : IntKind.i64.wrap (z + k) = z + k := IntWalk.i64_in _ (by omega)
              have f9 : IntKind.i64.wrap (2 * k) = 2 * k := IntWalk.i64_in _ (by omega)
              have HK : Hid (sizeOk (2 * k) = true ∨ 2 * k = 16) := by
                rcases hs with rfl | rfl | rfl | rfl
                · exact .inl rfl
                · exact .inl rfl
                · exact .inl rfl
                · exact .inr rfl
              have HS8 := Lib.hid hk
              clear hs hk
              go_upto_region 18 with fail
              go_cut [17] (fun s wx => (∃ t : Bool, s = .bool t ∧ (t = true ↔ ((0 ≤ z ∧ z + k ≤ n) ∨ (z = n ∧ k = 1)))) ∧ Hid (EdgeW w b S F n _ wx))
              case first =>
                by_cases p1 : 0 ≤ z
                · by_cases p2 : z + k ≤ n
                  · go_wp2_with fail
                    go_meet
                    exact ⟨⟨_, rfl, by simp <;> omega⟩, HE5⟩
                  · by_cases p3 : z = n
                    · have p4 : (z == (n : Int)) = true := by simp [p3]
                      have P3 := Lib.hid p3
                      clear p3
                      go_wp2_with fail
                      go_meet
                      exact ⟨⟨_, rfl, by have := P3.out; simp <;> omega⟩, HE5⟩
                    · have p4 : (z == (n : Int)) = false := by simp [p3]
                      go_wp2_with fail
                      go_meet
                      exact ⟨⟨_, rfl, by simp [p3] <;> omega⟩, HE5⟩
                · have p3 : ¬ z = n := by omega
                  have p4 : (z == (n : Int)) = false := by simp [p3]
                  go_wp2_with fail
                  go_meet
                  exact ⟨⟨_, rfl, by simp [p3] <;> omega⟩, HE5⟩
              case rest =>
                obtain ⟨⟨t, rfl, ht⟩, HE6⟩ := hcut
                have HT3 := Trio.pick HE6 F5.out HS8.out HA ht
                clear ht
                cases t
                all_goals
                  simp only [if_true, if_false, Bool.false_eq_true, want] at HT3
                  go_wp2_with (first | (go_at_call 12; (with_reducible refine (HT3.out.read _ HE6.out).mono ?_); rintro e w4 ⟨x4, rfl, HE7⟩) | (go_at_call 13; (with_reducible refine (HT3.out.write _ HE7.out).mono ?_); rintro e w5 ⟨rfl, HE8⟩) | (go_at_call 14; (with_reducible refine (HT3.out.text _ HE8.out).mono ?_); rintro e w6 ⟨x6, rfl, HE9⟩))
                  go_roundw
                  case rel => exact ⟨2 * k, HK.out, rfl, HE9⟩
                  case measure => simp [intOf] <;> omega
            · go_wp2_with fail
              go_roundw
              case rel => exact ⟨z + 1, by omega, by omega, by go_num, HE5⟩
              case measure => simp [intOf] <;> omega
        · obtain rfl : z = n + 10 := by omega
          go_wp2_with (go_at_call 9; refine (laid_any _).mono ?_; rintro e w9 ⟨rfl, hlf⟩)
          go_ret
          exact ⟨rfl, (HE4.out.to hlf).fr.ours⟩

end Go.Proofs.Ytfhlnkgiiikbpaa
