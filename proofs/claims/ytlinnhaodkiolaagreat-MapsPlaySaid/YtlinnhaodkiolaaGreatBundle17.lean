/- firewallref08: Regions; firewallref07: Copy. firewallref08: Holds. firewallref08: what New and Copy hold while they gather the keys. No condition. -/
import Derived.Test.YtlinnhaodkiolaaGreatBundle16
import Derived.Test.YtlinnhaodkiolaaGreatBundle8
import Derived.Deep.CutBlock
import Derived.Test.YtlinnhaodkiolaaGreatBundle15
namespace Go.Proofs.YtlinnhaodkiolaaGreat
open Go.RowKit

set_option maxHeartbeats 400000 in
theorem rregions_no (a : Option Addr) (n c : Nat) (w : World) (hn : 0 < n) (h : Calls Tryz.prog 30 #[.slice a n c] w fun e w' => e = .returned (.bool false) ∧ Fr No w w') :
    Calls Tryz.prog 6 #[.slice a n c] w fun e w' => e = .returned (.slice none 0 0) ∧ Fr No w w' := by
  have H := Lib.hid h
  have q : decide (0 < n) = true := by simpa using hn
  clear h
  go_enter Tryz.func6, Tryz.ntmps6
  go_wp2_with fail
  refine wp_loop_rounds 1 ?_
  rw [rounds_succ]
  go_wp2_with (go_at_call 30; (with_reducible refine (H.out).mono ?_); rintro e w' ⟨rfl, hf⟩)
  go_ret
  exact ⟨rfl, hf⟩

set_option maxHeartbeats 400000 in
theorem rregions_zero (a : Option Addr) (c : Nat) (w : World) :
    Calls Tryz.prog 6 #[.slice a 0 c] w fun e w' => e = .returned (.slice none 0 0) ∧ Fr No w w' := by
  go_enter Tryz.func6, Tryz.ntmps6
  go_wp2_with fail
  refine wp_loop_rounds 1 ?_
  rw [rounds_succ]
  go_wp2_with fail
  go_ret
  exact ⟨rfl, Fr.refl _ _⟩

theorem str_zsd (n : Nat) (W : World) : (convert 67 9 (.slice (some ⟨W.heap.size, 0, none⟩) n n)).run Tryz.prog (W.alloc (.cells (zcells n) 5)).drew = .ok (.string (zs n)) (W.alloc (.cells (zcells n) 5)).drew := by
  have h := str_at (((Fr.refl No _).drew).cells (CellsAt.new W (u8s (List.replicate n 0)) 5) id) n
  rw [List.length_replicate] at h
  exact h

set_option maxRecDepth 100000 in
set_option maxHeartbeats 1000000 in
theorem rregions_walk (g off n cap : Nat) (l : List MapD) (w : World) (hn : l.length = n) (h4 : n ≤ 4) (hc : CellsAt w g off (mflat l)) (hmay : ∀ x ∈ l, x.may = true)
    (hcall : ∀ W, Fr No w W → Calls Tryz.prog 30 #[.slice (some ⟨g, off, none⟩) n cap] W fun e w' => e = .returned (.bool true) ∧ Fr No W w') :
    Calls Tryz.prog 6 #[.slice (some ⟨g, off, none⟩) n cap] w fun e w' => ∃ u, e = .returned u ∧ Hid (Gath w 69 3 n (aflat (mregs l)) u w') := by
  have HC := Lib.hid hc
  have HN := Lib.hid hn
  have HM := Lib.hid hmay
  have HCALL := Lib.hid hcall
  obtain ⟨i0, hi0, hz0, hz1, hz2⟩ := info_parts Tryz.info_areg
  clear hc hn hmay hcall
  go_enter Tryz.func6, Tryz.ntmps6
  go_wp2_with fail
  go_loopw [3, 4] (fun o s wr => ∃ k : Nat, k ≤ n ∧ s = .int .i64 k ∧ Hid (Gath w 69 3 k (aflat ((mregs l).take k)) o wr)) (fun _ s _ => n - (intOf s).toNat)
  case atStart => exact ⟨0, Nat.zero_le _, rfl, Gath.start _ _ _⟩
  case round =>
    obtain ⟨k, hk, rfl, HI⟩ := hrel
    by_cases hlt : k < n
    · obtain ⟨x, hx⟩ : ∃ x, l[k]? = some x := ⟨l[k]'(by rw [HN.out]; exact hlt), List.getElem?_eq_getElem _⟩
      have hxm := HM.out x (List.mem_of_getElem? hx)
      have hmi := (MapD.may_iff x).1 hxm
      have e1 : 1 ≤ x.value * x.max := Int.le_trans (by omega) (Int.mul_le_mul (a := 1) (b := 1) (by omega) (by omega) (by omega) (by omega))
      have e2 : x.value * x.max ≤ 64 * 16 := Int.mul_le_mul (by omega) (by omega) (by omega) (by omega)
      have htake : aflat ((mregs l).take (k + 1)) = aflat ((mregs l).take k) ++ [.int .u64 (mbase k), .string ⟨(List.replicate (x.value * x.max).toNat (0 : UInt8)).toArray⟩, .bool true] := by
        have hg : (mregs l)[k]? = some (x.reg k) := by rw [mregs_get, hx]; rfl
        rw [List.take_add_one, hg]
        simp [aflat, Reg.cells, MapD.reg]
      obtain ⟨c, hcn⟩ : ∃ c : Nat, x.value * x.max = c := ⟨(x.value * x.max).toNat, by omega⟩
      rw [hcn] at htake e1 e2
      rw [Int.toNat_natCast] at htake
      have f1 : IntKind.i64.wrap (x.value * x.max) = c := by rw [hcn]; exact IntWalk.i64_in _ (by omega)
      have HKC : Hid (∀ W, Fr No w W → W.cell? ⟨g, off + k * 4 + 2, none⟩ = some (.int .i64 x.value) ∧ W.cell? ⟨g, off + k * 4 + 3, none⟩ = some (.int .i64 x.max)) := fun W hW => by
        obtain ⟨k0, k1, k2, k3⟩ := map_cells (hW.cells HC.out id) hx
        exact ⟨k2, k3⟩
      obtain ⟨kind, key, value, max⟩ := x
      simp only at f1 HKC
      have HT : Hid (aflat ((mregs l).take (k + 1)) = aflat ((mregs l).take k) ++ [.int .u64 (mbase k), .string (zs c), .bool true]) := Lib.hid htake
      have HB : Hid (∀ W, Calls Tryz.prog 31 #[.int .i64 k] W fun e w' => e = .returned (.int .u64 (mbase k)) ∧ W = w') := fun W => rbase_any k W (by omega)
      have hmk := fun W => make_z c (by omega) W
      have hst := fun W => str_zs c W
      have hst2 := fun W => str_zsd c W
      have c1 : (0 : Int) ≤ (k : Int) := by omega
      have c2 : (k : Int) < (n : Int) := by omega
      clear hx hxm hmi hcn htake e1
      generalize mbase k = B at HT HB
      generalize zs c = D at HT hst hst2
      go_wp2_with (go_at_call 30; (with_reducible refine (HCALL.out _ HI.out.fr).mono ?_); rintro e w2 ⟨rfl, hf2⟩)
      have HG : Hid (Gath w 69 3 k (aflat ((mregs l).take k)) u3 w2) := HI.out.to hf2
      obtain ⟨q2, q3⟩ := HKC.out w2 HG.out.fr
      clear HI hf2
      generalize aflat ((mregs l).take k) = told at HG HT
      have HOWN : Hid (∀ W, Fr No w2 W → W.ownsRow w.heap.size 69 3 u3 k told) := fun W hW => ownsRow_fr HG.out.own hW (fun _ _ => id)
      have HSZ : Hid (∀ W, Fr No w2 W → w.heap.size ≤ W.heap.size) := fun W hW => Nat.le_trans HG.out.fr.size hW.size
      have HSRC : Hid (∀ o, SrcAt ((w2.alloc o).alloc (.cells #[.int .u64 B, .string D, .bool true] 69)).drew (.slice (some ⟨w2.heap.size + 1, 0, none⟩) 1 1) 1 [.int .u64 B, .string D, .bool true]) := fun o => by
        have h := (src_new (w2.alloc o) [.int .u64 B, .string D, .bool true] 69).fr ((Fr.refl No _).drew) (fun _ _ => id)
        rw [show (w2.alloc o).heap.size = w2.heap.size + 1 by simp] at h
        exact h
      refine wp_region_noPanic ?_
      refine wp_region_held_drew (S := fun W => W.cell? ⟨g, off + k * 4 + 2, none⟩ = some (.int .i64 value) ∧ W.cell? ⟨g, off + k * 4 + 3, none⟩ = some (.int .i64 max)) (by kernel_rfl) ?_ (fun hHeld => ?_)
      · go_keep
      refine wpAnyH_take (i := 0) (v := ?_) rfl (by kernel_rfl) (by kernel_rfl) (by kernel_rfl) (fun _ _ _ h => h) (Or.inl ⟨by rfl, ?_⟩) (by assumption) ?_
      rotate_left
      focus (intro w hSw; (try dsimp only at hSw); go_simp; try with_reducible rfl)
      ((try simp only [Act.put]); (try simp only [List.setIfInBounds_toArray]); (try simp only [List.set_cons_succ]); (try simp only [List.set_cons_zero]))
      refine wpAnyH_take (i := 1) (v := ?_) rfl (by kernel_rfl) (by kernel_rfl) (by kernel_rfl) (fun _ _ _ h => h) (Or.inl ⟨by rfl, ?_⟩) (by assumption) ?_
      rotate_left
      focus (intro w hSw; (try dsimp only at hSw); go_simp; try with_reducible rfl)
      ((try simp only [Act.put]); (try simp only [List.setIfInBounds_toArray]); (try simp only [List.set_cons_succ]); (try simp only [List.set_cons_zero]))
      refine wpAnyH_take (i := 3) (v := ?_) rfl (by kernel_rfl) (by kernel_rfl) (by kernel_rfl) (fun _ _ _ h => h) (Or.inl ⟨by rfl, ?_⟩) (by assumption) ?_
      rotate_left
      focus (intro w hSw; (try dsimp only at hSw); go_simp; try with_reducible rfl)
      ((try simp only [Act.put]); (try simp only [List.setIfInBounds_toArray]); (try simp only [List.set_cons_succ]); (try simp only [List.set_cons_zero]))
      refine wpAnyH_take (i := 4) (v := ?_) rfl (by kernel_rfl) (by kernel_rfl) (by kernel_rfl) (fun _ _ _ h => h) (Or.inl ⟨by rfl, ?_⟩) (by assumption) ?_
      rotate_left
      focus (intro w hSw; (try dsimp only at hSw); go_simp; try with_reducible rfl)
      ((try simp only [Act.put]); (try simp only [List.setIfInBounds_toArray]); (try simp only [List.set_cons_succ]); (try simp only [List.set_cons_zero]))
      refine wpAnyH_take (i := 5) (v := ?_) rfl (by kernel_rfl) (by kernel_rfl) (by kernel_rfl) (fun _ _ _ h => h) (Or.inl ⟨by rfl, ?_⟩) (by assumption) ?_
      rotate_left
      focus (intro w hSw; (try dsimp only at hSw); go_simp; try with_reducible rfl)
      ((try simp only [Act.put]); (try simp only [List.setIfInBounds_toArray]); (try simp only [List.set_cons_succ]); (try simp only [List.set_cons_zero]))
      refine wpAnyH_take (i := 6) (v := ?_) rfl (by kernel_rfl) (by kernel_rfl) (by kernel_rfl) (fun _ _ _ h => h) (Or.inl ⟨by rfl, ?_⟩) (by assumption) ?_
      rotate_left
      focus (intro w hSw; (try dsimp only at hSw); go_simp; try with_reducible rfl)
      ((try simp only [Act.put]); (try simp only [List.setIfInBounds_toArray]); (try simp only [List.set_cons_succ]); (try simp only [List.set_cons_zero]))
      refine wpAnyH_take (i := 7) (v := ?_) rfl (by kernel_rfl) (by kernel_rfl) (by kernel_rfl) (fun _ _ _ h => h) (Or.inl ⟨by rfl, ?_⟩) (by assumption) ?_
      rotate_left
      focus (intro w hSw; (try dsimp only at hSw); go_simp; try with_reducible rfl)
      ((try simp only [Act.put]); (try simp only [List.setIfInBounds_toArray]); (try simp only [List.set_cons_succ]); (try simp only [List.set_cons_zero]))
      refine wpAnyH_take (i := 8) (v := ?_) rfl (by kernel_rfl) (by kernel_rfl) (by kernel_rfl) (fun _ _ _ h => h) (Or.inl ⟨by rfl, ?_⟩) (by assumption) ?_
      rotate_left
      focus (intro w hSw; (try dsimp only at hSw); go_simp; try with_reducible rfl)
      ((try simp only [Act.put]); (try simp only [List.setIfInBounds_toArray]); (try simp only [List.set_cons_succ]); (try simp only [List.set_cons_zero]))
      refine wpAnyH_take (i := 9) (v := ?_) rfl (by kernel_rfl) (by kernel_rfl) (by kernel_rfl) (fun _ _ _ h => h) (Or.inl ⟨by rfl, ?_⟩) (by assumption) ?_
      rotate_left
      focus (intro w hSw; (try dsimp only at hSw); go_simp; try with_reducible rfl)
      ((try simp only [Act.put]); (try simp only [List.setIfInBounds_toArray]); (try simp only [List.set_cons_succ]); (try simp only [List.set_cons_zero]))
      refine wpAnyH_take (i := 10) (v := ?_) rfl (by kernel_rfl) (by kernel_rfl) (by kernel_rfl) (fun _ _ _ h => h) (Or.inl ⟨by rfl, ?_⟩) (by assumption) ?_
      rotate_left
      focus (intro w hSw; (try dsimp only at hSw); go_simp; try with_reducible rfl)
      ((try simp only [Act.put]); (try simp only [List.setIfInBounds_toArray]); (try simp only [List.set_cons_succ]); (try simp only [List.set_cons_zero]))
      refine wpAnyH_take (i := 11) (v := ?_) rfl (by kernel_rfl) (by kernel_rfl) (by kernel_rfl) (fun _ _ _ h => h) (Or.inl ⟨by rfl, ?_⟩) (by assumption) ?_
      rotate_left
      focus (intro w hSw; (try dsimp only at hSw); go_simp; try with_reducible rfl)
      ((try simp only [Act.put]); (try simp only [List.setIfInBounds_toArray]); (try simp only [List.set_cons_succ]); (try simp only [List.set_cons_zero]))
      refine wpAnyH_take (i := 12) (v := ?_) rfl (by kernel_rfl) (by kernel_rfl) (by kernel_rfl) (fun _ _ _ h => h) (Or.inl ⟨by rfl, ?_⟩) (by assumption) ?_
      rotate_left
      focus (intro w hSw; (try dsimp only at hSw); go_simp; try with_reducible rfl)
      ((try simp only [Act.put]); (try simp only [List.setIfInBounds_toArray]); (try simp only [List.set_cons_succ]); (try simp only [List.set_cons_zero]))
      refine wpAnyH_take (i := 13) (v := ?_) rfl (by kernel_rfl) (by kernel_rfl) (by kernel_rfl) (fun _ _ _ h => h) (Or.inl ⟨by rfl, ?_⟩) (by assumption) ?_
      rotate_left
      focus (intro w hSw; (try dsimp only at hSw); go_simp; try with_reducible rfl)
      ((try simp only [Act.put]); (try simp only [List.setIfInBounds_toArray]); (try simp only [List.set_cons_succ]); (try simp only [List.set_cons_zero]))
      refine wpAnyH_ready (rs := [2, 14]) (by kernel_rfl) (by simp) ?_
      refine AllReadyH.cons rfl (fun K hK => ?_) (AllReadyH.cons rfl (fun K hK => ?_) AllReadyH.nil)
      · (go_simp; go_at_call 31; (with_reducible refine (HB.out _).mono ?_); rintro e w5 ⟨rfl, rfl⟩)
        refine hK.out _ _ ?_ (fun hHeld => ?_)
        · go_keep
        clear hK K
        ((try simp only [Act.put]); (try simp only [List.setIfInBounds_toArray]); (try simp only [List.set_cons_succ]); (try simp only [List.set_cons_zero]))
        refine wpAnyH_ready (rs := [14]) (by kernel_rfl) (by simp) ?_
        refine AllReadyH.cons rfl (fun K hK => ?_) AllReadyH.nil
        go_simp
        refine hK.out _ _ ?_ (fun hHeld => ?_)
        · go_keep
        clear hK K
        ((try simp only [Act.put]); (try simp only [List.setIfInBounds_toArray]); (try simp only [List.set_cons_succ]); (try simp only [List.set_cons_zero]))
        refine wpAnyH_ready (rs := [15]) (by kernel_rfl) (by simp) ?_
        refine AllReadyH.cons rfl (fun K hK => ?_) AllReadyH.nil
        go_simp
        refine hK.out _ _ ?_ (fun hHeld => ?_)
        · go_keep
        clear hK K
        ((try simp only [Act.put]); (try simp only [List.setIfInBounds_toArray]); (try simp only [List.set_cons_succ]); (try simp only [List.set_cons_zero]))
        refine wpAnyH_take (i := 16) (v := ?_) rfl (by kernel_rfl) (by kernel_rfl) (by kernel_rfl) (fun _ _ _ h => h) (Or.inl ⟨by rfl, ?_⟩) (by assumption) ?_
        rotate_left
        focus (intro w hSw; (try dsimp only at hSw); go_simp; try with_reducible rfl)
        ((try simp only [Act.put]); (try simp only [List.setIfInBounds_toArray]); (try simp only [List.set_cons_succ]); (try simp only [List.set_cons_zero]))
        refine wpAnyH_ready (rs := [17]) (by kernel_rfl) (by simp) ?_
        refine AllReadyH.cons rfl (fun K hK => ?_) AllReadyH.nil
        go_simp
        refine hK.out _ _ ?_ (fun hHeld => ?_)
        · go_keep
        clear hK K
        ((try simp only [Act.put]); (try simp only [List.setIfInBounds_toArray]); (try simp only [List.set_cons_succ]); (try simp only [List.set_cons_zero]))
        refine wpAnyH_ready (rs := [18]) (by kernel_rfl) (by simp) ?_
        refine AllReadyH.cons rfl (fun K hK => ?_) AllReadyH.nil
        refine step_append_src (by rfl) (.tmp 15) (.tmp 32) 26 (by rfl) w.heap.size 69 i0 _ 3 32 Tryz.underlying26 hi0 hz0 hz1 hz2 rfl (by decide) u3 k told (by rfl) (by exact HOWN.out _ ((((Fr.refl _ _).alloc _).alloc _).drew)) _ 1 [.int .u64 B, .string D, .bool true] (by rfl) (by exact HSRC.out _) (by rfl) (by simp [Value.oneCell']) (by unfold maxLen; omega) (by omega) (by exact HSZ.out _ ((((Fr.refl _ _).alloc _).alloc _).drew)) ?_; intro v8 w8 own8 fr8
        refine hK.out _ _ ?_ (fun hHeld => ?_)
        · exact HKC.out _ (((HG.out.to ((((Fr.refl _ _).alloc _).alloc _).drew)).step own8 fr8).fr)
        clear hK K
        ((try simp only [Act.put]); (try simp only [List.setIfInBounds_toArray]); (try simp only [List.set_cons_succ]); (try simp only [List.set_cons_zero]))
        refine wpAnyH_take (i := 19) (v := ?_) rfl (by kernel_rfl) (by kernel_rfl) (by kernel_rfl) (fun _ _ _ h => h) (Or.inl ⟨by rfl, ?_⟩) (by assumption) ?_
        rotate_left
        focus (intro w hSw; (try dsimp only at hSw); go_simp; try with_reducible rfl)
        ((try simp only [Act.put]); (try simp only [List.setIfInBounds_toArray]); (try simp only [List.set_cons_succ]); (try simp only [List.set_cons_zero]))
        refine wpAnyH_done (by kernel_rfl) ?_ _
        refine NoPanic.normal ?_
        have HG8 : Hid (Gath w 69 3 (k + 1) (told ++ [.int .u64 B, .string D, .bool true]) v8 w8) := (HG.out.to ((((Fr.refl _ _).alloc _).alloc _).drew)).step own8 fr8
        clear own8 fr8 q2 q3
        go_wp2_with fail
        go_roundw
        case rel => exact ⟨k + 1, by omega, by go_num, by rw [HT.out]; exact HG8⟩
        case measure => simp [intOf] <;> omega
      · go_simp
        refine hK.out _ _ ?_ (fun hHeld => ?_)
        · go_keep
        clear hK K
        ((try simp only [Act.put]); (try simp only [List.setIfInBounds_toArray]); (try simp only [List.set_cons_succ]); (try simp only [List.set_cons_zero]))
        refine wpAnyH_ready (rs := [2, 15]) (by kernel_rfl) (by simp) ?_
        refine AllReadyH.cons rfl (fun K hK => ?_) (AllReadyH.cons rfl (fun K hK => ?_) AllReadyH.nil)
        · (go_simp; go_at_call 31; (with_reducible refine (HB.out _).mono ?_); rintro e w5 ⟨rfl, rfl⟩)
          refine hK.out _ _ ?_ (fun hHeld => ?_)
          · go_keep
          clear hK K
          ((try simp only [Act.put]); (try simp only [List.setIfInBounds_toArray]); (try simp only [List.set_cons_succ]); (try simp only [List.set_cons_zero]))
          refine wpAnyH_ready (rs := [15]) (by kernel_rfl) (by simp) ?_
          refine AllReadyH.cons rfl (fun K hK => ?_) AllReadyH.nil
          go_simp
          refine hK.out _ _ ?_ (fun hHeld => ?_)
          · go_keep
          clear hK K
          ((try simp only [Act.put]); (try simp only [List.setIfInBounds_toArray]); (try simp only [List.set_cons_succ]); (try simp only [List.set_cons_zero]))
          refine wpAnyH_take (i := 16) (v := ?_) rfl (by kernel_rfl) (by kernel_rfl) (by kernel_rfl) (fun _ _ _ h => h) (Or.inl ⟨by rfl, ?_⟩) (by assumption) ?_
          rotate_left
          focus (intro w hSw; (try dsimp only at hSw); go_simp; try with_reducible rfl)
          ((try simp only [Act.put]); (try simp only [List.setIfInBounds_toArray]); (try simp only [List.set_cons_succ]); (try simp only [List.set_cons_zero]))
          refine wpAnyH_ready (rs := [17]) (by kernel_rfl) (by simp) ?_
          refine AllReadyH.cons rfl (fun K hK => ?_) AllReadyH.nil
          go_simp
          refine hK.out _ _ ?_ (fun hHeld => ?_)
          · go_keep
          clear hK K
          ((try simp only [Act.put]); (try simp only [List.setIfInBounds_toArray]); (try simp only [List.set_cons_succ]); (try simp only [List.set_cons_zero]))
          refine wpAnyH_ready (rs := [18]) (by kernel_rfl) (by simp) ?_
          refine AllReadyH.cons rfl (fun K hK => ?_) AllReadyH.nil
          refine step_append_src (by rfl) (.tmp 15) (.tmp 32) 26 (by rfl) w.heap.size 69 i0 _ 3 32 Tryz.underlying26 hi0 hz0 hz1 hz2 rfl (by decide) u3 k told (by rfl) (by exact HOWN.out _ ((((Fr.refl _ _).alloc _).alloc _).drew)) _ 1 [.int .u64 B, .string D, .bool true] (by rfl) (by exact HSRC.out _) (by rfl) (by simp [Value.oneCell']) (by unfold maxLen; omega) (by omega) (by exact HSZ.out _ ((((Fr.refl _ _).alloc _).alloc _).drew)) ?_; intro v8 w8 own8 fr8
          refine hK.out _ _ ?_ (fun hHeld => ?_)
          · exact HKC.out _ (((HG.out.to ((((Fr.refl _ _).alloc _).alloc _).drew)).step own8 fr8).fr)
          clear hK K
          ((try simp only [Act.put]); (try simp only [List.setIfInBounds_toArray]); (try simp only [List.set_cons_succ]); (try simp only [List.set_cons_zero]))
          refine wpAnyH_take (i := 19) (v := ?_) rfl (by kernel_rfl) (by kernel_rfl) (by kernel_rfl) (fun _ _ _ h => h) (Or.inl ⟨by rfl, ?_⟩) (by assumption) ?_
          rotate_left
          focus (intro w hSw; (try dsimp only at hSw); go_simp; try with_reducible rfl)
          ((try simp only [Act.put]); (try simp only [List.setIfInBounds_toArray]); (try simp only [List.set_cons_succ]); (try simp only [List.set_cons_zero]))
          refine wpAnyH_done (by kernel_rfl) ?_ _
          refine NoPanic.normal ?_
          have HG8 : Hid (Gath w 69 3 (k + 1) (told ++ [.int .u64 B, .string D, .bool true]) v8 w8) := (HG.out.to ((((Fr.refl _ _).alloc _).alloc _).drew)).step own8 fr8
          clear own8 fr8 q2 q3
          go_wp2_with fail
          go_roundw
          case rel => exact ⟨k + 1, by omega, by go_num, by rw [HT.out]; exact HG8⟩
          case measure => simp [intOf] <;> omega
        · go_simp
          refine hK.out _ _ ?_ (fun hHeld => ?_)
          · go_keep
          clear hK K
          ((try simp only [Act.put]); (try simp only [List.setIfInBounds_toArray]); (try simp only [List.set_cons_succ]); (try simp only [List.set_cons_zero]))
          refine wpAnyH_ready (rs := [2]) (by kernel_rfl) (by simp) ?_
          refine AllReadyH.cons rfl (fun K hK => ?_) AllReadyH.nil
          (go_simp; go_at_call 31; (with_reducible refine (HB.out _).mono ?_); rintro e w5 ⟨rfl, rfl⟩)
          refine hK.out _ _ ?_ (fun hHeld => ?_)
          · go_keep
          clear hK K
          ((try simp only [Act.put]); (try simp only [List.setIfInBounds_toArray]); (try simp only [List.set_cons_succ]); (try simp only [List.set_cons_zero]))
          refine wpAnyH_take (i := 16) (v := ?_) rfl (by kernel_rfl) (by kernel_rfl) (by kernel_rfl) (fun _ _ _ h => h) (Or.inl ⟨by rfl, ?_⟩) (by assumption) ?_
          rotate_left
          focus (intro w hSw; (try dsimp only at hSw); go_simp; try with_reducible rfl)
          ((try simp only [Act.put]); (try simp only [List.setIfInBounds_toArray]); (try simp only [List.set_cons_succ]); (try simp only [List.set_cons_zero]))
          refine wpAnyH_ready (rs := [17]) (by kernel_rfl) (by simp) ?_
          refine AllReadyH.cons rfl (fun K hK => ?_) AllReadyH.nil
          go_simp
          refine hK.out _ _ ?_ (fun hHeld => ?_)
          · go_keep
          clear hK K
          ((try simp only [Act.put]); (try simp only [List.setIfInBounds_toArray]); (try simp only [List.set_cons_succ]); (try simp only [List.set_cons_zero]))
          refine wpAnyH_ready (rs := [18]) (by kernel_rfl) (by simp) ?_
          refine AllReadyH.cons rfl (fun K hK => ?_) AllReadyH.nil
          refine step_append_src (by rfl) (.tmp 15) (.tmp 32) 26 (by rfl) w.heap.size 69 i0 _ 3 32 Tryz.underlying26 hi0 hz0 hz1 hz2 rfl (by decide) u3 k told (by rfl) (by exact HOWN.out _ ((((Fr.refl _ _).alloc _).alloc _).drew)) _ 1 [.int .u64 B, .string D, .bool true] (by rfl) (by exact HSRC.out _) (by rfl) (by simp [Value.oneCell']) (by unfold maxLen; omega) (by omega) (by exact HSZ.out _ ((((Fr.refl _ _).alloc _).alloc _).drew)) ?_; intro v8 w8 own8 fr8
          refine hK.out _ _ ?_ (fun hHeld => ?_)
          · exact HKC.out _ (((HG.out.to ((((Fr.refl _ _).alloc _).alloc _).drew)).step own8 fr8).fr)
          clear hK K
          ((try simp only [Act.put]); (try simp only [List.setIfInBounds_toArray]); (try simp only [List.set_cons_succ]); (try simp only [List.set_cons_zero]))
          refine wpAnyH_take (i := 19) (v := ?_) rfl (by kernel_rfl) (by kernel_rfl) (by kernel_rfl) (fun _ _ _ h => h) (Or.inl ⟨by rfl, ?_⟩) (by assumption) ?_
          rotate_left
          focus (intro w hSw; (try dsimp only at hSw); go_simp; try with_reducible rfl)
          ((try simp only [Act.put]); (try simp only [List.setIfInBounds_toArray]); (try simp only [List.set_cons_succ]); (try simp only [List.set_cons_zero]))
          refine wpAnyH_done (by kernel_rfl) ?_ _
          refine NoPanic.normal ?_
          have HG8 : Hid (Gath w 69 3 (k + 1) (told ++ [.int .u64 B, .string D, .bool true]) v8 w8) := (HG.out.to ((((Fr.refl _ _).alloc _).alloc _).drew)).step own8 fr8
          clear own8 fr8 q2 q3
          go_wp2_with fail
          go_roundw
          case rel => exact ⟨k + 1, by omega, by go_num, by rw [HT.out]; exact HG8⟩
          case measure => simp [intOf] <;> omega
    · obtain rfl : k = n := by omega
      go_wp2_with fail
      go_ret
      refine ⟨_, rfl, ?_⟩
      have := HI.out
      rwa [List.take_of_length_le (by rw [mregs_length, HN.out]; exact Nat.le_refl _)] at this

theorem rregions_any (v : Value) (l : List MapD) (w : World) (h : MapsIn w v l) (hm : l.length ≤ 1000000) :
    Calls Tryz.prog 6 #[v] w fun e w' => ∃ u, e = .returned u ∧ RegsAt w' u (mregsOf l) ∧ Fr No w w' := by
  have hmay := fun W (hW : Fr No w W) => refmay_any v l W (h.fr hW)
  unfold mregsOf
  rcases Nat.eq_zero_or_pos l.length with h0 | h0
  · obtain rfl := List.eq_nil_of_length_eq_zero h0
    obtain ⟨a, c, rfl⟩ := h.form
    exact (rregions_zero a c w).mono fun e w' ⟨he, hf⟩ => ⟨_, he, ⟨by simp [mregs, mregsFrom], .inl ⟨by simp [mregs, mregsFrom], _, _, rfl⟩⟩, hf⟩
  cases hq : mayL l with
  | false =>
    rw [hq] at hmay
    obtain ⟨a, c, rfl⟩ := h.form
    exact (rregions_no a _ c w h0 (hmay w (Fr.refl _ _))).mono fun e w' ⟨he, hf⟩ => ⟨_, he, ⟨by simp, .inl ⟨rfl, _, _, rfl⟩⟩, hf⟩
  | true =>
    rw [hq] at hmay
    rw [if_pos rfl]
    obtain ⟨h4, hall⟩ := (mayL_iff l).1 hq
    rcases h with ⟨rfl, a, c, rfl⟩ | ⟨g, off, cap, rfl, hc⟩
    · simp at h0
    · refine (rregions_walk g off l.length cap l w rfl h4 hc hall hmay).mono ?_
      rintro e w' ⟨u, rfl, hG⟩
      have hG' := hG.out
      rw [← mregs_length l] at hG'
      exact ⟨u, rfl, hG'.regs (mregs_typed hq), hG'.fr⟩

end Go.Proofs.YtlinnhaodkiolaaGreat

namespace Go.Proofs.YtlinnhaodkiolaaGreat
open Go.RowKit

theorem take_any (m : List Reg) (p : Reg → Bool) (k : Nat) {y : Reg} (hy : m[k]? = some y) : (m.take (k + 1)).any p = ((m.take k).any p || p y) := by
  rw [List.take_add_one, hy, List.any_append]
  simp

set_option maxRecDepth 100000 in
set_option maxHeartbeats 4000000 in
theorem rholds_walk (lv : Value) (mb n gm capm N : Nat) (rs m : List Reg) (w : World) (hn : rs.length = n) (hN : m.length = N) (hn1 : n ≤ 1000) (hN1 : N ≤ 1000) (hrt : ∀ r ∈ rs, r.typed) (hmt : ∀ r ∈ m, r.typed)
    (hml : w.cell? ⟨mb, 0, none⟩ = some (.slice (some ⟨gm, 0, none⟩) N capm)) (hmc : CellsAt w gm 0 (aflat m))
    (hreg : Calls Tryz.prog 6 #[lv] w fun e w' => ∃ g off cap, e = .returned (.slice (some ⟨g, off, none⟩) n cap) ∧ Hid (Fr No w w') ∧ Hid (CellsAt w' g off (aflat rs))) :
    Calls Tryz.prog 41 #[lv, .pointer (some ⟨mb, 0, none⟩)] w fun e w' => e = .returned (.bool (holdsB rs m)) ∧ Fr No w w' := by
  have HR := Lib.hid hreg
  have HM := Lib.hid hmc
  have HML := Lib.hid hml
  have HLN := Lib.hid hn
  have HLM := Lib.hid hN
  have HRT := Lib.hid hrt
  have HMT := Lib.hid hmt
  clear hreg hmc hml hn hN hrt hmt
  go_enter Tryz.func41, Tryz.ntmps41
  go_wp2_with fail
  refine (HR.out).mono ?_
  rintro e w1 ⟨g, off, cap, rfl, HF1, HC1⟩
  clear HR
  go_wp2_with fail
  go_loopw [6, 7, 8] (fun s6 _ _ wr => ∃ i : Nat, i ≤ n ∧ s6 = .int .i64 i ∧ Hid (Fr No w1 wr) ∧ Hid (∀ (j : Nat) x, j < i → rs[j]? = some x → m.any (fits x) = true)) (fun s6 _ _ _ => n - (intOf s6).toNat)
  case atStart => exact ⟨0, Nat.zero_le _, rfl, Fr.refl _ _, fun j x hj => absurd hj (Nat.not_lt_zero _)⟩
  case round =>
    obtain ⟨i, hi, rfl, HF, HJ⟩ := hrel
    by_cases hlt : i < n
    · obtain ⟨x, hx⟩ : ∃ x, rs[i]? = some x := ⟨rs[i]'(by rw [HLN.out]; exact hlt), List.getElem?_eq_getElem _⟩
      have HX := Lib.hid hx
      have hxt := HRT.out x (List.mem_of_getElem? hx)
      obtain ⟨xl, hxl⟩ : ∃ xl, x.data.length = xl := ⟨_, rfl⟩
      have hxl2 : xl ≤ 9223372036854775807 := by rw [← hxl]; exact hxt.small
      have sx : (⟨x.data.toArray⟩ : ByteArray).size = xl := hxl
      have HXC : Hid (∀ W, Fr No w1 W → W.cell? ⟨g, off + i * 3, none⟩ = some (.int .u64 x.base) ∧ W.cell? ⟨g, off + i * 3 + 1, none⟩ = some (.string ⟨x.data.toArray⟩)) := fun W hW => by
        obtain ⟨k0, k1, k2⟩ := areg_cells (hW.cells HC1.out id) hx
        exact ⟨k0, k1⟩
      have HXL := Lib.hid hxl
      have b1 : (0 : Int) ≤ (i : Int) := by omega
      have b2 : (i : Int) < (n : Int) := by omega
      clear hx hxt hxl
      go_wp2_with fail
      obtain ⟨wo, rfl⟩ : ∃ wo : World, wo = wr := ⟨_, rfl⟩
      go_loopw [7, 8] (fun s7 s8 wx => ∃ k : Nat, k ≤ N ∧ s8 = .int .i64 k ∧ s7 = .bool ((m.take k).any (fits x)) ∧ Hid (Fr No wo wx)) (fun _ s8 _ => N - (intOf s8).toNat)
      case atStart => exact ⟨0, Nat.zero_le _, rfl, rfl, Fr.refl _ _⟩
      case round =>
        obtain ⟨k, hk, rfl, rfl, HF2⟩ := hrel
        have hml : wr.cell? ⟨mb, 0, none⟩ = some (.slice (some ⟨gm, 0, none⟩) N capm) := ((HF1.out.trans HF.out).trans HF2.out).cell HML.out id
        obtain ⟨x0, x1⟩ := HXC.out wr (HF.out.trans HF2.out)
        by_cases hlk : k < N
        · obtain ⟨y, hy⟩ : ∃ y, m[k]? = some y := ⟨m[k]'(by rw [HLM.out]; exact hlk), List.getElem?_eq_getElem _⟩
          have hyt := HMT.out y (List.mem_of_getElem? hy)
          obtain ⟨y0, y1, y2⟩ := areg_cells0 (((HF1.out.trans HF.out).trans HF2.out).cells HM.out id) hy
          have htk := take_any m (fits x) k hy
          obtain ⟨yl, hyl⟩ : ∃ yl, y.data.length = yl := ⟨_, rfl⟩
          have hyl2 : yl ≤ 9223372036854775807 := by rw [← hyl]; exact hyt.small
          have sy : (⟨y.data.toArray⟩ : ByteArray).size = yl := hyl
          have hfit : fits x y = decide (y.base = x.base ∧ yl = xl ∧ y.free = true) := by unfold fits; rw [hyl, HXL.out]
          have c1 : (0 : Int) ≤ (k : Int) := by omega
          have c2 : (k : Int) < (N : Int) := by omega
          obtain ⟨yb, yd, yf⟩ := y
          obtain ⟨xb, xd, xf⟩ := x
          simp only at x0 x1 y0 y1 y2 hfit sx sy
          have HY := Lib.hid hfit
          have HTK := Lib.hid htk
          generalize (m.take k).any (fits ⟨xb, xd, xf⟩) = t at *
          generalize (⟨yd.toArray⟩ : ByteArray) = YD at *
          generalize (⟨xd.toArray⟩ : ByteArray) = XD at *
          clear hy hyt hyl hfit htk HXL
          cases t with
          | true =>
            have HE : Hid ((m.take (k + 1)).any (fits ⟨xb, xd, xf⟩) = true) := Lib.hid (by rw [HTK.out]; rfl)
            clear HY HTK
            go_wp2_with fail
            go_quiet (fail)
            go_wp2_with fail
            go_roundw
            case rel => exact ⟨k + 1, by omega, by go_num, by rw [HE.out], HF2.out.trans ((Fr.refl _ _).drewN _)⟩
            case measure => simp [intOf] <;> omega
          | false =>
            by_cases e1 : yb = xb
            · have q1 : (yb == xb) = true := by simpa using e1
              by_cases e2 : yl = xl
              · have q2 : (yl == xl) = true := by simpa using e2
                have q3 : ((yl : Int) == (xl : Int)) = true := by simp; omega
                have HE : Hid ((m.take (k + 1)).any (fits ⟨xb, xd, xf⟩) = yf) := Lib.hid (by rw [HTK.out, HY.out]; simp [e1, e2])
                clear HY HTK e1 e2
                go_wp2_with fail
                go_quiet (fail)
                go_wp2_with fail
                go_roundw
                case rel => exact ⟨k + 1, by omega, by go_num, by rw [HE.out], HF2.out.trans ((Fr.refl _ _).drewN _)⟩
                case measure => simp [intOf] <;> omega
              · have q2 : (yl == xl) = false := by simpa using e2
                have q3 : ((yl : Int) == (xl : Int)) = false := by simp; omega
                have HE : Hid ((m.take (k + 1)).any (fits ⟨xb, xd, xf⟩) = false) := Lib.hid (by rw [HTK.out, HY.out]; simp [e2])
                clear HY HTK e1 e2
                go_wp2_with fail
                go_quiet (fail)
                go_wp2_with fail
                go_roundw
                case rel => exact ⟨k + 1, by omega, by go_num, by rw [HE.out], HF2.out.trans ((Fr.refl _ _).drewN _)⟩
                case measure => simp [intOf] <;> omega
            · have q1 : (yb == xb) = false := by simpa using e1
              have HE : Hid ((m.take (k + 1)).any (fits ⟨xb, xd, xf⟩) = false) := Lib.hid (by rw [HTK.out, HY.out]; simp [e1])
              clear HY HTK e1
              go_wp2_with fail
              go_quiet (fail)
              go_wp2_with fail
              go_roundw
              case rel => exact ⟨k + 1, by omega, by go_num, by rw [HE.out], HF2.out.trans ((Fr.refl _ _).drewN _)⟩
              case measure => simp [intOf] <;> omega
        · obtain rfl : k = N := by omega
          have htm : m.take k = m := List.take_of_length_le (by rw [HLM.out]; exact Nat.le_refl _)
          rw [htm]
          obtain ⟨t, ht⟩ : ∃ t, m.any (fits x) = t := ⟨_, rfl⟩
          rw [ht]
          have HT := Lib.hid ht
          have HF3 : Hid (Fr No w wr) := (HF1.out.trans HF.out).trans HF2.out
          have HF4 : Hid (Fr No w1 wr) := HF.out.trans HF2.out
          clear htm ht x0 x1
          cases t with
          | true =>
            have HJ2 : Hid (∀ (j : Nat) y, j < i + 1 → rs[j]? = some y → m.any (fits y) = true) := fun j y hj hy => by
              by_cases e : j = i
              · subst e
                rw [HX.out] at hy
                obtain rfl := Option.some.inj hy
                exact HT.out
              · exact HJ.out j y (by omega) hy
            go_wp2_with fail
            go_roundw
            case rel => exact ⟨i + 1, by omega, by go_num, HF4.out, HJ2⟩
            case measure => simp [intOf] <;> omega
          | false =>
            have HFA : Hid (holdsB rs m = false) := Lib.hid (by
              unfold holdsB
              rw [List.all_eq_false]
              exact ⟨x, List.mem_of_getElem? HX.out, by rw [HT.out]; simp⟩)
            go_wp2_with fail
            go_ret
            exact ⟨by rw [HFA.out]; rfl, HF3.out⟩
    · obtain rfl : i = n := by omega
      have HTR : Hid (holdsB rs m = true) := Lib.hid (by
        unfold holdsB
        rw [List.all_eq_true]
        intro x hx
        obtain ⟨j, hj, rfl⟩ := List.getElem_of_mem hx
        exact HJ.out j _ (by rw [← HLN.out]; exact hj) (List.getElem?_eq_getElem hj))
      go_wp2_with fail
      go_ret
      exact ⟨by rw [HTR.out]; rfl, HF1.out.trans HF.out⟩

set_option maxHeartbeats 400000 in
theorem rholds_zero (lv mp : Value) (w : World)
    (hreg : Calls Tryz.prog 6 #[lv] w fun e w' => ∃ a c, e = .returned (.slice a 0 c) ∧ Fr No w w') :
    Calls Tryz.prog 41 #[lv, mp] w fun e w' => e = .returned (.bool true) ∧ Fr No w w' := by
  have HR := Lib.hid hreg
  clear hreg
  go_enter Tryz.func41, Tryz.ntmps41
  go_wp2_with fail
  refine (HR.out).mono ?_
  rintro e w1 ⟨a, c, rfl, hf⟩
  go_wp2_with fail
  refine wp_loop_rounds 1 ?_
  rw [rounds_succ]
  go_wp2_with fail
  go_ret
  exact ⟨rfl, hf⟩

/-- maps' own regions are held -/
theorem rholds_own (lv : Value) (l : List MapD) (mb : Nat) (T : Nat → Prop) (w : World) (h : MapsIn w lv l) (hl : l.length ≤ 1000) (hmay : mayL l = true) (hm : RefAt w mb (mregs l) T) :
    Calls Tryz.prog 41 #[lv, .pointer (some ⟨mb, 0, none⟩)] w fun e w' => e = .returned (.bool true) ∧ Fr No w w' := by
  have hr := rregions_any lv l w h (by omega)
  have he : mregsOf l = mregs l := by unfold mregsOf; rw [if_pos hmay]
  have hh := holds_self hmay
  rw [he] at hr hh
  obtain ⟨v, hc, ⟨h0, rfl⟩ | ⟨gm, capm, rfl, _, _, hmc, _⟩⟩ := hm.list
  · rw [h0] at hr
    exact rholds_zero lv _ w (hr.mono fun e w' ⟨u, he, hu, hf⟩ => by
      rcases hu.2 with ⟨_, a, c, rfl⟩ | ⟨g, off, cap, rfl, _⟩
      · exact ⟨_, _, he, hf⟩
      · exact ⟨_, _, he, hf⟩)
  · by_cases h0 : mregs l = []
    · rw [h0] at hr
      exact rholds_zero lv _ w (hr.mono fun e w' ⟨u, he, hu, hf⟩ => by
        rcases hu.2 with ⟨_, a, c, rfl⟩ | ⟨g, off, cap, rfl, _⟩
        · exact ⟨_, _, he, hf⟩
        · exact ⟨_, _, he, hf⟩)
    · refine (rholds_walk lv mb (mregs l).length gm capm (mregs l).length (mregs l) (mregs l) w rfl rfl (by rw [mregs_length]; exact hl) (by rw [mregs_length]; exact hl) (mregs_typed hmay) (mregs_typed hmay) hc hmc (hr.mono fun e w' ⟨u, he, hu, hf⟩ => ?_)).mono fun e w' ⟨he, hf⟩ => ⟨by rw [he, hh], hf⟩
      rcases hu.2 with ⟨h1, _⟩ | ⟨g, off, cap, rfl, hcs⟩
      · exact absurd h1 h0
      · exact ⟨g, off, cap, he, hf, hcs⟩

end Go.Proofs.YtlinnhaodkiolaaGreat

namespace Go.Proofs.YtlinnhaodkiolaaGreat
open Go.RowKit

theorem Tryz.info_strs : (Tryz.prog.info? 88).map (fun i => (i.zero, i.size, i.bytes)) = some (some (.slice none 0 0), 1, 24) := by kernel_rfl

/-- the keys of k maps are gathered -/
structure RNewI (w : World) (b mb : Nat) (lv : Value) (ds : List MapD) (ts : List Tab) (k : Nat) (tabs : List HTab) (v : Value) (wr : World) : Prop where
  fr : Fr No w wr
  lo : w.heap.size ≤ b
  c0 : wr.cell? ⟨b, 0, none⟩ = some lv
  c1 : wr.cell? ⟨b, 1, none⟩ = some v
  c2 : wr.cell? ⟨b, 2, none⟩ = some (.pointer (some ⟨mb, 0, none⟩))
  free : wr.frozen? ⟨b, 1, none⟩ = false
  maps : MapsIn wr lv ds
  eqt : tabs.map (·.t) = ts.take k
  own : wr.ownsRow w.heap.size 88 1 v k (tabs.map HTab.row)
  ok : ∀ x ∈ tabs, x.t.ok
  here : ∀ x ∈ tabs, x.here wr ∧ w.heap.size ≤ x.h ∧ x.h ≠ b ∧ lv.ownBlock ≠ some x.h
  apart : tabs.Pairwise fun x y => x.h ≠ y.h
  ne : ∀ g, v.ownBlock = some g → g ≠ b ∧ (∀ x ∈ tabs, g ≠ x.h) ∧ lv.ownBlock ≠ some g
  nel : lv.ownBlock ≠ some b

theorem RNewI.lt {w wr : World} {b mb k : Nat} {lv v : Value} {ds : List MapD} {ts : List Tab} {tabs : List HTab} (h : RNewI w b mb lv ds ts k tabs v wr) : b < wr.heap.size := World.block_lt_of_cell? wr _ h.c0

theorem RNewI.to {w wr W : World} {b mb k : Nat} {lv v : Value} {ds : List MapD} {ts : List Tab} {tabs : List HTab} (h : RNewI w b mb lv ds ts k tabs v wr) (hf : Fr No wr W) : RNewI w b mb lv ds ts k tabs v W where
  fr := h.fr.trans hf
  lo := h.lo
  c0 := hf.cell h.c0 id
  c1 := hf.cell h.c1 id
  c2 := hf.cell h.c2 id
  free := by rw [hf.frozen h.c1 id]; exact h.free
  maps := h.maps.fr hf
  eqt := h.eqt
  own := ownsRow_fr h.own hf (fun _ _ => id)
  ok := h.ok
  here := fun x hx => ⟨(h.here x hx).1.fr hf id (by have := (h.ok x hx).bounds; omega), (h.here x hx).2⟩
  apart := h.apart
  ne := h.ne
  nel := h.nel

/-- one map's keys more -/
theorem RNewI.step {w wr W w1 : World} {b mb k : Nat} {lv v v' : Value} {ds : List MapD} {ts : List Tab} {tabs : List HTab} (h : RNewI w b mb lv ds ts k tabs v wr) (x : HTab) (hx : ts[k]? = some x.t) (hok : x.t.ok) (h0 : 0 < ds.length) (hW : Fr No wr W)
    (hh : x.here W ∧ wr.heap.size ≤ x.h ∧ x.h < W.heap.size) (own : w1.ownsRow w.heap.size 88 1 v' (k + 1) (tabs.map HTab.row ++ [x.row])) (hf : Fr (OwnOf v) W w1)
    (hg : ∀ g, v'.ownBlock = some g → v.ownBlock = some g ∨ W.heap.size ≤ g) :
    RNewI w b mb lv ds ts (k + 1) (tabs ++ [x]) v' (w1.setCell ⟨b, 1, none⟩ v') := by
  have hs := h.to hW
  have hbW := hs.lt
  have hsz := hW.size
  have hblt := h.lt
  have hvb : ∀ q, OwnOf v q → q ≠ b := fun q hq => (h.ne q hq).1
  have hgb : ∀ g, v'.ownBlock = some g → g ≠ b := fun g hgg => by
    rcases hg g hgg with hg | hg
    · exact (h.ne g hg).1
    · omega
  have hlvlt : ∀ q, lv.ownBlock = some q → q < wr.heap.size := fun q hq => h.maps.lt h0 hq
  have hgl : ∀ g, v'.ownBlock = some g → lv.ownBlock ≠ some g := fun g hgg => by
    rcases hg g hgg with hg | hg
    · exact (h.ne g hg).2.2
    · intro e; have := hlvlt g e; omega
  have hS : Fr (fun q => OwnOf v q ∨ q = b) W (w1.setCell ⟨b, 1, none⟩ v') := (hf.mono (fun _ _ hk => .inl hk) : Fr (fun q => OwnOf v q ∨ q = b) W w1).setCell (p := ⟨b, 1, none⟩) (.inr (.inr rfl)) _
  have hnb : ¬ OwnOf v b := fun hb => hvb b hb rfl
  have hhere : ∀ y : HTab, y.here W → y.t.ok → y.h ≠ b → (¬ OwnOf v y.h) → y.here (w1.setCell ⟨b, 1, none⟩ v') := fun y hy hyo h1 h2 =>
    hy.fr hS (fun hq => hq.elim h2 h1) (by have := hyo.bounds; omega)
  have hltb : ∀ y ∈ tabs, y.h < wr.heap.size := fun y hy => (h.here y hy).1.lt (by have := (h.ok y hy).bounds; omega)
  have hxv : ¬ OwnOf v x.h := fun hq => by
    have := (h.own.lt x.h hq).2
    have := hh.2.1
    omega
  refine ⟨?_, h.lo, ?_, ?_, ?_, ?_, ?_, ?_, ?_, ?_, ?_, ?_, ?_, h.nel⟩
  · have a1 : Fr (From w) w w1 := (h.fr.trans hW).any.trans (hf.mono fun q _ hq => by have := (h.own.lt q hq).1; exact this)
    exact (a1.setCell (p := ⟨b, 1, none⟩) (.inl h.lo) _).ours
  · rw [World.cell?_setCell_other _ _ _ _ (by simp)]
    exact hf.cell hs.c0 hnb
  · have := hf.cell hs.c1 hnb
    exact World.cell?_setCell_same _ _ _ (by rw [this])
  · rw [World.cell?_setCell_other _ _ _ _ (by simp)]
    exact hf.cell hs.c2 hnb
  · rw [World.frozen?_setCell, hf.frozen hs.c1 hnb]
    exact hs.free
  · exact hs.maps.to hS (fun q hq hor => hor.elim (fun ho => (h.ne q ho).2.2 hq) (fun e => h.nel (e ▸ hq)))
  · rw [List.map_append, h.eqt, List.take_add_one, hx]; rfl
  · rw [List.map_append]
    refine ownsRow_fr own ((Fr.refl (fun q => q = b) w1).setCell (p := ⟨b, 1, none⟩) (.inr rfl) _) (fun q hq e => hgb q hq e)
  · intro y hy
    rcases List.mem_append.1 hy with hy | hy
    · exact h.ok y hy
    · rw [List.mem_singleton.1 hy]; exact hok
  · intro y hy
    rcases List.mem_append.1 hy with hy | hy
    · obtain ⟨a1, a2, a3, a4⟩ := hs.here y hy
      exact ⟨hhere y a1 (h.ok y hy) a3 (fun hq => (h.ne _ hq).2.1 y hy rfl), a2, a3, a4⟩
    · obtain rfl := List.mem_singleton.1 hy
      obtain ⟨a1, a2, a3⟩ := hh
      have := h.fr.size
      exact ⟨hhere y a1 hok (by omega) hxv, by omega, by omega, fun e => by have := hlvlt _ e; omega⟩
  · rw [List.pairwise_append]
    refine ⟨h.apart, by simp, fun y hy z hz => ?_⟩
    obtain rfl := List.mem_singleton.1 hz
    have := hltb y hy
    have := hh.2.1
    omega
  · intro q hq
    refine ⟨hgb q hq, fun y hy => ?_, hgl q hq⟩
    rcases List.mem_append.1 hy with hy | hy
    · rcases hg q hq with hg | hg
      · exact (h.ne q hg).2.1 y hy
      · have := hltb y hy; omega
    · obtain rfl := List.mem_singleton.1 hy
      rcases hg q hq with hg | hg
      · exact fun e => hxv (e ▸ hg)
      · have := hh.2.2; omega

/-- what the document's maps, made since w, a call hands back -/
def RMadeMaps (w : World) (b mb : Nat) (S : List Tab) (R : Nat → Prop) (w' : World) : Prop :=
  ∃ A H, RMapsAt w' b mb S A H ∧ (∀ k, A k → (w.heap.size ≤ k ∧ k < w'.heap.size) ∨ R k) ∧ (∀ k, H k → w.heap.size ≤ k ∧ k < w'.heap.size)

theorem RNewI.done {w wr : World} {b mb : Nat} {lv v : Value} {ds : List MapD} {ts : List Tab} {tabs : List HTab} {R : Nat → Prop} (h : RNewI w b mb lv ds ts ds.length tabs v wr) (hts : ts.map (·.d) = ds) (h4 : ds.length ≤ 4) (hl : ∀ g, lv.ownBlock = some g → (w.heap.size ≤ g ∧ g < wr.heap.size) ∨ R g)
    (hlh : Heads lv) : RMadeMaps w b mb ts R wr := by
  have hb := h.lt
  have hlen : ts.length = ds.length := by rw [← hts]; simp
  have htabs : tabs.map (·.t) = ts := by rw [h.eqt, List.take_of_length_le (by omega)]
  have htl : tabs.length = ds.length := by rw [← hlen, ← htabs]; simp
  have hmaps : tabs.map (fun x => x.t.d) = ds := by rw [← hts, ← htabs, List.map_map]; rfl
  refine ⟨fun k => k = b ∨ lv.ownBlock = some k ∨ v.ownBlock = some k, fun k => ∃ x ∈ tabs, k = x.h, ⟨tabs, htabs, h.c2, ⟨lv, v, h.c0, h.c1, ?_⟩, h.ok, fun x hx => ⟨(h.here x hx).1, x, hx, rfl⟩, h.apart, .inl rfl, by omega, ?_⟩, ?_, ?_⟩
  · have hm := h.maps
    rcases Nat.eq_zero_or_pos ds.length with h0 | h0
    · have hd := List.eq_nil_of_length_eq_zero h0
      have ht0 : tabs = [] := List.eq_nil_of_length_eq_zero (by omega)
      obtain ⟨a, c, hv⟩ := hm.form
      rw [h0] at hv
      have ho := h.own
      rw [h0] at ho
      rcases ho.2 with ⟨rfl, _⟩ | ⟨g, cap, cur, rfl, _⟩
      · exact .inl ⟨ht0, a, c, _, _, hv, rfl⟩
      · exact .inl ⟨ht0, a, c, _, _, hv, rfl⟩
    · obtain ⟨gt, ct, hv, _, hcells⟩ := cells_of_owns h.own h0
      rcases hm with ⟨hd, _⟩ | ⟨gl, off, cl, hlv, hc⟩
      · rw [hd] at h0; simp at h0
      · have := hlh _ _ _ hlv
        simp at this
        subst this
        exact .inr ⟨gl, cl, gt, ct, by rw [hlv, htl], by rw [hv, htl], by rw [hmaps]; exact hc, hcells, .inr (.inl (by rw [hlv]; rfl)), .inr (.inr (by rw [hv]; rfl))⟩
  · rintro k hk ⟨x, hx, rfl⟩
    rcases hk with hk | hk | hk
    · exact (h.here x hx).2.2.1 hk
    · exact (h.here x hx).2.2.2 hk
    · exact (h.ne _ hk).2.1 x hx rfl
  · rintro k (rfl | hk | hk)
    · exact .inl ⟨h.lo, hb⟩
    · exact hl k hk
    · exact .inl (h.own.lt k hk)
  · rintro k ⟨x, hx, rfl⟩
    exact ⟨(h.here x hx).2.1, (h.here x hx).1.lt (by have := (h.ok x hx).bounds; omega)⟩

end Go.Proofs.YtlinnhaodkiolaaGreat
