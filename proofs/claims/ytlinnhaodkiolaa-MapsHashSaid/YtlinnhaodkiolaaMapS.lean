/- maps: Regions. -/
import Derived.Test.YtlinnhaodkiolaaMapR
namespace Go.Proofs.Ytlinnhaodkiolaa
open Go.RowKit

theorem Reg.typed_of (x : MapD) (i : Nat) (hx : x.may = true) (hi : i < 4) : (x.reg i).typed := by
  have h := (MapD.may_iff x).1 hx
  have e2 : x.value * x.max ≤ 64 * 16 := Int.mul_le_mul (by omega) (by omega) (by omega) (by omega)
  refine ⟨?_, ?_, ?_⟩
  · show 0 ≤ mbase i
    unfold mbase; omega
  · show mbase i ≤ _
    unfold mbase; omega
  · show (List.replicate (x.value * x.max).toNat (0 : UInt8)).length ≤ _
    simp; omega

set_option maxHeartbeats 400000 in
theorem mregions_no (v : Value) (w : World) (h : Calls Try.prog 33 #[v] w fun e w' => e = .returned (.bool false) ∧ Fr No w w') :
    Calls Try.prog 22 #[v] w fun e w' => e = .returned (.slice none 0 0) ∧ Fr No w w' := by
  have H := Lib.hid h
  clear h
  go_enter Try.func22, Try.ntmps22
  go_wp2_with (go_at_call 33; (with_reducible refine (H.out).mono ?_); rintro e w' ⟨rfl, hf⟩)
  go_ret
  exact ⟨rfl, hf⟩

set_option maxRecDepth 100000 in
set_option maxHeartbeats 1000000 in
theorem mregions_walk (g off n cap : Nat) (l : List MapD) (w : World) (hn : l.length = n) (h4 : n ≤ 4) (hc : CellsAt w g off (mflat l)) (hmay : ∀ x ∈ l, x.may = true)
    (hcall : Calls Try.prog 33 #[.slice (some ⟨g, off, none⟩) n cap] w fun e w' => e = .returned (.bool true) ∧ Fr No w w')
    (hrep : ∀ (c : Nat) W, c ≤ 1024 → Calls Try.prog 39 #[.string ⟨#[0]⟩, .int .i64 c] W fun e w' => e = .returned (.string ⟨(List.replicate c (0 : UInt8)).toArray⟩) ∧ Fr No W w') :
    Calls Try.prog 22 #[.slice (some ⟨g, off, none⟩) n cap] w fun e w' => ∃ u, e = .returned u ∧ Hid (Gath w 88 3 n (aflat (mregs l)) u w') := by
  have HC := Lib.hid hc
  have HN := Lib.hid hn
  have HM := Lib.hid hmay
  have HCALL := Lib.hid hcall
  have HREP := Lib.hid hrep
  obtain ⟨i0, hi0, hz0, hz1, hz2⟩ := info_parts Try.info_areg
  clear hc hn hmay hcall hrep
  go_enter Try.func22, Try.ntmps22
  go_wp2_with (go_at_call 33; (with_reducible refine (HCALL.out).mono ?_); rintro e w0 ⟨rfl, hf0⟩)
  have HF0 := Lib.hid hf0
  clear hf0
  go_loopw [3, 11] (fun o s wr => ∃ k : Nat, k ≤ n ∧ s = .int .i64 k ∧ Hid (Gath w 88 3 k (aflat ((mregs l).take k)) o wr)) (fun _ s _ => n - (intOf s).toNat)
  case atStart => exact ⟨0, Nat.zero_le _, rfl, Gath.start' HF0.out _ _⟩
  case round =>
    obtain ⟨k, hk, rfl, HI⟩ := hrel
    by_cases hlt : k < n
    · obtain ⟨x, hx⟩ : ∃ x, l[k]? = some x := ⟨l[k]'(by rw [HN.out]; exact hlt), List.getElem?_eq_getElem _⟩
      obtain ⟨k0, k1, k2, k3⟩ := map_cells (HI.out.fr.cells HC.out id) hx
      have hxm := HM.out x (List.mem_of_getElem? hx)
      have hmi := (MapD.may_iff x).1 hxm
      have e1 : 1 ≤ x.value * x.max := Int.le_trans (by omega) (Int.mul_le_mul (a := 1) (b := 1) (by omega) (by omega) (by omega) (by omega))
      have e2 : x.value * x.max ≤ 64 * 16 := Int.mul_le_mul (by omega) (by omega) (by omega) (by omega)
      have htake : aflat ((mregs l).take (k + 1)) = aflat ((mregs l).take k) ++ [.int .u64 (mbase k), .string ⟨(List.replicate (x.value * x.max).toNat (0 : UInt8)).toArray⟩, .bool true] := by
        have hg : (mregs l)[k]? = some (x.reg k) := by rw [mregs_get, hx]; rfl
        rw [List.take_add_one, hg]
        simp [aflat, Reg.cells, MapD.reg]
      obtain ⟨c, hcn⟩ : ∃ c : Nat, x.value * x.max = c := ⟨(x.value * x.max).toNat, by omega⟩
      rw [hcn] at htake e1 e2
      rw [Int.toNat_natCast] at htake
      have f1 : IntKind.i64.wrap (x.value * x.max) = c := by rw [hcn]; exact IntWalk.i64_in _ (by omega)
      obtain ⟨kind, key, value, max⟩ := x
      simp only at k0 k1 k2 k3 f1
      have HT := Lib.hid htake
      have HR1 : Hid (∀ W, Calls Try.prog 39 #[.string ⟨#[0]⟩, .int .i64 c] W fun e w' => e = .returned (.string ⟨(List.replicate c (0 : UInt8)).toArray⟩) ∧ Fr No W w') := fun W => HREP.out c W (by omega)
      have HB : Hid (∀ W, Calls Try.prog 38 #[.int .i64 k] W fun e w' => e = .returned (.int .u64 (mbase k)) ∧ W = w') := fun W => mbase_any k W (by omega)
      clear hx hxm hmi hcn htake e1 HREP
      generalize mbase k = B at HT HB
      generalize (⟨(List.replicate c (0 : UInt8)).toArray⟩ : ByteArray) = D at HT HR1
      go_upto_region 13 with fail
      have HG : Hid (Gath w 88 3 k (aflat ((mregs l).take k)) u3 (wr.alloc (.cells #[.int .i64 kind, .int .i64 key, .int .i64 value, .int .i64 max] 49))) := HI.out.to ((Fr.refl _ _).alloc _)
      have HNB : Hid (∀ k', OwnOf u3 k' → k' ≠ wr.heap.size) := fun k' hk' => by have := (HI.out.own.lt k' hk').2; omega
      have HNA : Hid (∀ k', From w k' ∨ ¬ From w k') := fun k' => by unfold From; omega
      have q2 : (wr.alloc (.cells #[.int .i64 kind, .int .i64 key, .int .i64 value, .int .i64 max] 49)).cell? ⟨wr.heap.size, 2, none⟩ = some (.int .i64 value) := by rw [World.cell?_alloc_new]; rfl
      have q3 : (wr.alloc (.cells #[.int .i64 kind, .int .i64 key, .int .i64 value, .int .i64 max] 49)).cell? ⟨wr.heap.size, 3, none⟩ = some (.int .i64 max) := by rw [World.cell?_alloc_new]; rfl
      clear HI k0 k1 k2 k3
      generalize wr.alloc (.cells #[.int .i64 kind, .int .i64 key, .int .i64 value, .int .i64 max] 49) = wx at *
      generalize wr.heap.size = BX at *
      generalize aflat ((mregs l).take k) = told at HG HT
      have HOWN : Hid (∀ W, Fr No wx W → W.ownsRow w.heap.size 88 3 u3 k told) := fun W hW => ownsRow_fr HG.out.own hW (fun _ _ => id)
      have HSZ : Hid (∀ W, Fr No wx W → w.heap.size ≤ W.heap.size) := fun W hW => Nat.le_trans HG.out.fr.size hW.size
      go_region_held3 (fun W => W.cell? ⟨BX, 2, none⟩ = some (.int .i64 value) ∧ W.cell? ⟨BX, 3, none⟩ = some (.int .i64 max))
        (first | go_keep | (refine ⟨hf6.cell ?_ id, hf6.cell ?_ id⟩ <;> (first | assumption | go_keep)) | (refine ⟨((Fr.refl No _).alloc _).cell ?_ id, ((Fr.refl No _).alloc _).cell ?_ id⟩ <;> (first | assumption | go_keep)) | (have hh : (w6.alloc (.cells #[.int .u64 B, .string D, .bool true] 88)).cell? ⟨BX, 2, none⟩ = some (.int .i64 value) ∧ (w6.alloc (.cells #[.int .u64 B, .string D, .bool true] 88)).cell? ⟨BX, 3, none⟩ = some (.int .i64 max) := (by assumption); exact ⟨fr8.cell hh.1 (fun hk => HNB.out _ hk rfl), fr8.cell hh.2 (fun hk => HNB.out _ hk rfl)⟩))
        (first
          | (go_at_call 38; (with_reducible refine (HB.out _).mono ?_); rintro e w5 ⟨rfl, rfl⟩)
          | (go_at_call 39; (with_reducible refine (HR1.out _).mono ?_); rintro e w6 ⟨rfl, hf6⟩)
          | (refine guard_append (.tmp 16) (.tmp 26) 68 ?_ ?_; rfl; refine step_append_src (by rfl) (.tmp 16) (.tmp 26) 68 (by rfl) w.heap.size 88 i0 _ 3 32 Try.underlying68 hi0 hz0 hz1 hz2 rfl (by decide) u3 k told (by rfl) (by exact HOWN.out _ ((((Fr.refl _ _).drew).trans hf6).alloc _)) _ 1 [.int .u64 B, .string D, .bool true] (by rfl) (by exact src_new _ [.int .u64 B, .string D, .bool true] 88) (by rfl) (by simp [Value.oneCell']) (by unfold maxLen; omega) (by omega) (by exact HSZ.out _ ((((Fr.refl _ _).drew).trans hf6).alloc _)) ?_; intro v8 w8 own8 fr8))
      all_goals
        have HG8 : Hid (Gath w 88 3 (k + 1) (told ++ [.int .u64 B, .string D, .bool true]) v8 w8) := (HG.out.to ((((Fr.refl _ _).drew).trans hf6).alloc _)).step own8 fr8
        clear own8 fr8 hf6 q2 q3
        go_wp2_with fail
        go_roundw
        case rel => exact ⟨k + 1, by omega, by go_num, by rw [HT.out]; exact HG8⟩
        case measure => simp [intOf] <;> omega
    · obtain rfl : k = n := by omega
      go_wp2_with fail
      go_ret
      refine ⟨_, rfl, ?_⟩
      have := HI.out
      rwa [List.take_of_length_le (by rw [mregs_length, HN.out]; exact Nat.le_refl _)] at this

end Go.Proofs.Ytlinnhaodkiolaa
