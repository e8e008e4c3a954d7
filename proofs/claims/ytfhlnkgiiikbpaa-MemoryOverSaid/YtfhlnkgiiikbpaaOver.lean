/- firewalllaw07.MemoryOver: the walk. -/
import Derived.Test.YtfhlnkgiiikbpaaLaid7
import Derived.Deep.DeepCutAuto
namespace Go.Proofs.Ytfhlnkgiiikbpaa
open Go.RowKit

def zs (n : Nat) : ByteArray := ⟨(List.replicate n (0 : UInt8)).toArray⟩
def zcells (n : Nat) : Array Value := (u8s (List.replicate n 0)).toArray
theorem zs_size (n : Nat) : (zs n).size = n := by simp [zs, ByteArray.size]

theorem make_z (n : Nat) (hn : n ≤ 4294967296) (w : World) : (Instr.makeSlice 24 (.int .i64 n) (.int .i64 n)).run Try.prog w = .ok (.slice (some ⟨w.heap.size, 0, none⟩) n n) (w.alloc (.cells (zcells n) 5)) := make_bytes n hn w

/-- the string of the zeros in block g -/
theorem str_zat (n g : Nat) (W : World) (h : CellsAt W g 0 (u8s (List.replicate n 0))) : (convert 24 9 (.slice (some ⟨g, 0, none⟩) n n)).run Try.prog W.drew = .ok (.string (zs n)) W.drew := by
  have h := str_at (w := W.drew) (g := g) (f := 0) (bs := List.replicate n 0) h n
  rw [List.length_replicate] at h
  exact h

theorem str_z1 (n : Nat) (W : World) : (convert 24 9 (.slice (some ⟨W.heap.size, 0, none⟩) n n)).run Try.prog (W.alloc (.cells (zcells n) 5)).drew = .ok (.string (zs n)) (W.alloc (.cells (zcells n) 5)).drew :=
  str_zat n _ _ (CellsAt.new _ _ _)
theorem str_z2 (n : Nat) (W : World) (o : Obj) : (convert 24 9 (.slice (some ⟨W.heap.size, 0, none⟩) n n)).run Try.prog ((W.alloc (.cells (zcells n) 5)).alloc o).drew = .ok (.string (zs n)) ((W.alloc (.cells (zcells n) 5)).alloc o).drew :=
  str_zat n _ _ (((Fr.refl No _).alloc o).cells (CellsAt.new _ _ _) id)
theorem str_z3 (n : Nat) (W : World) (o : Obj) : (convert 24 9 (.slice (some ⟨W.heap.size + 1, 0, none⟩) n n)).run Try.prog ((W.alloc o).alloc (.cells (zcells n) 5)).drew = .ok (.string (zs n)) ((W.alloc o).alloc (.cells (zcells n) 5)).drew :=
  str_zat n _ _ (by have := CellsAt.new (W.alloc o) (u8s (List.replicate n 0)) 5; rwa [World.size_alloc] at this)

/-- what the walk meets of one region's numbers -/
structure Nums1 (m a n b : Nat) : Prop where
  e1 : (a : Int).tmod 50 = ((a % 50 : Nat) : Int)
  e2 : IntKind.u64.wrap ((a % 50 : Nat) : Int) = ((a % 50 : Nat) : Int)
  e3 : IntKind.u64.wrap (1000 + ((a % 50 : Nat) : Int)) = (b : Int)
  e4 : IntKind.i64.wrap (m : Int) = m
  e5 : (m : Int).tmod 20 = ((m % 20 : Nat) : Int)
  e6 : IntKind.i64.wrap (1 + ((m % 20 : Nat) : Int)) = (n : Int)

theorem nums1 (m a : Nat) (hm : m < 256) (ha : a < 256) : Nums1 m a (1 + m % 20) (1000 + a % 50) where
  e1 := by rw [Int.tmod_eq_emod_of_nonneg (by omega)]; omega
  e2 := IntWalk.u64_in _ (by omega)
  e3 := by rw [IntWalk.u64_in _ (by omega)]; omega
  e4 := IntWalk.i64_in _ (by omega)
  e5 := by rw [Int.tmod_eq_emod_of_nonneg (by omega)]; omega
  e6 := by rw [IntWalk.i64_in _ (by omega)]; omega

/-- New's error alone -/
theorem new_code {rs : List Reg} (c : Int) (W : World) (cap : Nat) (hty : ∀ r ∈ rs, r.typed) (h12 : rs.length ≤ 12) (h : (c = 0 ∧ ∃ m, m.Perm rs ∧ WF m) ∨ (c = 2 ∧ ¬ ∃ m, m.Perm rs ∧ WF m)) :
    Calls Try.prog 8 #[.slice (some ⟨W.heap.size, 0, none⟩) rs.length cap] (W.alloc (.cells (aflat rs).toArray 26)) fun e w' => ∃ p, e = .returned (.tuple #[p, .int .i64 c]) ∧ Fr No W w' := by
  have f0 : Fr No W (W.alloc (.cells (aflat rs).toArray 26)) := (Fr.refl _ _).alloc _
  rcases h with ⟨rfl, m, hp, hm⟩ | ⟨rfl, hno⟩
  · refine (new_is (RegsAt.new W rs cap hty) h12 hp hm).mono ?_
    rintro e w' ⟨b, rfl, hf, _⟩
    exact ⟨_, rfl, f0.trans hf⟩
  · refine (new_not (RegsAt.new W rs cap hty) h12 hno).mono ?_
    rintro e w' ⟨rfl, hf⟩
    exact ⟨_, rfl, f0.trans hf⟩

def zreg (b : Int) (n : Nat) : Reg := ⟨b, List.replicate n 0, false⟩

theorem zreg_ok (b : Int) (n : Nat) (hb : 0 ≤ b) (hn : 1 ≤ n) (hn2 : n ≤ 20) (h : b + n ≤ 18446744073709551615) : (zreg b n).ok :=
  ⟨hb, by simp [zreg]; omega, by simp [zreg, Reg.len]; exact h, by simp [zreg]; omega⟩

theorem zreg_wf2 {b c : Int} {n k : Nat} (h1 : (zreg b n).ok) (h2 : (zreg c k).ok) (h : b + n ≤ c) : WF [zreg b n, zreg c k] :=
  ⟨by intro r hr; simp at hr; rcases hr with rfl | rfl <;> assumption, by simp [zreg, Reg.len]; exact h, by simp⟩

/-- two regions are a memory just if they have no address in common -/
theorem zreg_two {b c : Int} {n k : Nat} (h1 : (zreg b n).ok) (h2 : (zreg c k).ok) : (∃ m, m.Perm [zreg b n, zreg c k] ∧ WF m) ↔ ¬ (b < c + k ∧ c < b + n) := by
  constructor
  · rintro ⟨m, hp, hm⟩ ⟨ha, hb⟩
    have hpw : m.Pairwise fun x y => x.base + x.len ≤ y.base ∨ y.base + y.len ≤ x.base := hm.apart.imp fun h => .inl h
    have := (List.Perm.pairwise_iff (fun h => h.symm) hp).1 hpw
    simp [zreg, Reg.len] at this
    omega
  · intro hno
    by_cases h : b + n ≤ c
    · exact ⟨_, List.Perm.refl _, zreg_wf2 h1 h2 h⟩
    · exact ⟨_, List.Perm.swap _ _ _, zreg_wf2 h2 h1 (by omega)⟩

theorem zreg_one_over {b : Int} {n : Nat} (h : 18446744073709551615 < b + n) : ¬ ∃ m, m.Perm [zreg b n] ∧ WF m := by
  rintro ⟨m, hp, hm⟩
  have := (hm.ok (zreg b n) (hp.mem_iff.2 (by simp))).high
  simp [zreg, Reg.len] at this
  omega

/-- a box of a region: its three cells -/
structure Box (w : World) (b : Nat) (base : Int) (s : ByteArray) : Prop where
  c0 : w.cell? ⟨b, 0, none⟩ = some (.int .u64 base)
  c1 : w.cell? ⟨b, 1, none⟩ = some (.string s)
  c2 : w.cell? ⟨b, 2, none⟩ = some (.bool false)

theorem Box.fr {S : Nat → Prop} {w w' : World} {b : Nat} {base : Int} {s : ByteArray} (h : Box w b base s) (hf : Fr S w w') (hn : ¬ S b) : Box w' b base s := ⟨hf.cell h.c0 hn, hf.cell h.c1 hn, hf.cell h.c2 hn⟩

theorem Box.new (w : World) (base : Int) (s : ByteArray) : Box (w.alloc (.cells #[.int .u64 base, .string s, .bool false] 26)) w.heap.size base s :=
  ⟨by rw [World.cell?_alloc_new]; rfl, by rw [World.cell?_alloc_new]; rfl, by rw [World.cell?_alloc_new]; rfl⟩

/-- the boxes of the two arguments -/
structure Args (w wx : World) (m0 m1 a0 a1 : Nat) : Prop where
  p0 : wx.cell? ⟨w.heap.size, 0, none⟩ = some (.int .u8 m0)
  p1 : wx.cell? ⟨w.heap.size, 1, none⟩ = some (.int .u8 m1)
  p2 : wx.cell? ⟨w.heap.size + 1, 0, none⟩ = some (.int .u8 a0)
  p3 : wx.cell? ⟨w.heap.size + 1, 1, none⟩ = some (.int .u8 a1)
  fr : Fr (From w) w wx

theorem Args.start (w : World) (m0 m1 a0 a1 : Nat) : Args w ((w.alloc (.cells #[.int .u8 m0, .int .u8 m1] 22)).alloc (.cells #[.int .u8 a0, .int .u8 a1] 22)) m0 m1 a0 a1 where
  p0 := by rw [World.cell?_alloc_lt _ _ _ (by simp), World.cell?_alloc_new]; rfl
  p1 := by rw [World.cell?_alloc_lt _ _ _ (by simp), World.cell?_alloc_new]; rfl
  p2 := by rw [World.cell?_alloc_at _ _ _ _ (by simp)]; rfl
  p3 := by rw [World.cell?_alloc_at _ _ _ _ (by simp)]; rfl
  fr := ((Fr.refl _ _).alloc _).alloc _

theorem Args.to {w wx wy : World} {m0 m1 a0 a1 : Nat} (h : Args w wx m0 m1 a0 a1) (hf : Fr No wx wy) : Args w wy m0 m1 a0 a1 :=
  ⟨hf.cell h.p0 id, hf.cell h.p1 id, hf.cell h.p2 id, hf.cell h.p3 id, h.fr.trans hf.any⟩

set_option maxRecDepth 100000 in
set_option maxHeartbeats 4000000 in
theorem over_walk (m0 m1 a0 a1 n0 n1 b0 b1 : Nat) (q0 : Nums1 m0 a0 n0 b0) (q1 : Nums1 m1 a1 n1 b1) (l0 : n0 ≤ 20) (l1 : n1 ≤ 20) (k0 : 1 ≤ n0) (k1 : 1 ≤ n1) (d0 : b0 ≤ 2000) (d1 : b1 ≤ 2000) (w : World) :
    Calls Try.prog 3 #[.agg #[.int .u8 m0, .int .u8 m1], .agg #[.int .u8 a0, .int .u8 a1]] w fun e w' => e = .returned (.bool true) ∧ Fr No w w' := by
  go_enter Try.func3, Try.ntmps3
  go_upto_region 1 with fail
  have HA := Lib.hid (Args.start w m0 m1 a0 a1)
  go_cut [5] (fun s5 wx => ∃ b5 : Nat, s5 = .pointer (some ⟨b5, 0, none⟩) ∧ Hid (Args w wx m0 m1 a0 a1) ∧ Hid (Box wx b5 b0 (zs n0)))
  case first =>
    obtain ⟨e1, e2, e3, e4, e5, e6⟩ := q0
    generalize a0 % 50 = x0 at e1 e2 e3
    generalize m0 % 20 = y0 at e5 e6
    have hE1 : ∃ b5 : Nat, .pointer (some ⟨((w.alloc (.cells #[.int .u8 m0, .int .u8 m1] 22)).alloc (.cells #[.int .u8 a0, .int .u8 a1] 22)).heap.size + 1, 0, none⟩) = Value.pointer (some ⟨b5, 0, none⟩) ∧ Hid (Args w (((((w.alloc (.cells #[.int .u8 m0, .int .u8 m1] 22)).alloc (.cells #[.int .u8 a0, .int .u8 a1] 22)).alloc (.cells (zcells n0) 5)).alloc (.cells #[.int .u64 b0, .string (zs n0), .bool false] 26)).drew) m0 m1 a0 a1) ∧ Hid (Box (((((w.alloc (.cells #[.int .u8 m0, .int .u8 m1] 22)).alloc (.cells #[.int .u8 a0, .int .u8 a1] 22)).alloc (.cells (zcells n0) 5)).alloc (.cells #[.int .u64 b0, .string (zs n0), .bool false] 26)).drew) b5 b0 (zs n0)) :=
      ⟨_, rfl, HA.out.to ((((Fr.refl No _).alloc _).alloc _).drew), (by have := Box.new (((w.alloc (.cells #[.int .u8 m0, .int .u8 m1] 22)).alloc (.cells #[.int .u8 a0, .int .u8 a1] 22)).alloc (.cells (zcells n0) 5)) b0 (zs n0); rw [World.size_alloc] at this; exact this.fr ((Fr.refl No _).drew) id)⟩
    have hE2 : ∃ b5 : Nat, .pointer (some ⟨((w.alloc (.cells #[.int .u8 m0, .int .u8 m1] 22)).alloc (.cells #[.int .u8 a0, .int .u8 a1] 22)).heap.size, 0, none⟩) = Value.pointer (some ⟨b5, 0, none⟩) ∧ Hid (Args w (((((w.alloc (.cells #[.int .u8 m0, .int .u8 m1] 22)).alloc (.cells #[.int .u8 a0, .int .u8 a1] 22)).alloc (.cells #[.int .u64 b0, .string (zs n0), .bool false] 26)).alloc (.cells (zcells n0) 5)).drew) m0 m1 a0 a1) ∧ Hid (Box (((((w.alloc (.cells #[.int .u8 m0, .int .u8 m1] 22)).alloc (.cells #[.int .u8 a0, .int .u8 a1] 22)).alloc (.cells #[.int .u64 b0, .string (zs n0), .bool false] 26)).alloc (.cells (zcells n0) 5)).drew) b5 b0 (zs n0)) :=
      ⟨_, rfl, HA.out.to ((((Fr.refl No _).alloc _).alloc _).drew), (Box.new ((w.alloc (.cells #[.int .u8 m0, .int .u8 m1] 22)).alloc (.cells #[.int .u8 a0, .int .u8 a1] 22)) b0 (zs n0)).fr (((Fr.refl No _).alloc _).drew) id⟩
    have HE1 := Lib.hid hE1
    have HE2 := Lib.hid hE2
    clear hE1 hE2
    have pa := HA.out.p0
    have pb := HA.out.p2
    generalize (w.alloc (.cells #[.int .u8 m0, .int .u8 m1] 22)).alloc (.cells #[.int .u8 a0, .int .u8 a1] 22) = W0 at *
    have pn0 := World.new_ne _ _ pa
    have pn2 := World.new_ne _ _ pb
    have pl0 := World.block_lt_of_cell? _ _ pa
    have pl2 := World.block_lt_of_cell? _ _ pb
    simp only [] at pn0 pn2 pl0 pl2
    have hmk := make_z n0 (by omega)
    have hcv1 := str_z1 n0
    have hcv2 := str_z2 n0
    have hcv3 := str_z3 n0
    refine wp_region_noPanic ?_
    refine wp_region_held_drew (S := fun w' => w'.cell? ⟨w.heap.size, 0, none⟩ = some (.int .u8 m0) ∧ w'.cell? ⟨w.heap.size + 1, 0, none⟩ = some (.int .u8 a0)) (by kernel_rfl) ?_ (fun hHeld => ?_)
    · go_keep
    refine wpAnyH_take (i := 0) (v := ?_) rfl (by kernel_rfl) (by kernel_rfl) (by kernel_rfl) (fun _ _ _ h => h) (Or.inl ⟨by rfl, ?_⟩) (by assumption) ?_
    rotate_left
    focus (intro w hSw; (try dsimp only at hSw); go_simp; try with_reducible rfl)
    (try simp only [Act.put, List.setIfInBounds_toArray, List.set_cons_zero, List.set_cons_succ])
    refine wpAnyH_take (i := 1) (v := ?_) rfl (by kernel_rfl) (by kernel_rfl) (by kernel_rfl) (fun _ _ _ h => h) (Or.inl ⟨by rfl, ?_⟩) (by assumption) ?_
    rotate_left
    focus (intro w hSw; (try dsimp only at hSw); go_simp; try with_reducible rfl)
    (try simp only [Act.put, List.setIfInBounds_toArray, List.set_cons_zero, List.set_cons_succ])
    refine wpAnyH_take (i := 2) (v := ?_) rfl (by kernel_rfl) (by kernel_rfl) (by kernel_rfl) (fun _ _ _ h => h) (Or.inl ⟨by rfl, ?_⟩) (by assumption) ?_
    rotate_left
    focus (intro w hSw; (try dsimp only at hSw); go_simp; try with_reducible rfl)
    (try simp only [Act.put, List.setIfInBounds_toArray, List.set_cons_zero, List.set_cons_succ])
    refine wpAnyH_take (i := 3) (v := ?_) rfl (by kernel_rfl) (by kernel_rfl) (by kernel_rfl) (fun _ _ _ h => h) (Or.inl ⟨by rfl, ?_⟩) (by assumption) ?_
    rotate_left
    focus (intro w hSw; (try dsimp only at hSw); go_simp; try with_reducible rfl)
    (try simp only [Act.put, List.setIfInBounds_toArray, List.set_cons_zero, List.set_cons_succ])
    refine wpAnyH_take (i := 4) (v := ?_) rfl (by kernel_rfl) (by kernel_rfl) (by kernel_rfl) (fun _ _ _ h => h) (Or.inl ⟨by rfl, ?_⟩) (by assumption) ?_
    rotate_left
    focus (intro w hSw; (try dsimp only at hSw); go_simp; try with_reducible rfl)
    (try simp only [Act.put, List.setIfInBounds_toArray, List.set_cons_zero, List.set_cons_succ])
    refine wpAnyH_take (i := 5) (v := ?_) rfl (by kernel_rfl) (by kernel_rfl) (by kernel_rfl) (fun _ _ _ h => h) (Or.inl ⟨by rfl, ?_⟩) (by assumption) ?_
    rotate_left
    focus (intro w hSw; (try dsimp only at hSw); go_simp; try with_reducible rfl)
    (try simp only [Act.put, List.setIfInBounds_toArray, List.set_cons_zero, List.set_cons_succ])
    refine wpAnyH_take (i := 6) (v := ?_) rfl (by kernel_rfl) (by kernel_rfl) (by kernel_rfl) (fun _ _ _ h => h) (Or.inl ⟨by rfl, ?_⟩) (by assumption) ?_
    rotate_left
    focus (intro w hSw; (try dsimp only at hSw); go_simp; try with_reducible rfl)
    (try simp only [Act.put, List.setIfInBounds_toArray, List.set_cons_zero, List.set_cons_succ])
    refine wpAnyH_take (i := 7) (v := ?_) rfl (by kernel_rfl) (by kernel_rfl) (by kernel_rfl) (fun _ _ _ h => h) (Or.inl ⟨by rfl, ?_⟩) (by assumption) ?_
    rotate_left
    focus (intro w hSw; (try dsimp only at hSw); go_simp; try with_reducible rfl)
    (try simp only [Act.put, List.setIfInBounds_toArray, List.set_cons_zero, List.set_cons_succ])
    refine wpAnyH_take (i := 8) (v := ?_) rfl (by kernel_rfl) (by kernel_rfl) (by kernel_rfl) (fun _ _ _ h => h) (Or.inl ⟨by rfl, ?_⟩) (by assumption) ?_
    rotate_left
    focus (intro w hSw; (try dsimp only at hSw); go_simp; try with_reducible rfl)
    (try simp only [Act.put, List.setIfInBounds_toArray, List.set_cons_zero, List.set_cons_succ])
    refine wpAnyH_take (i := 9) (v := ?_) rfl (by kernel_rfl) (by kernel_rfl) (by kernel_rfl) (fun _ _ _ h => h) (Or.inl ⟨by rfl, ?_⟩) (by assumption) ?_
    rotate_left
    focus (intro w hSw; (try dsimp only at hSw); go_simp; try with_reducible rfl)
    (try simp only [Act.put, List.setIfInBounds_toArray, List.set_cons_zero, List.set_cons_succ])
    refine wpAnyH_ready (rs := [10, 13]) (by kernel_rfl) (by simp) ?_
    refine AllReadyH.cons rfl (fun K hK => ?_) (AllReadyH.cons rfl (fun K hK => ?_) AllReadyH.nil)
    · go_simp
      refine hK.out _ _ ?_ (fun hHeld => ?_)
      · go_keep
      clear hK K
      (try simp only [Act.put, List.setIfInBounds_toArray, List.set_cons_zero, List.set_cons_succ])
      refine wpAnyH_ready (rs := [11, 13]) (by kernel_rfl) (by simp) ?_
      refine AllReadyH.cons rfl (fun K hK => ?_) (AllReadyH.cons rfl (fun K hK => ?_) AllReadyH.nil)
      · go_simp
        refine hK.out _ _ ?_ (fun hHeld => ?_)
        · go_keep
        clear hK K
        (try simp only [Act.put, List.setIfInBounds_toArray, List.set_cons_zero, List.set_cons_succ])
        refine wpAnyH_take (i := 12) (v := ?_) rfl (by kernel_rfl) (by kernel_rfl) (by kernel_rfl) (fun _ _ _ h => h) (Or.inl ⟨by rfl, ?_⟩) (by assumption) ?_
        rotate_left
        focus (intro w hSw; (try dsimp only at hSw); go_simp; try with_reducible rfl)
        (try simp only [Act.put, List.setIfInBounds_toArray, List.set_cons_zero, List.set_cons_succ])
        refine wpAnyH_ready (rs := [13]) (by kernel_rfl) (by simp) ?_
        refine AllReadyH.cons rfl (fun K hK => ?_) AllReadyH.nil
        go_simp
        refine hK.out _ _ ?_ (fun hHeld => ?_)
        · go_keep
        clear hK K
        (try simp only [Act.put, List.setIfInBounds_toArray, List.set_cons_zero, List.set_cons_succ])
        refine wpAnyH_ready (rs := [14]) (by kernel_rfl) (by simp) ?_
        refine AllReadyH.cons rfl (fun K hK => ?_) AllReadyH.nil
        go_simp
        refine hK.out _ _ ?_ (fun hHeld => ?_)
        · go_keep
        clear hK K
        (try simp only [Act.put, List.setIfInBounds_toArray, List.set_cons_zero, List.set_cons_succ])
        refine wpAnyH_done (by kernel_rfl) ?_ _
        refine NoPanic.normal ?_
        go_wp2_with fail
        go_meet
        clear hHeld
        exact HE1.out
      · go_simp
        refine hK.out _ _ ?_ (fun hHeld => ?_)
        · go_keep
        clear hK K
        (try simp only [Act.put, List.setIfInBounds_toArray, List.set_cons_zero, List.set_cons_succ])
        refine wpAnyH_ready (rs := [11]) (by kernel_rfl) (by simp) ?_
        refine AllReadyH.cons rfl (fun K hK => ?_) AllReadyH.nil
        go_simp
        refine hK.out _ _ ?_ (fun hHeld => ?_)
        · go_keep
        clear hK K
        (try simp only [Act.put, List.setIfInBounds_toArray, List.set_cons_zero, List.set_cons_succ])
        refine wpAnyH_take (i := 12) (v := ?_) rfl (by kernel_rfl) (by kernel_rfl) (by kernel_rfl) (fun _ _ _ h => h) (Or.inl ⟨by rfl, ?_⟩) (by assumption) ?_
        rotate_left
        focus (intro w hSw; (try dsimp only at hSw); go_simp; try with_reducible rfl)
        (try simp only [Act.put, List.setIfInBounds_toArray, List.set_cons_zero, List.set_cons_succ])
        refine wpAnyH_ready (rs := [14]) (by kernel_rfl) (by simp) ?_
        refine AllReadyH.cons rfl (fun K hK => ?_) AllReadyH.nil
        go_simp
        refine hK.out _ _ ?_ (fun hHeld => ?_)
        · go_keep
        clear hK K
        (try simp only [Act.put, List.setIfInBounds_toArray, List.set_cons_zero, List.set_cons_succ])
        refine wpAnyH_done (by kernel_rfl) ?_ _
        refine NoPanic.normal ?_
        go_wp2_with fail
        go_meet
        clear hHeld
        exact HE1.out
    · go_simp
      refine hK.out _ _ ?_ (fun hHeld => ?_)
      · go_keep
      clear hK K
      (try simp only [Act.put, List.setIfInBounds_toArray, List.set_cons_zero, List.set_cons_succ])
      refine wpAnyH_ready (rs := [10]) (by kernel_rfl) (by simp) ?_
      refine AllReadyH.cons rfl (fun K hK => ?_) AllReadyH.nil
      go_simp
      refine hK.out _ _ ?_ (fun hHeld => ?_)
      · go_keep
      clear hK K
      (try simp only [Act.put, List.setIfInBounds_toArray, List.set_cons_zero, List.set_cons_succ])
      refine wpAnyH_ready (rs := [11]) (by kernel_rfl) (by simp) ?_
      refine AllReadyH.cons rfl (fun K hK => ?_) AllReadyH.nil
      go_simp
      refine hK.out _ _ ?_ (fun hHeld => ?_)
      · go_keep
      clear hK K
      (try simp only [Act.put, List.setIfInBounds_toArray, List.set_cons_zero, List.set_cons_succ])
      refine wpAnyH_take (i := 12) (v := ?_) rfl (by kernel_rfl) (by kernel_rfl) (by kernel_rfl) (fun _ _ _ h => h) (Or.inl ⟨by rfl, ?_⟩) (by assumption) ?_
      rotate_left
      focus (intro w hSw; (try dsimp only at hSw); go_simp; try with_reducible rfl)
      (try simp only [Act.put, List.setIfInBounds_toArray, List.set_cons_zero, List.set_cons_succ])
      refine wpAnyH_ready (rs := [14]) (by kernel_rfl) (by simp) ?_
      refine AllReadyH.cons rfl (fun K hK => ?_) AllReadyH.nil
      go_simp
      refine hK.out _ _ ?_ (fun hHeld => ?_)
      · go_keep
      clear hK K
      (try simp only [Act.put, List.setIfInBounds_toArray, List.set_cons_zero, List.set_cons_succ])
      refine wpAnyH_done (by kernel_rfl) ?_ _
      refine NoPanic.normal ?_
      go_wp2_with fail
      go_meet
      clear hHeld
      exact HE2.out
  case rest =>
    obtain ⟨b5, rfl, HA, HB5⟩ := hcut
    go_upto_region 2 with fail
    go_cut [6] (fun s6 wx => ∃ b6 : Nat, s6 = .pointer (some ⟨b6, 0, none⟩) ∧ Hid (Args w wx m0 m1 a0 a1) ∧ Hid (Box wx b5 b0 (zs n0)) ∧ Hid (Box wx b6 b1 (zs n1)))
    case first =>
      obtain ⟨e1, e2, e3, e4, e5, e6⟩ := q1
      generalize a1 % 50 = x0 at e1 e2 e3
      generalize m1 % 20 = y0 at e5 e6
      have hE1 : ∃ b6 : Nat, .pointer (some ⟨wc.heap.size + 1, 0, none⟩) = Value.pointer (some ⟨b6, 0, none⟩) ∧ Hid (Args w (((wc.alloc (.cells (zcells n1) 5)).alloc (.cells #[.int .u64 b1, .string (zs n1), .bool false] 26)).drew) m0 m1 a0 a1) ∧ Hid (Box (((wc.alloc (.cells (zcells n1) 5)).alloc (.cells #[.int .u64 b1, .string (zs n1), .bool false] 26)).drew) b5 b0 (zs n0)) ∧ Hid (Box (((wc.alloc (.cells (zcells n1) 5)).alloc (.cells #[.int .u64 b1, .string (zs n1), .bool false] 26)).drew) b6 b1 (zs n1)) :=
        ⟨_, rfl, HA.out.to ((((Fr.refl No _).alloc _).alloc _).drew), HB5.out.fr ((((Fr.refl No _).alloc _).alloc _).drew) id, (by have := Box.new (wc.alloc (.cells (zcells n1) 5)) b1 (zs n1); rw [World.size_alloc] at this; exact this.fr ((Fr.refl No _).drew) id)⟩
      have hE2 : ∃ b6 : Nat, .pointer (some ⟨wc.heap.size, 0, none⟩) = Value.pointer (some ⟨b6, 0, none⟩) ∧ Hid (Args w (((wc.alloc (.cells #[.int .u64 b1, .string (zs n1), .bool false] 26)).alloc (.cells (zcells n1) 5)).drew) m0 m1 a0 a1) ∧ Hid (Box (((wc.alloc (.cells #[.int .u64 b1, .string (zs n1), .bool false] 26)).alloc (.cells (zcells n1) 5)).drew) b5 b0 (zs n0)) ∧ Hid (Box (((wc.alloc (.cells #[.int .u64 b1, .string (zs n1), .bool false] 26)).alloc (.cells (zcells n1) 5)).drew) b6 b1 (zs n1)) :=
        ⟨_, rfl, HA.out.to ((((Fr.refl No _).alloc _).alloc _).drew), HB5.out.fr ((((Fr.refl No _).alloc _).alloc _).drew) id, (Box.new wc b1 (zs n1)).fr (((Fr.refl No _).alloc _).drew) id⟩
      have HE1 := Lib.hid hE1
      have HE2 := Lib.hid hE2
      clear hE1 hE2
      have pa := HA.out.p1
      have pb := HA.out.p3
      have pn0 := World.new_ne _ _ pa
      have pn2 := World.new_ne _ _ pb
      have pl0 := World.block_lt_of_cell? _ _ pa
      have pl2 := World.block_lt_of_cell? _ _ pb
      simp only [] at pn0 pn2 pl0 pl2
      have hmk := make_z n1 (by omega)
      have hcv1 := str_z1 n1
      have hcv2 := str_z2 n1
      have hcv3 := str_z3 n1
      refine wp_region_noPanic ?_
      refine wp_region_held_drew (S := fun w' => w'.cell? ⟨w.heap.size, 1, none⟩ = some (.int .u8 m1) ∧ w'.cell? ⟨w.heap.size + 1, 1, none⟩ = some (.int .u8 a1)) (by kernel_rfl) ?_ (fun hHeld => ?_)
      · go_keep
      refine wpAnyH_take (i := 0) (v := ?_) rfl (by kernel_rfl) (by kernel_rfl) (by kernel_rfl) (fun _ _ _ h => h) (Or.inl ⟨by rfl, ?_⟩) (by assumption) ?_
      rotate_left
      focus (intro w hSw; (try dsimp only at hSw); go_simp; try with_reducible rfl)
      (try simp only [Act.put, List.setIfInBounds_toArray, List.set_cons_zero, List.set_cons_succ])
      refine wpAnyH_take (i := 1) (v := ?_) rfl (by kernel_rfl) (by kernel_rfl) (by kernel_rfl) (fun _ _ _ h => h) (Or.inl ⟨by rfl, ?_⟩) (by assumption) ?_
      rotate_left
      focus (intro w hSw; (try dsimp only at hSw); go_simp; try with_reducible rfl)
      (try simp only [Act.put, List.setIfInBounds_toArray, List.set_cons_zero, List.set_cons_succ])
      refine wpAnyH_take (i := 2) (v := ?_) rfl (by kernel_rfl) (by kernel_rfl) (by kernel_rfl) (fun _ _ _ h => h) (Or.inl ⟨by rfl, ?_⟩) (by assumption) ?_
      rotate_left
      focus (intro w hSw; (try dsimp only at hSw); go_simp; try with_reducible rfl)
      (try simp only [Act.put, List.setIfInBounds_toArray, List.set_cons_zero, List.set_cons_succ])
      refine wpAnyH_take (i := 3) (v := ?_) rfl (by kernel_rfl) (by kernel_rfl) (by kernel_rfl) (fun _ _ _ h => h) (Or.inl ⟨by rfl, ?_⟩) (by assumption) ?_
      rotate_left
      focus (intro w hSw; (try dsimp only at hSw); go_simp; try with_reducible rfl)
      (try simp only [Act.put, List.setIfInBounds_toArray, List.set_cons_zero, List.set_cons_succ])
      refine wpAnyH_take (i := 4) (v := ?_) rfl (by kernel_rfl) (by kernel_rfl) (by kernel_rfl) (fun _ _ _ h => h) (Or.inl ⟨by rfl, ?_⟩) (by assumption) ?_
      rotate_left
      focus (intro w hSw; (try dsimp only at hSw); go_simp; try with_reducible rfl)
      (try simp only [Act.put, List.setIfInBounds_toArray, List.set_cons_zero, List.set_cons_succ])
      refine wpAnyH_take (i := 5) (v := ?_) rfl (by kernel_rfl) (by kernel_rfl) (by kernel_rfl) (fun _ _ _ h => h) (Or.inl ⟨by rfl, ?_⟩) (by assumption) ?_
      rotate_left
      focus (intro w hSw; (try dsimp only at hSw); go_simp; try with_reducible rfl)
      (try simp only [Act.put, List.setIfInBounds_toArray, List.set_cons_zero, List.set_cons_succ])
      refine wpAnyH_take (i := 6) (v := ?_) rfl (by kernel_rfl) (by kernel_rfl) (by kernel_rfl) (fun _ _ _ h => h) (Or.inl ⟨by rfl, ?_⟩) (by assumption) ?_
      rotate_left
      focus (intro w hSw; (try dsimp only at hSw); go_simp; try with_reducible rfl)
      (try simp only [Act.put, List.setIfInBounds_toArray, List.set_cons_zero, List.set_cons_succ])
      refine wpAnyH_take (i := 7) (v := ?_) rfl (by kernel_rfl) (by kernel_rfl) (by kernel_rfl) (fun _ _ _ h => h) (Or.inl ⟨by rfl, ?_⟩) (by assumption) ?_
      rotate_left
      focus (intro w hSw; (try dsimp only at hSw); go_simp; try with_reducible rfl)
      (try simp only [Act.put, List.setIfInBounds_toArray, List.set_cons_zero, List.set_cons_succ])
      refine wpAnyH_take (i := 8) (v := ?_) rfl (by kernel_rfl) (by kernel_rfl) (by kernel_rfl) (fun _ _ _ h => h) (Or.inl ⟨by rfl, ?_⟩) (by assumption) ?_
      rotate_left
      focus (intro w hSw; (try dsimp only at hSw); go_simp; try with_reducible rfl)
      (try simp only [Act.put, List.setIfInBounds_toArray, List.set_cons_zero, List.set_cons_succ])
      refine wpAnyH_take (i := 9) (v := ?_) rfl (by kernel_rfl) (by kernel_rfl) (by kernel_rfl) (fun _ _ _ h => h) (Or.inl ⟨by rfl, ?_⟩) (by assumption) ?_
      rotate_left
      focus (intro w hSw; (try dsimp only at hSw); go_simp; try with_reducible rfl)
      (try simp only [Act.put, List.setIfInBounds_toArray, List.set_cons_zero, List.set_cons_succ])
      refine wpAnyH_ready (rs := [10, 13]) (by kernel_rfl) (by simp) ?_
      refine AllReadyH.cons rfl (fun K hK => ?_) (AllReadyH.cons rfl (fun K hK => ?_) AllReadyH.nil)
      · go_simp
        refine hK.out _ _ ?_ (fun hHeld => ?_)
        · go_keep
        clear hK K
        (try simp only [Act.put, List.setIfInBounds_toArray, List.set_cons_zero, List.set_cons_succ])
        refine wpAnyH_ready (rs := [11, 13]) (by kernel_rfl) (by simp) ?_
        refine AllReadyH.cons rfl (fun K hK => ?_) (AllReadyH.cons rfl (fun K hK => ?_) AllReadyH.nil)
        · go_simp
          refine hK.out _ _ ?_ (fun hHeld => ?_)
          · go_keep
          clear hK K
          (try simp only [Act.put, List.setIfInBounds_toArray, List.set_cons_zero, List.set_cons_succ])
          refine wpAnyH_take (i := 12) (v := ?_) rfl (by kernel_rfl) (by kernel_rfl) (by kernel_rfl) (fun _ _ _ h => h) (Or.inl ⟨by rfl, ?_⟩) (by assumption) ?_
          rotate_left
          focus (intro w hSw; (try dsimp only at hSw); go_simp; try with_reducible rfl)
          (try simp only [Act.put, List.setIfInBounds_toArray, List.set_cons_zero, List.set_cons_succ])
          refine wpAnyH_ready (rs := [13]) (by kernel_rfl) (by simp) ?_
          refine AllReadyH.cons rfl (fun K hK => ?_) AllReadyH.nil
          go_simp
          refine hK.out _ _ ?_ (fun hHeld => ?_)
          · go_keep
          clear hK K
          (try simp only [Act.put, List.setIfInBounds_toArray, List.set_cons_zero, List.set_cons_succ])
          refine wpAnyH_ready (rs := [14]) (by kernel_rfl) (by simp) ?_
          refine AllReadyH.cons rfl (fun K hK => ?_) AllReadyH.nil
          go_simp
          refine hK.out _ _ ?_ (fun hHeld => ?_)
          · go_keep
          clear hK K
          (try simp only [Act.put, List.setIfInBounds_toArray, List.set_cons_zero, List.set_cons_succ])
          refine wpAnyH_done (by kernel_rfl) ?_ _
          refine NoPanic.normal ?_
          go_wp2_with fail
          go_meet
          clear hHeld
          exact HE1.out
        · go_simp
          refine hK.out _ _ ?_ (fun hHeld => ?_)
          · go_keep
          clear hK K
          (try simp only [Act.put, List.setIfInBounds_toArray, List.set_cons_zero, List.set_cons_succ])
          refine wpAnyH_ready (rs := [11]) (by kernel_rfl) (by simp) ?_
          refine AllReadyH.cons rfl (fun K hK => ?_) AllReadyH.nil
          go_simp
          refine hK.out _ _ ?_ (fun hHeld => ?_)
          · go_keep
          clear hK K
          (try simp only [Act.put, List.setIfInBounds_toArray, List.set_cons_zero, List.set_cons_succ])
          refine wpAnyH_take (i := 12) (v := ?_) rfl (by kernel_rfl) (by kernel_rfl) (by kernel_rfl) (fun _ _ _ h => h) (Or.inl ⟨by rfl, ?_⟩) (by assumption) ?_
          rotate_left
          focus (intro w hSw; (try dsimp only at hSw); go_simp; try with_reducible rfl)
          (try simp only [Act.put, List.setIfInBounds_toArray, List.set_cons_zero, List.set_cons_succ])
          refine wpAnyH_ready (rs := [14]) (by kernel_rfl) (by simp) ?_
          refine AllReadyH.cons rfl (fun K hK => ?_) AllReadyH.nil
          go_simp
          refine hK.out _ _ ?_ (fun hHeld => ?_)
          · go_keep
          clear hK K
          (try simp only [Act.put, List.setIfInBounds_toArray, List.set_cons_zero, List.set_cons_succ])
          refine wpAnyH_done (by kernel_rfl) ?_ _
          refine NoPanic.normal ?_
          go_wp2_with fail
          go_meet
          clear hHeld
          exact HE1.out
      · go_simp
        refine hK.out _ _ ?_ (fun hHeld => ?_)
        · go_keep
        clear hK K
        (try simp only [Act.put, List.setIfInBounds_toArray, List.set_cons_zero, List.set_cons_succ])
        refine wpAnyH_ready (rs := [10]) (by kernel_rfl) (by simp) ?_
        refine AllReadyH.cons rfl (fun K hK => ?_) AllReadyH.nil
        go_simp
        refine hK.out _ _ ?_ (fun hHeld => ?_)
        · go_keep
        clear hK K
        (try simp only [Act.put, List.setIfInBounds_toArray, List.set_cons_zero, List.set_cons_succ])
        refine wpAnyH_ready (rs := [11]) (by kernel_rfl) (by simp) ?_
        refine AllReadyH.cons rfl (fun K hK => ?_) AllReadyH.nil
        go_simp
        refine hK.out _ _ ?_ (fun hHeld => ?_)
        · go_keep
        clear hK K
        (try simp only [Act.put, List.setIfInBounds_toArray, List.set_cons_zero, List.set_cons_succ])
        refine wpAnyH_take (i := 12) (v := ?_) rfl (by kernel_rfl) (by kernel_rfl) (by kernel_rfl) (fun _ _ _ h => h) (Or.inl ⟨by rfl, ?_⟩) (by assumption) ?_
        rotate_left
        focus (intro w hSw; (try dsimp only at hSw); go_simp; try with_reducible rfl)
        (try simp only [Act.put, List.setIfInBounds_toArray, List.set_cons_zero, List.set_cons_succ])
        refine wpAnyH_ready (rs := [14]) (by kernel_rfl) (by simp) ?_
        refine AllReadyH.cons rfl (fun K hK => ?_) AllReadyH.nil
        go_simp
        refine hK.out _ _ ?_ (fun hHeld => ?_)
        · go_keep
        clear hK K
        (try simp only [Act.put, List.setIfInBounds_toArray, List.set_cons_zero, List.set_cons_succ])
        refine wpAnyH_done (by kernel_rfl) ?_ _
        refine NoPanic.normal ?_
        go_wp2_with fail
        go_meet
        clear hHeld
        exact HE2.out
    case rest =>
      obtain ⟨b6, rfl, HA2, HB52, HB6⟩ := hcut
      have x0 := HB52.out.c0
      have x1 := HB52.out.c1
      have x2 := HB52.out.c2
      have y0 := HB6.out.c0
      have y1 := HB6.out.c1
      have y2 := HB6.out.c2
      have hz0 := zs_size n0
      have hz1 := zs_size n1
      have t0 : IntKind.u64.wrap (n0 : Int) = n0 := IntWalk.u64_in _ (by omega)
      have t1 : IntKind.u64.wrap (n1 : Int) = n1 := IntWalk.u64_in _ (by omega)
      have t2 : IntKind.u64.wrap ((b0 : Int) + n0) = b0 + n0 := IntWalk.u64_in _ (by omega)
      have t3 : IntKind.u64.wrap ((b1 : Int) + n1) = b1 + n1 := IntWalk.u64_in _ (by omega)
      obtain ⟨L, hL, hL1, hLn⟩ : ∃ L : Int, IntKind.u64.wrap (0 - (n0 : Int)) = L ∧ IntKind.u64.wrap (L - 1) = L - 1 ∧ Hid (L = 18446744073709551616 - n0) := by
        refine ⟨18446744073709551616 - n0, ?_, IntWalk.u64_in _ (by omega), rfl⟩
        simp only [IntKind.wrap, IntKind.bits, IntKind.signed, Bool.false_and, Bool.false_eq_true, if_false]
        omega
      have hL' : IntKind.u64.wrap (-(n0 : Int)) = L := by rw [← hL]; congr 1; omega
      obtain ⟨c, hover⟩ : ∃ c : Int, (c = 2 ∧ (b0 : Int) < b1 + n1 ∧ (b1 : Int) < b0 + n0) ∨ (c = 0 ∧ ¬ (b0 : Int) < b1 + n1) ∨ (c = 0 ∧ (b0 : Int) < b1 + n1 ∧ ¬ (b1 : Int) < b0 + n0) := by
        by_cases ha : (b0 : Int) < b1 + n1
        · by_cases hb : (b1 : Int) < b0 + n0
          · exact ⟨2, .inl ⟨rfl, ha, hb⟩⟩
          · exact ⟨0, .inr (.inr ⟨rfl, ha, hb⟩)⟩
        · exact ⟨0, .inr (.inl ⟨rfl, ha⟩)⟩
      have ok0 : (zreg b0 n0).ok := zreg_ok _ _ (by omega) k0 l0 (by omega)
      have ok1 : (zreg b1 n1).ok := zreg_ok _ _ (by omega) k1 l1 (by omega)
      have okL : (zreg (L - 1) n0).ok := zreg_ok _ _ (by have := hLn.out; omega) k0 l0 (by have := hLn.out; omega)
      have ty : ∀ r : Reg, r.ok → r.typed := fun r h => ⟨h.low, by have := h.high; unfold Reg.len at this; omega, h.small⟩
      have tyL : (zreg L n0).typed := ⟨by show 0 ≤ L; have := hLn.out; omega, by show L ≤ _; have := hLn.out; omega, by simp [zreg]; omega⟩
      have c01 : (c = 0 ∧ ∃ m, m.Perm [zreg b0 n0, zreg b1 n1] ∧ WF m) ∨ (c = 2 ∧ ¬ ∃ m, m.Perm [zreg b0 n0, zreg b1 n1] ∧ WF m) := by
        rw [zreg_two ok0 ok1]; omega
      have c10 : (c = 0 ∧ ∃ m, m.Perm [zreg b1 n1, zreg b0 n0] ∧ WF m) ∨ (c = 2 ∧ ¬ ∃ m, m.Perm [zreg b1 n1, zreg b0 n0] ∧ WF m) := by
        rw [zreg_two ok1 ok0]; omega
      have hAB : Hid (∀ W : World, Calls Try.prog 8 #[.slice (some ⟨W.heap.size, 0, none⟩) 2 2] (W.alloc (.cells #[.int .u64 b0, .string (zs n0), .bool false, .int .u64 b1, .string (zs n1), .bool false] 26)) fun e w' => ∃ p, e = .returned (.tuple #[p, .int .i64 c]) ∧ Fr No W w') :=
        fun W => new_code (rs := [zreg b0 n0, zreg b1 n1]) c W 2 (by intro r hr; simp at hr; rcases hr with rfl | rfl <;> exact ty _ (by assumption)) (by simp) c01
      have hBA : Hid (∀ W : World, Calls Try.prog 8 #[.slice (some ⟨W.heap.size, 0, none⟩) 2 2] (W.alloc (.cells #[.int .u64 b1, .string (zs n1), .bool false, .int .u64 b0, .string (zs n0), .bool false] 26)) fun e w' => ∃ p, e = .returned (.tuple #[p, .int .i64 c]) ∧ Fr No W w') :=
        fun W => new_code (rs := [zreg b1 n1, zreg b0 n0]) c W 2 (by intro r hr; simp at hr; rcases hr with rfl | rfl <;> exact ty _ (by assumption)) (by simp) c10
      have hLL : Hid (∀ W : World, Calls Try.prog 8 #[.slice (some ⟨W.heap.size, 0, none⟩) 1 1] (W.alloc (.cells #[.int .u64 L, .string (zs n0), .bool false] 26)) fun e w' => ∃ p, e = .returned (.tuple #[p, .int .i64 2]) ∧ Fr No W w') :=
        fun W => new_code (rs := [zreg L n0]) 2 W 1 (by intro r hr; simp at hr; rw [hr]; exact tyL) (by simp) (.inr ⟨rfl, zreg_one_over (by have := hLn.out; omega)⟩)
      have hLA : Hid (∀ W : World, Calls Try.prog 8 #[.slice (some ⟨W.heap.size, 0, none⟩) 2 2] (W.alloc (.cells #[.int .u64 (L - 1), .string (zs n0), .bool false, .int .u64 b0, .string (zs n0), .bool false] 26)) fun e w' => ∃ p, e = .returned (.tuple #[p, .int .i64 0]) ∧ Fr No W w') :=
        fun W => new_code (rs := [zreg (L - 1) n0, zreg b0 n0]) 0 W 2 (by intro r hr; simp at hr; rcases hr with rfl | rfl <;> exact ty _ (by assumption)) (by simp) (.inl ⟨rfl, (zreg_two okL ok0).2 (by have := hLn.out; omega)⟩)
      clear ok0 ok1 okL ty tyL c01 c10
      have HA3 : Hid (Fr (From w) w wc) := HA2.out.fr
      clear HA HA2 HB5
      have lb5 := World.block_lt_of_cell? _ _ x0
      have lb6 := World.block_lt_of_cell? _ _ y0
      simp only [] at lb5 lb6
      rcases hover with ⟨rfl, o1, o2⟩ | ⟨rfl, o1⟩ | ⟨rfl, o1, o2⟩
      all_goals
        go_wp2_with fail
        refine (hAB.out _).mono ?_
        rintro e w3 ⟨pp1, rfl, hf3⟩
        have HB53 := Lib.hid (HB52.out.fr hf3 id)
        have HB63 := Lib.hid (HB6.out.fr hf3 id)
        have HF3 := Lib.hid (HA3.out.trans hf3.any)
        clear x0 x1 x2 y0 y1 y2 hf3 lb5 lb6
        have x0 := HB53.out.c0
        have x1 := HB53.out.c1
        have x2 := HB53.out.c2
        have y0 := HB63.out.c0
        have y1 := HB63.out.c1
        have y2 := HB63.out.c2
        go_wp2_with fail
        refine (hBA.out _).mono ?_
        rintro e w4 ⟨pp2, rfl, hf4⟩
        have HB54 := Lib.hid (HB53.out.fr hf4 id)
        have HF4 := Lib.hid (HF3.out.trans hf4.any)
        clear x0 x1 x2 y0 y1 y2 hf4
        have x0 := HB54.out.c0
        have x1 := HB54.out.c1
        have x2 := HB54.out.c2
        have lb5 := World.block_lt_of_cell? _ _ x0
        simp only [] at lb5
        go_wp2_with fail
        have cl := hLL.out (w4.alloc (.cells #[.int .u64 L, .string (zs n0), .bool false] 26))
        rw [World.size_alloc] at cl
        refine cl.mono ?_
        rintro e w5 ⟨pp3, rfl, hf5⟩
        have HB8 := Lib.hid ((Box.new w4 L (zs n0)).fr hf5 id)
        have HB55 := Lib.hid ((HB54.out.fr ((Fr.refl No _).alloc (.cells #[.int .u64 L, .string (zs n0), .bool false] 26)) id).fr hf5 id)
        have HF5 := Lib.hid ((HF4.out.alloc (.cells #[.int .u64 L, .string (zs n0), .bool false] 26)).trans hf5.any)
        have fz : w5.frozen? ⟨w4.heap.size, 0, none⟩ = false := by
          rw [hf5.frozen (Box.new w4 L (zs n0)).c0 id, World.frozen?_alloc_new]
        have hl4 : Hid (w.heap.size ≤ w4.heap.size) := HF4.out.size
        have hne8 : b5 ≠ w4.heap.size := by omega
        clear x0 x1 x2 hf5 cl lb5
        have x0 := HB55.out.c0
        have x1 := HB55.out.c1
        have x2 := HB55.out.c2
        have z0 := HB8.out.c0
        have z1 := HB8.out.c1
        have z2 := HB8.out.c2
        have lb5 := World.block_lt_of_cell? _ _ x0
        have lb8 := World.block_lt_of_cell? _ _ z0
        simp only [] at lb5 lb8
        go_wp2_with fail
        have ca := hLA.out (w5.setCell ⟨w4.heap.size, 0, none⟩ (.int .u64 (L - 1)))
        rw [World.size_setCell] at ca
        refine ca.mono ?_
        rintro e w6 ⟨pp4, rfl, hf6⟩
        have HF6 := Lib.hid ((HF5.out.setCell (p := ⟨w4.heap.size, 0, none⟩) (.inl hl4.out) (.int .u64 (L - 1))).trans hf6.any)
        clear x0 x1 x2 z0 z1 z2 hf6 ca lb5 lb8
        go_wp2_with (go_at_call 9; refine (laid_any _).mono ?_; rintro e w7 ⟨rfl, hf7⟩)
        go_ret
        exact ⟨rfl, (HF6.out.trans hf7.any).ours⟩

end Go.Proofs.Ytfhlnkgiiikbpaa
