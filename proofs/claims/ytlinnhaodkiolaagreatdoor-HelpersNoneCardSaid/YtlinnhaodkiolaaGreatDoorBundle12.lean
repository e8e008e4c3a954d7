/- slices.Clone of maps and of draws, at any such slice. helpers.New. helpers.New, walked. -/
import Derived.Test.YtlinnhaodkiolaaGreatDoorBundle11
import Derived.Deep.RegionHeld3
import Derived.Deep.DeepCutAuto
import Derived.Deep.RegionWith
namespace Go.Proofs.YtlinnhaodkiolaaGreatDoor
open Go.RowKit

theorem Tryz.info_cu64 : (Tryz.prog.info? 22).map (fun i => (i.zero, i.size, i.bytes)) = some (some (.int .u64 0), 1, 8) := by kernel_rfl
theorem slice_ne_u64 (w : World) (a : Addr) (n c : Nat) : (binOp .eql 41 (.slice (some a) n c) (.slice none 0 0)).run Tryz.prog w = .ok (.bool false) w := Lib.run_eql_slice_nil w 41 22 (some a) n c 0 0 Tryz.underlying41
theorem slice_eq_u64 (w : World) (n c : Nat) : (binOp .eql 41 (.slice none n c) (.slice none 0 0)).run Tryz.prog w = .ok (.bool true) w := Lib.run_eql_slice_nil w 41 22 none n c 0 0 Tryz.underlying41

set_option maxHeartbeats 1000000 in
theorem clone_u64 (g off n c : Nat) (vs : List Value) (w : World) (hl : vs.length = n * 1) (h1 : 1 ≤ n) (hm : n ≤ 1000000) (hc : CellsAt w g off vs) (hone : ∀ u ∈ vs, u.oneCell' = true) :
    Calls Tryz.prog 43 #[.slice (some ⟨g, off, none⟩) n c] w (ClonePost n vs w 1) := by
  have HC := Lib.hid hc
  have HL := Lib.hid hl
  clear hc hl
  have kn := fun w => slice_ne_u64 w ⟨g, off, none⟩ n c
  obtain ⟨i0, hi, hz0, hz1, hz2⟩ := info_parts Tryz.info_cu64
  have hown : (w.alloc (.cells #[] 22)).ownsRow w.heap.size 22 1 (.slice (some ⟨w.heap.size, 0, none⟩) 0 0) 0 [] := World.ownsRow_made w #[] 0 (Nat.le_refl _) (by unfold maxLen; omega) rfl
  have hnews : ∀ j u, vs[j]? = some u → (w.alloc (.cells #[] 22)).cell? ((⟨g, off, none⟩ : Addr).add j) = some u := fun j u hj => by
    rw [addr_add]; exact ((Fr.refl No w).alloc _).cell (HC.out j u hj) id
  go_enter Tryz.func43, Tryz.ntmps43
  go_wp2_with (at_builtin; refine wpList_append_lies _ rfl _ _ 41 rfl w.heap.size 22 i0 _ 1 8 Tryz.underlying41 hi hz0 hz1 hz2 rfl (by decide) _ 0 [] rfl hown ⟨g, off, none⟩ n c vs rfl HL.out hnews hone (by omega) (by unfold maxLen; omega) (by omega) (by simp) _ rfl ?_; intro gg cap2 w1 hown2 hgrow hat hlt2)
  go_ret
  rw [Nat.zero_add, List.nil_append] at hown2
  have := clone_post (v := .slice none 0 0) hown2 hgrow hlt2
  simpa using this

set_option maxHeartbeats 400000 in
theorem clone_u64_nil (n c : Nat) (w : World) : Calls Tryz.prog 43 #[.slice none n c] w fun e w' => e = .returned (.slice none 0 0) ∧ w = w' := by
  have kn := fun w => slice_eq_u64 w n c
  go_enter Tryz.func43, Tryz.ntmps43
  go_wp2_with fail
  go_ret
  exact ⟨rfl, rfl⟩

set_option maxHeartbeats 400000 in
theorem clone_u64_zero (a : Addr) (c : Nat) (w : World) : Calls Tryz.prog 43 #[.slice (some a) 0 c] w fun e w' => e = .returned (.slice (some ⟨w.heap.size, 0, none⟩) 0 0) ∧ Fr No w w' := by
  have kn := fun w => slice_ne_u64 w a 0 c
  go_enter Tryz.func43, Tryz.ntmps43
  go_wp2_with fail
  go_ret
  exact ⟨rfl, (Fr.refl _ _).alloc _⟩


theorem clone_u64_zero' (a : Addr) (c : Nat) (w : World) : Calls Tryz.prog 43 #[.slice (some a) 0 c] w fun e w' => e = .returned (.slice (some ⟨w.heap.size, 0, none⟩) 0 0) ∧ Fr No w w' ∧ w.heap.size < w'.heap.size := by
  have kn := fun w => slice_ne_u64 w a 0 c
  go_enter Tryz.func43, Tryz.ntmps43
  go_wp2_with fail
  go_ret
  exact ⟨rfl, (Fr.refl _ _).alloc _, by simp only [World.alloc, Array.size_push]; omega⟩

/-- a list of draws -/
def U64sIn (w : World) (v : Value) (l : List Int) : Prop := (l = [] ∧ ∃ a c, v = .slice a 0 c) ∨ ∃ g off cap, v = .slice (some ⟨g, off, none⟩) l.length cap ∧ l.length ≤ cap ∧ CellsAt w g off (l.map (Value.int .u64))

theorem U64sIn.form {w : World} {v : Value} {l : List Int} (h : U64sIn w v l) : ∃ a c, v = .slice a l.length c := by
  rcases h with ⟨rfl, a, c, rfl⟩ | ⟨g, off, cap, rfl, hl, hc⟩
  · exact ⟨a, c, rfl⟩
  · exact ⟨_, _, rfl⟩

/-- a value's block is not of these -/
def Apart (S : Nat → Prop) (v : Value) : Prop := ∀ k, v.ownBlock = some k → ¬ S k

theorem CellsAt.fr' {S : Nat → Prop} {w w' : World} {g off : Nat} {l : List Value} (h : CellsAt w g off l) (hf : Fr S w w') (hn : ¬ S g) : CellsAt w' g off l := hf.cells h hn

theorem U64sIn.fr {S : Nat → Prop} {w w' : World} {v : Value} {l : List Int} (h : U64sIn w v l) (hf : Fr S w w') (hn : Apart S v) : U64sIn w' v l := by
  rcases h with h | ⟨g, off, cap, rfl, hl, hc⟩
  · exact .inl h
  · exact .inr ⟨g, off, cap, rfl, hl, hf.cells hc (hn g rfl)⟩

theorem MapsIn.frS {S : Nat → Prop} {w w' : World} {v : Value} {l : List MapD} (h : MapsIn w v l) (hf : Fr S w w') (hn : Apart S v) : MapsIn w' v l := by
  rcases h with h | ⟨g, off, cap, rfl, hc⟩
  · exact .inl h
  · exact .inr ⟨g, off, cap, rfl, hf.cells hc (hn g rfl)⟩

theorem RegsAt.frS {S : Nat → Prop} {w w' : World} {v : Value} {l : List Reg} (h : RegsAt w v l) (hf : Fr S w w') (hn : Apart S v) : RegsAt w' v l := by
  refine ⟨h.1, ?_⟩
  rcases h.2 with h | ⟨g, off, cap, rfl, hc⟩
  · exact .inl h
  · exact .inr ⟨g, off, cap, rfl, hf.cells hc (hn g rfl)⟩

theorem clone_maps_zero' (a : Addr) (c : Nat) (w : World) : Calls Tryz.prog 23 #[.slice (some a) 0 c] w fun e w' => e = .returned (.slice (some ⟨w.heap.size, 0, none⟩) 0 0) ∧ Fr No w w' ∧ w.heap.size < w'.heap.size := by
  have kn := fun w => slice_ne_maps w a 0 c
  go_enter Tryz.func23, Tryz.ntmps23
  go_wp2_with fail
  go_ret
  exact ⟨rfl, (Fr.refl _ _).alloc _, by simp only [World.alloc, Array.size_push]; omega⟩

/-- what a Clone of maps gives -/
theorem clone_mapsIn (v : Value) (l : List MapD) (W : World) (h : MapsIn W v l) (hm : l.length ≤ 1000000) :
    Calls Tryz.prog 23 #[v] W fun e w' => ∃ a c, e = .returned (.slice a l.length c) ∧ Hid (MapsIn w' (.slice a l.length c) l ∧ Fr No W w' ∧ ∀ k, (Value.slice a l.length c).ownBlock = some k → W.heap.size ≤ k ∧ k < w'.heap.size) := by
  by_cases h0 : l = []
  · subst h0
    obtain ⟨a, c, rfl⟩ := h.form
    cases a with
    | none =>
      refine (clone_maps_nil 0 c W).mono ?_
      rintro e w' ⟨he, rfl⟩
      exact ⟨_, _, he, .inl ⟨rfl, _, _, rfl⟩, Fr.refl _ _, fun k hk => by simp [Value.ownBlock] at hk⟩
    | some a =>
      refine (clone_maps_zero' a c W).mono ?_
      rintro e w' ⟨he, hf, hs⟩
      exact ⟨_, _, he, .inl ⟨rfl, _, _, rfl⟩, hf, fun k hk => by simp [Value.ownBlock] at hk; omega⟩
  · rcases h with ⟨rfl, _⟩ | ⟨g, off, cap, rfl, hc⟩
    · exact absurd rfl h0
    · refine (clone_maps g off l.length cap (mflat l) W (by rw [mflat_length]) (by have := List.length_pos_iff.2 h0; omega) hm hc (mflat_one l)).mono ?_
      rintro e w' ⟨gg, cap2, he, h1, h2, h3, _, _, hf⟩
      exact ⟨_, _, he, .inr ⟨gg, 0, cap2, rfl, h3⟩, hf, fun k hk => by simp [Value.ownBlock] at hk; omega⟩

theorem clone_draws (v : Value) (l : List Int) (W : World) (h : U64sIn W v l) (hm : l.length ≤ 1000000) :
    Calls Tryz.prog 43 #[v] W fun e w' => ∃ a c, e = .returned (.slice a l.length c) ∧ Hid (U64sIn w' (.slice a l.length c) l ∧ Fr No W w' ∧ ∀ k, (Value.slice a l.length c).ownBlock = some k → W.heap.size ≤ k ∧ k < w'.heap.size) := by
  by_cases h0 : l = []
  · subst h0
    obtain ⟨a, c, rfl⟩ := h.form
    cases a with
    | none =>
      refine (clone_u64_nil 0 c W).mono ?_
      rintro e w' ⟨he, rfl⟩
      exact ⟨_, _, he, .inl ⟨rfl, _, _, rfl⟩, Fr.refl _ _, fun k hk => by simp [Value.ownBlock] at hk⟩
    | some a =>
      refine (clone_u64_zero' a c W).mono ?_
      rintro e w' ⟨he, hf, hs⟩
      exact ⟨_, _, he, .inl ⟨rfl, _, _, rfl⟩, hf, fun k hk => by simp [Value.ownBlock] at hk; omega⟩
  · rcases h with ⟨rfl, _⟩ | ⟨g, off, cap, rfl, hl, hc⟩
    · exact absurd rfl h0
    · refine (clone_u64 g off l.length cap (l.map (Value.int .u64)) W (by simp) (by have := List.length_pos_iff.2 h0; omega) hm hc (by intro u hu; obtain ⟨x, _, rfl⟩ := List.mem_map.1 hu; rfl)).mono ?_
      rintro e w' ⟨gg, cap2, he, h1, h2, h3, _, h5, hf⟩
      exact ⟨_, _, he, .inr ⟨gg, 0, cap2, rfl, h5, h3⟩, hf, fun k hk => by simp [Value.ownBlock] at hk; omega⟩

/-- maps.New over any memory that holds the maps' regions -/
theorem maps_on (w0 : World) (l : List MapD) (m : List Reg) (h : mayL l = true) (hh : holdsB (mregsOf l) m = true) (hok : MemOk m) (v : Value) (mb : Nat) (T : Nat → Prop) (W : World) (hv : MapsIn W v l) (hm : MemAt W mb m T) (hT : ∀ k, T k → From w0 k ∧ k < W.heap.size) (hf : Fr No w0 W) :
    Calls Tryz.prog 42 #[v, .pointer (some ⟨mb, 0, none⟩)] W fun e w' => ∃ b A H, e = .returned (.tuple #[.pointer (some ⟨b, 0, none⟩), .int .i64 0]) ∧ Hid (KSt w0 b mb (l.map Tab.new) m A H T w' ∧ (∀ k, A k ∨ H k ∨ T k → k < w'.heap.size) ∧ (∀ k, H k → W.heap.size ≤ k) ∧ (∀ k, A k → W.heap.size ≤ k) ∧ Fr No W w') := by
  have h4 := ((mayL_iff l).1 h).1
  refine (mnew_any hm hok v l hv (by omega)).mono ?_
  intro e w' hq
  unfold NewQ at hq
  rw [if_pos ⟨h, hh⟩] at hq
  obtain ⟨b, he, ⟨A, H, ha, hA, hH⟩, hf2⟩ := hq
  have hsz := hf.size
  have hsz2 := hf2.size
  refine ⟨b, A, H, he, ⟨ha, hm.fr hf2 (fun _ _ => id), fun k hk => ⟨fun hk2 => ?_, fun hk2 => ?_⟩, holds_new h hh, hf.trans hf2, fun k hk => ?_⟩, (fun k hk => ?_), (fun k hk => (hH k hk).1), (fun k hk => ?_), hf2⟩
  · have := (hT k hk).2
    rcases hA k hk2 with h | h
    · omega
    · exact h
  · have := (hT k hk).2
    have := hH k hk2
    omega
  · rcases hk with hk | hk
    · have := hH k hk
      unfold From
      omega
    · exact (hT k hk).1
  · rcases hk with hk | hk | hk
    · rcases hA k hk with h | h
      · exact h.2
      · exact h.elim
    · exact (hH k hk).2
    · have := (hT k hk).2
      omega
  · rcases hA k hk with h | h
    · exact h.1
    · exact h.elim

end Go.Proofs.YtlinnhaodkiolaaGreatDoor

namespace Go.Proofs.YtlinnhaodkiolaaGreatDoor
open Go.RowKit

/-- the regions of a world's own -/
def b8 (x : Int) : ByteArray := ⟨(leBytes 8 x.toNat).toArray⟩
theorem b8_size (x : Int) : (b8 x).size = 8 := by
  show (leBytes 8 x.toNat).toArray.size = 8
  simp
def ownR0 (p : Nat) : Reg := ⟨65536, leBytes 8 196608 ++ leBytes 8 (196608 + p), false⟩
def ownR1 (mark : Int) : Reg := ⟨65552, leBytes 8 mark.toNat, true⟩
def ownR2 : Reg := ⟨131072, List.replicate 512 0, true⟩
def ownR3 (P : List UInt8) : Reg := ⟨196608, P, true⟩
def natR : Reg := ⟨262144, List.replicate 128 0, true⟩

theorem own_form {w : World} {base size n : Nat} {e : TypeId} {v : Value} {xs : List Value} (h : w.ownsRow base e size v n xs) : ∃ a c, v = .slice a n c := by
  rcases h.2 with ⟨rfl, h0⟩ | ⟨g, cap, cur, hv, _⟩
  · subst h0; exact ⟨_, _, rfl⟩
  · exact ⟨_, _, hv⟩

theorem mregions_src (v : Value) (l : List MapD) (w : World) (h : MapsIn w v l) (hq : mayL l = true) :
    Calls Tryz.prog 39 #[v] w fun e w' => ∃ u, e = .returned u ∧ Hid (SrcAt w' u l.length (aflat (mregs l)) ∧ Fr No w w') := by
  have h4 := ((mayL_iff l).1 hq).1
  by_cases h0 : l = []
  · subst h0
    have hmay := may_any v [] w h (by simp)
    obtain ⟨a, c, rfl⟩ := h.form
    refine (mregions_zero a c w (by simpa [mayL] using hmay)).mono ?_
    rintro e w' ⟨he, hf⟩
    exact ⟨_, he, .inl ⟨rfl, rfl, rfl⟩, hf⟩
  · refine (mregions_any v l w h (by omega)).mono ?_
    rintro e w' ⟨u, he, hu, hf⟩
    rw [show mregsOf l = mregs l by unfold mregsOf; rw [if_pos hq]] at hu
    refine ⟨u, he, ?_, hf⟩
    rcases hu.2 with ⟨h1, _⟩ | ⟨g, off, cap, rfl, hc⟩
    · have := mregs_length l
      rw [h1] at this
      exact absurd (List.eq_nil_of_length_eq_zero this.symm) h0
    · rw [mregs_length]
      exact .inr ⟨_, _, rfl, fun j v hj => by rw [Addr.add_lit]; exact hc j v hj⟩

theorem aflat_one (l : List Reg) : ∀ u ∈ aflat l, u.oneCell' = true := by
  intro u hu
  obtain ⟨r, _, hr⟩ := List.mem_flatMap.1 hu
  simp only [Reg.cells, List.mem_cons, List.not_mem_nil, or_false] at hr
  rcases hr with rfl | rfl | rfl <;> rfl
theorem aflat_app (a b : List Reg) : aflat (a ++ b) = aflat a ++ aflat b := by simp [aflat]

theorem src_of_own {w : World} {base n : Nat} {v : Value} {xs : List Value} (h : w.ownsRow base 59 3 v n xs) (hn : 0 < n) : SrcAt w v n xs := by
  obtain ⟨g, cap, rfl, _, hc⟩ := cells_of_owns h hn
  exact .inr ⟨_, _, rfl, fun j u hj => by rw [Addr.add_lit]; exact hc j u hj⟩

theorem concat_row (base N2 oc no co : Nat) (oa ao : Option Addr) (RL more : List Reg) (W : World) (own : W.ownsRow base 59 3 (.slice oa N2 oc) N2 (aflat RL)) (h1 : 1 ≤ N2) (hb : N2 + 1 + no ≤ 100000)
    (hm : SrcAt W (.slice ao no co) no (aflat more)) (hno : more.length = no) (hRL : RL.length = N2) (ht : ∀ r ∈ RL ++ natR :: more, r.typed) :
    Calls Tryz.prog 41 #[.slice (some ⟨W.heap.size + 1 + 1, 0, none⟩) 3 3] (((W.alloc (.cells #[.int .u64 262144, .string (zs 128), .bool true] 59)).alloc (.cells #[.int .u64 262144, .string (zs 128), .bool true] 59)).alloc (.cells #[.slice oa N2 oc, .slice (some ⟨W.heap.size + 1, 0, none⟩) 1 1, .slice ao no co] 40))
      fun e w' => ∃ v, e = .returned v ∧ Hid (RegsAt w' v (RL ++ natR :: more) ∧ Fr No W w') := by
  obtain ⟨W1, hW1⟩ : ∃ W1, W1 = W.alloc (.cells #[.int .u64 262144, .string (zs 128), .bool true] 59) := ⟨_, rfl⟩
  have s1 : W1.heap.size = W.heap.size + 1 := by rw [hW1]; simp only [World.alloc, Array.size_push]
  have f1 : Fr No W W1 := by rw [hW1]; exact (Fr.refl _ _).alloc _
  rw [← hW1]
  obtain ⟨W2, hW2⟩ : ∃ W2, W2 = W1.alloc (.cells #[.int .u64 262144, .string (zs 128), .bool true] 59) := ⟨_, rfl⟩
  have s2 : W2.heap.size = W.heap.size + 1 + 1 := by rw [hW2, ← s1]; simp only [World.alloc, Array.size_push]
  have f2 : Fr No W1 W2 := by rw [hW2]; exact (Fr.refl _ _).alloc _
  have cN : CellsAt W2 (W.heap.size + 1) 0 (aflat [natR]) := by rw [hW2, ← s1]; exact CellsAt.new W1 (aflat [natR]) _
  rw [← hW2]
  obtain ⟨W3, hW3⟩ : ∃ W3, W3 = W2.alloc (.cells #[.slice oa N2 oc, .slice (some ⟨W.heap.size + 1, 0, none⟩) 1 1, .slice ao no co] 40) := ⟨_, rfl⟩
  have f3 : Fr No W2 W3 := by rw [hW3]; exact (Fr.refl _ _).alloc _
  have cS : CellsAt W3 (W.heap.size + 1 + 1) 0 [.slice oa N2 oc, .slice (some ⟨W.heap.size + 1, 0, none⟩) 1 1, .slice ao no co] := by rw [hW3, ← s2]; exact CellsAt.new W2 _ _
  rw [← hW3]
  have f : Fr No W W3 := (f1.trans f2).trans f3
  have lR := aflat_length RL
  have lM := aflat_length more
  refine (concat_walk (W.heap.size + 1 + 1) 3 3 (N2 + 1 + no) [⟨oa, N2, oc, aflat RL⟩, ⟨some ⟨W.heap.size + 1, 0, none⟩, 1, 1, aflat [natR]⟩, ⟨ao, no, co, aflat more⟩] W3 rfl (by omega) (by simp only [catN, List.map_cons, List.map_nil, List.sum_cons, List.sum_nil]; omega) (by omega) (by omega) ?_ ?_).mono ?_
  · intro k x hx
    match k, hx with
    | 0, hx => cases hx; have := cS 0 _ rfl; rwa [Nat.zero_add] at this
    | 1, hx => cases hx; have := cS 1 _ rfl; rwa [Nat.zero_add] at this
    | 2, hx => cases hx; have := cS 2 _ rfl; rwa [Nat.zero_add] at this
    | k + 3, hx => simp at hx
  · intro x hx
    simp only [List.mem_cons, List.not_mem_nil, or_false] at hx
    rcases hx with rfl | rfl | rfl
    · exact ⟨fun W' hW' => (src_of_own own h1).fr (f.trans hW') (fun _ _ => id), by show (aflat RL).length = N2 * 3; omega, aflat_one _⟩
    · exact ⟨fun W' hW' => .inr ⟨_, _, rfl, fun j u hj => by rw [Addr.add_lit]; exact (f3.trans hW').cells cN id j u hj⟩, rfl, aflat_one _⟩
    · exact ⟨fun W' hW' => hm.fr (f.trans hW') (fun _ _ => id), by show (aflat more).length = no * 3; omega, aflat_one _⟩
  · rintro e w' ⟨v, he, h⟩
    refine ⟨v, he, ⟨ht, ?_⟩, f.trans h.out.2⟩
    have hx : catX [⟨oa, N2, oc, aflat RL⟩, ⟨some ⟨W.heap.size + 1, 0, none⟩, 1, 1, aflat [natR]⟩, ⟨ao, no, co, aflat more⟩] = aflat (RL ++ natR :: more) := by
      rw [aflat_app]
      simp [catX, aflat]
    have ho := h.out.1
    rw [hx] at ho
    obtain ⟨g, cap, rfl, _, hc⟩ := cells_of_owns ho (by omega)
    refine .inr ⟨g, 0, cap, ?_, hc⟩
    rw [List.length_append, List.length_cons, hRL, hno, show N2 + (no + 1) = N2 + 1 + no by omega]

theorem b8_app (x y : Int) : b8 x ++ b8 y = ⟨(leBytes 8 x.toNat ++ leBytes 8 y.toNat).toArray⟩ := by
  apply ByteArray.ext
  simp [b8, ByteArray.data_append]

/-- the row that present takes -/
theorem present_row (Pl : List UInt8) (p : Nat) (mark : Int) (base : Nat) (W : World) (hb : base ≤ W.heap.size) :
    Calls Tryz.prog 36 #[.slice (some ⟨W.heap.size, 0, none⟩) 4 4] (W.alloc (.cells #[.int .u64 65536, .string (b8 196608 ++ b8 (196608 + (p : Int))), .bool false, .int .u64 65552, .string (b8 mark), .bool true, .int .u64 131072, .string (zs 512), .bool true, .int .u64 196608, .string ⟨Pl.toArray⟩, .bool true] 59))
      fun e w' => ∃ v', e = .returned v' ∧ Hid (w'.ownsRow base 59 3 v' (presL (ownR0 p) (ownR1 mark) ownR2 (ownR3 Pl)).length (aflat (presL (ownR0 p) (ownR1 mark) ownR2 (ownR3 Pl))) ∧ Fr No W w') := by
  have hl : ∀ n v, leBytes (n + 1) v ≠ [] := fun n v h => by have := congrArg List.length h; simp at this
  refine (present_any (ownR0 p) (ownR1 mark) ownR2 (ownR3 Pl) W.heap.size base _ ?_ ?_ ?_ ?_).mono ?_
  · refine ⟨rfl, .inr ⟨W.heap.size, 4, _, rfl, hb, heap_alloc_new W _, by decide, by decide, rfl, ?_⟩⟩
    rw [b8_app]
    rfl
  · unfold ownR0
    intro h
    exact hl 7 _ (List.append_eq_nil_iff.1 h).1
  · exact hl 7 _
  · show List.replicate 512 (0 : UInt8) ≠ []
    rw [Ne, List.replicate_eq_nil_iff]
    decide
  · rintro e w' ⟨v', he, ho, hf⟩
    refine ⟨v', he, ho, ?_⟩
    have h1 : Fr (From W) W w' := (((Fr.refl No W).alloc _).any).trans (hf.mono fun q _ hq => by show W.heap.size ≤ q; omega)
    exact h1.ours

/-- a world: its own block, its maps, its own regions, its draws, its memory -/
structure WAt (w0 : World) (bw b mb : Nat) (ds : List MapD) (p : Nat) (RL : List Reg) (D : List Int) (S : List Tab) (m : List Reg) (A H T : Nat → Prop) (mv ov dv : Value) (wr : World) : Prop where
  c0 : wr.cell? ⟨bw, 0, none⟩ = some (.bool true)
  c1 : wr.cell? ⟨bw, 1, none⟩ = some mv
  c2 : wr.cell? ⟨bw, 2, none⟩ = some (.int .i64 p)
  c3 : wr.cell? ⟨bw, 3, none⟩ = some ov
  c4 : wr.cell? ⟨bw, 4, none⟩ = some (.pointer (some ⟨mb, 0, none⟩))
  c5 : wr.cell? ⟨bw, 5, none⟩ = some (.pointer (some ⟨b, 0, none⟩))
  c6 : wr.cell? ⟨bw, 6, none⟩ = some dv
  open6 : wr.frozen? ⟨bw, 6, none⟩ = false
  nb : ¬ A bw ∧ ¬ H bw ∧ ¬ T bw
  lo : From w0 bw
  maps : MapsIn wr mv ds
  mapsA : Apart (fun k => H k ∨ T k ∨ k = bw) mv
  own : RegsAt wr ov RL
  ownA : Apart (fun k => H k ∨ T k ∨ k = bw) ov
  draws : U64sIn wr dv D
  drawsA : Apart (fun k => H k ∨ T k ∨ k = bw) dv
  k : KSt w0 b mb S m A H T wr
  lt : ∀ k, A k ∨ H k ∨ T k → k < wr.heap.size
  ltv : ∀ k, mv.ownBlock = some k ∨ ov.ownBlock = some k ∨ dv.ownBlock = some k → k < wr.heap.size

theorem WAt.start {w W0 w4 w5 w6 w7 W8 w9 : World} {B b mb N2 p : Nat} {ds : List MapD} {RL mm : List Reg} {S : List Tab} {D : List Int} {A H : Nat → Prop} {mv ov dv : Value} (t : TypeId)
    (hB : B = w.heap.size) (hB4 : B < w4.heap.size) (hf4 : w.heap.size ≤ w4.heap.size) (h45 : w4.heap.size ≤ w5.heap.size) (h56 : w5.heap.size ≤ w6.heap.size)
    (hk : KSt w b mb S mm A H (Made w4 w5) w6) (hlt : ∀ k, A k ∨ H k ∨ Made w4 w5 k → k < w6.heap.size) (hH : ∀ k, H k → w5.heap.size ≤ k) (hA : ∀ k, A k → w5.heap.size ≤ k) (f67 : Fr No w6 w7) (f78 : Fr (fun k => k = B) w7 W8) (f89 : Fr No W8 w9)
    (hm : MapsIn w7 mv ds) (hmA : ∀ k, mv.ownBlock = some k → w6.heap.size ≤ k ∧ k < w7.heap.size)
    (ho4 : w4.ownsRow W0.heap.size 59 3 ov N2 (aflat RL)) (ho : w6.ownsRow W0.heap.size 59 3 ov N2 (aflat RL)) (hoB : B < W0.heap.size) (hRL : RL.length = N2) (hN2 : 0 < N2) (htyp : ∀ r ∈ RL, r.typed)
    (hd : U64sIn w9 dv D) (hdA : ∀ k, dv.ownBlock = some k → W8.heap.size ≤ k ∧ k < w9.heap.size) :
    WAt w w9.heap.size b mb ds p RL D S mm A H (Made w4 w5) mv ov dv (w9.alloc (.cells #[.bool true, mv, .int .i64 p, ov, .pointer (some ⟨mb, 0, none⟩), .pointer (some ⟨b, 0, none⟩), dv] t)) := by
  obtain ⟨w', hw'⟩ : ∃ w', w' = w9.alloc (.cells #[.bool true, mv, .int .i64 p, ov, .pointer (some ⟨mb, 0, none⟩), .pointer (some ⟨b, 0, none⟩), dv] t) := ⟨_, rfl⟩
  have f9 : Fr No w9 w' := by rw [hw']; exact (Fr.refl _ _).alloc _
  have cs : CellsAt w' w9.heap.size 0 [.bool true, mv, .int .i64 p, ov, .pointer (some ⟨mb, 0, none⟩), .pointer (some ⟨b, 0, none⟩), dv] := by rw [hw']; exact CellsAt.new w9 _ t
  have fz : w'.frozen? ⟨w9.heap.size, 6, none⟩ = false := by rw [hw']; exact World.frozen?_alloc_new _ _ _ _
  have sz : w'.heap.size = w9.heap.size + 1 := by rw [hw']; simp only [World.alloc, Array.size_push]
  rw [← hw']
  have z67 := f67.size
  have z78 := f78.size
  have z89 := f89.size
  have big : ∀ k, A k ∨ H k ∨ Made w4 w5 k → k < w9.heap.size := fun k hk => by have := hlt k hk; omega
  have hBB : ∀ k, A k ∨ H k ∨ Made w4 w5 k → k ≠ B := fun k hk => by
    rcases hk with h | h | h
    · have := hA k h; omega
    · have := hH k h; omega
    · have := h.1; omega
  have k7 : KSt w b mb S mm A H (Made w4 w5) w7 := hk.to f67
  have k8 : KSt w b mb S mm A H (Made w4 w5) W8 := k7.apart f78 (fun k hk => by show w.heap.size ≤ k; omega) (fun k h => hBB k (.inl h)) (fun k h => hBB k (.inr (.inl h))) (fun k h => hBB k (.inr (.inr h)))
  have k9 : KSt w b mb S mm A H (Made w4 w5) w' := (k8.to f89).to f9
  have c := fun j u (h : ([.bool true, mv, .int .i64 p, ov, .pointer (some ⟨mb, 0, none⟩), .pointer (some ⟨b, 0, none⟩), dv] : List Value)[j]? = some u) => cs j u h
  simp only [Nat.zero_add] at c
  obtain ⟨g, cap, hov, hg, _⟩ := cells_of_owns ho4 hN2
  have hg4 : g < w4.heap.size := by
    rcases ho4.2 with ⟨_, h0⟩ | ⟨g', cap', cur, hv, _, hgs, _⟩
    · omega
    · rw [hov] at hv
      injection hv with e1 _ _
      cases e1
      exact (Array.getElem?_eq_some_iff.1 hgs).1
  refine ⟨c 0 _ rfl, c 1 _ rfl, c 2 _ rfl, c 3 _ rfl, c 4 _ rfl, c 5 _ rfl, c 6 _ rfl, fz, ⟨fun h => ?_, fun h => ?_, fun h => ?_⟩, ?_, ?_, ?_, ?_, ?_, ?_, ?_, k9, ?_, ?_⟩
  · have := big _ (.inl h); omega
  · have := big _ (.inr (.inl h)); omega
  · have := big _ (.inr (.inr h)); omega
  · show w.heap.size ≤ w9.heap.size
    have := hk.fr.size
    omega
  · exact ((hm.frS f78 (fun k hk (e : k = B) => by have := hmA k hk; omega)).fr f89).fr f9
  · intro k hk
    have h1 := hmA k hk
    rintro (h | h | h)
    · have := hlt k (.inr (.inl h)); omega
    · have := hlt k (.inr (.inr h)); omega
    · omega
  · obtain ⟨g2, cap2, hov2, _, hc2⟩ := cells_of_owns ho hN2
    rw [hov] at hov2 ⊢
    injection hov2 with e1 _ e3
    cases e1
    refine ⟨htyp, .inr ⟨g, 0, cap, by rw [hRL], ?_⟩⟩
    exact (f9.cells (f89.cells (f78.cells (f67.cells hc2 id) (fun (e : g = B) => by omega)) id) id)
  · intro k hk
    rw [hov] at hk
    simp [Value.ownBlock] at hk
    subst hk
    rintro (h | h | h)
    · have := hH _ h; omega
    · have := h.1; omega
    · omega
  · exact hd.fr f9 (fun _ _ => id)
  · intro k hk
    have h1 := hdA k hk
    rintro (h | h | h)
    · have := hlt k (.inr (.inl h)); omega
    · have := hlt k (.inr (.inr h)); omega
    · omega
  · intro k hk
    have := big k hk
    omega
  · rintro k (hk | hk | hk)
    · have := hmA k hk; omega
    · rw [hov] at hk
      simp [Value.ownBlock] at hk
      omega
    · have := hdA k hk; omega

end Go.Proofs.YtlinnhaodkiolaaGreatDoor

namespace Go.Proofs.YtlinnhaodkiolaaGreatDoor
open Go.RowKit

/-- a world's own regions -/
def ownL (p : Nat) (mark : Int) (Pl : List UInt8) (ds : List MapD) : List Reg := presL (ownR0 p) (ownR1 mark) ownR2 (ownR3 Pl) ++ mregs ds

theorem presL_len (r0 r1 r2 r3 : Reg) : 3 ≤ (presL r0 r1 r2 r3).length ∧ (presL r0 r1 r2 r3).length ≤ 4 := by unfold presL; split <;> simp

/-- a world is made -/
def HNewQ (w : World) (ds : List MapD) (p : Nat) (mark : Int) (Pl : List UInt8) (D : List Int) (mm : List Reg) (e : Ending) (w' : World) : Prop :=
  ∃ bw b mb A H T mv ov dv, e = .returned (.tuple #[.pointer (some ⟨bw, 0, none⟩), .int .i64 0]) ∧ Hid (WAt w bw b mb ds p (ownL p mark Pl ds) D (ds.map Tab.new) mm A H T mv ov dv w') ∧ Fr No w w'

set_option maxRecDepth 100000 in
set_option maxHeartbeats 4000000 in
theorem hnew_walk (Pl : List UInt8) (P : ByteArray) (p : Nat) (mark : Int) (mv mo dv : Value) (am ad ao : Option Addr) (nm cm nd cd no co : Nat) (ds : List MapD) (w : World) (hPl : P = ⟨Pl.toArray⟩) (hp : P.size = p) (hds : MapsIn w (.slice am nm cm) ds) (hnm : ds.length = nm) (hml : mayL ds = true) (more : List Reg) (hmore : SrcAt w (.slice ao no co) no (aflat more)) (hno : more.length = no) (mm : List Reg) (hperm : mm.Perm (ownL p mark Pl ds ++ natR :: more)) (hwf : WF mm) (hfew : nm + no ≤ 7) (htyp : ∀ r ∈ ownL p mark Pl ds ++ natR :: more, r.typed) (hhold : holdsB (mregsOf ds) mm = true) (hok : MemOk mm) (D : List Int) (hD : U64sIn w (.slice ad nd cd) D) (hnd : D.length = nd) (h256 : p ≤ 200) (hd : nd ≤ 100)
    (hmv : mv = .slice am nm cm) (hdv : dv = .slice ad nd cd) (hmo : mo = .slice ao no co) (hmark : 0 ≤ mark ∧ mark < 18446744073709551616) :
    Calls Tryz.prog 24 #[.agg #[mv, .int .i64 p], .agg #[.string P, .int .u64 mark, .slice none 0 0, dv], mo] w (HNewQ w ds p mark Pl D mm) := by
  have HPL := Lib.hid hPl
  clear hPl
  have HDS : Hid (∀ W, Fr No w W → MapsIn W (.slice am nm cm) ds) := fun W hW => hds.fr hW
  have HML := Lib.hid hml
  have h4 : nm ≤ 4 := by rw [← hnm]; exact ((mayL_iff ds).1 hml).1
  have HNM := Lib.hid hnm
  have HMORE : Hid (∀ W, Fr No w W → SrcAt W (.slice ao no co) no (aflat more)) := fun W hW => hmore.fr hW (fun _ _ => id)
  have HNO := Lib.hid hno
  have HR : Hid (∀ W, Fr No w W → Calls Tryz.prog 39 #[.slice am nm cm] W fun e w' => ∃ u, e = .returned u ∧ Hid (SrcAt w' u nm (aflat (mregs ds)) ∧ Fr No W w')) := fun W hW => by
    have := mregions_src (.slice am nm cm) ds W (HDS.out W hW) HML.out
    rwa [hnm] at this
  have HRL : Hid ((aflat (mregs ds)).length = nm * 3) := by rw [← hnm, ← mregs_length ds]; exact aflat_length _
  have HRO : Hid (∀ u ∈ aflat (mregs ds), u.oneCell' = true) := aflat_one _
  have HPERM := Lib.hid hperm
  have HWF := Lib.hid hwf
  have HFEW := Lib.hid hfew
  have HTYP := Lib.hid htyp
  have HHOLD := Lib.hid hhold
  have HOK := Lib.hid hok
  have HDR := Lib.hid hD
  have HND := Lib.hid hnd
  have h100 : nd ≤ 100 := hd
  clear hD hnd
  clear hds hml hmore hnm hno hperm hwf hfew htyp hhold hok
  subst hmv
  subst hdv
  subst hmo
  have HB : Hid (∀ (x : Int) W, 0 ≤ x → x < 18446744073709551616 → Calls Tryz.prog 37 #[.int .u64 x, .int .i64 8] W fun e w' => e = .returned (.string (b8 x)) ∧ Fr No W w') := fun x W h0 h1 => by
    obtain ⟨n, rfl⟩ := Int.eq_ofNat_of_zero_le h0
    exact (bytes_any n 8 W (by omega) (by omega)).mono fun e w' ⟨he, hf⟩ => ⟨he, Fr.of_below hf⟩
  have HB0 : Hid (∀ W, Calls Tryz.prog 37 #[.int .u64 196608, .int .i64 8] W fun e w' => e = .returned (.string (b8 196608)) ∧ Fr No W w') := fun W => HB.out _ W (by decide) (by decide)
  have HB1 : Hid (∀ W, Calls Tryz.prog 37 #[.int .u64 (196608 + (p : Int)), .int .i64 8] W fun e w' => e = .returned (.string (b8 (196608 + (p : Int)))) ∧ Fr No W w') := fun W => HB.out _ W (by omega) (by omega)
  have HB2 : Hid (∀ W, Calls Tryz.prog 37 #[.int .u64 mark, .int .i64 8] W fun e w' => e = .returned (.string (b8 mark)) ∧ Fr No W w') := fun W => HB.out _ W hmark.1 hmark.2
  have HZ2 : Hid (∀ W, Calls Tryz.prog 38 #[.int .i64 128] W fun e w' => e = .returned (.string (zs 128)) ∧ Fr No W w') := fun W => hzeros_any 128 W (by decide)
  have HZ : Hid (∀ W, Calls Tryz.prog 38 #[.int .i64 512] W fun e w' => e = .returned (.string (zs 512)) ∧ Fr No W w') := fun W => hzeros_any 512 W (by decide)
  have q1 : ((p : Int) != (p : Int)) = false := by simp
  have q2 : decide ((200 : Int) < (p : Int)) = false := by simp; omega
  have q3 : decide ((100 : Int) < (nd : Int)) = false := by simp; omega
  have q4 : decide ((nm : Int) < 0) = false := by simp
  have f1 : IntKind.u64.wrap (p : Int) = p := u64_nat p (by omega)
  have f2 : IntKind.u64.wrap (196608 + (p : Int)) = 196608 + (p : Int) := IntWalk.u64_in _ (by omega)
  have s0 : (b8 196608).size = 8 := b8_size _
  have s1 : (b8 (196608 + (p : Int))).size = 8 := b8_size _
  have s2 : (b8 mark).size = 8 := b8_size _
  clear hmark h256 hd HB
  go_enter Tryz.func24, Tryz.ntmps24
  go_upto_region 3 with fail
  obtain ⟨W0, hW0⟩ : ∃ W0, W0 = ((w.alloc (.cells #[.slice am nm cm, .int .i64 p] 38)).alloc (.cells #[.string P, .int .u64 mark, .slice none 0 0, .slice ad nd cd] 66)) := ⟨_, rfl⟩
  have HC : Hid (∀ W, Fr No W0 W → W.cell? ⟨w.heap.size, 0, none⟩ = some (.slice am nm cm) ∧ W.cell? ⟨w.heap.size, 1, none⟩ = some (.int .i64 p) ∧ W.cell? ⟨w.heap.size + 1, 0, none⟩ = some (.string P) ∧ W.cell? ⟨w.heap.size + 1, 1, none⟩ = some (.int .u64 mark)
      ∧ W.cell? ⟨w.heap.size + 1, 2, none⟩ = some (.slice none 0 0) ∧ W.cell? ⟨w.heap.size + 1, 3, none⟩ = some (.slice ad nd cd)) := fun W hW => by
    subst hW0
    refine ⟨hW.cell ?_ id, hW.cell ?_ id, hW.cell ?_ id, hW.cell ?_ id, hW.cell ?_ id, hW.cell ?_ id⟩ <;> go_simp
  have HFZ : Hid (∀ W, Fr No W0 W → W.frozen? ⟨w.heap.size, 0, none⟩ = false) := fun W hW => by
    rw [hW.frozen (HC.out _ (Fr.refl _ _)).1 id]
    subst hW0
    go_simp
  have HS : Hid (W0.heap.size = w.heap.size + 2) := Lib.hid (by subst hW0; simp only [World.alloc, Array.size_push])
  have HF0 : Hid (Fr No w W0) := by rw [hW0]; exact ((Fr.refl _ _).alloc _).alloc _
  rw [← hW0]
  clear hW0
  go_cut [8] (fun s8 wx => Hid (wx.ownsRow W0.heap.size 59 3 s8 (presL (ownR0 p) (ownR1 mark) ownR2 (ownR3 Pl)).length (aflat (presL (ownR0 p) (ownR1 mark) ownR2 (ownR3 Pl))) ∧ Fr No W0 wx))
  case first =>
    have HP : Hid (∀ W, Fr No W0 W → Calls Tryz.prog 36 #[.slice (some ⟨W.heap.size, 0, none⟩) 4 4] (W.alloc (.cells #[.int .u64 65536, .string (b8 196608 ++ b8 (196608 + (p : Int))), .bool false, .int .u64 65552, .string (b8 mark), .bool true, .int .u64 131072, .string (zs 512), .bool true, .int .u64 196608, .string P, .bool true] 59))
      fun e w' => ∃ v', e = .returned v' ∧ Hid (w'.ownsRow W0.heap.size 59 3 v' (presL (ownR0 p) (ownR1 mark) ownR2 (ownR3 Pl)).length (aflat (presL (ownR0 p) (ownR1 mark) ownR2 (ownR3 Pl)))) ∧ Fr No W w') := fun W hW => by
      rw [HPL.out]
      exact (present_row Pl p mark W0.heap.size W hW.size).mono fun e w' ⟨v', he, h⟩ => ⟨v', he, h.out.1, h.out.2⟩
    have HK : Hid (∀ W W', Fr No W W' → (W.cell? ⟨w.heap.size, 1, none⟩ = some (.int .i64 p) ∧ W.cell? ⟨w.heap.size + 1, 0, none⟩ = some (.string P) ∧ W.cell? ⟨w.heap.size + 1, 1, none⟩ = some (.int .u64 mark) ∧ Hid (Fr No W0 W)) → 
       (W'.cell? ⟨w.heap.size, 1, none⟩ = some (.int .i64 p) ∧ W'.cell? ⟨w.heap.size + 1, 0, none⟩ = some (.string P) ∧ W'.cell? ⟨w.heap.size + 1, 1, none⟩ = some (.int .u64 mark) ∧ Hid (Fr No W0 W'))) := fun W W' hf h => ⟨hf.cell h.1 id, hf.cell h.2.1 id, hf.cell h.2.2.1 id, h.2.2.2.out.trans hf⟩
    have HK0 : Hid (∀ W, Fr No W0 W → (W.cell? ⟨w.heap.size, 1, none⟩ = some (.int .i64 p) ∧ W.cell? ⟨w.heap.size + 1, 0, none⟩ = some (.string P) ∧ W.cell? ⟨w.heap.size + 1, 1, none⟩ = some (.int .u64 mark) ∧ Hid (Fr No W0 W))) := fun W h => by
      obtain ⟨_, c1, c2, c3, _⟩ := HC.out _ h
      exact ⟨c1, c2, c3, h⟩
    have H0 : (W0.drew.cell? ⟨w.heap.size, 1, none⟩ = some (.int .i64 p) ∧ W0.drew.cell? ⟨w.heap.size + 1, 0, none⟩ = some (.string P) ∧ W0.drew.cell? ⟨w.heap.size + 1, 1, none⟩ = some (.int .u64 mark) ∧ Hid (Fr No W0 W0.drew)) := by
      have hd := (Fr.refl No W0).drew
      obtain ⟨_, c1, c2, c3, _⟩ := HC.out _ hd
      exact ⟨c1, c2, c3, hd⟩
    go_region_held3 (fun W => W.cell? ⟨w.heap.size, 1, none⟩ = some (.int .i64 p) ∧ W.cell? ⟨w.heap.size + 1, 0, none⟩ = some (.string P) ∧ W.cell? ⟨w.heap.size + 1, 1, none⟩ = some (.int .u64 mark) ∧ Hid (Fr No W0 W))
      (first | assumption | exact HK.out _ _ (by assumption) (by assumption) | exact HK0.out _ (by (iterate 5 (refine Fr.trans ?_ (by assumption))); exact (Fr.refl _ _).drew) | exact HK.out _ _ ((Fr.refl _ _).alloc _) (by assumption))
      (first
        | (go_at_call 37; (with_reducible refine (HB0.out _).mono ?_); rintro e w3 ⟨rfl, hf3⟩)
        | (go_at_call 37; (with_reducible refine (HB1.out _).mono ?_); rintro e w4 ⟨rfl, hf4⟩)
        | (go_at_call 37; (with_reducible refine (HB2.out _).mono ?_); rintro e w5 ⟨rfl, hf5⟩)
        | (go_at_call 38; (with_reducible refine (HZ.out _).mono ?_); rintro e w6 ⟨rfl, hf6⟩)
        | (go_at_call 36; (with_reducible refine (HP.out _ (by (iterate 4 (refine Fr.trans ?_ (by assumption))); exact (Fr.refl _ _).drew)).mono ?_); rintro e w7 ⟨v7, rfl, ho7, hf7⟩))
    all_goals go_wp2_with fail
    all_goals go_meet
    all_goals exact ⟨ho7.out, by (iterate 5 (refine Fr.trans ?_ (by assumption))); exact (Fr.refl _ _).drew⟩
  case rest =>
    obtain ⟨i0, hi, hz0, hz1, hz2⟩ := info_parts Tryz.info_areg
    obtain ⟨N1, hN1⟩ : ∃ N1, (presL (ownR0 p) (ownR1 mark) ownR2 (ownR3 Pl)).length = N1 := ⟨_, rfl⟩
    have hN14 : 3 ≤ N1 ∧ N1 ≤ 4 := by rw [← hN1]; exact presL_len _ _ _ _
    obtain ⟨hN13, hN14⟩ := hN14
    obtain ⟨xs1, hxs1⟩ : ∃ xs1, aflat (presL (ownR0 p) (ownR1 mark) ownR2 (ownR3 Pl)) = xs1 := ⟨_, rfl⟩
    have HN1 := Lib.hid hN1
    have HXS1 := Lib.hid hxs1
    have HOW := Lib.hid hcut.out.1
    have HFW := Lib.hid hcut.out.2
    rw [hN1, hxs1] at HOW
    have HXR : Hid (xs1 ++ aflat (mregs ds) = aflat (ownL p mark Pl ds)) := by unfold ownL; rw [aflat_app, hxs1]; exact Lib.hid rfl
    have HLN : Hid ((ownL p mark Pl ds).length = N1 + nm) := by unfold ownL; rw [List.length_append, mregs_length, hN1, HNM.out]; exact Lib.hid rfl
    have HCC : Hid (∀ W oa2 oc2, Fr No W0 W → W.ownsRow W0.heap.size 59 3 (.slice oa2 (N1 + nm) oc2) (N1 + nm) (aflat (ownL p mark Pl ds)) → Calls Tryz.prog 41 #[.slice (some ⟨W.heap.size + 1 + 1, 0, none⟩) 3 3] (((W.alloc (.cells #[.int .u64 262144, .string (zs 128), .bool true] 59)).alloc (.cells #[.int .u64 262144, .string (zs 128), .bool true] 59)).alloc (.cells #[.slice oa2 (N1 + nm) oc2, .slice (some ⟨W.heap.size + 1, 0, none⟩) 1 1, .slice ao no co] 40))
      fun e w' => ∃ v, e = .returned v ∧ Hid (RegsAt w' v (ownL p mark Pl ds ++ natR :: more) ∧ Fr No W w')) := fun W oa2 oc2 hW own => concat_row W0.heap.size (N1 + nm) oc2 no co oa2 ao _ more W own (by omega) (by have := HFEW.out; omega) (HMORE.out W (HF0.out.trans hW)) HNO.out HLN.out HTYP.out
    have HMN : Hid (∀ W v, RegsAt W v (ownL p mark Pl ds ++ natR :: more) → Calls Tryz.prog 40 #[v] W fun e w' => ∃ b, e = .returned (.tuple #[.pointer (some ⟨b, 0, none⟩), .int .i64 0]) ∧ Hid (Fr No W w' ∧ MemAt w' b mm (Made W w'))) := fun W v h =>
      (new_is h (by rw [List.length_append, List.length_cons, HLN.out, HNO.out]; have := HFEW.out; omega) HPERM.out HWF.out).mono fun e w' ⟨b, he, h1, h2⟩ => ⟨b, he, h1, h2⟩
    have HXN : Hid (∀ W mb T, Fr No w W → MemAt W mb mm T → (∀ k, T k → From w k ∧ k < W.heap.size) → Calls Tryz.prog 42 #[.slice am nm cm, .pointer (some ⟨mb, 0, none⟩)] W fun e w' => ∃ b A H, e = .returned (.tuple #[.pointer (some ⟨b, 0, none⟩), .int .i64 0]) ∧ Hid (KSt w b mb (ds.map Tab.new) mm A H T w' ∧ (∀ k, A k ∨ H k ∨ T k → k < w'.heap.size) ∧ (∀ k, H k → W.heap.size ≤ k) ∧ (∀ k, A k → W.heap.size ≤ k) ∧ Fr No W w')) := fun W mb T hW hm hT =>
      maps_on w ds mm HML.out HHOLD.out HOK.out _ mb T W (HDS.out W hW) hm hT hW
    have HCM : Hid (∀ W, Fr No w W → Calls Tryz.prog 23 #[.slice am nm cm] W fun e w' => ∃ a c, e = .returned (.slice a nm c) ∧ Hid (MapsIn w' (.slice a nm c) ds ∧ Fr No W w' ∧ ∀ k, (Value.slice a nm c).ownBlock = some k → W.heap.size ≤ k ∧ k < w'.heap.size)) := fun W hW => by
      have := clone_mapsIn (.slice am nm cm) ds W (HDS.out W hW) (by rw [HNM.out]; omega)
      rwa [HNM.out] at this
    obtain ⟨oa, oc, rfl⟩ := own_form HOW.out
    obtain ⟨l0, l1, l2, l3, l4, l5⟩ := HC.out wc HFW.out
    clear HB0 HB1 HB2 hcut hN1 hxs1
    go_wp2_with (first
      | (go_at_call 39; (with_reducible refine (HR.out _ (HF0.out.trans HFW.out)).mono ?_); rintro e w1 ⟨u1, rfl, h1⟩; have HOW1 := Lib.hid (ownsRow_fr HOW.out h1.out.2 (fun _ _ => id)); have HS1 := Lib.hid h1.out.1; have HF1 := Lib.hid (HFW.out.trans h1.out.2); clear h1 l0 l1 l2 l3 l4 l5)
      | (at_builtin; refine wpList_append_src rfl (.tmp 62) (.tmp 65) 40 rfl W0.heap.size 59 i0 _ 3 32 Tryz.underlying40 hi hz0 hz1 hz2 rfl (by decide) (.slice oa N1 oc) N1 xs1 rfl HOW1.out u1 nm _ rfl HS1.out HRL.out HRO.out (by unfold maxLen; omega) (by omega) HF1.out.size ?_; intro v2 w2 own2 fr2; obtain ⟨oa2, oc2, rfl⟩ := own_form own2; have HOW2 := Lib.hid own2; have HF2 : Hid (Fr No W0 w2) := ((HF1.out.any.trans (fr2.mono fun q _ hq => OwnOf.ge HOW1.out hq)) : Fr (From W0) W0 w2).ours; clear own2 fr2)
      | (go_at_call 38; (with_reducible refine (HZ2.out _).mono ?_); rintro e w3 ⟨rfl, hf3⟩; have HF3 := Lib.hid (HF2.out.trans hf3); have HOW3 := Lib.hid (ownsRow_fr HOW2.out hf3 (fun _ _ => id)); clear hf3)
      | (go_at_call 41; (with_reducible refine (HCC.out _ _ _ HF3.out (by rw [← HXR.out]; exact HOW3.out)).mono ?_); rintro e w4 ⟨v4, rfl, h4⟩; have HG4 := Lib.hid h4.out.1; have HF4 := Lib.hid (HF3.out.trans h4.out.2); have HOW4 := Lib.hid (ownsRow_fr HOW3.out h4.out.2 (fun _ _ => id)); clear h4)
      | (go_at_call 40; (with_reducible refine (HMN.out _ _ HG4.out).mono ?_); rintro e w5 ⟨mb, rfl, h5⟩; have HF5 := Lib.hid (HF4.out.trans h5.out.1); have HM5 := Lib.hid h5.out.2; have Z45 := Lib.hid h5.out.1.size; have HOW5 := Lib.hid (ownsRow_fr HOW4.out h5.out.1 (fun _ _ => id)); clear h5; have HT5 : Hid (∀ k, Made w4 w5 k → From w k ∧ k < w5.heap.size) := fun k hk => ⟨Nat.le_trans (HF0.out.trans HF4.out).size hk.1, hk.2⟩; obtain ⟨l0, l1, l2, l3, l4, l5⟩ := HC.out _ HF5.out)
      | (go_at_call 42; (with_reducible refine (HXN.out _ _ _ (HF0.out.trans HF5.out) HM5.out HT5.out).mono ?_); rintro e w6 ⟨b, A, H, rfl, h6⟩; have HF6 := Lib.hid (HF5.out.trans h6.out.2.2.2.2); have HK6 := Lib.hid h6.out; have Z56 := Lib.hid h6.out.2.2.2.2.size; have HOW6 := Lib.hid (ownsRow_fr HOW5.out h6.out.2.2.2.2 (fun _ _ => id)); clear h6 l0 l1 l2 l3 l4 l5; obtain ⟨l0, l1, l2, l3, l4, l5⟩ := HC.out _ HF6.out))
    refine wp_loop_rounds 1 ?_
    rw [rounds_succ]
    go_upto_region 23 with (first
      | (go_at_call 23; (with_reducible refine (HCM.out _ (HF0.out.trans HF6.out)).mono ?_); rintro e w7 ⟨a7, c7, rfl, h7⟩; have HF7 := Lib.hid (HF6.out.trans h7.out.2.1); have HC7 := Lib.hid h7.out; clear h7 l0 l1 l2 l3 l4 l5; obtain ⟨l0, l1, l2, l3, l4, l5⟩ := HC.out _ HF7.out; have lz := HFZ.out _ HF7.out))
    obtain ⟨W8, hW8⟩ : ∃ W8, W8 = w7.setCell ⟨w.heap.size, 0, none⟩ (.slice a7 nm c7) := ⟨_, rfl⟩
    have HF8 : Hid (Fr (fun k => k = w.heap.size) w7 W8) := by rw [hW8]; exact (Fr.refl (fun k => k = w.heap.size) w7).setCell (p := ⟨w.heap.size, 0, none⟩) (.inr rfl) _
    have HC8 : Hid (∀ W, Fr No W8 W → (W.cell? ⟨w.heap.size, 0, none⟩ = some (.slice a7 nm c7) ∧ W.cell? ⟨w.heap.size, 1, none⟩ = some (.int .i64 p) ∧ W.cell? ⟨w.heap.size + 1, 3, none⟩ = some (.slice ad nd cd) ∧ Hid (Fr No W8 W))) := fun W hW => by
      refine ⟨hW.cell ?_ id, hW.cell ?_ id, hW.cell ?_ id, hW⟩ <;> (subst hW8; go_simp)
    rw [← hW8]
    clear hW8 l0 l1 l2 l3 l4 l5 lz
    have HW8 : Hid (Fr No w W8) := (((HF0.out.trans HF7.out).any.trans (HF8.out.mono fun k _ hk => by show w.heap.size ≤ k; omega)) : Fr (From w) w W8).ours
    have HCD : Hid (∀ W, Fr No W8 W → Calls Tryz.prog 43 #[.slice ad nd cd] W fun e w' => ∃ a c, e = .returned (.slice a nd c) ∧ Hid (U64sIn w' (.slice a nd c) D ∧ ∀ k, (Value.slice a nd c).ownBlock = some k → W8.heap.size ≤ k ∧ k < w'.heap.size) ∧ Fr No W8 w') := fun W hW => by
      have h := clone_draws (.slice ad nd cd) D W (HDR.out.fr (HW8.out.trans hW) (fun _ _ => id)) (by rw [HND.out]; omega)
      rw [HND.out] at h
      refine h.mono ?_
      rintro e w' ⟨a, c, he, h⟩
      exact ⟨a, c, he, ⟨h.out.1, fun k hk => ⟨Nat.le_trans hW.size (h.out.2.2 k hk).1, (h.out.2.2 k hk).2⟩⟩, hW.trans h.out.2.1⟩
    have H0 := HC8.out W8.drew ((Fr.refl _ _).drew)
    go_region_held3 (fun W => W.cell? ⟨w.heap.size, 0, none⟩ = some (.slice a7 nm c7) ∧ W.cell? ⟨w.heap.size, 1, none⟩ = some (.int .i64 p) ∧ W.cell? ⟨w.heap.size + 1, 3, none⟩ = some (.slice ad nd cd) ∧ Hid (Fr No W8 W))
      (first | assumption | exact HC8.out _ (by assumption) | exact HC8.out _ (Fr.alloc (by assumption) _))
      (first
        | (go_at_call 43; (with_reducible refine (HCD.out _ ((Fr.refl _ _).drew)).mono ?_); rintro e w9 ⟨a9, c9, rfl, h9, hf9⟩))
    all_goals go_wp2_with fail
    all_goals go_ret2
    all_goals exact ⟨_, b, mb, A, H, Made w4 w5, _, _, _, rfl, WAt.start (W0 := W0) 43 rfl (by have h1 := HF4.out.size; have h2 := HS.out; omega) (HF0.out.trans HF4.out).size Z45.out Z56.out HK6.out.1 HK6.out.2.1 HK6.out.2.2.1 HK6.out.2.2.2.1 HC7.out.2.1 HF8.out hf9 HC7.out.1 HC7.out.2.2
      (HXR.out ▸ HOW4.out) (HXR.out ▸ HOW6.out) (by have h2 := HS.out; omega) HLN.out (by omega) (fun r hr => HTYP.out r (List.mem_append_left _ hr)) h9.out.1 h9.out.2, (HW8.out.trans hf9).alloc _⟩

end Go.Proofs.YtlinnhaodkiolaaGreatDoor
