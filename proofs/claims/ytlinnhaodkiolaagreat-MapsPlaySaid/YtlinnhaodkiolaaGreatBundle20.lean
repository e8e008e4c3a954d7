/- firewalllaw08.MapsPlay: both maps made; an act's box beside them. No condition. firewalllaw08.MapsPlay: the walk. Arguments that are slices, opened element by element. -/
import Derived.Test.YtlinnhaodkiolaaGreatBundle19
import Derived.Test.YtlinnhaodkiolaaGreatBundle11
import Derived.Deep.DeepCutAuto
import Derived.Deep.CutBlock
import Derived.Deep.RegionHeld3
import Derived.Outline
import Derived.Test.YtlinnhaodkiolaaGreatRows
import Derived.Test.YtlinnhaodkiolaaGreatBundle1
import Derived.ProofKit
import Derived.OpenShut
import Derived.Deep.Slices
namespace Go.Proofs.YtlinnhaodkiolaaGreat
open Go.RowKit

theorem mregsOf_wf (l : List MapD) : WF (mregsOf l) := by
  unfold mregsOf
  split
  · exact mregs_wf ‹_›
  · exact ⟨by simp, List.Pairwise.nil, by simp⟩

theorem RefAt.thin {w' : World} {b : Nat} {m : List Reg} {S : Nat → Prop} (h : RefAt w' b m S) : RefAt w' b m (fun k => S k ∧ k < w'.heap.size) := by
  obtain ⟨v, hc, hl⟩ := h.list
  refine ⟨h.wf, ⟨v, hc, ?_⟩, h.openb, h.own, World.block_lt_of_cell? w' _ hc⟩
  rcases hl with hl | ⟨g, cap, rfl, hcap, h0, hc2, ho, hne, hS⟩
  · exact .inl hl
  · exact .inr ⟨g, cap, rfl, hcap, h0, hc2, ho, hne, hS, World.block_lt_of_cell? w' _ (hc2 (0 * 3 + 0) _ (aflat_get m 0 0 h0 (by omega)))⟩

theorem refmem_of_maps (l : List MapD) (u : Value) (W : World) (hu : RegsAt W u (mregsOf l)) :
    Calls Tryz.prog 10 #[u] W fun e w' => ∃ rmb, e = .returned (.tuple #[.pointer (some ⟨rmb, 0, none⟩), .int .i64 0]) ∧ Fr No W w' ∧ RefAt w' rmb (mregsOf l) (Made W w') := by
  refine (refnew_any (mregsOf l) u W hu (by have := mregsOf_length l; omega)).mono ?_
  rintro e w' (⟨m, hp, hw, he, hf, hm⟩ | ⟨hno, _⟩)
  · obtain rfl := (mregsOf_wf l).unique hw hp
    exact ⟨_, he, hf, hm.thin⟩
  · exact absurd ⟨_, List.Perm.refl _, mregsOf_wf l⟩ hno

theorem mem_of_maps2 (l : List MapD) (u : Value) (W : World) (hu : RegsAt W u (mregsOf l)) :
    Calls Tryz.prog 9 #[u] W fun e w' => ∃ mb, e = .returned (.tuple #[.pointer (some ⟨mb, 0, none⟩), .int .i64 0]) ∧ Fr No W w' ∧ MemAt w' mb (mregsOf l) (Made W w') :=
  new_is hu (by have := mregsOf_length l; omega) (List.Perm.refl _) (mregsOf_wf l)

theorem maps_over2 (l : List MapD) (h : mayL l = true) (v : Value) (mb : Nat) (T : Nat → Prop) (W : World) (hv : MapsIn W v l) (hm : MemAt W mb (mregs l) T) :
    Calls Tryz.prog 11 #[v, .pointer (some ⟨mb, 0, none⟩)] W fun e w' => ∃ b, e = .returned (.tuple #[.pointer (some ⟨b, 0, none⟩), .int .i64 0]) ∧ MadeMaps W b mb (l.map Tab.new) (fun _ => False) w' ∧ Fr No W w' := by
  have h4 := ((mayL_iff l).1 h).1
  refine (mnew_any hm (mregs_ok h) v l hv (by omega)).mono ?_
  intro e w' hq
  unfold NewQ at hq
  rw [if_pos ⟨h, holds_self h⟩] at hq
  exact hq

theorem maps_not (l : List MapD) (h : mayL l = false) (v mp : Value) (W : World) (hv : MapsIn W v l) (hl : l.length ≤ 1000000) :
    Calls Tryz.prog 11 #[v, mp] W fun e w' => e = .returned (.tuple #[.pointer none, .int .i64 2]) ∧ Fr No W w' := by
  have hmay := may_any v l W hv hl
  rw [h] at hmay
  exact mnew_bad v mp W hmay

theorem MP.start {w0 W1 W2 W3 W4 W5 : World} {b mb rb rmb : Nat} {l : List MapD} (h : mayL l = true) (f01 : Fr No w0 W1) (f12 : Fr No W1 W2) (f23 : Fr No W2 W3) (f34 : Fr No W3 W4) (f45 : Fr No W4 W5) (hm : MemAt W2 mb (mregs l) (Made W1 W2)) (hr : RefAt W3 rmb (mregs l) (Made W2 W3))
    (hk : MadeMaps W3 b mb (l.map Tab.new) (fun _ => False) W4) (hk2 : RMadeMaps W4 rb rmb (l.map Tab.new) (fun _ => False) W5) :
    ∃ A H T A2 H2 T2, MP w0 b mb rb rmb (l.map Tab.new) (mregs l) (l.map Tab.new) (mregs l) A H T A2 H2 T2 W5 := by
  obtain ⟨A, H, ha, hA, hH⟩ := hk
  obtain ⟨A2, H2, ha2, hA2, hH2⟩ := hk2
  have z1 := f01.size
  have z2 := f12.size
  have z3 := f23.size
  have z4 := f34.size
  have z5 := f45.size
  have hT : ∀ k, Made W1 W2 k → W1.heap.size ≤ k ∧ k < W2.heap.size := fun k h => h
  have hT2 : ∀ k, Made W2 W3 k → W2.heap.size ≤ k ∧ k < W3.heap.size := fun k h => h
  have hA' : ∀ k, A k → W3.heap.size ≤ k ∧ k < W4.heap.size := fun k hk => (hA k hk).elim id (fun h => h.elim)
  have hA2' : ∀ k, A2 k → W4.heap.size ≤ k ∧ k < W5.heap.size := fun k hk => (hA2 k hk).elim id (fun h => h.elim)
  have hok := mregs_ok h
  refine ⟨A, H, Made W1 W2, A2, H2, Made W2 W3, ⟨⟨ha.no f45, (((hm.fr f23 (fun _ _ => id)).fr f34 (fun _ _ => id)).fr f45 (fun _ _ => id)), fun k hk => ⟨fun h2 => ?_, fun h2 => ?_⟩, holds_new h (holds_self h), (((f01.trans f12).trans f23).trans f34).trans f45, fun k hk => ?_⟩,
    ⟨ha2, (hr.fr f34 (fun _ _ => id)).fr f45 (fun _ _ => id), fun k hk => ⟨fun h2 => ?_, fun h2 => ?_⟩, holds_new h (holds_self h), hok.1⟩, fun k hk => ?_, fun k hk => ?_, fun k hk => ?_, fun k hk => ?_, hok, hok⟩⟩
  · have := hT k hk; have := hA' k h2; omega
  · have := hT k hk; have := hH k h2; omega
  · unfold From
    rcases hk with hk | hk
    · have := hH k hk; omega
    · have := hT k hk; omega
  · have := hT2 k hk; have := hA2' k h2; omega
  · have := hT2 k hk; have := hH2 k h2; omega
  · unfold From
    rcases hk with hk | hk
    · have := hH2 k hk; omega
    · have := hT2 k hk; omega
  · rcases hk with hk | hk
    · have := hH k hk
      exact ⟨fun h2 => by have := hA2' k h2; omega, fun h2 => by have := hH2 k h2; omega, fun h2 => by have := hT2 k h2; omega⟩
    · have := hT k hk
      exact ⟨fun h2 => by have := hA2' k h2; omega, fun h2 => by have := hH2 k h2; omega, fun h2 => by have := hT2 k h2; omega⟩
  · rcases hk with hk | hk
    · have := hH2 k hk
      exact ⟨fun h2 => by have := hA' k h2; omega, fun h2 => by have := hH k h2; omega, fun h2 => by have := hT k h2; omega⟩
    · have := hT2 k hk
      exact ⟨fun h2 => by have := hA' k h2; omega, fun h2 => by have := hH k h2; omega, fun h2 => by have := hT k h2; omega⟩
  · rcases hk with hk | hk | hk | hk | hk | hk
    · have := hA' k hk; omega
    · have := hH k hk; omega
    · have := hT k hk; omega
    · have := hA2' k hk; omega
    · have := hH2 k hk; omega
    · have := hT2 k hk; omega

/-- both, and the box of an act -/
structure MB (w0 : World) (b mb rb rmb bx kd : Nat) (mi : Int) (K V : ByteArray) (S : List Tab) (m : List Reg) (S2 : List Tab) (m2 : List Reg) (A H T A2 H2 T2 : Nat → Prop) (wr : World) : Prop where
  at' : Hid (MP w0 b mb rb rmb S m S2 m2 A H T A2 H2 T2 wr)
  nb : Hid (¬ H bx ∧ ¬ T bx ∧ ¬ H2 bx ∧ ¬ T2 bx)
  c0 : wr.cell? ⟨bx, 0, none⟩ = some (.int .u8 kd)
  c1 : wr.cell? ⟨bx, 1, none⟩ = some (.int .i64 mi)
  c2 : wr.cell? ⟨bx, 2, none⟩ = some (.string K)
  c3 : wr.cell? ⟨bx, 3, none⟩ = some (.string V)

section
variable {w0 wr w' : World} {b mb rb rmb bx kd : Nat} {mi : Int} {K V : ByteArray} {S S2 : List Tab} {m m2 : List Reg} {A H T A2 H2 T2 : Nat → Prop}

theorem MB.box {S' S2' : List Tab} {m' m2' : List Reg} {X : Nat → Prop} (h : MB w0 b mb rb rmb bx kd mi K V S m S2 m2 A H T A2 H2 T2 wr) (hf : Fr X wr w') (hX : ¬ X bx) (hp : Hid (MP w0 b mb rb rmb S' m' S2' m2' A H T A2 H2 T2 w')) : MB w0 b mb rb rmb bx kd mi K V S' m' S2' m2' A H T A2 H2 T2 w' :=
  ⟨hp, h.nb, hf.cell h.c0 hX, hf.cell h.c1 hX, hf.cell h.c2 hX, hf.cell h.c3 hX⟩

theorem MB.to (h : MB w0 b mb rb rmb bx kd mi K V S m S2 m2 A H T A2 H2 T2 wr) (hf : Fr No wr w') : MB w0 b mb rb rmb bx kd mi K V S m S2 m2 A H T A2 H2 T2 w' := h.box hf id (h.at'.out.to hf)

theorem MB.lookup (h : MB w0 b mb rb rmb bx kd mi K V S m S2 m2 A H T A2 H2 T2 wr) :
    Calls Tryz.prog 13 #[.pointer (some ⟨b, 0, none⟩), .int .i64 mi, .string K] wr fun e w' => e = .returned (.int .u64 (mlookup S mi K.data.toList)) ∧ MB w0 b mb rb rmb bx kd mi K V S m S2 m2 A H T A2 H2 T2 w' :=
  (h.at'.out.lookup mi K.data.toList).mono fun _ _ ⟨he, hp, hf⟩ => ⟨he, h.box hf id hp⟩
theorem MB.rlookup (h : MB w0 b mb rb rmb bx kd mi K V S m S2 m2 A H T A2 H2 T2 wr) :
    Calls Tryz.prog 14 #[.pointer (some ⟨rb, 0, none⟩), .int .i64 mi, .string K] wr fun e w' => e = .returned (.int .u64 (mlookup S2 mi K.data.toList)) ∧ MB w0 b mb rb rmb bx kd mi K V S m S2 m2 A H T A2 H2 T2 w' :=
  (h.at'.out.rlookup mi K.data.toList).mono fun _ _ ⟨he, hp, hf⟩ => ⟨he, h.box hf id hp⟩
theorem MB.update (h : MB w0 b mb rb rmb bx kd mi K V S m S2 m2 A H T A2 H2 T2 wr) :
    Calls Tryz.prog 26 #[.pointer (some ⟨b, 0, none⟩), .int .i64 mi, .string K, .string V] wr fun e w' => e = .returned (.int .i64 (mupdate S m mi K.data.toList V.data.toList).2) ∧ MB w0 b mb rb rmb bx kd mi K V (mupdate S m mi K.data.toList V.data.toList).1.1 (mupdate S m mi K.data.toList V.data.toList).1.2 S2 m2 A H T A2 H2 T2 w' :=
  (h.at'.out.update mi K.data.toList V.data.toList).mono fun _ _ ⟨he, hp, hf⟩ => ⟨he, h.box hf (fun hx => hx.elim h.nb.out.1 h.nb.out.2.1) hp⟩
theorem MB.rupdate (h : MB w0 b mb rb rmb bx kd mi K V S m S2 m2 A H T A2 H2 T2 wr) (hv : Hid (V.size ≤ 1000000)) :
    Calls Tryz.prog 27 #[.pointer (some ⟨rb, 0, none⟩), .int .i64 mi, .string K, .string V] wr fun e w' => e = .returned (.int .i64 (mupdate S2 m2 mi K.data.toList V.data.toList).2) ∧ MB w0 b mb rb rmb bx kd mi K V S m (mupdate S2 m2 mi K.data.toList V.data.toList).1.1 (mupdate S2 m2 mi K.data.toList V.data.toList).1.2 A H T A2 H2 T2 w' :=
  (h.at'.out.rupdate mi K.data.toList V.data.toList (by rw [Array.length_toList]; exact hv.out)).mono fun e w' ⟨he, hp, hf⟩ => ⟨he, h.box hf (fun hx => hx.elim h.nb.out.2.2.1 h.nb.out.2.2.2) hp⟩
theorem MB.delete (h : MB w0 b mb rb rmb bx kd mi K V S m S2 m2 A H T A2 H2 T2 wr) :
    Calls Tryz.prog 15 #[.pointer (some ⟨b, 0, none⟩), .int .i64 mi, .string K] wr fun e w' => e = .returned (.int .i64 (mdelete S mi K.data.toList).2) ∧ MB w0 b mb rb rmb bx kd mi K V (mdelete S mi K.data.toList).1 m S2 m2 A H T A2 H2 T2 w' :=
  (h.at'.out.delete mi K.data.toList).mono fun _ _ ⟨he, hp, hf⟩ => ⟨he, h.box hf h.nb.out.1 hp⟩
theorem MB.rdelete (h : MB w0 b mb rb rmb bx kd mi K V S m S2 m2 A H T A2 H2 T2 wr) :
    Calls Tryz.prog 16 #[.pointer (some ⟨rb, 0, none⟩), .int .i64 mi, .string K] wr fun e w' => e = .returned (.int .i64 (mdelete S2 mi K.data.toList).2) ∧ MB w0 b mb rb rmb bx kd mi K V S m (mdelete S2 mi K.data.toList).1 m2 A H T A2 H2 T2 w' :=
  (h.at'.out.rdelete mi K.data.toList).mono fun _ _ ⟨he, hp, hf⟩ => ⟨he, h.box hf h.nb.out.2.2.1 hp⟩
theorem MB.entries (h : MB w0 b mb rb rmb bx kd mi K V S m S2 m2 A H T A2 H2 T2 wr) :
    Calls Tryz.prog 18 #[.pointer (some ⟨b, 0, none⟩), .int .i64 mi] wr fun e w' => ∃ v, e = .returned v ∧ Hid (∀ W, Fr No w' W → EntsAt W v (mentries S m mi)) ∧ MB w0 b mb rb rmb bx kd mi K V S m S2 m2 A H T A2 H2 T2 w' :=
  (h.at'.out.entries mi).mono fun _ _ ⟨v, he, hv, hp, hf⟩ => ⟨v, he, (fun _ hW => hv.out.fr hW), h.box hf id hp⟩
theorem MB.rentries (h : MB w0 b mb rb rmb bx kd mi K V S m S2 m2 A H T A2 H2 T2 wr) :
    Calls Tryz.prog 19 #[.pointer (some ⟨rb, 0, none⟩), .int .i64 mi] wr fun e w' => ∃ v, e = .returned v ∧ Hid (∀ W, Fr No w' W → EntsAt W v (mentries S2 m2 mi)) ∧ MB w0 b mb rb rmb bx kd mi K V S m S2 m2 A H T A2 H2 T2 w' ∧ Hid (Fr No wr w') :=
  (h.at'.out.rentries mi).mono fun _ _ ⟨v, he, hv, hp, hf⟩ => ⟨v, he, (fun _ hW => hv.out.fr hW), h.box hf id hp, hf⟩
theorem MB.write (h : MB w0 b mb rb rmb bx kd mi K V S m S2 m2 A H T A2 H2 T2 wr) (addr : Int) (v : Nat) (ha : Hid (0 ≤ addr ∧ addr ≤ 18446744073709551615)) (hv : Hid (v < 2 ^ 64)) :
    Calls Tryz.prog 20 #[.pointer (some ⟨mb, 0, none⟩), .int .u64 addr, .int .i64 1, .int .u64 v] wr fun e w' => e = .returned (.int .i64 (mwrite m addr 1 v).2) ∧ MB w0 b mb rb rmb bx kd mi K V S (mwrite m addr 1 v).1 S2 m2 A H T A2 H2 T2 w' :=
  (h.at'.out.write addr 1 v ha.out.1 ha.out.2 hv.out).mono fun _ _ ⟨he, hp, hf⟩ => ⟨he, h.box hf h.nb.out.2.1 hp⟩
theorem MB.rwrite (h : MB w0 b mb rb rmb bx kd mi K V S m S2 m2 A H T A2 H2 T2 wr) (addr : Int) (v : Nat) (ha : Hid (0 ≤ addr ∧ addr ≤ 18446744073709551615)) (hv : Hid (v < 2 ^ 64)) :
    Calls Tryz.prog 21 #[.pointer (some ⟨rmb, 0, none⟩), .int .u64 addr, .int .i64 1, .int .u64 v] wr fun e w' => e = .returned (.int .i64 (mwrite m2 addr 1 v).2) ∧ MB w0 b mb rb rmb bx kd mi K V S m S2 (mwrite m2 addr 1 v).1 A H T A2 H2 T2 w' :=
  (h.at'.out.rwrite addr 1 v ha.out.1 ha.out.2 hv.out).mono fun _ _ ⟨he, hp, hf⟩ => ⟨he, h.box hf h.nb.out.2.2.2 hp⟩

end

/-- both, wherever they lie -/
def MAny (w0 : World) (b mb rb rmb n : Nat) (wr : World) : Prop := ∃ S m A H T A2 H2 T2, MP w0 b mb rb rmb S m S m A H T A2 H2 T2 wr ∧ S.length = n

theorem MAny.to {w0 wr w' : World} {b mb rb rmb n : Nat} (h : MAny w0 b mb rb rmb n wr) (hf : Fr No wr w') : MAny w0 b mb rb rmb n w' := by
  obtain ⟨S, m, A, H, T, A2, H2, T2, hp, hl⟩ := h
  exact ⟨S, m, A, H, T, A2, H2, T2, hp.to hf, hl⟩

theorem mupdate_len (S : List Tab) (m : List Reg) (i : Int) (key val : List UInt8) : (mupdate S m i key val).1.1.length = S.length := by
  unfold mupdate
  split
  · rfl
  · split
    · split
      · rfl
      · split
        · rfl
        · split
          · rfl
          · simp
    · rfl

theorem mdelete_len (S : List Tab) (i : Int) (key : List UInt8) : (mdelete S i key).1.length = S.length := by
  unfold mdelete
  split
  · rfl
  · split
    · rfl
    · split
      · rfl
      · simp

end Go.Proofs.YtlinnhaodkiolaaGreat

namespace Go.Proofs.YtlinnhaodkiolaaGreat
open Go.RowKit

theorem psame_true {v1 v2 : Value} {m : List Reg} {W : World} (h1 : RegsAt W v1 m) (h2 : RegsAt W v2 m) (hm : m.length ≤ 4294967296) :
    Calls Tryz.prog 7 #[v1, v2] W fun e w' => e = .returned (.bool true) ∧ Fr No W w' :=
  (same_any v1 v2 m m W h1 h2 hm).mono fun _ _ ⟨⟨r, he, hr⟩, hf⟩ => ⟨by rw [he, hr.2 rfl], hf⟩

theorem mentries_few {S : List Tab} {m : List Reg} (hS : ∀ t ∈ S, t.ok) (i : Int) : (mentries S m i).length ≤ 4294967296 := by
  unfold mentries
  split
  · split
    · rename_i t ht
      have := (hS t (List.mem_of_getElem? ht)).bounds
      unfold mentriesTo
      have h1 := List.length_filterMap_le (fun p => match t.ks[p]? with | some k => if k = [] then none else some (k, (mtext m (mplace i.toNat p t) t.d.value).1) | none => none) (List.range t.ks.length)
      rw [List.length_range] at h1
      exact Nat.le_trans h1 (by omega)
    · simp
  · simp

/-- the act's own calls -/
structure ActOk (x : ActM) : Prop where
  kind : x.kind < 256
  lo : -9223372036854775808 ≤ x.map
  hi : x.map ≤ 9223372036854775807

set_option maxRecDepth 100000 in
set_option maxHeartbeats 20000000 in
theorem pmap_walk (l : List MapD) (acts : List ActM) (v0 : Value) (ad : Option Addr) (ga oa nl L cap : Nat) (w : World) (hl : l.length = nl) (hl6 : nl ≤ 6) (hin : MapsIn w v0 l) (hsl : ∃ a c, v0 = .slice a nl c) (hsrc : ∀ W, Fr No w W → SrcAt W v0 nl (mflat l)) (hL : acts.length = L) (hL2 : L ≤ 150)
    (hac : 0 < L → ad = some ⟨ga, oa, none⟩ ∧ CellsAt w ga oa (amflat acts)) (hok : ∀ x ∈ acts, ActOk x) (hsm : ∀ x ∈ acts, x.value.size ≤ 100) (hin2 : ActsIn w (.slice ad L cap) acts) (hgr : greatB acts 150 = false) :
    Calls Tryz.prog 3 #[v0, .slice ad L cap] w fun e w' => e = .returned (.bool true) ∧ Fr No w w' := by
  obtain ⟨la, lc, rfl⟩ := hsl
  have HIN : Hid (∀ W, Fr No w W → MapsIn W (.slice la nl lc) l) := fun W hW => hin.fr hW
  have HSRC := Lib.hid hsrc
  have HLL := Lib.hid hl
  have HL := Lib.hid hL
  have HAC := Lib.hid hac
  have HOK : Hid (∀ x ∈ acts, ActOk x) := hok
  have HSM := Lib.hid hsm
  have HGR : Hid (∀ W, Fr No w W → Calls Tryz.prog 4 #[.slice ad L cap, .int .i64 150] W fun e w' => e = .returned (.bool false) ∧ W = w') := fun W hW => by
    have := great8_any (.slice ad L cap) acts 150 W (hin2.fr hW) (by omega)
    rw [hgr] at this
    exact this
  have hl6' : decide (6 < nl) = false := by simp; omega
  have hm4 : (mregsOf l).length ≤ 4294967296 := by have := mregsOf_length l; omega
  clear hin hsrc hl hL hac hok hsm hin2 hgr
  go_enter Tryz.func3, Tryz.ntmps3
  go_upto_region 3 with (go_at_call 4; (with_reducible refine (HGR.out _ (Fr.refl _ _)).mono ?_); rintro e w0 ⟨rfl, rfl⟩)
  go_wp2_with fail
  refine (rregions_any (.slice la nl lc) l w (HIN.out w (Fr.refl _ _)) (by rw [HLL.out]; omega)).mono ?_
  rintro e w1 ⟨rv, rfl, hrv, hf1⟩
  have HF1 := Lib.hid hf1
  have HRV : Hid (∀ W, Fr No w1 W → RegsAt W rv (mregsOf l)) := fun W hW => hrv.fr hW
  clear hf1 hrv HGR
  go_wp2_with fail
  refine (mregions_any (.slice la nl lc) l w1 (HIN.out w1 HF1.out) (by rw [HLL.out]; omega)).mono ?_
  rintro e w2 ⟨mv, rfl, hmv, hf2⟩
  have HF2 := Lib.hid hf2
  have HMV := Lib.hid hmv
  clear hf2 hmv
  go_wp2_with fail
  refine (psame_true HMV.out (HRV.out _ HF2.out) hm4).mono ?_
  rintro e w3 ⟨rfl, hf3⟩
  have HF3 := Lib.hid (HF2.out.trans hf3)
  clear hf3 HF2 HMV
  go_wp2_with fail
  refine (mem_of_maps2 l rv w3 (HRV.out _ HF3.out)).mono ?_
  rintro e w4 ⟨mb, rfl, hf4, hm⟩
  have HF4 := Lib.hid hf4
  have HM := Lib.hid hm
  clear hf4 hm
  go_wp2_with fail
  refine (refmem_of_maps l rv w4 (HRV.out _ (HF3.out.trans HF4.out))).mono ?_
  rintro e w5 ⟨rmb, rfl, hf5, hr⟩
  have HF5 := Lib.hid hf5
  have HR := Lib.hid hr
  have HF05 : Hid (Fr No w w5) := ((HF1.out.trans HF3.out).trans HF4.out).trans HF5.out
  clear hf5 hr HRV
  cases hmay : mayL l with
  | false =>
    have HMAY := Lib.hid hmay
    clear hmay
    go_wp2_with fail
    refine (maps_not l HMAY.out (.slice la nl lc) _ w5 (HIN.out _ HF05.out) (by rw [HLL.out]; omega)).mono ?_
    rintro e w6 ⟨rfl, hf6⟩
    have HF6 := Lib.hid (HF05.out.trans hf6)
    clear hf6
    go_wp2_with fail
    refine (rnew_no (.slice la nl lc) _ l w6 (HIN.out _ HF6.out) HMAY.out).mono ?_
    rintro e w7 ⟨rfl, hf7⟩
    go_wp2_with (go_at_call 5; refine (kept_any _).mono ?_; rintro e w20 ⟨rfl, hlf⟩)
    go_ret
    exact ⟨rfl, (HF6.out.trans hf7).trans hlf⟩
  | true =>
    have HMAY := Lib.hid hmay
    have he : mregsOf l = mregs l := by unfold mregsOf; rw [if_pos hmay]
    rw [he] at HM HR
    clear hmay he
    go_wp2_with fail
    refine (maps_over2 l HMAY.out (.slice la nl lc) mb _ w5 (HIN.out _ HF05.out) (HM.out.fr HF5.out (fun _ _ => id))).mono ?_
    rintro e w6 ⟨b, rfl, hmm, hf6⟩
    have HF6 := Lib.hid hf6
    have HMM := Lib.hid hmm
    clear hf6 hmm
    go_wp2_with fail
    refine (rnew_any (.slice la nl lc) l rmb _ w6 (HIN.out _ (HF05.out.trans HF6.out)) (fun W hW => by rw [HLL.out]; exact HSRC.out W ((HF05.out.trans HF6.out).trans hW)) HMAY.out (HR.out.fr HF6.out (fun _ _ => id))).mono ?_
    rintro e w7 ⟨rb, rfl, HRM⟩
    have HA0 : Hid (MAny w b mb rb rmb nl w7) := by
      obtain ⟨A, H, T, A2, H2, T2, hp⟩ := MP.start HMAY.out (HF1.out.trans HF3.out) HF4.out HF5.out HF6.out HRM.out.2 HM.out HR.out HMM.out HRM.out.1
      exact ⟨_, _, A, H, T, A2, H2, T2, hp, by rw [List.length_map]; exact HLL.out⟩
    clear HRM HMM HF6 HM HR HF05 HF5 HF4 HF3 HF1 HMAY HSRC
    go_wp2_with fail
    go_loopw [6, 8, 10, 12, 14] (fun s6 s8 s10 s12 s14 wr => ∃ (k b mb rb rmb : Nat), k ≤ L ∧ s6 = .pointer (some ⟨mb, 0, none⟩) ∧ s8 = .pointer (some ⟨rmb, 0, none⟩) ∧ s10 = .pointer (some ⟨b, 0, none⟩) ∧ s12 = .pointer (some ⟨rb, 0, none⟩) ∧ s14 = .int .i64 k ∧ Hid (MAny w b mb rb rmb nl wr)) (fun _ _ _ _ s14 _ => L - (intOf s14).toNat)
    case atStart => exact ⟨0, b, mb, rb, rmb, Nat.zero_le _, rfl, rfl, rfl, rfl, rfl, HA0⟩
    case round =>
      clear HA0
      obtain ⟨k, b, mb, rb, rmb, hk, rfl, rfl, rfl, rfl, rfl, HI⟩ := hrel
      by_cases hlt : k < L
      · obtain ⟨rfl, hac⟩ := HAC.out (by omega)
        obtain ⟨x, hx⟩ : ∃ x, acts[k]? = some x := ⟨acts[k]'(by rw [HL.out]; exact hlt), List.getElem?_eq_getElem _⟩
        have ho := HOK.out x (List.mem_of_getElem? hx)
        have hv100 := HSM.out x (List.mem_of_getElem? hx)
        obtain ⟨S, m, A, H, T, A2, H2, T2, hp, hSl⟩ := HI.out
        have HP := Lib.hid hp
        have HSL := Lib.hid hSl
        obtain ⟨k0, k1, k2, k3⟩ := am_cells hac hx
        have hf0 := hp.k.fr
        replace k0 := hf0.cell k0 id
        replace k1 := hf0.cell k1 id
        replace k2 := hf0.cell k2 id
        replace k3 := hf0.cell k3 id
        obtain ⟨kd, mi, K, V⟩ := x
        simp only at k0 k1 k2 k3 hv100
        have o1 := ho.kind
        simp only at o1
        have HV : Hid (V.size ≤ 1000000) := Lib.hid (by omega)
        have o2 := ho.lo
        have o3 := ho.hi
        simp only at o2 o3
        have HMI := Lib.hid (And.intro o2 o3)
        obtain ⟨Q, hq⟩ : ∃ Q : Int, (kd : Int) % 8 = Q := ⟨_, rfl⟩
        have HQ : Hid (Q = 3 ∨ Q = 4 ∨ Q = 5 ∨ Q = 6 ∨ Q = 7 ∨ (Q = 0 ∨ Q = 1 ∨ Q = 2)) := Lib.hid (by omega)
        have hgl : ga < wr.heap.size := World.block_lt_of_cell? wr _ k0
        clear hx ho hp hac hf0 HI hSl o2 o3 hv100
        go_upto_block 2 with fail
        rw [hq]
        clear hq
        have HB : Hid (MB w b mb rb rmb wr.heap.size kd mi K V S m S m A H T A2 H2 T2 (wr.alloc (.cells #[.int .u8 kd, .int .i64 mi, .string K, .string V] 43))) :=
          ⟨HP.out.to ((Fr.refl _ _).alloc _), ⟨fun h => Nat.lt_irrefl _ (HP.out.lt _ (.inr (.inl h))), fun h => Nat.lt_irrefl _ (HP.out.lt _ (.inr (.inr (.inl h)))), fun h => Nat.lt_irrefl _ (HP.out.lt _ (.inr (.inr (.inr (.inr (.inl h)))))), fun h => Nat.lt_irrefl _ (HP.out.lt _ (.inr (.inr (.inr (.inr (.inr h))))))⟩, by rw [World.cell?_alloc_new]; rfl, by rw [World.cell?_alloc_new]; rfl, by rw [World.cell?_alloc_new]; rfl, by rw [World.cell?_alloc_new]; rfl⟩
        generalize wr.alloc (.cells #[.int .u8 kd, .int .i64 mi, .string K, .string V] 43) = W1 at *
        generalize wr.heap.size = bx at *
        clear k0 k1 k2 k3 hgl HP
        have HBd : Hid (MB w b mb rb rmb bx kd mi K V S m S m A H T A2 H2 T2 W1.drew) := HB.out.to ((Fr.refl _ _).drew)
        obtain ⟨d0, d1, d2, d3⟩ := And.intro HB.out.c0 (And.intro HB.out.c1 (And.intro HB.out.c2 HB.out.c3))
        go_cut [6, 8, 10, 12] (fun s6 s8 s10 s12 wx => ∃ (b mb rb rmb : Nat), s6 = .pointer (some ⟨mb, 0, none⟩) ∧ s8 = .pointer (some ⟨rmb, 0, none⟩) ∧ s10 = .pointer (some ⟨b, 0, none⟩) ∧ s12 = .pointer (some ⟨rb, 0, none⟩) ∧ Hid (MAny w b mb rb rmb nl wx))
        case first =>
          rcases HQ.out with h | h | h | h | h | h
          · have e3 : (Q == 3) = true := by rw [beq_iff_eq]; omega
            clear h HQ
            go_wp2_with fail
            go_region_held3 (fun W => W.cell? ⟨bx, 0, none⟩ = some (.int .u8 kd) ∧ W.cell? ⟨bx, 1, none⟩ = some (.int .i64 mi) ∧ W.cell? ⟨bx, 2, none⟩ = some (.string K) ∧ W.cell? ⟨bx, 3, none⟩ = some (.string V)) (first | exact ⟨g0, g1, g2, g3⟩ | go_keep) (first
              | (go_at_call 13; (with_reducible refine (HBd.out.lookup).mono ?_); rintro e w5 ⟨rfl, h5⟩; have H5 := Lib.hid h5; obtain ⟨-, -, g0, g1, g2, g3⟩ := h5)
              | (go_at_call 14; (with_reducible refine (H5.out.rlookup).mono ?_); rintro e w6 ⟨rfl, h6⟩; have H6 := Lib.hid h6; obtain ⟨-, -, g0, g1, g2, g3⟩ := h6))
            have HE : Hid (MAny w b mb rb rmb nl w6) := ⟨_, _, A, H, T, A2, H2, T2, H6.out.at'.out, HSL.out⟩
            go_wp2_with fail
            go_meet
            exact ⟨b, mb, rb, rmb, rfl, rfl, rfl, rfl, HE⟩
          · have e3 : (Q == 3) = false := by rw [beq_eq_false_iff_ne]; omega
            have e4 : (Q == 4) = true := by rw [beq_iff_eq]; omega
            clear h HQ
            go_wp2_with fail
            go_region_held3 (fun W => W.cell? ⟨bx, 0, none⟩ = some (.int .u8 kd) ∧ W.cell? ⟨bx, 1, none⟩ = some (.int .i64 mi) ∧ W.cell? ⟨bx, 2, none⟩ = some (.string K) ∧ W.cell? ⟨bx, 3, none⟩ = some (.string V)) (first | exact ⟨g0, g1, g2, g3⟩ | go_keep) (first
              | (go_at_call 15; (with_reducible refine (HBd.out.delete).mono ?_); rintro e w5 ⟨rfl, h5⟩; have H5 := Lib.hid h5; obtain ⟨-, -, g0, g1, g2, g3⟩ := h5)
              | (go_at_call 16; (with_reducible refine (H5.out.rdelete).mono ?_); rintro e w6 ⟨rfl, h6⟩; have H6 := Lib.hid h6; obtain ⟨-, -, g0, g1, g2, g3⟩ := h6))
            have HE : Hid (MAny w b mb rb rmb nl w6) := ⟨_, _, A, H, T, A2, H2, T2, H6.out.at'.out, by rw [mdelete_len]; exact HSL.out⟩
            go_wp2_with fail
            go_meet
            exact ⟨b, mb, rb, rmb, rfl, rfl, rfl, rfl, HE⟩
          · have e3 : (Q == 3) = false := by rw [beq_eq_false_iff_ne]; omega
            have e4 : (Q == 4) = false := by rw [beq_eq_false_iff_ne]; omega
            have e5 : (Q == 5) = true := by rw [beq_iff_eq]; omega
            have hfew : (mentries S m mi).length ≤ 4294967296 := mentries_few HB.out.at'.out.k.maps.ok.1 mi
            clear h HQ
            go_wp2_with fail
            go_region_held3 (fun W => W.cell? ⟨bx, 0, none⟩ = some (.int .u8 kd) ∧ W.cell? ⟨bx, 1, none⟩ = some (.int .i64 mi) ∧ W.cell? ⟨bx, 2, none⟩ = some (.string K) ∧ W.cell? ⟨bx, 3, none⟩ = some (.string V)) (first | exact ⟨g0, g1, g2, g3⟩ | go_keep) (first
              | (go_at_call 18; (with_reducible refine (HBd.out.entries).mono ?_); rintro e w5 ⟨ev, rfl, HEV, h5⟩; have H5 := Lib.hid h5; obtain ⟨-, -, g0, g1, g2, g3⟩ := h5)
              | (go_at_call 19; (with_reducible refine (H5.out.rentries).mono ?_); rintro e w6 ⟨fv, rfl, HFV, h6, HF6⟩; have H6 := Lib.hid h6; obtain ⟨-, -, g0, g1, g2, g3⟩ := h6)
              | (go_at_call 17; (with_reducible refine (esame_yes ev fv _ _ (HEV.out _ HF6.out) (HFV.out _ (Fr.refl _ _)) hfew).mono ?_); rintro e w7 ⟨rfl, hf7⟩; have H7 := Lib.hid (H6.out.to hf7); clear hf7; obtain ⟨-, -, g0, g1, g2, g3⟩ := H7.out))
            have HE : Hid (MAny w b mb rb rmb nl w7) := ⟨_, _, A, H, T, A2, H2, T2, H7.out.at'.out, HSL.out⟩
            go_wp2_with fail
            go_meet
            exact ⟨b, mb, rb, rmb, rfl, rfl, rfl, rfl, HE⟩
          · have e3 : (Q == 3) = false := by rw [beq_eq_false_iff_ne]; omega
            have e4 : (Q == 4) = false := by rw [beq_eq_false_iff_ne]; omega
            have e5 : (Q == 5) = false := by rw [beq_eq_false_iff_ne]; omega
            have e6 : (Q == 6) = true := by rw [beq_iff_eq]; omega
            clear h HQ
            by_cases hk0 : 0 < K.size
            · obtain ⟨U, hU⟩ : ∃ U : Int, IntKind.u64.wrap mi = U := ⟨_, rfl⟩
              obtain ⟨Ad, hAd⟩ : ∃ Ad : Int, IntKind.u64.wrap (1048576 + U) = Ad := ⟨_, rfl⟩
              have HAD : Hid (0 ≤ Ad ∧ Ad ≤ 18446744073709551615) := Lib.hid (by rw [← hAd, IntKind.wrap_u64]; omega)
              obtain ⟨c, hc⟩ : ∃ c : Nat, (K[0]'hk0).toNat = c := ⟨_, rfl⟩
              have hc256 : c < 256 := by rw [← hc]; exact (K[0]'hk0).toNat_lt
              have hcw : IntKind.u64.wrap (c : Int) = c := u64_nat c (by omega)
              have HCV : Hid (c < 2 ^ 64) := Lib.hid (by omega)
              go_wp2_with fail
              go_region_held3 (fun W => W.cell? ⟨bx, 0, none⟩ = some (.int .u8 kd) ∧ W.cell? ⟨bx, 1, none⟩ = some (.int .i64 mi) ∧ W.cell? ⟨bx, 2, none⟩ = some (.string K) ∧ W.cell? ⟨bx, 3, none⟩ = some (.string V)) (first | exact ⟨g0, g1, g2, g3⟩ | go_keep) (first
                | (go_at_call 20; (with_reducible refine (HBd.out.write Ad c HAD HCV).mono ?_); rintro e w5 ⟨rfl, h5⟩; have H5 := Lib.hid h5; obtain ⟨-, -, g0, g1, g2, g3⟩ := h5)
                | (go_at_call 21; (with_reducible refine (H5.out.rwrite Ad c HAD HCV).mono ?_); rintro e w6 ⟨rfl, h6⟩; have H6 := Lib.hid h6; obtain ⟨-, -, g0, g1, g2, g3⟩ := h6))
              all_goals
                have HE : Hid (MAny w b mb rb rmb nl w6) := ⟨_, _, A, H, T, A2, H2, T2, H6.out.at'.out, HSL.out⟩
                go_wp2_with fail
                go_meet
                exact ⟨b, mb, rb, rmb, rfl, rfl, rfl, rfl, HE⟩
            · have hkz : K.size = 0 := by omega
              have HE : Hid (∀ W, Fr No W1 W → MAny w b mb rb rmb nl W) := fun W hW => ⟨_, _, A, H, T, A2, H2, T2, HB.out.at'.out.to hW, HSL.out⟩
              clear hk0 HB HBd
              go_wp2_with fail
              go_quiet (fail)
              go_wp2_with fail
              go_meet
              exact ⟨b, mb, rb, rmb, rfl, rfl, rfl, rfl, HE.out _ ((Fr.refl _ _).drewN _)⟩
          · have e3 : (Q == 3) = false := by rw [beq_eq_false_iff_ne]; omega
            have e4 : (Q == 4) = false := by rw [beq_eq_false_iff_ne]; omega
            have e5 : (Q == 5) = false := by rw [beq_eq_false_iff_ne]; omega
            have e6 : (Q == 6) = false := by rw [beq_eq_false_iff_ne]; omega
            have e7 : (Q == 7) = true := by rw [beq_iff_eq]; omega
            have HP := HB.out.at'
            clear h HQ HB HBd d0 d1 d2 d3
            go_wp2_with fail
            refine (HP.out.mcopy).mono ?_
            rintro e w5 ⟨mb', rfl, hf5, hm5⟩
            have HF5 := Lib.hid hf5
            have HM5 := Lib.hid hm5
            clear hf5 hm5
            go_wp2_with fail
            refine (refcopy_any (HP.out.r.mem.fr HF5.out (fun _ _ => id)) HP.out.r.few).mono ?_
            rintro e w6 ⟨rmb', rfl, hf6, hm6⟩
            have HF6 := Lib.hid hf6
            have HM6 := Lib.hid hm6
            clear hf6 hm6
            go_wp2_with fail
            refine (HP.out.copied HF5.out HM5.out HF6.out).mono ?_
            rintro e w7 ⟨b', A', H', rfl, HP7, hf7, HAH⟩
            have HF7 := Lib.hid hf7
            clear hf7
            have HT7 : Hid (∀ k, Made w5 w6 k → From w k ∧ k < w7.heap.size ∧ ¬ A' k ∧ ¬ H' k ∧ ¬ Made W1 w5 k ∧ ¬ A2 k) := Lib.hid (fun k hk => by
              have z1 := HP.out.k.fr.size
              have z5 := HF5.out.size
              have z6 := HF6.out.size
              have z7 := HF7.out.size
              have k1 : w5.heap.size ≤ k := hk.1
              have k2 : k < w6.heap.size := hk.2
              refine ⟨by unfold From; omega, by omega, fun h => ?_, fun h => ?_, fun h => ?_, fun h => ?_⟩
              · rcases HAH.out.1 k h with h2 | h2
                · omega
                · have := HP.out.lt k (.inl h2); omega
              · have := HAH.out.2 k h; omega
              · have : k < w5.heap.size := h.2; omega
              · have := HP.out.lt k (.inr (.inr (.inr (.inl h)))); omega)
            go_wp2_with fail
            refine (HP7.out.rcopied (HM6.out.fr HF7.out (fun _ _ => id)) HT7.out).mono ?_
            rintro e w8 ⟨rb', A3, H3, rfl, HP8, hf8⟩
            have HE : Hid (MAny w b' mb' rb' rmb' nl w8) := ⟨_, _, A', H', _, A3, H3, _, HP8.out, HSL.out⟩
            clear hf8 HP7 HP8 HT7 HAH HP
            go_wp2_with fail
            go_meet
            exact ⟨b', mb', rb', rmb', rfl, rfl, rfl, rfl, HE⟩
          · have e3 : (Q == 3) = false := by rw [beq_eq_false_iff_ne]; omega
            have e4 : (Q == 4) = false := by rw [beq_eq_false_iff_ne]; omega
            have e5 : (Q == 5) = false := by rw [beq_eq_false_iff_ne]; omega
            have e6 : (Q == 6) = false := by rw [beq_eq_false_iff_ne]; omega
            have e7 : (Q == 7) = false := by rw [beq_eq_false_iff_ne]; omega
            clear h HQ
            go_wp2_with fail
            go_region_held3 (fun W => W.cell? ⟨bx, 0, none⟩ = some (.int .u8 kd) ∧ W.cell? ⟨bx, 1, none⟩ = some (.int .i64 mi) ∧ W.cell? ⟨bx, 2, none⟩ = some (.string K) ∧ W.cell? ⟨bx, 3, none⟩ = some (.string V)) (first | exact ⟨g0, g1, g2, g3⟩ | go_keep) (first
              | (go_at_call 26; (with_reducible refine (HBd.out.update).mono ?_); rintro e w5 ⟨rfl, h5⟩; have H5 := Lib.hid h5; obtain ⟨-, -, g0, g1, g2, g3⟩ := h5)
              | (go_at_call 27; (with_reducible refine (H5.out.rupdate HV).mono ?_); rintro e w6 ⟨rfl, h6⟩; have H6 := Lib.hid h6; obtain ⟨-, -, g0, g1, g2, g3⟩ := h6))
            have HE : Hid (MAny w b mb rb rmb nl w6) := ⟨_, _, A, H, T, A2, H2, T2, H6.out.at'.out, by rw [mupdate_len]; exact HSL.out⟩
            go_wp2_with fail
            go_meet
            exact ⟨b, mb, rb, rmb, rfl, rfl, rfl, rfl, HE⟩
        case rest =>
          obtain ⟨b, mb, rb, rmb, rfl, rfl, rfl, rfl, HN⟩ := hcut
          clear HB HBd d0 d1 d2 d3 HQ HMI HV HSL
          obtain ⟨S, m, A, H, T, A2, H2, T2, hp, hSl⟩ := HN.out
          have HP := Lib.hid hp
          have HSL := Lib.hid hSl
          obtain ⟨LV, hLV, hreg⟩ := hp.r.mem.regs
          have HLV : Hid (∀ W', Fr No wc W' → W'.cell? ⟨rmb, 0, none⟩ = some LV ∧ RegsAt W' LV m) := fun W' hW => ⟨hW.cell hLV id, hreg.fr hW⟩
          have hm12 : m.length ≤ 4294967296 := by have := hp.ok.1; omega
          clear hp hSl hreg
          go_wp2_with fail
          go_region_held3 (fun W => W.cell? ⟨rmb, 0, none⟩ = some LV) (first | go_keep | exact (HLV.out _ (((Fr.refl _ _).drew).trans HF6.out)).1 | exact (HLV.out _ ((((Fr.refl _ _).drew).trans HF6.out).trans HF7.out)).1) (first
            | (go_at_call 28; (with_reducible refine ((HP.out.to ((Fr.refl _ _).drew)).regions).mono ?_); rintro e w6 ⟨v, rfl, hvr, _, hf6⟩; have HVR := Lib.hid hvr; have HF6 := Lib.hid hf6; clear hvr hf6)
            | (go_at_call 7; (with_reducible refine (psame_true HVR.out (HLV.out _ (((Fr.refl _ _).drew).trans HF6.out)).2 hm12).mono ?_); rintro e w7 ⟨rfl, hf7⟩; have HF7 := Lib.hid hf7; clear hf7)
            | (go_at_call 29; (with_reducible refine ((HP.out.to ((((Fr.refl _ _).drew).trans HF6.out).trans HF7.out)).k.len).mono ?_); rintro e w8 ⟨rfl, rfl⟩))
          have HE : Hid (MAny w b mb rb rmb nl w7) := HN.out.to ((((Fr.refl _ _).drew).trans HF6.out).trans HF7.out)
          have hsl := HSL.out
          clear HN HP HLV HVR HF6 HF7 hLV
          go_wp2_with fail
          go_roundw
          case rel => exact ⟨k + 1, b, mb, rb, rmb, by omega, rfl, rfl, rfl, rfl, by go_num, HE⟩
          case measure => simp [intOf] <;> omega
      · obtain rfl : k = L := by omega
        clear HAC HOK HSM
        go_wp2_with fail
        obtain ⟨wo, rfl⟩ : ∃ wo : World, wo = wr := ⟨_, rfl⟩
        go_loopw [16] (fun s16 wx => ∃ i : Nat, i ≤ nl ∧ s16 = .int .i64 i ∧ Hid (MAny w b mb rb rmb nl wx)) (fun s16 _ => nl - (intOf s16).toNat)
        case atStart => exact ⟨0, Nat.zero_le _, rfl, HI⟩
        case round =>
          clear HI
          obtain ⟨i, hi, rfl, HN⟩ := hrel
          obtain ⟨S, m, A, H, T, A2, H2, T2, hp, hSl⟩ := HN.out
          have HP := Lib.hid hp
          have hfew : (mentries S m i).length ≤ 4294967296 := mentries_few hp.k.maps.ok.1 i
          clear hp hSl
          by_cases hli : i < nl
          · go_wp2_with fail
            refine (HP.out.entries i).mono ?_
            rintro e w5 ⟨ev, rfl, HEV, _, hf5⟩
            have HP5 := Lib.hid (HP.out.to hf5)
            have HF5 := Lib.hid hf5
            clear hf5
            go_wp2_with fail
            refine (HP5.out.rentries i).mono ?_
            rintro e w6 ⟨fv, rfl, HFV, _, hf6⟩
            have HEV6 : Hid (EntsAt w6 ev (mentries S m i)) := HEV.out.fr hf6
            have HF6 := Lib.hid (HF5.out.trans hf6)
            clear hf6 HP5 HF5 HEV
            go_wp2_with fail
            refine (esame_yes ev fv _ _ HEV6.out HFV.out hfew).mono ?_
            rintro e w7 ⟨rfl, hf7⟩
            have HE : Hid (MAny w b mb rb rmb nl w7) := HN.out.to (HF6.out.trans hf7)
            clear hf7 HN HP HEV6 HFV HF6 hfew
            go_wp2_with fail
            go_roundw
            case rel => exact ⟨i + 1, by omega, by go_num, HE⟩
            case measure => simp [intOf] <;> omega
          · obtain rfl : i = nl := by omega
            have HF := Lib.hid HP.out.k.fr
            clear HN HP hfew
            go_wp2_with (go_at_call 5; refine (kept_any _).mono ?_; rintro e w20 ⟨rfl, hlf⟩)
            go_ret
            exact ⟨rfl, HF.out.trans hlf⟩

end Go.Proofs.YtlinnhaodkiolaaGreat

namespace Go.Proofs.YtlinnhaodkiolaaGreat
open Go.ChangeShapes Go.WideShapes Go.ChangeAt Go.RowKit Go.Deep

theorem rows_open {w : World} {a : Addr} {α : Type} (size : Nat) (cells : α → List Value) (P : α → Prop) (hcl : ∀ x, (cells x).length = size) : ∀ (len : Nat) (_ : ∀ i, i < len → ∃ x, P x ∧ ∀ c v, (cells x)[c]? = some v → w.cell? (a.add (i * size + c)) = some v),
    ∃ l : List α, l.length = len ∧ (∀ x ∈ l, P x) ∧ ∀ j v, (l.flatMap cells)[j]? = some v → w.cell? (a.add j) = some v
  | 0, _ => ⟨[], rfl, by simp, by simp⟩
  | len + 1, h => by
    obtain ⟨l, hl, hp, hc⟩ := rows_open size cells P hcl len (fun i hi => h i (by omega))
    obtain ⟨x, hx, hxc⟩ := h len (by omega)
    have hfl : (l.flatMap cells).length = len * size := by
      rw [← hl]
      clear hc hp hl
      induction l with
      | nil => simp
      | cons y l ih => rw [List.flatMap_cons, List.length_append, ih, hcl, List.length_cons, Nat.succ_mul]; omega
    refine ⟨l ++ [x], by simp [hl], fun y hy => ?_, fun j v hj => ?_⟩
    · rcases List.mem_append.1 hy with hy | hy
      · exact hp y hy
      · rw [List.mem_singleton.1 hy]; exact hx
    · rw [List.flatMap_append] at hj
      simp only [List.flatMap_cons, List.flatMap_nil, List.append_nil] at hj
      by_cases hlt : j < len * size
      · rw [List.getElem?_append_left (by rw [hfl]; exact hlt)] at hj
        exact hc j v hj
      · rw [List.getElem?_append_right (by rw [hfl]; omega), hfl] at hj
        have := hxc _ v hj
        rwa [show len * size + (j - len * size) = j by omega] at this

set_option maxRecDepth 100000 in
theorem slice_cells {w : World} {r : Reach} {b : Nat} {v : Value} {t e : TypeId} (ht : Tryz.prog.underlying t = some (.slice e)) (h : Value.okWide Tryz.prog w r b t v) : v.cells.toList = [v] := by
  obtain ⟨a, n, c, rfl⟩ := okWide_slice ht h
  rfl

/-- a slice's value, and its cells -/
def CellsIn (w : World) (v : Value) (n : Nat) (cs : List Value) : Prop := (n = 0 ∧ ∃ a c, v = .slice a 0 c) ∨ ∃ g off cap, v = .slice (some ⟨g, off, none⟩) n cap ∧ CellsAt w g off cs

theorem cellsIn_of {α : Type} {w : World} {a : Addr} {cap size : Nat} {cells : α → List Value} {l : List α} (hcl : ∀ x, (cells x).length = size) (h0 : 0 < size) (h : ∀ j v, (l.flatMap cells)[j]? = some v → w.cell? (a.add j) = some v) :
    CellsIn w (.slice (some a) l.length cap) l.length (l.flatMap cells) := by
  cases l with
  | nil => exact .inl ⟨rfl, _, _, rfl⟩
  | cons x l =>
    obtain ⟨u, hu⟩ : ∃ u, ((x :: l).flatMap cells)[0]? = some u := by
      refine ⟨_, List.getElem?_eq_getElem ?_⟩
      rw [List.flatMap_cons, List.length_append, hcl]; omega
    obtain ⟨b, off, spot⟩ := a
    have hspot : spot = none := by simpa [Addr.add] using World.cell?_spot (h 0 u hu)
    subst hspot
    exact .inr ⟨b, off, cap, rfl, fun j v hj => by rw [← addr_add]; exact h j v hj⟩

end Go.Proofs.YtlinnhaodkiolaaGreat
