/- What Call asks of a world. Call over a world: what is refused. A world made: the memory that it has. firewalllaw09.called. firewalllaw09.HelpersNone: a world that is none. An act of chapter 09 among the arguments, opened. The listed variable helpers.args: what a row's condition gives. -/
import Derived.Test.YtlinnhaodkiolaaGreatDoorBundle15
import Derived.Test.YtlinnhaodkiolaaGreatDoorBundle12
import Derived.Handy
import Derived.Test.YtlinnhaodkiolaaGreatDoorBundle1
import Derived.ProofKit
import Derived.OpenShut
import Derived.Test.YtlinnhaodkiolaaGreatDoorBundle13
import Derived.LaidMore
import Derived.Stop.Joined
namespace Go.Proofs.YtlinnhaodkiolaaGreatDoor
open Go.RowKit

theorem mflat_at : ∀ (l : List MapD) (i : Nat) (x : MapD), l[i]? = some x → (mflat l)[i * 4 + 1]? = some (.int .i64 x.key) ∧ (mflat l)[i * 4 + 2]? = some (.int .i64 x.value)
  | [], i, x, h => by simp at h
  | y :: l, 0, x, h => by
    simp at h
    subst h
    exact ⟨rfl, rfl⟩
  | y :: l, i + 1, x, h => by
    have := mflat_at l i x (by simpa using h)
    rw [show (i + 1) * 4 + 1 = i * 4 + 1 + 4 by omega, show (i + 1) * 4 + 2 = i * 4 + 2 + 4 by omega]
    exact this

theorem WAt.callW {w0 wr : World} {bw b mb p : Nat} {ds : List MapD} {RL : List Reg} {D : List Int} {S : List Tab} {m : List Reg} {A H T : Nat → Prop} {mv ov dv : Value} (h : WAt w0 bw b mb ds p RL D S m A H T mv ov dv wr) {i : Nat} {x : MapD} (hi : ds[i]? = some x) :
    ∃ gm om cm, CallW bw b mb ds.length x.key x.value gm om cm i wr := by
  rcases h.maps with ⟨rfl, _⟩ | ⟨g, off, cap, hv, hc⟩
  · simp at hi
  · obtain ⟨k1, k2⟩ := mflat_at ds i x hi
    have e1 := hc _ _ k1
    have e2 := hc _ _ k2
    rw [← Nat.add_assoc] at e1 e2
    exact ⟨g, off, cap, h.c0, by rw [h.c1, hv], h.c4, h.c5, e1, e2⟩

theorem wcall_lookup {w0 wr : World} {bw b mb p : Nat} {ds : List MapD} {RL : List Reg} {D : List Int} {S : List Tab} {m : List Reg} {A H T : Nat → Prop} {mv ov dv : Value} (h : WAt w0 bw b mb ds p RL D S m A H T mv ov dv wr) (ha : ArgsAt w0) (hS : S.length = ds.length) (h4 : ds.length ≤ 4) {i : Nat} {x : MapD} (hi : ds[i]? = some x) (a1 a2 a3 a4 : Int)
    (l1 : 0 ≤ a1) (l2 : a1 ≤ 18446744073709551615) (hx : x.key ≤ 9223372036854775807) (key : List UInt8) (hk : mtext m a1 x.key = (key, 0)) :
    Calls Tryz.prog 4 #[.pointer (some ⟨bw, 0, none⟩), .int .i64 1, five (9437184 + (i : Int)) a1 a2 a3 a4] wr fun e w' => e = .returned (.tuple #[.int .u64 (mlookup S i key), .int .i64 0]) ∧ Hid (WAt w0 bw b mb ds p RL D S m A H T mv ov dv w' ∧ Fr No wr w') := by
  obtain ⟨gm, om, cm, hc⟩ := h.callW hi
  have hil : i < ds.length := (List.getElem?_eq_some_iff.1 hi).1
  refine (call_lookup bw b mb ds.length gm om cm i x.key x.value (9437184 + (i : Int)) a1 a2 a3 a4 (mlookup S i key) ⟨key.toArray⟩ wr hc (ha.fr h.k.fr) (fun W hW => ?_) (by omega) (by rw [show (9437184 + (i : Int)) - 9437184 = (i : Int) by omega]; exact u64_nat i (by omega)) hil (fun W hW => ?_) (fun W hW => ?_)).mono ?_
  · have := (h.k.to hW).len
    rwa [hS] at this
  · exact ((h.k.to hW).text a1 x.key (key, 0) l1 l2 hx hk).mono fun e w' ⟨he, _, hf⟩ => ⟨he, hf⟩
  · exact ((h.k.to hW).lookup i key _ rfl).mono fun e w' ⟨he, _, hf⟩ => ⟨he, hf⟩
  · rintro e w' ⟨he, hf⟩
    exact ⟨he, h.to hf, hf⟩

theorem wcall_delete {w0 wr : World} {bw b mb p : Nat} {ds : List MapD} {RL : List Reg} {D : List Int} {S : List Tab} {m : List Reg} {A H T : Nat → Prop} {mv ov dv : Value} (h : WAt w0 bw b mb ds p RL D S m A H T mv ov dv wr) (ha : ArgsAt w0) (hS : S.length = ds.length) (h4 : ds.length ≤ 4) {i : Nat} {x : MapD} (hi : ds[i]? = some x) (a1 a2 a3 a4 : Int)
    (l1 : 0 ≤ a1) (l2 : a1 ≤ 18446744073709551615) (hx : x.key ≤ 9223372036854775807) (key : List UInt8) (hk : mtext m a1 x.key = (key, 0)) (ru : Int) (hr : IntKind.u64.wrap (mdelete S i key).2 = ru) :
    Calls Tryz.prog 4 #[.pointer (some ⟨bw, 0, none⟩), .int .i64 3, five (9437184 + (i : Int)) a1 a2 a3 a4] wr fun e w' => e = .returned (.tuple #[.int .u64 ru, .int .i64 0]) ∧ Hid (WAt w0 bw b mb ds p RL D (mdelete S i key).1 m A H T mv ov dv w' ∧ Fr H wr w') := by
  obtain ⟨gm, om, cm, hc⟩ := h.callW hi
  have hil : i < ds.length := (List.getElem?_eq_some_iff.1 hi).1
  refine (call_delete bw b mb ds.length gm om cm i x.key x.value (9437184 + (i : Int)) a1 a2 a3 a4 (mdelete S i key).2 ru ⟨key.toArray⟩ (fun W w' => KSt w0 b mb (mdelete S i key).1 m A H T w' ∧ Fr H W w') wr hc (ha.fr h.k.fr) (fun W hW => ?_) (by omega) (by rw [show (9437184 + (i : Int)) - 9437184 = (i : Int) by omega]; exact u64_nat i (by omega)) hil (fun W hW => ?_) hr (fun W hW => ?_)).mono ?_
  · have := (h.k.to hW).len
    rwa [hS] at this
  · exact ((h.k.to hW).text a1 x.key (key, 0) l1 l2 hx hk).mono fun e w' ⟨he, _, hf⟩ => ⟨he, hf⟩
  · exact ((h.k.to hW).deletes i key _ rfl).mono fun e w' ⟨he, hk, hf⟩ => ⟨he, hk.out, hf⟩
  · rintro e w' ⟨he, W, hW, h1, h2⟩
    exact ⟨he, (h.to hW).turn (h2.mono fun _ _ hq => .inl hq) h1, hW.any.trans h2⟩

theorem wcall_update {w0 wr : World} {bw b mb p : Nat} {ds : List MapD} {RL : List Reg} {D : List Int} {S : List Tab} {m : List Reg} {A H T : Nat → Prop} {mv ov dv : Value} (h : WAt w0 bw b mb ds p RL D S m A H T mv ov dv wr) (ha : ArgsAt w0) (hS : S.length = ds.length) (h4 : ds.length ≤ 4) {i : Nat} {x : MapD} (hi : ds[i]? = some x) (a1 a2 a4 : Int)
    (l1 : 0 ≤ a1) (l2 : a1 ≤ 18446744073709551615) (l3 : 0 ≤ a2) (l4 : a2 ≤ 18446744073709551615) (hx : x.key ≤ 9223372036854775807) (hy : x.value ≤ 9223372036854775807) (key val : List UInt8) (hk : mtext m a1 x.key = (key, 0)) (hv : mtext m a2 x.value = (val, 0)) (ru : Int) (hr : IntKind.u64.wrap (mupdate S m i key val).2 = ru) :
    Calls Tryz.prog 4 #[.pointer (some ⟨bw, 0, none⟩), .int .i64 2, five (9437184 + (i : Int)) a1 a2 0 a4] wr fun e w' => e = .returned (.tuple #[.int .u64 ru, .int .i64 0]) ∧ Hid (WAt w0 bw b mb ds p RL D (mupdate S m i key val).1.1 (mupdate S m i key val).1.2 A H T mv ov dv w' ∧ Fr (Or2 H T) wr w') := by
  obtain ⟨gm, om, cm, hc⟩ := h.callW hi
  have hil : i < ds.length := (List.getElem?_eq_some_iff.1 hi).1
  refine (call_update bw b mb ds.length gm om cm i x.key x.value (9437184 + (i : Int)) a1 a2 0 a4 (mupdate S m i key val).2 ru ⟨key.toArray⟩ ⟨val.toArray⟩ (fun W w' => KSt w0 b mb (mupdate S m i key val).1.1 (mupdate S m i key val).1.2 A H T w' ∧ Fr (Or2 H T) W w') wr hc (ha.fr h.k.fr) (fun W hW => ?_) (by omega) (by rw [show (9437184 + (i : Int)) - 9437184 = (i : Int) by omega]; exact u64_nat i (by omega)) hil (fun W hW => ?_) (fun W hW => ?_) (by decide) hr (fun W hW => ?_)).mono ?_
  · have := (h.k.to hW).len
    rwa [hS] at this
  · exact ((h.k.to hW).text a1 x.key (key, 0) l1 l2 hx hk).mono fun e w' ⟨he, _, hf⟩ => ⟨he, hf⟩
  · exact ((h.k.to hW).text a2 x.value (val, 0) l3 l4 hy hv).mono fun e w' ⟨he, _, hf⟩ => ⟨he, hf⟩
  · exact ((h.k.to hW).updates i key val _ rfl).mono fun e w' ⟨he, hk, hf⟩ => ⟨he, hk.out, hf⟩
  · rintro e w' ⟨he, W, hW, h1, h2⟩
    exact ⟨he, (h.to hW).turn h2 h1, hW.any.trans h2⟩

end Go.Proofs.YtlinnhaodkiolaaGreatDoor

namespace Go.Proofs.YtlinnhaodkiolaaGreatDoor
open Go.RowKit

theorem wcall_nomap {w0 wr : World} {bw b mb p : Nat} {ds : List MapD} {RL : List Reg} {D : List Int} {S : List Tab} {m : List Reg} {A H T : Nat → Prop} {mv ov dv : Value} (h : WAt w0 bw b mb ds p RL D S m A H T mv ov dv wr) (ha : ArgsAt w0) (h4 : S.length ≤ 4) (id a0 a1 a2 a3 a4 x : Int) (hw : (Lit.int .i64 id).wf = true) (hid : id = 1 ∨ id = 2 ∨ id = 3)
    (hx : IntKind.u64.wrap (a0 - 9437184) = x) (hge : (S.length : Int) ≤ x) :
    Calls Tryz.prog 4 #[.pointer (some ⟨bw, 0, none⟩), .int .i64 id, five a0 a1 a2 a3 a4] wr fun e w' => e = .returned (.tuple #[.int .u64 0, .int .i64 2]) ∧ Hid (WAt w0 bw b mb ds p RL D S m A H T mv ov dv w' ∧ Fr No wr w') :=
  (call_nomap bw b S.length id a0 a1 a2 a3 a4 x wr h.c0 h.c5 (ha.fr h.k.fr) hw hid (fun W hW => (h.k.to hW).len) (by omega) hx hge).mono fun e w' ⟨he, hf⟩ => ⟨he, h.to hf, hf⟩

theorem wcall_nokey {w0 wr : World} {bw b mb p : Nat} {ds : List MapD} {RL : List Reg} {D : List Int} {S : List Tab} {m : List Reg} {A H T : Nat → Prop} {mv ov dv : Value} (h : WAt w0 bw b mb ds p RL D S m A H T mv ov dv wr) (ha : ArgsAt w0) (hS : S.length = ds.length) (h4 : ds.length ≤ 4) {i : Nat} {x : MapD} (hi : ds[i]? = some x) (id a1 a2 a3 a4 : Int) (hw : (Lit.int .i64 id).wf = true) (hid : id = 1 ∨ id = 2 ∨ id = 3)
    (l1 : 0 ≤ a1) (l2 : a1 ≤ 18446744073709551615) (hx : x.key ≤ 9223372036854775807) (key : List UInt8) (err : Int) (hk : mtext m a1 x.key = (key, err)) (he0 : (err == 0) = false) :
    Calls Tryz.prog 4 #[.pointer (some ⟨bw, 0, none⟩), .int .i64 id, five (9437184 + (i : Int)) a1 a2 a3 a4] wr fun e w' => e = .returned (.tuple #[.int .u64 0, .int .i64 err]) ∧ Hid (WAt w0 bw b mb ds p RL D S m A H T mv ov dv w' ∧ Fr No wr w') := by
  obtain ⟨gm, om, cm, hc⟩ := h.callW hi
  have hil : i < ds.length := (List.getElem?_eq_some_iff.1 hi).1
  refine (call_nokey bw b mb ds.length gm om cm i x.key x.value (9437184 + (i : Int)) a1 a2 a3 a4 id err ⟨key.toArray⟩ wr hc (ha.fr h.k.fr) hw hid (fun W hW => ?_) (by omega) (by rw [show (9437184 + (i : Int)) - 9437184 = (i : Int) by omega]; exact u64_nat i (by omega)) hil (fun W hW => ?_) he0).mono ?_
  · have := (h.k.to hW).len
    rwa [hS] at this
  · exact ((h.k.to hW).text a1 x.key (key, err) l1 l2 hx hk).mono fun e w' ⟨he, _, hf⟩ => ⟨he, hf⟩
  · rintro e w' ⟨he, hf⟩
    exact ⟨he, h.to hf, hf⟩

theorem wcall_flag {w0 wr : World} {bw b mb p : Nat} {ds : List MapD} {RL : List Reg} {D : List Int} {S : List Tab} {m : List Reg} {A H T : Nat → Prop} {mv ov dv : Value} (h : WAt w0 bw b mb ds p RL D S m A H T mv ov dv wr) (ha : ArgsAt w0) (hS : S.length = ds.length) (h4 : ds.length ≤ 4) {i : Nat} {x : MapD} (hi : ds[i]? = some x) (a1 a2 a3 a4 : Int)
    (l1 : 0 ≤ a1) (l2 : a1 ≤ 18446744073709551615) (l3 : 0 ≤ a2) (l4 : a2 ≤ 18446744073709551615) (hx : x.key ≤ 9223372036854775807) (hy : x.value ≤ 9223372036854775807) (key val : List UInt8) (hk : mtext m a1 x.key = (key, 0)) (hv : mtext m a2 x.value = (val, 0)) (hfl : (a3 == 0) = false) :
    Calls Tryz.prog 4 #[.pointer (some ⟨bw, 0, none⟩), .int .i64 2, five (9437184 + (i : Int)) a1 a2 a3 a4] wr fun e w' => e = .returned (.tuple #[.int .u64 18446744073709551594, .int .i64 0]) ∧ Hid (WAt w0 bw b mb ds p RL D S m A H T mv ov dv w' ∧ Fr No wr w') := by
  obtain ⟨gm, om, cm, hc⟩ := h.callW hi
  have hil : i < ds.length := (List.getElem?_eq_some_iff.1 hi).1
  refine (call_flag bw b mb ds.length gm om cm i x.key x.value (9437184 + (i : Int)) a1 a2 a3 a4 ⟨key.toArray⟩ ⟨val.toArray⟩ wr hc (ha.fr h.k.fr) (fun W hW => ?_) (by omega) (by rw [show (9437184 + (i : Int)) - 9437184 = (i : Int) by omega]; exact u64_nat i (by omega)) hil (fun W hW => ?_) (fun W hW => ?_) hfl).mono ?_
  · have := (h.k.to hW).len
    rwa [hS] at this
  · exact ((h.k.to hW).text a1 x.key (key, 0) l1 l2 hx hk).mono fun e w' ⟨he, _, hf⟩ => ⟨he, hf⟩
  · exact ((h.k.to hW).text a2 x.value (val, 0) l3 l4 hy hv).mono fun e w' ⟨he, _, hf⟩ => ⟨he, hf⟩
  · rintro e w' ⟨he, hf⟩
    exact ⟨he, h.to hf, hf⟩

end Go.Proofs.YtlinnhaodkiolaaGreatDoor

namespace Go.Proofs.YtlinnhaodkiolaaGreatDoor
open Go.RowKit

theorem WF.app {a b : List Reg} (ha : WF a) (hb : WF b) (c : Int) (h1 : ∀ x ∈ a, x.base + x.len ≤ c) (h2 : ∀ y ∈ b, c ≤ y.base) (hl : (a ++ b).length ≤ 4611686018427387904) : WF (a ++ b) :=
  ⟨fun r hr => (List.mem_append.1 hr).elim (ha.ok r) (hb.ok r), List.pairwise_append.2 ⟨ha.apart, hb.apart, fun x hx y hy => by have := h1 x hx; have := h2 y hy; omega⟩, hl⟩

theorem WF.one {r : Reg} (h : r.ok) : WF [r] :=
  ⟨fun x hx => by rw [List.mem_singleton.1 hx]; exact h, List.pairwise_singleton _ _, by simp⟩

theorem WF.cons {r : Reg} {m : List Reg} (hr : r.ok) (hm : WF m) (h : ∀ y ∈ m, r.base + r.len ≤ y.base) (hl : m.length + 1 ≤ 4611686018427387904) : WF (r :: m) :=
  ⟨fun x hx => by rcases List.mem_cons.1 hx with rfl | hx; exact hr; exact hm.ok x hx, List.pairwise_cons.2 ⟨h, hm.apart⟩, hl⟩

/-- the regions of a world's memory, in order -/
def memL (p : Nat) (mark : Int) (Pl : List UInt8) (ds : List MapD) (more : List Reg) : List Reg := presL (ownR0 p) (ownR1 mark) ownR2 (ownR3 Pl) ++ (natR :: (more ++ mregs ds))

theorem memL_perm (p : Nat) (mark : Int) (Pl : List UInt8) (ds : List MapD) (more : List Reg) : (memL p mark Pl ds more).Perm (ownL p mark Pl ds ++ natR :: more) := by
  unfold memL ownL
  rw [List.append_assoc]
  exact List.Perm.append_left _ (List.perm_append_comm (l₁ := natR :: more) (l₂ := mregs ds))

theorem ok_of {r : Reg} (n : Nat) (hn : r.data.length = n) (h0 : 0 < n) (h1 : 0 ≤ r.base) (h2 : r.base + (n : Int) ≤ 18446744073709551615) (h3 : n ≤ 9223372036854775807) : r.ok :=
  ⟨h1, by omega, by unfold Reg.len; rw [hn]; exact h2, by omega⟩
theorem ld0 (p : Nat) : (ownR0 p).data.length = 16 := by
  show (leBytes 8 196608 ++ leBytes 8 (196608 + p)).length = 16
  rw [List.length_append, leBytes_length, leBytes_length]
theorem ld1 (mark : Int) : (ownR1 mark).data.length = 8 := leBytes_length _ _
theorem ld2 : ownR2.data.length = 512 := List.length_replicate
theorem ldn : natR.data.length = 128 := List.length_replicate
theorem ok0 (p : Nat) : (ownR0 p).ok := ok_of 16 (ld0 p) (by omega) (show (0 : Int) ≤ 65536 by omega) (show (65536 : Int) + 16 ≤ _ by omega) (by omega)
theorem ok1 (mark : Int) : (ownR1 mark).ok := ok_of 8 (ld1 mark) (by omega) (show (0 : Int) ≤ 65552 by omega) (show (65552 : Int) + 8 ≤ _ by omega) (by omega)
theorem ok2 : ownR2.ok := ok_of 512 ld2 (by omega) (show (0 : Int) ≤ 131072 by omega) (show (131072 : Int) + 512 ≤ _ by omega) (by omega)
theorem ok3 (Pl : List UInt8) (h0 : Pl ≠ []) (h : Pl.length ≤ 200) : (ownR3 Pl).ok := ok_of Pl.length rfl (List.length_pos_iff.2 h0) (show (0 : Int) ≤ 196608 by omega) (show (196608 : Int) + _ ≤ _ by omega) (by omega)
theorem okn : natR.ok := ok_of 128 ldn (by omega) (show (0 : Int) ≤ 262144 by omega) (show (262144 : Int) + 128 ≤ _ by omega) (by omega)
theorem len0 (p : Nat) : (ownR0 p).len = 16 := by unfold Reg.len; rw [ld0]; rfl
theorem len1 (mark : Int) : (ownR1 mark).len = 8 := by unfold Reg.len; rw [ld1]; rfl
theorem len2 : ownR2.len = 512 := by unfold Reg.len; rw [ld2]; rfl
theorem lenn : natR.len = 128 := by unfold Reg.len; rw [ldn]; rfl

theorem pres_wf (p : Nat) (mark : Int) (Pl : List UInt8) (h : Pl.length ≤ 200) : WF (presL (ownR0 p) (ownR1 mark) ownR2 (ownR3 Pl)) ∧ ∀ x ∈ presL (ownR0 p) (ownR1 mark) ownR2 (ownR3 Pl), x.base + x.len ≤ 262144 := by
  have l0 := len0 p
  have l1 := len1 mark
  have l2 := len2
  have l3 : (ownR3 Pl).len = Pl.length := rfl
  have b0 : (ownR0 p).base = 65536 := rfl
  have b1 : (ownR1 mark).base = 65552 := rfl
  have b2 : ownR2.base = 131072 := rfl
  have b3 : (ownR3 Pl).base = 196608 := rfl
  have o0 := ok0 p
  have o1 := ok1 mark
  have o3 := fun h0 => ok3 Pl h0 h
  generalize ownR0 p = r0 at *
  generalize ownR1 mark = r1 at *
  unfold presL
  split
  · refine ⟨WF.cons o0 (WF.cons o1 (WF.one ok2) ?_ (by decide)) ?_ (by simp), ?_⟩
    · intro y hy; rw [List.mem_singleton.1 hy]; omega
    · intro y hy
      simp only [List.mem_cons, List.not_mem_nil, or_false] at hy
      rcases hy with rfl | rfl <;> omega
    · intro y hy
      simp only [List.mem_cons, List.not_mem_nil, or_false] at hy
      rcases hy with rfl | rfl | rfl <;> omega
  · rename_i h0
    refine ⟨WF.cons o0 (WF.cons o1 (WF.cons ok2 (WF.one (o3 h0)) ?_ (by simp)) ?_ (by simp)) ?_ (by simp), ?_⟩
    · intro y hy; rw [List.mem_singleton.1 hy]; omega
    · intro y hy
      simp only [List.mem_cons, List.not_mem_nil, or_false] at hy
      rcases hy with rfl | rfl <;> omega
    · intro y hy
      simp only [List.mem_cons, List.not_mem_nil, or_false] at hy
      rcases hy with rfl | rfl | rfl <;> omega
    · intro y hy
      simp only [List.mem_cons, List.not_mem_nil, or_false] at hy
      rcases hy with rfl | rfl | rfl | rfl <;> omega

/-- regions that may be handed in beside a world's own: between the native stack and the maps -/
structure MoreOk (more : List Reg) : Prop where
  wf : WF more
  lo : ∀ r ∈ more, 262272 ≤ r.base
  hi : ∀ r ∈ more, r.base + r.len ≤ 1048576
  few : more.length ≤ 3

theorem mregs_lo (ds : List MapD) : ∀ r ∈ mregs ds, 1048576 ≤ r.base := by
  intro r hr
  obtain ⟨i, hi, rfl⟩ := List.getElem_of_mem hr
  have hl : i < ds.length := by rw [mregs_length] at hi; exact hi
  have hg := mregs_get ds i
  rw [List.getElem?_eq_getElem hi, List.getElem?_eq_getElem hl] at hg
  rw [Option.some.inj hg]
  show 1048576 ≤ mbase i
  unfold mbase
  omega

theorem memL_wf (p : Nat) (mark : Int) (Pl : List UInt8) (ds : List MapD) (more : List Reg) (h : Pl.length ≤ 200) (hds : mayL ds = true) (hm : MoreOk more) : WF (memL p mark Pl ds more) := by
  obtain ⟨hp, hb⟩ := pres_wf p mark Pl h
  have h4 := ((mayL_iff ds).1 hds).1
  have ln := lenn
  have bn : natR.base = 262144 := rfl
  have hlen := (presL_len (ownR0 p) (ownR1 mark) ownR2 (ownR3 Pl)).2
  have hf := hm.few
  have hml := mregs_length ds
  refine WF.app hp (WF.cons okn (WF.app hm.wf (mregs_wf hds) 1048576 hm.hi (mregs_lo ds) ?_) ?_ ?_) 262144 hb ?_ ?_
  · rw [List.length_append]; omega
  · intro y hy
    rcases List.mem_append.1 hy with hy | hy
    · have := hm.lo y hy; omega
    · have := mregs_lo ds y hy; omega
  · rw [List.length_append]; omega
  · intro y hy
    rcases List.mem_cons.1 hy with rfl | hy
    · omega
    rcases List.mem_append.1 hy with hy | hy
    · have := hm.lo y hy; omega
    · have := mregs_lo ds y hy; omega
  · rw [List.length_append, List.length_cons, List.length_append]; omega

theorem memL_ok (p : Nat) (mark : Int) (Pl : List UInt8) (ds : List MapD) (more : List Reg) (h : Pl.length ≤ 200) (hds : mayL ds = true) (hm : MoreOk more) : MemOk (memL p mark Pl ds more) := by
  obtain ⟨hp, hb⟩ := pres_wf p mark Pl h
  have h4 := ((mayL_iff ds).1 hds).1
  have hlen := (presL_len (ownR0 p) (ownR1 mark) ownR2 (ownR3 Pl)).2
  have hf := hm.few
  have hml := mregs_length ds
  refine ⟨?_, ?_⟩
  · unfold memL; rw [List.length_append, List.length_cons, List.length_append]; omega
  · intro r hr
    unfold memL at hr
    rcases List.mem_append.1 hr with hr | hr
    · have h1 := hb r hr
      have h2 := (hp.ok r hr).low
      unfold Reg.len at h1
      omega
    rcases List.mem_cons.1 hr with rfl | hr
    · simp [natR]
    rcases List.mem_append.1 hr with hr | hr
    · have h1 := hm.hi r hr
      have h2 := hm.lo r hr
      unfold Reg.len at h1
      omega
    · exact (mregs_ok hds).2 r hr

theorem memL_holds (p : Nat) (mark : Int) (Pl : List UInt8) (ds : List MapD) (more : List Reg) (hds : mayL ds = true) : holdsB (mregsOf ds) (memL p mark Pl ds more) = true := by
  have h := holds_self hds
  unfold holdsB at h ⊢
  rw [List.all_eq_true] at h ⊢
  intro x hx
  have := h x hx
  rw [List.any_eq_true] at this ⊢
  obtain ⟨y, hy, hf⟩ := this
  exact ⟨y, by unfold memL; exact List.mem_append_right _ (List.mem_cons_of_mem _ (List.mem_append_right _ hy)), hf⟩

theorem ok_typed {r : Reg} (h : r.ok) : r.typed := ⟨h.low, by have := h.high; unfold Reg.len at this; omega, h.small⟩

theorem hnew_made (Pl : List UInt8) (P : ByteArray) (p : Nat) (mark : Int) (mv dv mo : Value) (ds : List MapD) (w : World) (hPl : P = ⟨Pl.toArray⟩) (hp : Pl.length = p) (hds : MapsIn w mv ds) (hml : mayL ds = true) (more : List Reg) (no co : Nat) (ao : Option Addr) (hmore : SrcAt w mo no (aflat more)) (hmo : mo = .slice ao no co) (hno : more.length = no) (hok : MoreOk more)
    (D : List Int) (hD : U64sIn w dv D) (hd : D.length ≤ 100) (h256 : p ≤ 200) (hmark : 0 ≤ mark ∧ mark < 18446744073709551616) :
    Calls Tryz.prog 24 #[.agg #[mv, .int .i64 p], .agg #[.string P, .int .u64 mark, .slice none 0 0, dv], mo] w (HNewQ w ds p mark Pl D (memL p mark Pl ds more)) := by
  obtain ⟨am, cm, hm⟩ := hds.form
  obtain ⟨ad, cd, hdv⟩ := hD.form
  have hps : P.size = p := by rw [hPl]; show Pl.toArray.size = p; rw [List.size_toArray]; exact hp
  have hwf := memL_wf p mark Pl ds more (by omega) hml hok
  have h4 := ((mayL_iff ds).1 hml).1
  have hf := hok.few
  exact hnew_walk Pl P p mark mv mo dv am ad ao _ cm _ cd no co ds w hPl hps (hm ▸ hds) rfl hml more (hmo ▸ hmore) hno _ (memL_perm p mark Pl ds more) hwf (by omega)
    (fun r hr => ok_typed (hwf.ok r ((memL_perm p mark Pl ds more).mem_iff.2 hr))) (memL_holds p mark Pl ds more hml) (memL_ok p mark Pl ds more (by omega) hml hok) D (hdv ▸ hD) rfl h256 hd hm hdv hmo hmark
end Go.Proofs.YtlinnhaodkiolaaGreatDoor

namespace Go.Proofs.YtlinnhaodkiolaaGreatDoor
open Go.RowKit

def cD : List MapD := [⟨1, 4, 1, 2⟩]
def cM : List Reg := memL 2 0 [112, 113] cD []
def cS : List Tab := cD.map Tab.new
theorem c_may : mayL cD = true := by decide +kernel
theorem c_read : mread cM 65544 8 = (196610, 0) := by decide +kernel
theorem c_text : mtext cM 131072 4 = ([0, 0, 0, 0], 0) := by decide +kernel
theorem c_text5 : mtext cM 5 4 = ([], 70) := by decide +kernel
theorem c_look : mlookup cS 0 [0, 0, 0, 0] = 1048576 := by decide +kernel
theorem c_own : ((ownL 2 0 [112, 113] cD).any (ownB 196608 2) = true ∧ (ownL 2 0 [112, 113] cD).any (ownB 196608 3) = false) ∧ (ownL 2 0 [112, 113] cD).any (ownB 262144 1) = false := by decide +kernel

theorem more_nil : MoreOk [] := ⟨⟨fun _ h => absurd h (by simp), .nil, by decide⟩, fun _ h => absurd h (by simp), fun _ h => absurd h (by simp), by decide⟩

set_option maxRecDepth 100000 in
set_option maxHeartbeats 4000000 in
theorem called_any (w : World) (ha : ArgsAt w) : Calls Tryz.prog 10 #[] w fun e w' => e = .returned (.bool true) ∧ Fr No w w' := by
  have HA := Lib.hid ha
  clear ha
  go_enter Tryz.func10, Tryz.ntmps10
  go_wp2_with fail
  obtain ⟨W1, hW1⟩ : ∃ W1, W1 = ((w.alloc (.cells #[.int .i64 1, .int .i64 4, .int .i64 1, .int .i64 2] 52)).alloc (.cells #[.slice (some ⟨w.heap.size, 0, none⟩) 1 1, .int .i64 2] 38)) := ⟨_, rfl⟩
  have z1 : W1.heap.size = w.heap.size + 1 + 1 := by rw [hW1]; simp only [World.alloc, Array.size_push]
  have f1 : Fr No w W1 := by rw [hW1]; exact ((Fr.refl _ _).alloc _).alloc _
  have m1 : CellsAt W1 w.heap.size 0 (mflat cD) := by rw [hW1]; exact ((Fr.refl No _).alloc _).cells (CellsAt.new w [.int .i64 1, .int .i64 4, .int .i64 1, .int .i64 2] _) id
  rw [← hW1]
  obtain ⟨W2, hW2⟩ : ∃ W2, W2 = W1.alloc (.cells #[.int .u64 5, .int .u64 6] 22) := ⟨_, rfl⟩
  have f2 : Fr No W1 W2 := by rw [hW2]; exact (Fr.refl _ _).alloc _
  have d2 : CellsAt W2 (w.heap.size + 1 + 1) 0 [.int .u64 5, .int .u64 6] := by rw [hW2, ← z1]; exact CellsAt.new W1 [.int .u64 5, .int .u64 6] _
  rw [← hW2]
  have HF := Lib.hid (f1.trans f2)
  have HA2 := Lib.hid (HA.out.fr HF.out)
  refine (hnew_made [112, 113] ⟨#[112, 113]⟩ 2 0 _ _ _ cD W2 rfl rfl (.inr ⟨_, 0, 1, rfl, f2.cells m1 id⟩) c_may [] 0 0 none (.inl ⟨rfl, rfl, rfl⟩) rfl rfl more_nil [5, 6] (.inr ⟨_, 0, 2, rfl, Nat.le_refl _, d2⟩) (by decide) (by decide) (by decide)).mono ?_
  rintro e w1 ⟨bw, b, mb, A, H, T, mv, ov, dv, rfl, HW1, _⟩
  clear hW1 hW2 z1 f1 m1 f2 d2 HA
  go_wp2_with fail
  refine (hmemory_any bw mb w1 HW1.out.c0 HW1.out.c4).mono ?_
  rintro e w2 ⟨rfl, rfl⟩
  go_wp2_with fail
  refine (read_any HW1.out.k.mem 65544 8 (by decide) (by decide)).mono ?_
  rintro e w2 ⟨he, hf⟩
  obtain rfl : e = .returned (.tuple #[.int .u64 196610, .int .i64 0]) := by rw [he]; exact congrArg (fun x : Nat × Int => Ending.returned (.tuple #[.int .u64 x.1, .int .i64 x.2])) c_read
  have HW2 := Lib.hid (HW1.out.to hf)
  clear he hf HW1
  go_wp2_with fail
  refine (wcall_draw HW2.out HA2.out 0 0 0 0 0).mono ?_
  rintro e w3 ⟨rfl, h⟩
  obtain ⟨⟨dv3, h3⟩, _⟩ := h.out
  have HW3 := Lib.hid h3
  clear h h3 HW2
  go_wp2_with fail
  refine (wcall_draw HW3.out HA2.out 0 0 0 0 0).mono ?_
  rintro e w4 ⟨rfl, h⟩
  obtain ⟨⟨dv4, h4⟩, _⟩ := h.out
  have HW4 := Lib.hid h4
  clear h h4 HW3
  go_wp2_with fail
  refine (wcall_draw HW4.out HA2.out 0 0 0 0 0).mono ?_
  rintro e w5 ⟨rfl, h⟩
  obtain ⟨⟨dv5, h5⟩, _⟩ := h.out
  have HW5 := Lib.hid h5
  clear h h5 HW4
  go_wp2_with fail
  refine (wcall_not HW5.out HA2.out 4 0 0 0 0 0 (by decide) (by decide)).mono ?_
  rintro e w6 ⟨rfl, h⟩
  have HW6 := Lib.hid h.out.1
  clear h HW5
  go_wp2_with fail
  refine (wcall_lookup HW6.out HA2.out rfl (by decide) (i := 0) rfl 131072 0 0 0 (by decide) (by decide) (by decide) [0, 0, 0, 0] c_text).mono ?_
  rintro e w7 ⟨he, h⟩
  obtain rfl : e = .returned (.tuple #[.int .u64 1048576, .int .i64 0]) := by rw [he]; exact congrArg (fun x => Ending.returned (.tuple #[.int .u64 x, .int .i64 0])) c_look
  have HW7 := Lib.hid h.out.1
  clear h he HW6
  go_wp2_with fail
  refine (wcall_nomap HW7.out HA2.out (by decide) 1 9437185 131072 0 0 0 1 (by decide) (.inl rfl) (by decide) (by decide)).mono ?_
  rintro e w8 ⟨rfl, h⟩
  have HW8 := Lib.hid h.out.1
  clear h HW7
  go_wp2_with fail
  refine (wcall_nokey HW8.out HA2.out rfl (by decide) (i := 0) rfl 1 5 0 0 0 (by decide) (.inl rfl) (by decide) (by decide) (by decide) [] 70 c_text5 (by decide)).mono ?_
  rintro e w9 ⟨rfl, h⟩
  have HW9 := Lib.hid h.out.1
  clear h HW8
  go_wp2_with fail
  refine (howns_any HW9.out (by decide) 196608 2 (by decide) (by decide)).mono ?_
  rintro e w10 ⟨he, hf⟩
  obtain rfl : e = .returned (.bool true) := by rw [he, c_own.1.1]; rfl
  have HW10 := Lib.hid (HW9.out.to hf)
  clear he hf HW9
  go_wp2_with fail
  refine (howns_any HW10.out (by decide) 196608 3 (by decide) (by decide)).mono ?_
  rintro e w11 ⟨he, hf⟩
  obtain rfl : e = .returned (.bool false) := by rw [he, c_own.1.2]; rfl
  have HW11 := Lib.hid (HW10.out.to hf)
  clear he hf HW10
  go_wp2_with fail
  refine (howns_any HW11.out (by decide) 262144 1 (by decide) (by decide)).mono ?_
  rintro e w12 ⟨he, hf⟩
  obtain rfl : e = .returned (.bool false) := by rw [he, c_own.2]; rfl
  have HW12 := Lib.hid (HW11.out.to hf)
  clear he hf HW11
  go_wp2_with fail
  go_ret
  exact ⟨rfl, HF.out.trans HW12.out.k.fr⟩
end Go.Proofs.YtlinnhaodkiolaaGreatDoor

namespace Go.Proofs.YtlinnhaodkiolaaGreatDoor
open Go.RowKit

/-- a world that is none -/
def NW (p : Value) (w : World) : Prop := p = .pointer none ∨ ∃ b, p = .pointer (some ⟨b, 0, none⟩) ∧ w.cell? ⟨b, 0, none⟩ = some (.bool false)
theorem NW.fr {p : Value} {w w' : World} (h : NW p w) (hf : Fr No w w') : NW p w' := h.imp id fun ⟨b, e, hc⟩ => ⟨b, e, hf.cell hc id⟩

set_option maxHeartbeats 400000 in
theorem nw_none (p : Value) (w : World) (h : NW p w) : Calls Tryz.prog 11 #[p] w fun e w' => e = .returned (.bool true) ∧ w = w' := by
  rcases h with rfl | ⟨b, rfl, hc⟩
  · go_enter Tryz.func11, Tryz.ntmps11
    go_wp2_with fail
    go_ret
    exact ⟨rfl, rfl⟩
  · go_enter Tryz.func11, Tryz.ntmps11
    go_wp2_with fail
    go_ret
    exact ⟨rfl, rfl⟩

theorem nw_memory (p : Value) (w : World) (h : NW p w) : Calls Tryz.prog 5 #[p] w fun e w' => e = .returned (.pointer none) ∧ w = w' := by
  have HN := Lib.hid (nw_none p w h)
  clear h
  go_enter Tryz.func5, Tryz.ntmps5
  go_wp2_with (go_at_call 11; (with_reducible refine (HN.out).mono ?_); rintro e w1 ⟨rfl, rfl⟩)
  go_ret
  exact ⟨rfl, rfl⟩
theorem nw_maps (p : Value) (w : World) (h : NW p w) : Calls Tryz.prog 6 #[p] w fun e w' => e = .returned (.pointer none) ∧ w = w' := by
  have HN := Lib.hid (nw_none p w h)
  clear h
  go_enter Tryz.func6, Tryz.ntmps6
  go_wp2_with (go_at_call 11; (with_reducible refine (HN.out).mono ?_); rintro e w1 ⟨rfl, rfl⟩)
  go_ret
  exact ⟨rfl, rfl⟩
theorem nw_copy (p : Value) (w : World) (h : NW p w) : Calls Tryz.prog 7 #[p] w fun e w' => e = .returned (.pointer none) ∧ w = w' := by
  have HN := Lib.hid (nw_none p w h)
  clear h
  go_enter Tryz.func7, Tryz.ntmps7
  go_wp2_with (go_at_call 11; (with_reducible refine (HN.out).mono ?_); rintro e w1 ⟨rfl, rfl⟩)
  go_ret
  exact ⟨rfl, rfl⟩
set_option maxHeartbeats 400000 in
theorem nw_layout (p : Value) (w : World) (h : NW p w) : Calls Tryz.prog 9 #[p] w fun e w' => e = .returned (.agg #[.slice none 0 0, .int .i64 0]) ∧ Fr No w w' := by
  have HN : Hid (∀ W, Fr No w W → Calls Tryz.prog 11 #[p] W fun e w' => e = .returned (.bool true) ∧ W = w') := fun W hW => nw_none p W (h.fr hW)
  clear h
  go_enter Tryz.func9, Tryz.ntmps9
  go_wp2_with (go_at_call 11; (with_reducible refine (HN.out _ ((Fr.refl _ _).alloc _)).mono ?_); rintro e w1 ⟨rfl, rfl⟩)
  all_goals go_returns
  all_goals refine ⟨rfl, ?_⟩
  all_goals (first | exact (Fr.refl _ _).alloc _ | exact ((((Fr.refl No w).alloc _).any).setCell (.inl (Nat.le_refl _)) _).ours | exact (((((Fr.refl No w).alloc _).any).setCell (.inl (Nat.le_refl _)) _).setCell (.inl (Nat.le_refl _)) _).ours)
set_option maxHeartbeats 400000 in
theorem nw_call (p : Value) (id a0 a1 a2 a3 a4 : Int) (w : World) (h : NW p w) : Calls Tryz.prog 4 #[p, .int .i64 id, .agg #[.int .u64 a0, .int .u64 a1, .int .u64 a2, .int .u64 a3, .int .u64 a4]] w fun e w' => e = .returned (.tuple #[.int .u64 0, .int .i64 1]) ∧ Fr No w w' := by
  have HN : Hid (∀ W, Fr No w W → Calls Tryz.prog 11 #[p] W fun e w' => e = .returned (.bool true) ∧ W = w') := fun W hW => nw_none p W (h.fr hW)
  clear h
  go_enter Tryz.func4, Tryz.ntmps4
  go_wp2_with (go_at_call 11; (with_reducible refine (HN.out _ ((Fr.refl _ _).alloc _)).mono ?_); rintro e w1 ⟨rfl, rfl⟩)
  go_ret2
  exact ⟨rfl, (Fr.refl _ _).alloc _⟩
set_option maxHeartbeats 400000 in
theorem nw_own (p : Value) (a n : Int) (w : World) (h : NW p w) : Calls Tryz.prog 8 #[p, .int .u64 a, .int .i64 n] w fun e w' => e = .returned (.bool false) ∧ Fr No w w' := by
  have HN : Hid (∀ W, Fr No w W → Calls Tryz.prog 11 #[p] W fun e w' => e = .returned (.bool true) ∧ W = w') := fun W hW => nw_none p W (h.fr hW)
  clear h
  by_cases h0 : n > 0
  · have q : decide (n > 0) = true := by simpa using h0
    clear h0
    go_enter Tryz.func8, Tryz.ntmps8
    go_wp2_with (go_at_call 11; (with_reducible refine (HN.out _ (((Fr.refl _ _).alloc _).alloc _)).mono ?_); rintro e w1 ⟨rfl, rfl⟩)
    go_ret
    exact ⟨rfl, ((Fr.refl _ _).alloc _).alloc _⟩
  · have q : decide (n > 0) = false := by simpa using h0
    clear h0
    go_enter Tryz.func8, Tryz.ntmps8
    go_wp2_with fail
    go_ret
    exact ⟨rfl, ((Fr.refl _ _).alloc _).alloc _⟩

theorem lay_f0 (w : World) : (Instr.field 38 (.agg #[.slice none 0 0, .int .i64 0]) 0).run Tryz.prog w = .ok (.slice none 0 0) w := by kernel_rfl
theorem lay_f1 (w : World) : (Instr.field 38 (.agg #[.slice none 0 0, .int .i64 0]) 1).run Tryz.prog w = .ok (.int .i64 0) w := by kernel_rfl

set_option maxRecDepth 100000 in
set_option maxHeartbeats 4000000 in
theorem hnone_walk (kd d a0 a1 a2 a3 a4 : Int) (w : World) (ha : ArgsAt w) :
    Calls Tryz.prog 3 #[.agg #[.int .u8 kd, .int .i64 d, .int .u64 a0, .int .u64 a1, .int .u64 a2, .int .u64 a3, .int .u64 a4]] w fun e w' => e = .returned (.bool true) ∧ Fr No w w' := by
  have HC : Hid (∀ W, Fr No w W → Calls Tryz.prog 10 #[] W fun e w' => e = .returned (.bool true) ∧ Fr No W w') := fun W hW => called_any W (ha.fr hW)
  clear ha
  obtain ⟨W0, hW0⟩ : ∃ W0, W0 = w.alloc (.cells #[.int .u8 kd, .int .i64 d, .int .u64 a0, .int .u64 a1, .int .u64 a2, .int .u64 a3, .int .u64 a4] 25) := ⟨_, rfl⟩
  have f0 : Fr No w W0 := by rw [hW0]; exact (Fr.refl _ _).alloc _
  have cc : CellsAt W0 w.heap.size 0 [.int .u8 kd, .int .i64 d, .int .u64 a0, .int .u64 a1, .int .u64 a2, .int .u64 a3, .int .u64 a4] := by rw [hW0]; exact CellsAt.new w _ _
  have HX : Hid (∀ W, Fr No W0 W → W.cell? ⟨w.heap.size, 1, none⟩ = some (.int .i64 d) ∧ W.cell? ⟨w.heap.size, 2, none⟩ = some (.int .u64 a0) ∧ W.cell? ⟨w.heap.size, 3, none⟩ = some (.int .u64 a1) ∧ W.cell? ⟨w.heap.size, 4, none⟩ = some (.int .u64 a2) ∧ W.cell? ⟨w.heap.size, 5, none⟩ = some (.int .u64 a3) ∧ W.cell? ⟨w.heap.size, 6, none⟩ = some (.int .u64 a4)) := fun W hW =>
    ⟨hW.cell (cc 1 _ rfl) id, hW.cell (cc 2 _ rfl) id, hW.cell (cc 3 _ rfl) id, hW.cell (cc 4 _ rfl) id, hW.cell (cc 5 _ rfl) id, hW.cell (cc 6 _ rfl) id⟩
  have HF0 := Lib.hid f0
  clear f0 cc
  go_enter Tryz.func3, Tryz.ntmps3
  go_upto_region 1 with fail
  rw [← hW0]
  clear hW0
  go_wp2_with fail
  go_loopw [4, 3] (fun s p wr => ∃ i : Nat, i ≤ 2 ∧ s = .int .i64 i ∧ Hid (NW p wr) ∧ Hid (Fr No W0 wr)) (fun s _ _ => 2 - (intOf s).toNat)
  case atStart => exact ⟨0, Nat.zero_le _, rfl, .inl rfl, Fr.refl _ _⟩
  case round =>
    rename Value => p
    obtain ⟨i, hi, rfl, HN, HF⟩ := hrel
    have q0 := lay_f0
    have q2 := lay_f1
    by_cases hlt : i < 2
    · have q1 : decide ((i : Int) < 2) = true := by simp; omega
      obtain ⟨x1, x2, x3, x4, x5, x6⟩ := HX.out _ HF.out
      go_wp2_with fail
      refine (nw_call _ d a0 a1 a2 a3 a4 _ HN.out).mono ?_
      rintro e w1 ⟨rfl, hf1⟩
      have HN1 := Lib.hid (HN.out.fr hf1)
      have HF1 := Lib.hid (HF.out.trans hf1)
      clear x1 x2 x3 x4 x5 x6 hf1 HN HF
      go_wp2_with fail
      refine (nw_memory _ _ HN1.out).mono ?_
      rintro e w2 ⟨rfl, rfl⟩
      go_wp2_with fail
      refine (nw_maps _ _ HN1.out).mono ?_
      rintro e w2 ⟨rfl, rfl⟩
      go_wp2_with fail
      refine (nw_copy _ _ HN1.out).mono ?_
      rintro e w2 ⟨rfl, rfl⟩
      obtain ⟨x1, x2, x3, x4, x5, x6⟩ := HX.out _ HF1.out
      go_wp2_with fail
      refine (nw_own _ a0 d _ HN1.out).mono ?_
      rintro e w2 ⟨rfl, hf2⟩
      have HN2 := Lib.hid (HN1.out.fr hf2)
      have HF2 := Lib.hid (HF1.out.trans hf2)
      clear x1 x2 x3 x4 x5 x6 hf2 HN1 HF1
      go_wp2_with fail
      refine (nw_layout _ _ HN2.out).mono ?_
      rintro e w3 ⟨rfl, hf3⟩
      have HN3 := Lib.hid (HN2.out.fr hf3)
      have HF3 := Lib.hid (HF2.out.trans hf3)
      clear hf3 HN2 HF2
      go_wp2_with fail
      refine (nw_layout _ _ HN3.out).mono ?_
      rintro e w4 ⟨rfl, hf4⟩
      have HF4 := Lib.hid (HF3.out.trans hf4)
      clear hf4 HN3 HF3
      go_wp2_with fail
      go_roundw
      case rel => exact ⟨i + 1, by omega, by go_num, .inr ⟨_, rfl, by go_simp⟩, HF4.out.alloc _⟩
      case measure => simp [intOf] <;> omega
    · obtain rfl : i = 2 := by omega
      go_wp2_with fail
      refine (HC.out _ (HF0.out.trans HF.out)).mono ?_
      rintro e w5 ⟨rfl, hf5⟩
      go_wp2_with fail
      go_ret
      exact ⟨rfl, (HF0.out.trans HF.out).trans hf5⟩
end Go.Proofs.YtlinnhaodkiolaaGreatDoor

namespace Go.Proofs.YtlinnhaodkiolaaGreatDoor
open Go.ChangeShapes Go.WideShapes Go.ChangeAt Go.RowKit

theorem cells_a9 : Tryz.prog.cellsOf 25 = 7 := by kernel_rfl
theorem cells_f9 : Tryz.prog.cellsOf 23 = 5 := by kernel_rfl
theorem cells_u89 : Tryz.prog.cellsOf 5 = 1 := by kernel_rfl
theorem cells_i9 : Tryz.prog.cellsOf 3 = 1 := by kernel_rfl
theorem cells_u649 : Tryz.prog.cellsOf 22 = 1 := by kernel_rfl

set_option maxRecDepth 100000 in
theorem open_act9 {H : Type} {enc : TypeId × Value → H} {r : Reach} {base bb : Nat} {spare : Nat → Bool} {held : Bool} {w : World} {v : Value} {d : DataW H} {p : List MemPlace} (hv : Value.okWide Tryz.prog w r bb 25 v) (h : DataW.Trod enc Tryz.prog w base spare held 25 v d p) :
    ∃ kd id a0 a1 a2 a3 a4 : Int, v = .agg #[.int .u8 kd, .int .i64 id, .int .u64 a0, .int .u64 a1, .int .u64 a2, .int .u64 a3, .int .u64 a4] := by
  unfold Value.okWide at hv
  rw [Tryz.underlying25] at hv
  obtain ⟨cs, rfl, hsz, _⟩ := hv
  rw [cells_a9] at hsz
  obtain ⟨c0, c1, c2, c3, c4, c5, c6, rfl⟩ : ∃ c0 c1 c2 c3 c4 c5 c6, cs = #[c0, c1, c2, c3, c4, c5, c6] := by
    match cs, hsz with
    | ⟨[c0, c1, c2, c3, c4, c5, c6]⟩, _ => exact ⟨c0, c1, c2, c3, c4, c5, c6, rfl⟩
  obtain ⟨fuel, hf⟩ := h
  obtain ⟨xs, m, _, hx, hl, hn, hall⟩ := DataW.trod_struct Tryz.underlying25 hf
  have h0 := hall 0 _ rfl
  have h1 := hall 1 _ rfl
  have h2 := hall 2 _ rfl
  simp only [List.getElem_toArray, List.getElem_cons_zero, List.getElem_cons_succ, cells_u89, cells_i9, cells_f9, Value.cells, List.drop_zero, List.take_succ_cons, List.take_zero, List.drop_succ_cons] at h0 h1 h2
  have hn3 : xs.length = 3 := hn
  have e0 : xs[0]? = some xs[0] := List.getElem?_eq_getElem (by omega)
  have e1 : xs[1]? = some xs[1] := List.getElem?_eq_getElem (by omega)
  have e2 : xs[2]? = some xs[2] := List.getElem?_eq_getElem (by omega)
  rw [e0] at h0
  rw [e1] at h1
  rw [e2] at h2
  obtain ⟨x0, ea, _, _⟩ := DataW.trod_int Tryz.underlying5 h0
  obtain ⟨x1, eb, _, _⟩ := DataW.trod_int Tryz.underlying3 h1
  obtain ⟨ys, m2, rfl, hy, hyl, hyn, hyall⟩ := DataW.trod_array Tryz.underlying23 h2
  have g0 := hyall 0 (by omega)
  have g1 := hyall 1 (by omega)
  have g2 := hyall 2 (by omega)
  have g3 := hyall 3 (by omega)
  have g4 := hyall 4 (by omega)
  rw [cells_u649] at g0 g1 g2 g3 g4
  simp only [List.drop_zero, Nat.zero_mul, Nat.one_mul, Nat.mul_one, List.take_succ_cons, List.take_zero, List.drop_succ_cons] at g0 g1 g2 g3 g4
  have f0 : ys[0]? = some ys[0] := List.getElem?_eq_getElem (by omega)
  have f1 : ys[1]? = some ys[1] := List.getElem?_eq_getElem (by omega)
  have f2 : ys[2]? = some ys[2] := List.getElem?_eq_getElem (by omega)
  have f3 : ys[3]? = some ys[3] := List.getElem?_eq_getElem (by omega)
  have f4 : ys[4]? = some ys[4] := List.getElem?_eq_getElem (by omega)
  rw [f0] at g0
  rw [f1] at g1
  rw [f2] at g2
  rw [f3] at g3
  rw [f4] at g4
  obtain ⟨y0, k0, _, _⟩ := DataW.trod_int Tryz.underlying22 g0
  obtain ⟨y1, k1, _, _⟩ := DataW.trod_int Tryz.underlying22 g1
  obtain ⟨y2, k2, _, _⟩ := DataW.trod_int Tryz.underlying22 g2
  obtain ⟨y3, k3, _, _⟩ := DataW.trod_int Tryz.underlying22 g3
  obtain ⟨y4, k4, _, _⟩ := DataW.trod_int Tryz.underlying22 g4
  simp at ea eb k0 k1 k2 k3 k4
  subst ea eb k0 k1 k2 k3 k4
  exact ⟨x0, x1, y0, y1, y2, y3, y4, rfl⟩
end Go.Proofs.YtlinnhaodkiolaaGreatDoor

namespace Go.Proofs.YtlinnhaodkiolaaGreatDoor
open Go.ChangeShapes Go.WideShapes Go.ChangeAt Go.WideMaps Go.WideElems Go.RowKit

def laidA : List (String × DataW Unit) := [("firewall/helpers.args", Rows.laid_firewall_helpers_args)]
theorem gArgs : Tryz.prog.globalNamed "firewall/helpers.args" = some 0 := by kernel_rfl
theorem tArgs : (Tryz.prog.globals[0]?).map (·.type) = some 69 := by kernel_rfl

theorem door_met (os : Os) (args : Array Value) : laidMetH Tryz.prog laidA ((World.doorLaid Tryz.prog 400 os).forCall (fun _ _ => 0) ⟨#[], args, []⟩).memory :=
  laidMetH_of_parts3 (fuel := 8) (laidMet_of_run' 8 (by kernel_rfl) (by kernel_rfl)) (by kernel_rfl) (by kernel_rfl)

set_option maxRecDepth 100000 in
theorem of_laid {W : World} (h : laidMetH Tryz.prog laidA W) : ArgsAt W := by
  rw [MakeChecks.laidMetH_plain _ _ _ (by kernel_rfl)] at h
  obtain ⟨ps, ⟨g0, t0, cs0, f0, p0, q0, hg0, ht0, hv0, hd0, _⟩, _, _⟩ := h
  obtain rfl := Option.some.inj (gArgs.symm.trans hg0)
  obtain rfl := Option.some.inj (tArgs.symm.trans ht0)
  rcases open_map Tryz.underlying69 hd0 with ⟨_, hx⟩ | ⟨bm, es, clock, m, rfl, hcs, hb, _, F, hx⟩
  · simp [Rows.laid_firewall_helpers_args] at hx
  simp only [Prod.mk.injEq] at hx
  have hcell : W.cell? ⟨0, 0, none⟩ = some (.map (some bm)) := by
    have := World.var?_cell hg0 hv0 0
    rw [Array.eq_one_of_toList hcs] at this
    simpa using this
  refine ⟨bm, es.size, hcell, ?_⟩
  have := World.ownsMap_of_fit hb F (fun x _ z hz => elemAt_plainElem_int Tryz.underlying3 hz)
  rw [← hx.1] at this
  exact this
end Go.Proofs.YtlinnhaodkiolaaGreatDoor
