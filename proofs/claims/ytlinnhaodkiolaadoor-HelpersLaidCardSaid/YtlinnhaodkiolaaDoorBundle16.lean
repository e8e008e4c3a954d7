/- What Call asks of a world. Call over a world: what is refused. A world made: the memory that it has. firewalllaw09.called. firewalllaw09.HelpersLaid: what happens to its world, without the program. firewalllaw07.Same: are two lists of regions the same. -/
import Derived.Test.YtlinnhaodkiolaaDoorBundle15
import Derived.Test.YtlinnhaodkiolaaDoorBundle12
import Derived.Test.YtlinnhaodkiolaaDoorBundle6
namespace Go.Proofs.YtlinnhaodkiolaaDoor
open Go.RowKit

theorem mflat_at : ∀ (l : List MapD) (i : Nat) (x : MapD), l[i]? = some x → (mflat l)[i * 4 + 1]? = some (.int .i64 x.key) ∧ (mflat l)[i * 4 + 2]? = some (.int .i64 x.value)
  | [], i, x, h => by simp at h
  | y :: l, 0, x, h => by
    simp at h
    subst h
    exact ⟨rfl, rfl⟩
  | y :: l, i + 1, x, h => by
    have := mflat_at l i x (by simpa using h)
    rw [show (i + 1) * 4 + 1 = i * 4 + 1 + 4 by omega, show (i + 1) * 4 + 2 = i * 4 + 2 + 4 by omega]
    exact this

theorem WAt.callW {w0 wr : World} {bw b mb p : Nat} {ds : List MapD} {RL : List Reg} {D : List Int} {S : List Tab} {m : List Reg} {A H T : Nat → Prop} {mv ov dv : Value} (h : WAt w0 bw b mb ds p RL D S m A H T mv ov dv wr) {i : Nat} {x : MapD} (hi : ds[i]? = some x) :
    ∃ gm om cm, CallW bw b mb ds.length x.key x.value gm om cm i wr := by
  rcases h.maps with ⟨rfl, _⟩ | ⟨g, off, cap, hv, hc⟩
  · simp at hi
  · obtain ⟨k1, k2⟩ := mflat_at ds i x hi
    have e1 := hc _ _ k1
    have e2 := hc _ _ k2
    rw [← Nat.add_assoc] at e1 e2
    exact ⟨g, off, cap, h.c0, by rw [h.c1, hv], h.c4, h.c5, e1, e2⟩

theorem wcall_lookup {w0 wr : World} {bw b mb p : Nat} {ds : List MapD} {RL : List Reg} {D : List Int} {S : List Tab} {m : List Reg} {A H T : Nat → Prop} {mv ov dv : Value} (h : WAt w0 bw b mb ds p RL D S m A H T mv ov dv wr) (ha : ArgsAt w0) (hS : S.length = ds.length) (h4 : ds.length ≤ 4) {i : Nat} {x : MapD} (hi : ds[i]? = some x) (a1 a2 a3 a4 : Int)
    (l1 : 0 ≤ a1) (l2 : a1 ≤ 18446744073709551615) (hx : x.key ≤ 9223372036854775807) (key : List UInt8) (hk : mtext m a1 x.key = (key, 0)) :
    Calls Tryd.prog 11 #[.pointer (some ⟨bw, 0, none⟩), .int .i64 1, five (9437184 + (i : Int)) a1 a2 a3 a4] wr fun e w' => e = .returned (.tuple #[.int .u64 (mlookup S i key), .int .i64 0]) ∧ Hid (WAt w0 bw b mb ds p RL D S m A H T mv ov dv w' ∧ Fr No wr w') := by
  obtain ⟨gm, om, cm, hc⟩ := h.callW hi
  have hil : i < ds.length := (List.getElem?_eq_some_iff.1 hi).1
  refine (call_lookup bw b mb ds.length gm om cm i x.key x.value (9437184 + (i : Int)) a1 a2 a3 a4 (mlookup S i key) ⟨key.toArray⟩ wr hc (ha.fr h.k.fr) (fun W hW => ?_) (by omega) (by rw [show (9437184 + (i : Int)) - 9437184 = (i : Int) by omega]; exact u64_nat i (by omega)) hil (fun W hW => ?_) (fun W hW => ?_)).mono ?_
  · have := (h.k.to hW).len
    rwa [hS] at this
  · exact ((h.k.to hW).text a1 x.key (key, 0) l1 l2 hx hk).mono fun e w' ⟨he, _, hf⟩ => ⟨he, hf⟩
  · exact ((h.k.to hW).lookup i key _ rfl).mono fun e w' ⟨he, _, hf⟩ => ⟨he, hf⟩
  · rintro e w' ⟨he, hf⟩
    exact ⟨he, h.to hf, hf⟩

theorem wcall_delete {w0 wr : World} {bw b mb p : Nat} {ds : List MapD} {RL : List Reg} {D : List Int} {S : List Tab} {m : List Reg} {A H T : Nat → Prop} {mv ov dv : Value} (h : WAt w0 bw b mb ds p RL D S m A H T mv ov dv wr) (ha : ArgsAt w0) (hS : S.length = ds.length) (h4 : ds.length ≤ 4) {i : Nat} {x : MapD} (hi : ds[i]? = some x) (a1 a2 a3 a4 : Int)
    (l1 : 0 ≤ a1) (l2 : a1 ≤ 18446744073709551615) (hx : x.key ≤ 9223372036854775807) (key : List UInt8) (hk : mtext m a1 x.key = (key, 0)) (ru : Int) (hr : IntKind.u64.wrap (mdelete S i key).2 = ru) :
    Calls Tryd.prog 11 #[.pointer (some ⟨bw, 0, none⟩), .int .i64 3, five (9437184 + (i : Int)) a1 a2 a3 a4] wr fun e w' => e = .returned (.tuple #[.int .u64 ru, .int .i64 0]) ∧ Hid (WAt w0 bw b mb ds p RL D (mdelete S i key).1 m A H T mv ov dv w' ∧ Fr H wr w') := by
  obtain ⟨gm, om, cm, hc⟩ := h.callW hi
  have hil : i < ds.length := (List.getElem?_eq_some_iff.1 hi).1
  refine (call_delete bw b mb ds.length gm om cm i x.key x.value (9437184 + (i : Int)) a1 a2 a3 a4 (mdelete S i key).2 ru ⟨key.toArray⟩ (fun W w' => KSt w0 b mb (mdelete S i key).1 m A H T w' ∧ Fr H W w') wr hc (ha.fr h.k.fr) (fun W hW => ?_) (by omega) (by rw [show (9437184 + (i : Int)) - 9437184 = (i : Int) by omega]; exact u64_nat i (by omega)) hil (fun W hW => ?_) hr (fun W hW => ?_)).mono ?_
  · have := (h.k.to hW).len
    rwa [hS] at this
  · exact ((h.k.to hW).text a1 x.key (key, 0) l1 l2 hx hk).mono fun e w' ⟨he, _, hf⟩ => ⟨he, hf⟩
  · exact ((h.k.to hW).deletes i key _ rfl).mono fun e w' ⟨he, hk, hf⟩ => ⟨he, hk.out, hf⟩
  · rintro e w' ⟨he, W, hW, h1, h2⟩
    exact ⟨he, (h.to hW).turn (h2.mono fun _ _ hq => .inl hq) h1, hW.any.trans h2⟩

theorem wcall_update {w0 wr : World} {bw b mb p : Nat} {ds : List MapD} {RL : List Reg} {D : List Int} {S : List Tab} {m : List Reg} {A H T : Nat → Prop} {mv ov dv : Value} (h : WAt w0 bw b mb ds p RL D S m A H T mv ov dv wr) (ha : ArgsAt w0) (hS : S.length = ds.length) (h4 : ds.length ≤ 4) {i : Nat} {x : MapD} (hi : ds[i]? = some x) (a1 a2 a4 : Int)
    (l1 : 0 ≤ a1) (l2 : a1 ≤ 18446744073709551615) (l3 : 0 ≤ a2) (l4 : a2 ≤ 18446744073709551615) (hx : x.key ≤ 9223372036854775807) (hy : x.value ≤ 9223372036854775807) (key val : List UInt8) (hk : mtext m a1 x.key = (key, 0)) (hv : mtext m a2 x.value = (val, 0)) (ru : Int) (hr : IntKind.u64.wrap (mupdate S m i key val).2 = ru) :
    Calls Tryd.prog 11 #[.pointer (some ⟨bw, 0, none⟩), .int .i64 2, five (9437184 + (i : Int)) a1 a2 0 a4] wr fun e w' => e = .returned (.tuple #[.int .u64 ru, .int .i64 0]) ∧ Hid (WAt w0 bw b mb ds p RL D (mupdate S m i key val).1.1 (mupdate S m i key val).1.2 A H T mv ov dv w' ∧ Fr (Or2 H T) wr w') := by
  obtain ⟨gm, om, cm, hc⟩ := h.callW hi
  have hil : i < ds.length := (List.getElem?_eq_some_iff.1 hi).1
  refine (call_update bw b mb ds.length gm om cm i x.key x.value (9437184 + (i : Int)) a1 a2 0 a4 (mupdate S m i key val).2 ru ⟨key.toArray⟩ ⟨val.toArray⟩ (fun W w' => KSt w0 b mb (mupdate S m i key val).1.1 (mupdate S m i key val).1.2 A H T w' ∧ Fr (Or2 H T) W w') wr hc (ha.fr h.k.fr) (fun W hW => ?_) (by omega) (by rw [show (9437184 + (i : Int)) - 9437184 = (i : Int) by omega]; exact u64_nat i (by omega)) hil (fun W hW => ?_) (fun W hW => ?_) (by decide) hr (fun W hW => ?_)).mono ?_
  · have := (h.k.to hW).len
    rwa [hS] at this
  · exact ((h.k.to hW).text a1 x.key (key, 0) l1 l2 hx hk).mono fun e w' ⟨he, _, hf⟩ => ⟨he, hf⟩
  · exact ((h.k.to hW).text a2 x.value (val, 0) l3 l4 hy hv).mono fun e w' ⟨he, _, hf⟩ => ⟨he, hf⟩
  · exact ((h.k.to hW).updates i key val _ rfl).mono fun e w' ⟨he, hk, hf⟩ => ⟨he, hk.out, hf⟩
  · rintro e w' ⟨he, W, hW, h1, h2⟩
    exact ⟨he, (h.to hW).turn h2 h1, hW.any.trans h2⟩

end Go.Proofs.YtlinnhaodkiolaaDoor

namespace Go.Proofs.YtlinnhaodkiolaaDoor
open Go.RowKit

theorem wcall_nomap {w0 wr : World} {bw b mb p : Nat} {ds : List MapD} {RL : List Reg} {D : List Int} {S : List Tab} {m : List Reg} {A H T : Nat → Prop} {mv ov dv : Value} (h : WAt w0 bw b mb ds p RL D S m A H T mv ov dv wr) (ha : ArgsAt w0) (h4 : S.length ≤ 4) (id a0 a1 a2 a3 a4 x : Int) (hw : (Lit.int .i64 id).wf = true) (hid : id = 1 ∨ id = 2 ∨ id = 3)
    (hx : IntKind.u64.wrap (a0 - 9437184) = x) (hge : (S.length : Int) ≤ x) :
    Calls Tryd.prog 11 #[.pointer (some ⟨bw, 0, none⟩), .int .i64 id, five a0 a1 a2 a3 a4] wr fun e w' => e = .returned (.tuple #[.int .u64 0, .int .i64 2]) ∧ Hid (WAt w0 bw b mb ds p RL D S m A H T mv ov dv w' ∧ Fr No wr w') :=
  (call_nomap bw b S.length id a0 a1 a2 a3 a4 x wr h.c0 h.c5 (ha.fr h.k.fr) hw hid (fun W hW => (h.k.to hW).len) (by omega) hx hge).mono fun e w' ⟨he, hf⟩ => ⟨he, h.to hf, hf⟩

theorem wcall_nokey {w0 wr : World} {bw b mb p : Nat} {ds : List MapD} {RL : List Reg} {D : List Int} {S : List Tab} {m : List Reg} {A H T : Nat → Prop} {mv ov dv : Value} (h : WAt w0 bw b mb ds p RL D S m A H T mv ov dv wr) (ha : ArgsAt w0) (hS : S.length = ds.length) (h4 : ds.length ≤ 4) {i : Nat} {x : MapD} (hi : ds[i]? = some x) (id a1 a2 a3 a4 : Int) (hw : (Lit.int .i64 id).wf = true) (hid : id = 1 ∨ id = 2 ∨ id = 3)
    (l1 : 0 ≤ a1) (l2 : a1 ≤ 18446744073709551615) (hx : x.key ≤ 9223372036854775807) (key : List UInt8) (err : Int) (hk : mtext m a1 x.key = (key, err)) (he0 : (err == 0) = false) :
    Calls Tryd.prog 11 #[.pointer (some ⟨bw, 0, none⟩), .int .i64 id, five (9437184 + (i : Int)) a1 a2 a3 a4] wr fun e w' => e = .returned (.tuple #[.int .u64 0, .int .i64 err]) ∧ Hid (WAt w0 bw b mb ds p RL D S m A H T mv ov dv w' ∧ Fr No wr w') := by
  obtain ⟨gm, om, cm, hc⟩ := h.callW hi
  have hil : i < ds.length := (List.getElem?_eq_some_iff.1 hi).1
  refine (call_nokey bw b mb ds.length gm om cm i x.key x.value (9437184 + (i : Int)) a1 a2 a3 a4 id err ⟨key.toArray⟩ wr hc (ha.fr h.k.fr) hw hid (fun W hW => ?_) (by omega) (by rw [show (9437184 + (i : Int)) - 9437184 = (i : Int) by omega]; exact u64_nat i (by omega)) hil (fun W hW => ?_) he0).mono ?_
  · have := (h.k.to hW).len
    rwa [hS] at this
  · exact ((h.k.to hW).text a1 x.key (key, err) l1 l2 hx hk).mono fun e w' ⟨he, _, hf⟩ => ⟨he, hf⟩
  · rintro e w' ⟨he, hf⟩
    exact ⟨he, h.to hf, hf⟩

theorem wcall_flag {w0 wr : World} {bw b mb p : Nat} {ds : List MapD} {RL : List Reg} {D : List Int} {S : List Tab} {m : List Reg} {A H T : Nat → Prop} {mv ov dv : Value} (h : WAt w0 bw b mb ds p RL D S m A H T mv ov dv wr) (ha : ArgsAt w0) (hS : S.length = ds.length) (h4 : ds.length ≤ 4) {i : Nat} {x : MapD} (hi : ds[i]? = some x) (a1 a2 a3 a4 : Int)
    (l1 : 0 ≤ a1) (l2 : a1 ≤ 18446744073709551615) (l3 : 0 ≤ a2) (l4 : a2 ≤ 18446744073709551615) (hx : x.key ≤ 9223372036854775807) (hy : x.value ≤ 9223372036854775807) (key val : List UInt8) (hk : mtext m a1 x.key = (key, 0)) (hv : mtext m a2 x.value = (val, 0)) (hfl : (a3 == 0) = false) :
    Calls Tryd.prog 11 #[.pointer (some ⟨bw, 0, none⟩), .int .i64 2, five (9437184 + (i : Int)) a1 a2 a3 a4] wr fun e w' => e = .returned (.tuple #[.int .u64 18446744073709551594, .int .i64 0]) ∧ Hid (WAt w0 bw b mb ds p RL D S m A H T mv ov dv w' ∧ Fr No wr w') := by
  obtain ⟨gm, om, cm, hc⟩ := h.callW hi
  have hil : i < ds.length := (List.getElem?_eq_some_iff.1 hi).1
  refine (call_flag bw b mb ds.length gm om cm i x.key x.value (9437184 + (i : Int)) a1 a2 a3 a4 ⟨key.toArray⟩ ⟨val.toArray⟩ wr hc (ha.fr h.k.fr) (fun W hW => ?_) (by omega) (by rw [show (9437184 + (i : Int)) - 9437184 = (i : Int) by omega]; exact u64_nat i (by omega)) hil (fun W hW => ?_) (fun W hW => ?_) hfl).mono ?_
  · have := (h.k.to hW).len
    rwa [hS] at this
  · exact ((h.k.to hW).text a1 x.key (key, 0) l1 l2 hx hk).mono fun e w' ⟨he, _, hf⟩ => ⟨he, hf⟩
  · exact ((h.k.to hW).text a2 x.value (val, 0) l3 l4 hy hv).mono fun e w' ⟨he, _, hf⟩ => ⟨he, hf⟩
  · rintro e w' ⟨he, hf⟩
    exact ⟨he, h.to hf, hf⟩

end Go.Proofs.YtlinnhaodkiolaaDoor

namespace Go.Proofs.YtlinnhaodkiolaaDoor
open Go.RowKit

theorem WF.app {a b : List Reg} (ha : WF a) (hb : WF b) (c : Int) (h1 : ∀ x ∈ a, x.base + x.len ≤ c) (h2 : ∀ y ∈ b, c ≤ y.base) (hl : (a ++ b).length ≤ 4611686018427387904) : WF (a ++ b) :=
  ⟨fun r hr => (List.mem_append.1 hr).elim (ha.ok r) (hb.ok r), List.pairwise_append.2 ⟨ha.apart, hb.apart, fun x hx y hy => by have := h1 x hx; have := h2 y hy; omega⟩, hl⟩

theorem WF.one {r : Reg} (h : r.ok) : WF [r] :=
  ⟨fun x hx => by rw [List.mem_singleton.1 hx]; exact h, List.pairwise_singleton _ _, by simp⟩

theorem WF.cons {r : Reg} {m : List Reg} (hr : r.ok) (hm : WF m) (h : ∀ y ∈ m, r.base + r.len ≤ y.base) (hl : m.length + 1 ≤ 4611686018427387904) : WF (r :: m) :=
  ⟨fun x hx => by rcases List.mem_cons.1 hx with rfl | hx; exact hr; exact hm.ok x hx, List.pairwise_cons.2 ⟨h, hm.apart⟩, hl⟩

/-- the regions of a world's memory, in order -/
def memL (p : Nat) (mark : Int) (Pl : List UInt8) (ds : List MapD) (more : List Reg) : List Reg := presL (ownR0 p) (ownR1 mark) ownR2 (ownR3 Pl) ++ (natR :: (more ++ mregs ds))

theorem memL_perm (p : Nat) (mark : Int) (Pl : List UInt8) (ds : List MapD) (more : List Reg) : (memL p mark Pl ds more).Perm (ownL p mark Pl ds ++ natR :: more) := by
  unfold memL ownL
  rw [List.append_assoc]
  exact List.Perm.append_left _ (List.perm_append_comm (l₁ := natR :: more) (l₂ := mregs ds))

theorem ok_of {r : Reg} (n : Nat) (hn : r.data.length = n) (h0 : 0 < n) (h1 : 0 ≤ r.base) (h2 : r.base + (n : Int) ≤ 18446744073709551615) (h3 : n ≤ 9223372036854775807) : r.ok :=
  ⟨h1, by omega, by unfold Reg.len; rw [hn]; exact h2, by omega⟩
theorem ld0 (p : Nat) : (ownR0 p).data.length = 16 := by
  show (leBytes 8 196608 ++ leBytes 8 (196608 + p)).length = 16
  rw [List.length_append, leBytes_length, leBytes_length]
theorem ld1 (mark : Int) : (ownR1 mark).data.length = 8 := leBytes_length _ _
theorem ld2 : ownR2.data.length = 512 := List.length_replicate
theorem ldn : natR.data.length = 128 := List.length_replicate
theorem ok0 (p : Nat) : (ownR0 p).ok := ok_of 16 (ld0 p) (by omega) (show (0 : Int) ≤ 65536 by omega) (show (65536 : Int) + 16 ≤ _ by omega) (by omega)
theorem ok1 (mark : Int) : (ownR1 mark).ok := ok_of 8 (ld1 mark) (by omega) (show (0 : Int) ≤ 65552 by omega) (show (65552 : Int) + 8 ≤ _ by omega) (by omega)
theorem ok2 : ownR2.ok := ok_of 512 ld2 (by omega) (show (0 : Int) ≤ 131072 by omega) (show (131072 : Int) + 512 ≤ _ by omega) (by omega)
theorem ok3 (Pl : List UInt8) (h0 : Pl ≠ []) (h : Pl.length ≤ 200) : (ownR3 Pl).ok := ok_of Pl.length rfl (List.length_pos_iff.2 h0) (show (0 : Int) ≤ 196608 by omega) (show (196608 : Int) + _ ≤ _ by omega) (by omega)
theorem okn : natR.ok := ok_of 128 ldn (by omega) (show (0 : Int) ≤ 262144 by omega) (show (262144 : Int) + 128 ≤ _ by omega) (by omega)
theorem len0 (p : Nat) : (ownR0 p).len = 16 := by unfold Reg.len; rw [ld0]; rfl
theorem len1 (mark : Int) : (ownR1 mark).len = 8 := by unfold Reg.len; rw [ld1]; rfl
theorem len2 : ownR2.len = 512 := by unfold Reg.len; rw [ld2]; rfl
theorem lenn : natR.len = 128 := by unfold Reg.len; rw [ldn]; rfl

theorem pres_wf (p : Nat) (mark : Int) (Pl : List UInt8) (h : Pl.length ≤ 200) : WF (presL (ownR0 p) (ownR1 mark) ownR2 (ownR3 Pl)) ∧ ∀ x ∈ presL (ownR0 p) (ownR1 mark) ownR2 (ownR3 Pl), x.base + x.len ≤ 262144 := by
  have l0 := len0 p
  have l1 := len1 mark
  have l2 := len2
  have l3 : (ownR3 Pl).len = Pl.length := rfl
  have b0 : (ownR0 p).base = 65536 := rfl
  have b1 : (ownR1 mark).base = 65552 := rfl
  have b2 : ownR2.base = 131072 := rfl
  have b3 : (ownR3 Pl).base = 196608 := rfl
  have o0 := ok0 p
  have o1 := ok1 mark
  have o3 := fun h0 => ok3 Pl h0 h
  generalize ownR0 p = r0 at *
  generalize ownR1 mark = r1 at *
  unfold presL
  split
  · refine ⟨WF.cons o0 (WF.cons o1 (WF.one ok2) ?_ (by decide)) ?_ (by simp), ?_⟩
    · intro y hy; rw [List.mem_singleton.1 hy]; omega
    · intro y hy
      simp only [List.mem_cons, List.not_mem_nil, or_false] at hy
      rcases hy with rfl | rfl <;> omega
    · intro y hy
      simp only [List.mem_cons, List.not_mem_nil, or_false] at hy
      rcases hy with rfl | rfl | rfl <;> omega
  · rename_i h0
    refine ⟨WF.cons o0 (WF.cons o1 (WF.cons ok2 (WF.one (o3 h0)) ?_ (by simp)) ?_ (by simp)) ?_ (by simp), ?_⟩
    · intro y hy; rw [List.mem_singleton.1 hy]; omega
    · intro y hy
      simp only [List.mem_cons, List.not_mem_nil, or_false] at hy
      rcases hy with rfl | rfl <;> omega
    · intro y hy
      simp only [List.mem_cons, List.not_mem_nil, or_false] at hy
      rcases hy with rfl | rfl | rfl <;> omega
    · intro y hy
      simp only [List.mem_cons, List.not_mem_nil, or_false] at hy
      rcases hy with rfl | rfl | rfl | rfl <;> omega

/-- regions that may be handed in beside a world's own: between the native stack and the maps -/
structure MoreOk (more : List Reg) : Prop where
  wf : WF more
  lo : ∀ r ∈ more, 262272 ≤ r.base
  hi : ∀ r ∈ more, r.base + r.len ≤ 1048576
  few : more.length ≤ 3

theorem mregs_lo (ds : List MapD) : ∀ r ∈ mregs ds, 1048576 ≤ r.base := by
  intro r hr
  obtain ⟨i, hi, rfl⟩ := List.getElem_of_mem hr
  have hl : i < ds.length := by rw [mregs_length] at hi; exact hi
  have hg := mregs_get ds i
  rw [List.getElem?_eq_getElem hi, List.getElem?_eq_getElem hl] at hg
  rw [Option.some.inj hg]
  show 1048576 ≤ mbase i
  unfold mbase
  omega

theorem memL_wf (p : Nat) (mark : Int) (Pl : List UInt8) (ds : List MapD) (more : List Reg) (h : Pl.length ≤ 200) (hds : mayL ds = true) (hm : MoreOk more) : WF (memL p mark Pl ds more) := by
  obtain ⟨hp, hb⟩ := pres_wf p mark Pl h
  have h4 := ((mayL_iff ds).1 hds).1
  have ln := lenn
  have bn : natR.base = 262144 := rfl
  have hlen := (presL_len (ownR0 p) (ownR1 mark) ownR2 (ownR3 Pl)).2
  have hf := hm.few
  have hml := mregs_length ds
  refine WF.app hp (WF.cons okn (WF.app hm.wf (mregs_wf hds) 1048576 hm.hi (mregs_lo ds) ?_) ?_ ?_) 262144 hb ?_ ?_
  · rw [List.length_append]; omega
  · intro y hy
    rcases List.mem_append.1 hy with hy | hy
    · have := hm.lo y hy; omega
    · have := mregs_lo ds y hy; omega
  · rw [List.length_append]; omega
  · intro y hy
    rcases List.mem_cons.1 hy with rfl | hy
    · omega
    rcases List.mem_append.1 hy with hy | hy
    · have := hm.lo y hy; omega
    · have := mregs_lo ds y hy; omega
  · rw [List.length_append, List.length_cons, List.length_append]; omega

theorem memL_ok (p : Nat) (mark : Int) (Pl : List UInt8) (ds : List MapD) (more : List Reg) (h : Pl.length ≤ 200) (hds : mayL ds = true) (hm : MoreOk more) : MemOk (memL p mark Pl ds more) := by
  obtain ⟨hp, hb⟩ := pres_wf p mark Pl h
  have h4 := ((mayL_iff ds).1 hds).1
  have hlen := (presL_len (ownR0 p) (ownR1 mark) ownR2 (ownR3 Pl)).2
  have hf := hm.few
  have hml := mregs_length ds
  refine ⟨?_, ?_⟩
  · unfold memL; rw [List.length_append, List.length_cons, List.length_append]; omega
  · intro r hr
    unfold memL at hr
    rcases List.mem_append.1 hr with hr | hr
    · have h1 := hb r hr
      have h2 := (hp.ok r hr).low
      unfold Reg.len at h1
      omega
    rcases List.mem_cons.1 hr with rfl | hr
    · simp [natR]
    rcases List.mem_append.1 hr with hr | hr
    · have h1 := hm.hi r hr
      have h2 := hm.lo r hr
      unfold Reg.len at h1
      omega
    · exact (mregs_ok hds).2 r hr

theorem memL_holds (p : Nat) (mark : Int) (Pl : List UInt8) (ds : List MapD) (more : List Reg) (hds : mayL ds = true) : holdsB (mregsOf ds) (memL p mark Pl ds more) = true := by
  have h := holds_self hds
  unfold holdsB at h ⊢
  rw [List.all_eq_true] at h ⊢
  intro x hx
  have := h x hx
  rw [List.any_eq_true] at this ⊢
  obtain ⟨y, hy, hf⟩ := this
  exact ⟨y, by unfold memL; exact List.mem_append_right _ (List.mem_cons_of_mem _ (List.mem_append_right _ hy)), hf⟩

theorem ok_typed {r : Reg} (h : r.ok) : r.typed := ⟨h.low, by have := h.high; unfold Reg.len at this; omega, h.small⟩

theorem hnew_made (Pl : List UInt8) (P : ByteArray) (p : Nat) (mark : Int) (mv dv mo : Value) (ds : List MapD) (w : World) (hPl : P = ⟨Pl.toArray⟩) (hp : Pl.length = p) (hds : MapsIn w mv ds) (hml : mayL ds = true) (more : List Reg) (no co : Nat) (ao : Option Addr) (hmore : SrcAt w mo no (aflat more)) (hmo : mo = .slice ao no co) (hno : more.length = no) (hok : MoreOk more)
    (D : List Int) (hD : U64sIn w dv D) (hd : D.length ≤ 100) (h256 : p ≤ 200) (hmark : 0 ≤ mark ∧ mark < 18446744073709551616) :
    Calls Tryd.prog 6 #[.agg #[mv, .int .i64 p], .agg #[.string P, .int .u64 mark, .slice none 0 0, dv], mo] w (HNewQ w ds p mark Pl D (memL p mark Pl ds more)) := by
  obtain ⟨am, cm, hm⟩ := hds.form
  obtain ⟨ad, cd, hdv⟩ := hD.form
  have hps : P.size = p := by rw [hPl]; show Pl.toArray.size = p; rw [List.size_toArray]; exact hp
  have hwf := memL_wf p mark Pl ds more (by omega) hml hok
  have h4 := ((mayL_iff ds).1 hml).1
  have hf := hok.few
  exact hnew_walk Pl P p mark mv mo dv am ad ao _ cm _ cd no co ds w hPl hps (hm ▸ hds) rfl hml more (hmo ▸ hmore) hno _ (memL_perm p mark Pl ds more) hwf (by omega)
    (fun r hr => ok_typed (hwf.ok r ((memL_perm p mark Pl ds more).mem_iff.2 hr))) (memL_holds p mark Pl ds more hml) (memL_ok p mark Pl ds more (by omega) hml hok) D (hdv ▸ hD) rfl h256 hd hm hdv hmo hmark
end Go.Proofs.YtlinnhaodkiolaaDoor

namespace Go.Proofs.YtlinnhaodkiolaaDoor
open Go.RowKit

def cD : List MapD := [⟨1, 4, 1, 2⟩]
def cM : List Reg := memL 2 0 [112, 113] cD []
def cS : List Tab := cD.map Tab.new
theorem c_may : mayL cD = true := by decide +kernel
theorem c_read : mread cM 65544 8 = (196610, 0) := by decide +kernel
theorem c_text : mtext cM 131072 4 = ([0, 0, 0, 0], 0) := by decide +kernel
theorem c_text5 : mtext cM 5 4 = ([], 70) := by decide +kernel
theorem c_look : mlookup cS 0 [0, 0, 0, 0] = 1048576 := by decide +kernel
theorem c_own : ((ownL 2 0 [112, 113] cD).any (ownB 196608 2) = true ∧ (ownL 2 0 [112, 113] cD).any (ownB 196608 3) = false) ∧ (ownL 2 0 [112, 113] cD).any (ownB 262144 1) = false := by decide +kernel

theorem more_nil : MoreOk [] := ⟨⟨fun _ h => absurd h (by simp), .nil, by decide⟩, fun _ h => absurd h (by simp), fun _ h => absurd h (by simp), by decide⟩

set_option maxRecDepth 100000 in
set_option maxHeartbeats 4000000 in
theorem called_any (w : World) (ha : ArgsAt w) : Calls Tryd.prog 10 #[] w fun e w' => e = .returned (.bool true) ∧ Fr No w w' := by
  have HA := Lib.hid ha
  clear ha
  go_enter Tryd.func10, Tryd.ntmps10
  go_wp2_with fail
  obtain ⟨W1, hW1⟩ : ∃ W1, W1 = ((w.alloc (.cells #[.int .i64 1, .int .i64 4, .int .i64 1, .int .i64 2] 24)).alloc (.cells #[.slice (some ⟨w.heap.size, 0, none⟩) 1 1, .int .i64 2] 27)) := ⟨_, rfl⟩
  have z1 : W1.heap.size = w.heap.size + 1 + 1 := by rw [hW1]; simp only [World.alloc, Array.size_push]
  have f1 : Fr No w W1 := by rw [hW1]; exact ((Fr.refl _ _).alloc _).alloc _
  have m1 : CellsAt W1 w.heap.size 0 (mflat cD) := by rw [hW1]; exact ((Fr.refl No _).alloc _).cells (CellsAt.new w [.int .i64 1, .int .i64 4, .int .i64 1, .int .i64 2] _) id
  rw [← hW1]
  obtain ⟨W2, hW2⟩ : ∃ W2, W2 = W1.alloc (.cells #[.int .u64 5, .int .u64 6] 28) := ⟨_, rfl⟩
  have f2 : Fr No W1 W2 := by rw [hW2]; exact (Fr.refl _ _).alloc _
  have d2 : CellsAt W2 (w.heap.size + 1 + 1) 0 [.int .u64 5, .int .u64 6] := by rw [hW2, ← z1]; exact CellsAt.new W1 [.int .u64 5, .int .u64 6] _
  rw [← hW2]
  have HF := Lib.hid (f1.trans f2)
  have HA2 := Lib.hid (HA.out.fr HF.out)
  refine (hnew_made [112, 113] ⟨#[112, 113]⟩ 2 0 _ _ _ cD W2 rfl rfl (.inr ⟨_, 0, 1, rfl, f2.cells m1 id⟩) c_may [] 0 0 none (.inl ⟨rfl, rfl, rfl⟩) rfl rfl more_nil [5, 6] (.inr ⟨_, 0, 2, rfl, Nat.le_refl _, d2⟩) (by decide) (by decide) (by decide)).mono ?_
  rintro e w1 ⟨bw, b, mb, A, H, T, mv, ov, dv, rfl, HW1, _⟩
  clear hW1 hW2 z1 f1 m1 f2 d2 HA
  go_wp2_with fail
  refine (hmemory_any bw mb w1 HW1.out.c0 HW1.out.c4).mono ?_
  rintro e w2 ⟨rfl, rfl⟩
  go_wp2_with fail
  refine (read_any HW1.out.k.mem 65544 8 (by decide) (by decide)).mono ?_
  rintro e w2 ⟨he, hf⟩
  obtain rfl : e = .returned (.tuple #[.int .u64 196610, .int .i64 0]) := by rw [he]; exact congrArg (fun x : Nat × Int => Ending.returned (.tuple #[.int .u64 x.1, .int .i64 x.2])) c_read
  have HW2 := Lib.hid (HW1.out.to hf)
  clear he hf HW1
  go_wp2_with fail
  refine (wcall_draw HW2.out HA2.out 0 0 0 0 0).mono ?_
  rintro e w3 ⟨rfl, h⟩
  obtain ⟨⟨dv3, h3⟩, _⟩ := h.out
  have HW3 := Lib.hid h3
  clear h h3 HW2
  go_wp2_with fail
  refine (wcall_draw HW3.out HA2.out 0 0 0 0 0).mono ?_
  rintro e w4 ⟨rfl, h⟩
  obtain ⟨⟨dv4, h4⟩, _⟩ := h.out
  have HW4 := Lib.hid h4
  clear h h4 HW3
  go_wp2_with fail
  refine (wcall_draw HW4.out HA2.out 0 0 0 0 0).mono ?_
  rintro e w5 ⟨rfl, h⟩
  obtain ⟨⟨dv5, h5⟩, _⟩ := h.out
  have HW5 := Lib.hid h5
  clear h h5 HW4
  go_wp2_with fail
  refine (wcall_not HW5.out HA2.out 4 0 0 0 0 0 (by decide) (by decide)).mono ?_
  rintro e w6 ⟨rfl, h⟩
  have HW6 := Lib.hid h.out.1
  clear h HW5
  go_wp2_with fail
  refine (wcall_lookup HW6.out HA2.out rfl (by decide) (i := 0) rfl 131072 0 0 0 (by decide) (by decide) (by decide) [0, 0, 0, 0] c_text).mono ?_
  rintro e w7 ⟨he, h⟩
  obtain rfl : e = .returned (.tuple #[.int .u64 1048576, .int .i64 0]) := by rw [he]; exact congrArg (fun x => Ending.returned (.tuple #[.int .u64 x, .int .i64 0])) c_look
  have HW7 := Lib.hid h.out.1
  clear h he HW6
  go_wp2_with fail
  refine (wcall_nomap HW7.out HA2.out (by decide) 1 9437185 131072 0 0 0 1 (by decide) (.inl rfl) (by decide) (by decide)).mono ?_
  rintro e w8 ⟨rfl, h⟩
  have HW8 := Lib.hid h.out.1
  clear h HW7
  go_wp2_with fail
  refine (wcall_nokey HW8.out HA2.out rfl (by decide) (i := 0) rfl 1 5 0 0 0 (by decide) (.inl rfl) (by decide) (by decide) (by decide) [] 70 c_text5 (by decide)).mono ?_
  rintro e w9 ⟨rfl, h⟩
  have HW9 := Lib.hid h.out.1
  clear h HW8
  go_wp2_with fail
  refine (howns_any HW9.out (by decide) 196608 2 (by decide) (by decide)).mono ?_
  rintro e w10 ⟨he, hf⟩
  obtain rfl : e = .returned (.bool true) := by rw [he, c_own.1.1]; rfl
  have HW10 := Lib.hid (HW9.out.to hf)
  clear he hf HW9
  go_wp2_with fail
  refine (howns_any HW10.out (by decide) 196608 3 (by decide) (by decide)).mono ?_
  rintro e w11 ⟨he, hf⟩
  obtain rfl : e = .returned (.bool false) := by rw [he, c_own.1.2]; rfl
  have HW11 := Lib.hid (HW10.out.to hf)
  clear he hf HW10
  go_wp2_with fail
  refine (howns_any HW11.out (by decide) 262144 1 (by decide) (by decide)).mono ?_
  rintro e w12 ⟨he, hf⟩
  obtain rfl : e = .returned (.bool false) := by rw [he, c_own.2]; rfl
  have HW12 := Lib.hid (HW11.out.to hf)
  clear he hf HW11
  go_wp2_with fail
  go_ret
  exact ⟨rfl, HF.out.trans HW12.out.k.fr⟩
end Go.Proofs.YtlinnhaodkiolaaDoor

namespace Go.Proofs.YtlinnhaodkiolaaDoor
open Go.RowKit

def lD : List MapD := [⟨1, 4, 8, 2⟩, ⟨2, 2, 4, 3⟩]
/-- the packet -/
def lP (k0 k1 v0 v1 v2 v3 : UInt8) : List UInt8 := [97, 98, 99, k0, k1, v0, v1, v2, v3, 122]
def lM (k0 k1 v0 v1 v2 v3 : UInt8) : List Reg := memL 10 7 (lP k0 k1 v0 v1 v2 v3) lD []
def lS : List Tab := lD.map Tab.new
theorem l_may : mayL lD = true := by decide +kernel

theorem l_form (k0 k1 v0 v1 v2 v3 : UInt8) : lM k0 k1 v0 v1 v2 v3 = [ownR0 10, ownR1 7, ownR2, ownR3 (lP k0 k1 v0 v1 v2 v3), natR, ⟨1048576, List.replicate 16 0, true⟩, ⟨1114112, List.replicate 12 0, true⟩] := rfl

/-- behind the update -/
def lM1 (k0 k1 v0 v1 v2 v3 : UInt8) : List Reg := [ownR0 10, ownR1 7, ownR2, ownR3 (lP k0 k1 v0 v1 v2 v3), natR, ⟨1048576, List.replicate 16 0, true⟩, ⟨1114112, [v0, v1, v2, v3, 0, 0, 0, 0, 0, 0, 0, 0], true⟩]
def lS1 (k0 k1 : UInt8) : List Tab := [⟨⟨1, 4, 8, 2⟩, arrKeys 2⟩, ⟨⟨2, 2, 4, 3⟩, [[k0, k1], [], []]⟩]

theorem l_key (k0 k1 v0 v1 v2 v3 : UInt8) : mtext (lM k0 k1 v0 v1 v2 v3) 196611 2 = ([k0, k1], 0) := by kernel_rfl
theorem l_val (k0 k1 v0 v1 v2 v3 : UInt8) : mtext (lM k0 k1 v0 v1 v2 v3) 196613 4 = ([v0, v1, v2, v3], 0) := by kernel_rfl
theorem l_key1 (k0 k1 v0 v1 v2 v3 : UInt8) : mtext (lM1 k0 k1 v0 v1 v2 v3) 196611 2 = ([k0, k1], 0) := by kernel_rfl
theorem l_upd (k0 k1 v0 v1 v2 v3 : UInt8) : mupdate lS (lM k0 k1 v0 v1 v2 v3) 1 [k0, k1] [v0, v1, v2, v3] = ((lS1 k0 k1, lM1 k0 k1 v0 v1 v2 v3), 0) := by kernel_rfl
theorem l_text (k0 k1 v0 v1 v2 v3 : UInt8) : mtext (lM1 k0 k1 v0 v1 v2 v3) 1114112 4 = ([v0, v1, v2, v3], 0) := by kernel_rfl
theorem l_find (k0 k1 : UInt8) : (⟨⟨2, 2, 4, 3⟩, [[k0, k1], [], []]⟩ : Tab).find [k0, k1] = some 0 := by simp [Tab.find, List.findIdx?_cons]
theorem l_look (k0 k1 : UInt8) : mlookup (lS1 k0 k1) 1 [k0, k1] = 1114112 := by
  have : mhas (lS1 k0 k1) 1 [k0, k1] = some ⟨⟨2, 2, 4, 3⟩, [[k0, k1], [], []]⟩ := by rfl
  unfold mlookup
  rw [this]
  simp only [l_find]
  rfl
theorem l_del (k0 k1 : UInt8) : mdelete (lS1 k0 k1) 1 [k0, k1] = (lS, 0) := by
  have : mhas (lS1 k0 k1) 1 [k0, k1] = some ⟨⟨2, 2, 4, 3⟩, [[k0, k1], [], []]⟩ := by rfl
  unfold mdelete
  rw [this]
  simp only [l_find]
  rfl
theorem l_none (k0 k1 : UInt8) : mlookup lS 1 [k0, k1] = 0 := by rfl

/-- what is told at each place -/
theorem l_at (k0 k1 v0 v1 v2 v3 : UInt8) (i : Nat) (hi : i < 7) : ∃ x y : Reg, (lM1 k0 k1 v0 v1 v2 v3)[i]? = some x ∧ (lM k0 k1 v0 v1 v2 v3)[i]? = some y ∧ (x = y ∨ x.base = 1114112) := by
  match i, hi with
  | 0, _ => exact ⟨_, _, rfl, rfl, .inl rfl⟩
  | 1, _ => exact ⟨_, _, rfl, rfl, .inl rfl⟩
  | 2, _ => exact ⟨_, _, rfl, rfl, .inl rfl⟩
  | 3, _ => exact ⟨_, _, rfl, rfl, .inl rfl⟩
  | 4, _ => exact ⟨_, _, rfl, rfl, .inl rfl⟩
  | 5, _ => exact ⟨_, _, rfl, rfl, .inl rfl⟩
  | 6, _ => exact ⟨_, _, rfl, rfl, .inr rfl⟩
theorem l_len (k0 k1 v0 v1 v2 v3 : UInt8) : (lM1 k0 k1 v0 v1 v2 v3).length = 7 ∧ (lM k0 k1 v0 v1 v2 v3).length = 7 := ⟨rfl, rfl⟩
end Go.Proofs.YtlinnhaodkiolaaDoor

namespace Go.Proofs.YtlinnhaodkiolaaDoor
open Go.RowKit

theorem bytes_inj (a b : List UInt8) : ((⟨a.toArray⟩ : ByteArray) = ⟨b.toArray⟩) ↔ a = b := by
  constructor
  · intro h
    have := congrArg (fun x : ByteArray => x.data.toList) h
    simpa using this
  · rintro rfl; rfl

theorem neq_areg (b1 b2 : Int) (s1 s2 : ByteArray) (f1 f2 : Bool) (w : World) : (binOp .neq 30 (.agg #[.int .u64 b1, .string s1, .bool f1]) (.agg #[.int .u64 b2, .string s2, .bool f2])).run Tryd.prog w = .ok (.bool (!(b1 == b2 && (s1.toList == s2.toList && f1 == f2)))) w := by
  have u5 := Tryd.underlying28
  have a5 := Tryd.isAgg28
  have z5 := Tryd.sizeOf28
  have u9 := Tryd.underlying9
  have a9 := Tryd.isAgg9
  have z9 := Tryd.sizeOf9
  have u4 := Tryd.underlying4
  have a4 := Tryd.isAgg4
  have z4 := Tryd.sizeOf4
  have hS : Tryd.prog.underlying 30 = some (.struct (Tryd.prog.fieldsOf 30)) := by kernel_rfl
  have hp : Tryd.prog.stoodInHeld 30 = false := by kernel_rfl
  rw [run_neq_struct, show (10000 : Nat) = 9999 + 1 from rfl, run_equalIn_agg w 9999 _ _ _ hS hp]
  simp only [Program.fieldsOf, Tryd.underlying30]
  go_simp
  by_cases h1 : b1 = b2 <;> by_cases h2 : s1.toList = s2.toList <;> by_cases h3 : f1 = f2 <;> simp [h1, h2, h3]

theorem guard_areg (xs ys : Array Value) (op : BinOp) (x y : Operand) (w : World) : (eqGuard op 30 x y (.agg xs) (.agg ys)).run Tryd.prog w = .ok () w := run_eqGuard_agg w op _ x y xs ys (by kernel_rfl)

set_option maxRecDepth 100000 in
set_option maxHeartbeats 1000000 in
theorem same_walk (g1 o1 c1 g2 o2 c2 n : Nat) (l1 l2 : List Reg) (w : World) (h1 : l1.length = n) (h2 : l2.length = n) (hc1 : CellsAt w g1 o1 (aflat l1)) (hc2 : CellsAt w g2 o2 (aflat l2)) (hn : 1 ≤ n) (hm : n ≤ 4294967296) :
    Calls Tryd.prog 13 #[.slice (some ⟨g1, o1, none⟩) n c1, .slice (some ⟨g2, o2, none⟩) n c2] w fun e w' => (∃ r : Bool, e = .returned (.bool r) ∧ (r = true ↔ l1 = l2)) ∧ Fr No w w' := by
  have HC1 := Lib.hid hc1
  have HC2 := Lib.hid hc2
  have HL1 := Lib.hid h1
  have HL2 := Lib.hid h2
  have hb1 : g1 < w.heap.size := World.block_lt_of_cell? w _ (hc1 (0 * 3 + 0) _ (aflat_get l1 0 0 (by omega) (by omega)))
  have hb2 : g2 < w.heap.size := World.block_lt_of_cell? w _ (hc2 (0 * 3 + 0) _ (aflat_get l2 0 0 (by omega) (by omega)))
  clear hc1 hc2 h1 h2
  go_enter Tryd.func13, Tryd.ntmps13
  go_wp2_with fail
  go_loopw [5] (fun i wr => ∃ (k : Nat), k ≤ n ∧ i = .int .i64 k ∧ Hid (l1.take k = l2.take k) ∧ Hid (Fr No w wr)) (fun i _ => n - (intOf i).toNat)
  case atStart => exact ⟨0, Nat.zero_le _, rfl, Lib.hid (by simp), Fr.refl _ _⟩
  case round =>
    obtain ⟨k, hk, rfl, HI, HF⟩ := hrel
    by_cases hlt : k < n
    · obtain ⟨x, hx⟩ : ∃ x, l1[k]? = some x := ⟨l1[k]'(by rw [HL1.out]; exact hlt), List.getElem?_eq_getElem _⟩
      obtain ⟨y, hy⟩ : ∃ y, l2[k]? = some y := ⟨l2[k]'(by rw [HL2.out]; exact hlt), List.getElem?_eq_getElem _⟩
      have kx : wr.cell? ⟨g1, o1 + k * 3, none⟩ = some (.int .u64 x.base) ∧ wr.cell? ⟨g1, o1 + k * 3 + 1, none⟩ = some (.string ⟨x.data.toArray⟩) ∧ wr.cell? ⟨g1, o1 + k * 3 + 2, none⟩ = some (.bool x.free) := by
        have hkl : k < l1.length := by rw [HL1.out]; exact hlt
        have hxk : l1[k] = x := by rw [List.getElem?_eq_getElem hkl] at hx; exact Option.some.inj hx
        have hh := HF.out.cells HC1.out id
        have c0 := hh (k * 3 + 0) _ (aflat_get l1 k 0 hkl (by omega))
        have c1 := hh (k * 3 + 1) _ (aflat_get l1 k 1 hkl (by omega))
        have c2 := hh (k * 3 + 2) _ (aflat_get l1 k 2 hkl (by omega))
        rw [hxk] at c0 c1 c2
        exact ⟨c0, c1, c2⟩
      have ky : wr.cell? ⟨g2, o2 + k * 3, none⟩ = some (.int .u64 y.base) ∧ wr.cell? ⟨g2, o2 + k * 3 + 1, none⟩ = some (.string ⟨y.data.toArray⟩) ∧ wr.cell? ⟨g2, o2 + k * 3 + 2, none⟩ = some (.bool y.free) := by
        have hkl : k < l2.length := by rw [HL2.out]; exact hlt
        have hxk : l2[k] = y := by rw [List.getElem?_eq_getElem hkl] at hy; exact Option.some.inj hy
        have hh := HF.out.cells HC2.out id
        have c0 := hh (k * 3 + 0) _ (aflat_get l2 k 0 hkl (by omega))
        have c1 := hh (k * 3 + 1) _ (aflat_get l2 k 1 hkl (by omega))
        have c2 := hh (k * 3 + 2) _ (aflat_get l2 k 2 hkl (by omega))
        rw [hxk] at c0 c1 c2
        exact ⟨c0, c1, c2⟩
      obtain ⟨k0, k1, k2⟩ := kx
      obtain ⟨m0, m1, m2⟩ := ky
      obtain ⟨r, q1, hr⟩ : ∃ r : Bool, (∀ w, (binOp .neq 30 (.agg #[.int .u64 x.base, .string ⟨x.data.toArray⟩, .bool x.free]) (.agg #[.int .u64 y.base, .string ⟨y.data.toArray⟩, .bool y.free])).run Tryd.prog w = .ok (.bool r) w) ∧ (r = false ↔ x = y) := by
        refine ⟨_, neq_areg _ _ _ _ _ _, ?_⟩
        have := bytes_inj x.data y.data
        rw [Lib.toList_data, Lib.toList_data]
        cases x; cases y; simp
      have HS : Hid ((x = y → l1.take (k + 1) = l2.take (k + 1)) ∧ (x ≠ y → l1 ≠ l2)) := by
        refine ⟨fun e => ?_, fun e h => e ?_⟩
        · rw [List.take_add_one, List.take_add_one, HI.out, hx, hy, e]
        · rw [h, hy] at hx; exact (Option.some.inj hx).symm
      have HR := Lib.hid hr
      generalize (⟨x.data.toArray⟩ : ByteArray) = s1 at *
      generalize (⟨y.data.toArray⟩ : ByteArray) = s2 at *
      generalize hbx : x.base = b1 at *
      generalize hby : y.base = b2 at *
      generalize hfx : x.free = f1 at *
      generalize hfy : y.free = f2 at *
      have hz := HF.out.size
      have hb1' : g1 < wr.heap.size := by omega
      have hb2' : g2 < wr.heap.size := by omega
      clear hx hy hbx hby hfx hfy hr hz hb1 hb2
      have q2 := guard_areg
      go_wp2_with fail
      go_quiet (fail)
      cases r with
      | false =>
        go_wp2_with fail
        go_roundw
        case rel => exact ⟨k + 1, by omega, by go_num, Lib.hid (HS.out.1 (HR.out.1 rfl)), HF.out.drewN _⟩
        case measure => simp [intOf] <;> omega
      | true =>
        go_wp2_with fail
        go_ret
        exact ⟨⟨_, rfl, ⟨fun e => (Bool.noConfusion e), fun e => absurd e (HS.out.2 fun e2 => Bool.noConfusion (HR.out.2 e2))⟩⟩, HF.out.drewN _⟩
    · obtain rfl : k = n := by omega
      go_wp2_with fail
      go_ret
      exact ⟨⟨_, rfl, ⟨fun _ => by
        have := HI.out
        rwa [List.take_of_length_le (by rw [HL1.out]; exact Nat.le_refl _), List.take_of_length_le (by rw [HL2.out]; exact Nat.le_refl _)] at this, fun _ => rfl⟩⟩, HF.out⟩

set_option maxHeartbeats 400000 in
theorem same_unlike (a1 a2 : Option Addr) (c1 c2 n1 n2 : Nat) (w : World) (h : n1 ≠ n2) :
    Calls Tryd.prog 13 #[.slice a1 n1 c1, .slice a2 n2 c2] w fun e w' => e = .returned (.bool false) ∧ w = w' := by
  have h' : ((n1 : Int) == (n2 : Int)) = false := by rw [beq_eq_false_iff_ne]; omega
  go_enter Tryd.func13, Tryd.ntmps13
  go_wp2_with fail
  go_ret
  exact ⟨rfl, rfl⟩

set_option maxHeartbeats 400000 in
theorem same_zero (a1 a2 : Option Addr) (c1 c2 : Nat) (w : World) :
    Calls Tryd.prog 13 #[.slice a1 0 c1, .slice a2 0 c2] w fun e w' => e = .returned (.bool true) ∧ w = w' := by
  go_enter Tryd.func13, Tryd.ntmps13
  go_wp2_with fail
  refine wp_loop_rounds 1 ?_
  rw [rounds_succ]
  go_wp2_with fail
  go_ret
  exact ⟨rfl, rfl⟩

theorem same_any (v1 v2 : Value) (l1 l2 : List Reg) (w : World) (h1 : RegsAt w v1 l1) (h2 : RegsAt w v2 l2) (hm : l1.length ≤ 4294967296) :
    Calls Tryd.prog 13 #[v1, v2] w fun e w' => (∃ r : Bool, e = .returned (.bool r) ∧ (r = true ↔ l1 = l2)) ∧ Fr No w w' := by
  by_cases hl : l1.length = l2.length
  · rcases Nat.eq_zero_or_pos l1.length with h0 | h0
    · have e1 := List.eq_nil_of_length_eq_zero h0
      have e2 := List.eq_nil_of_length_eq_zero (hl ▸ h0)
      subst e1 e2
      obtain ⟨a1, c1, rfl⟩ : ∃ a c, v1 = .slice a 0 c := by
        rcases h1.2 with ⟨_, h⟩ | ⟨g, off, cap, rfl, _⟩
        · exact h
        · exact ⟨_, _, rfl⟩
      obtain ⟨a2, c2, rfl⟩ : ∃ a c, v2 = .slice a 0 c := by
        rcases h2.2 with ⟨_, h⟩ | ⟨g, off, cap, rfl, _⟩
        · exact h
        · exact ⟨_, _, rfl⟩
      exact (same_zero a1 a2 c1 c2 w).mono fun e w' ⟨he, hw⟩ => ⟨⟨true, he, by simp⟩, hw ▸ Fr.refl _ _⟩
    · rcases h1.2 with ⟨rfl, _⟩ | ⟨g1, o1, c1, rfl, hc1⟩
      · simp at h0
      rcases h2.2 with ⟨rfl, _⟩ | ⟨g2, o2, c2, rfl, hc2⟩
      · rw [hl] at h0; simp at h0
      rw [← hl]
      exact same_walk g1 o1 c1 g2 o2 c2 l1.length l1 l2 w rfl hl.symm hc1 hc2 h0 hm
  · have form : ∀ v l, RegsAt w v l → ∃ a c, v = .slice a l.length c := fun v l h => by
      rcases h.2 with ⟨rfl, a, c, rfl⟩ | ⟨g, off, cap, rfl, _⟩
      · exact ⟨a, c, rfl⟩
      · exact ⟨_, _, rfl⟩
    obtain ⟨a1, c1, rfl⟩ := form v1 l1 h1
    obtain ⟨a2, c2, rfl⟩ := form v2 l2 h2
    exact (same_unlike a1 a2 c1 c2 _ _ w hl).mono fun e w' ⟨he, hw⟩ => ⟨⟨false, he, by simp; intro e; exact hl (by rw [e])⟩, hw ▸ Fr.refl _ _⟩

end Go.Proofs.YtlinnhaodkiolaaDoor
