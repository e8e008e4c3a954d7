/- maps: Copy at any maps. -/
import Derived.Test.YtlinnhaodkiolaaMapZ
namespace Go.Proofs.Ytlinnhaodkiolaa
open Go.RowKit

set_option maxHeartbeats 1000000 in
theorem mcopy_zero (b mb2 : Nat) (a a' : Option Addr) (c c' : Nat) (w : World) (h0 : w.cell? ⟨b, 0, none⟩ = some (.bool true)) (h1 : w.cell? ⟨b, 1, none⟩ = some (.slice a 0 c)) (h2 : w.cell? ⟨b, 2, none⟩ = some (.slice a' 0 c'))
    (hhold : Calls Try.prog 34 #[.slice a 0 c, .pointer (some ⟨mb2, 0, none⟩)] w fun e w' => e = .returned (.int .i64 0) ∧ Fr No w w') :
    Calls Try.prog 20 #[.pointer (some ⟨b, 0, none⟩), .pointer (some ⟨mb2, 0, none⟩)] w fun e w' => ∃ b', e = .returned (.pointer (some ⟨b', 0, none⟩)) ∧ MadeMaps w b' mb2 [] (fun _ => False) w' ∧ Fr No w w' := by
  have H := Lib.hid hhold
  have HCS : Hid (∀ W, Fr No w W → W.cell? ⟨b, 1, none⟩ = some (.slice a 0 c) ∧ W.cell? ⟨b, 2, none⟩ = some (.slice a' 0 c')) := fun W hW => ⟨hW.cell h1 id, hW.cell h2 id⟩
  clear hhold
  go_enter Try.func20, Try.ntmps20
  go_wp2_with fail
  refine (H.out).mono ?_
  rintro e w1 ⟨rfl, hf⟩
  have HF := Lib.hid hf
  obtain ⟨d1, d2⟩ := HCS.out w1 hf
  have d2a : ∀ o : Obj, (w1.alloc o).cell? ⟨b, 2, none⟩ = some (.slice a' 0 c') := fun o => ((Fr.refl No w1).alloc o).cell d2 id
  clear hf h1 h2 H
  go_wp2_with fail
  refine wp_loop_rounds 1 ?_
  rw [rounds_succ]
  go_wp2_with fail
  go_ret
  refine ⟨w1.heap.size, rfl, ?_, HF.out.alloc _⟩
  have hsz := HF.out.size
  refine ⟨fun k => k = w1.heap.size, fun _ => False, ⟨[], rfl, ?_, ?_, ⟨.slice a 0 c, .slice none 0 0, ?_, ?_, .inl ⟨rfl, _, _, _, _, rfl, rfl⟩⟩, by simp, by simp, List.Pairwise.nil, rfl, by simp, fun _ _ => id⟩, fun k hk => .inl ⟨by omega, by simp; omega⟩, fun k hk => hk.elim⟩
  · rw [World.cell?_alloc_new]; rfl
  · rw [World.cell?_alloc_new]; rfl
  · rw [World.cell?_alloc_new]; rfl
  · rw [World.cell?_alloc_new]; rfl

theorem MadeMaps.wide {w w' : World} {b mb : Nat} {S : List Tab} {R R' : Nat → Prop} (h : MadeMaps w b mb S R w') (hr : ∀ k, R k → R' k) : MadeMaps w b mb S R' w' := by
  obtain ⟨A, H, a, c, d⟩ := h
  exact ⟨A, H, a, fun k hk => (c k hk).imp id (hr k), d⟩

/-- what Copy comes to -/
def CopyQ (w : World) (mb2 : Nat) (S : List Tab) (m2 : List Reg) (A : Nat → Prop) (e : Ending) (w' : World) : Prop :=
  if holdsB (mregsOf (S.map (·.d))) m2 = true then ∃ b', e = .returned (.pointer (some ⟨b', 0, none⟩)) ∧ MadeMaps w b' mb2 S A w' ∧ Fr No w w' else e = .returned (.pointer none) ∧ Fr No w w'

theorem mcopy_any {A H T : Nat → Prop} {w : World} {b mb mb2 : Nat} {S : List Tab} {m2 : List Reg} (h : MapsAt w b mb S A H) (hm : MemAt w mb2 m2 T) (hok : MemOk m2) :
    Calls Try.prog 20 #[.pointer (some ⟨b, 0, none⟩), .pointer (some ⟨mb2, 0, none⟩)] w (CopyQ w mb2 S m2 A) := by
  obtain ⟨l, rfl, h⟩ := h
  have hfew := h.few
  unfold CopyQ
  have hmapd : (l.map (·.t)).map (·.d) = l.map fun x => x.t.d := by rw [List.map_map]; rfl
  rw [hmapd]
  obtain ⟨lv, tv, c1, c2, hl⟩ := h.list
  have hin : MapsIn w lv (l.map fun x => x.t.d) := by
    rcases hl with ⟨rfl, a, c, _, _, rfl, _⟩ | ⟨gl, cl, gt, ct, rfl, rfl, g1, _⟩
    · exact .inl ⟨rfl, a, c, rfl⟩
    · exact .inr ⟨gl, 0, cl, by simp, g1⟩
  have hhold := hold_any hm hok lv _ hin (by simp; omega)
  cases hh : holdsB (mregsOf (l.map fun x => x.t.d)) m2 with
  | false =>
    rw [hh] at hhold
    refine (mcopy_hold b lv _ 2 w h.made c1 rfl hhold).mono fun e w' h => ?_
    simpa using h
  | true =>
    rw [hh] at hhold
    have hhold' : Calls Try.prog 34 #[lv, .pointer (some ⟨mb2, 0, none⟩)] w fun e w' => e = .returned (.int .i64 0) ∧ Fr No w w' := hhold
    simp only [if_true]
    rcases Nat.eq_zero_or_pos l.length with h0 | h0
    · obtain rfl := List.eq_nil_of_length_eq_zero h0
      have hz : ∃ a c a' c', lv = .slice a 0 c ∧ tv = .slice a' 0 c' := by
        rcases hl with ⟨_, a, c, a', c', e1, e2⟩ | ⟨gl, cl, gt, ct, e1, e2, _⟩
        · exact ⟨a, c, a', c', e1, e2⟩
        · exact ⟨_, _, _, _, e1, e2⟩
      obtain ⟨a, c, a', c', rfl, rfl⟩ := hz
      refine (mcopy_zero b mb2 a a' c c' w h.made c1 c2 hhold').mono ?_
      rintro e w' ⟨b', he, hmm, hf⟩
      exact ⟨b', he, hmm.wide (fun _ h => h.elim), hf⟩
    · rcases hl with ⟨e, _⟩ | ⟨gl, cl, gt, ct, rfl, rfl, g1, g2, g3, g4⟩
      · rw [e] at h0; simp at h0
      · have hb := h.ok
        have hgl : gl < w.heap.size := hin.lt (by simp; omega) rfl
        refine (mcopy_walk b mb2 l.length ct gt _ l w rfl hfew h0 h.made c1 c2 g2 hin h.ok (fun x hx h2 W hW => (h.here x hx h2).1.fr hW id (by have := (hb x hx).bounds; omega)) hhold').mono ?_
        rintro e w' ⟨b', he, hI⟩
        obtain ⟨tabs, v, hi⟩ := hI.out
        have hlen : l.length = (l.map fun x => x.t.d).length := by simp
        rw [hlen] at hi
        refine ⟨b', he, (hi.done (R := fun k => A k ∧ k < w.heap.size) hmapd (by simp; omega) (fun q hq => ?_) (fun k hk => hk.2) (fun a n c e => ?_)).wide (fun k hk => hk.1), hi.fr⟩
        · simp [Value.ownBlock] at hq
          subst hq
          exact .inr ⟨g3, hgl⟩
        · cases e; rfl

end Go.Proofs.Ytlinnhaodkiolaa
