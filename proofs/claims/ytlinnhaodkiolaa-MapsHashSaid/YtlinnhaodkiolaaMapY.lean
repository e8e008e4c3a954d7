/- maps: New at any maps; copies of tables. -/
import Derived.Test.YtlinnhaodkiolaaMapX
namespace Go.Proofs.Ytlinnhaodkiolaa
open Go.RowKit

set_option maxHeartbeats 1000000 in
theorem mnew_zero (a : Option Addr) (c mb : Nat) (w : World)
    (hmay : Calls Try.prog 33 #[.slice a 0 c] w fun e w' => e = .returned (.bool true) ∧ Fr No w w')
    (hhold : ∀ W, Fr No w W → Calls Try.prog 34 #[.slice a 0 c, .pointer (some ⟨mb, 0, none⟩)] W fun e w' => e = .returned (.int .i64 0) ∧ Fr No W w')
    (hcl : ∀ W, Fr No w W → Calls Try.prog 35 #[.slice a 0 c] W fun e w' => (∃ a' c', e = .returned (.slice a' 0 c') ∧ ∀ x, a' = some x → x = ⟨x.block, 0, none⟩) ∧ Fr No W w') :
    Calls Try.prog 19 #[.slice a 0 c, .pointer (some ⟨mb, 0, none⟩)] w (NewMade w mb []) := by
  have H := Lib.hid hmay
  have HH := Lib.hid hhold
  have HC := Lib.hid hcl
  clear hmay hhold hcl
  go_enter Try.func19, Try.ntmps19
  go_wp2_with fail
  refine (H.out).mono ?_
  rintro e w1 ⟨rfl, hf⟩
  have HF := Lib.hid hf
  clear hf
  go_wp2_with fail
  refine (HH.out w1 HF.out).mono ?_
  rintro e w2 ⟨rfl, hf2⟩
  have HF2 := Lib.hid (HF.out.trans hf2)
  clear hf2 HF H HH
  go_wp2_with fail
  refine (HC.out w2 HF2.out).mono ?_
  rintro e w3 ⟨⟨a', c', rfl, hd⟩, hf3⟩
  have HF3 := Lib.hid (HF2.out.trans hf3)
  have HD := Lib.hid hd
  clear hf3 HC HF2 hd
  go_wp2_with fail
  refine wp_loop_rounds 1 ?_
  rw [rounds_succ]
  go_wp2_with fail
  go_ret2
  refine ⟨w3.heap.size, rfl, ?_, HF3.out.trans ((Fr.refl _ _).alloc _)⟩
  have h0 := HF3.out.size
  refine ⟨fun k => k = w3.heap.size, fun _ => False, ⟨[], rfl, ?_, ?_, ⟨.slice a' 0 c', .slice none 0 0, ?_, ?_, .inl ⟨rfl, _, _, _, _, rfl, rfl⟩⟩, by simp, by simp, List.Pairwise.nil, rfl, by simp, fun _ _ => id⟩, fun k hk => .inl ⟨by omega, by simp; omega⟩, fun k hk => hk.elim⟩
  · rw [World.cell?_alloc_new]; rfl
  · rw [World.cell?_alloc_new]; rfl
  · rw [World.cell?_alloc_new]; rfl
  · rw [World.cell?_alloc_new]; rfl

/-- what New of maps comes to, over a memory that is there -/
def NewQ (w : World) (mb : Nat) (l : List MapD) (m : List Reg) (e : Ending) (w' : World) : Prop :=
  if mayL l = true ∧ holdsB (mregsOf l) m = true then NewMade w mb l e w' else e = .returned (.tuple #[.pointer none, .int .i64 2]) ∧ Fr No w w'

theorem mnew_any {T : Nat → Prop} {w : World} {mb : Nat} {m : List Reg} (hm : MemAt w mb m T) (hok : MemOk m) (v : Value) (l : List MapD) (h : MapsIn w v l) (hl : l.length ≤ 1000000) :
    Calls Try.prog 19 #[v, .pointer (some ⟨mb, 0, none⟩)] w (NewQ w mb l m) := by
  have hmay := may_any v l w h hl
  have hhold : ∀ W, Fr No w W → Calls Try.prog 34 #[v, .pointer (some ⟨mb, 0, none⟩)] W fun e w' => e = .returned (.int .i64 (errI (holdsB (mregsOf l) m))) ∧ Fr No W w' := fun W hW => hold_any (hm.fr hW (fun _ _ => id)) hok v l (h.fr hW) hl
  unfold NewQ
  cases hq : mayL l with
  | false =>
    rw [hq] at hmay
    refine (mnew_bad v _ w hmay).mono fun e w' h => ?_
    simpa using h
  | true =>
    rw [hq] at hmay
    cases hh : holdsB (mregsOf l) m with
    | false =>
      rw [hh] at hhold
      refine (mnew_hold v _ 2 w hmay hhold rfl).mono fun e w' h => ?_
      simpa using h
    | true =>
      rw [hh] at hhold
      have hhold' : ∀ W, Fr No w W → Calls Try.prog 34 #[v, .pointer (some ⟨mb, 0, none⟩)] W fun e w' => e = .returned (.int .i64 0) ∧ Fr No W w' := hhold
      obtain ⟨h4, hall⟩ := (mayL_iff l).1 hq
      simp only [and_self, if_true]
      rcases h with ⟨rfl, a, c, rfl⟩ | ⟨g, off, cap, rfl, hc⟩
      · refine mnew_zero a c mb w hmay hhold' (fun W _ => ?_)
        cases a with
        | none =>
          refine (clone_maps_nil 0 c W).mono ?_
          rintro e w' ⟨rfl, rfl⟩
          exact ⟨⟨_, _, rfl, fun x hx => by cases hx⟩, Fr.refl _ _⟩
        | some a =>
          refine (clone_maps_zero a c W).mono ?_
          rintro e w' ⟨rfl, hf⟩
          exact ⟨⟨_, _, rfl, fun x hx => by cases hx; rfl⟩, hf⟩
      · rcases Nat.eq_zero_or_pos l.length with h0 | h0
        · obtain rfl := List.eq_nil_of_length_eq_zero h0
          refine mnew_zero _ _ mb w hmay hhold' (fun W _ => (clone_maps_zero _ _ W).mono ?_)
          rintro e w' ⟨rfl, hf⟩
          exact ⟨⟨_, _, rfl, fun x hx => by cases hx; rfl⟩, hf⟩
        · exact mnew_walk g off l.length cap mb l w rfl h0 h4 hc hall hmay hhold'

theorem mnew_nomem (v mp : Value) (l : List MapD) (w : World) (h : MapsIn w v l) (hl : l.length ≤ 1000000) (hcopy : ∀ W, Fr No w W → Calls Try.prog 21 #[mp] W fun e w' => e = .returned (.pointer none) ∧ W = w') :
    Calls Try.prog 19 #[v, mp] w fun e w' => e = .returned (.tuple #[.pointer none, .int .i64 (if mayL l = true then 1 else 2)]) ∧ Fr No w w' := by
  have hmay := may_any v l w h hl
  cases hq : mayL l with
  | false => rw [hq] at hmay; exact mnew_bad v _ w hmay
  | true =>
    rw [hq] at hmay
    exact mnew_hold v mp 1 w hmay (fun W hW => (hold_none v mp W (hcopy W hW)).mono fun e w' ⟨he, hw⟩ => ⟨he, hw ▸ Fr.refl _ _⟩) rfl

theorem method_acopy (n : Int) (w : World) : (method 271 96 (.int .i64 n) "firewall/maps.copy").run Try.prog w = .ok (103, .int .i64 n) w := by kernel_rfl
theorem method_hcopy (a : Option Addr) (n c : Nat) (w : World) : (method 271 74 (.slice a n c) "firewall/maps.copy").run Try.prog w = .ok (99, .slice a n c) w := by kernel_rfl
theorem face_acopy (n : Int) : Face 96 (.int .i64 n) "firewall/maps.copy" 103 := ⟨method_acopy n, enters_of Try.func103 (by kernel_rfl) rfl⟩
theorem face_hcopy (a : Option Addr) (n c : Nat) : Face 74 (.slice a n c) "firewall/maps.copy" 99 := ⟨method_hcopy a n c, enters_of Try.func99 (by kernel_rfl) rfl⟩

set_option maxHeartbeats 400000 in
theorem acopy_any (n : Int) (w : World) : Calls Try.prog 103 #[.int .i64 n] w fun e w' => e = .returned (.iface 96 (.int .i64 n)) ∧ w = w' := by
  go_enter Try.func103, Try.ntmps103
  go_wp2_with fail
  go_ret
  exact ⟨rfl, rfl⟩

set_option maxHeartbeats 400000 in
theorem hcopy_walk (v : Value) (n : Nat) (vs : List Value) (w : World) (h : Calls Try.prog 102 #[v] w (ClonePost n vs w 1)) :
    Calls Try.prog 99 #[v] w fun e w' => ∃ g cap, e = .returned (.iface 74 (.slice (some ⟨g, 0, none⟩) n cap)) ∧ w.heap.size ≤ g ∧ g < w'.heap.size ∧ CellsAt w' g 0 vs ∧ Open w' g 0 (n * 1) ∧ n ≤ cap ∧ Fr No w w' := by
  have H := Lib.hid h
  clear h
  go_enter Try.func99, Try.ntmps99
  go_wp2_with fail
  refine (H.out).mono ?_
  rintro e w1 ⟨g, cap, rfl, h1, h2, h3, h4, h5, h6⟩
  have HA := Lib.hid h3
  have HO := Lib.hid h4
  have HF := Lib.hid h6
  clear h3 h4 h6 H
  go_wp2_with fail
  go_ret
  exact ⟨g, cap, rfl, h1, h2, HA.out, HO.out, h5, HF.out⟩

/-- a copied table -/
structure CopiedT (x : HTab) (W : World) (x' : HTab) (w' : World) : Prop where
  t : x'.t = x.t
  fr : Fr No W w'
  here : x.t.d.kind = 2 → x'.here w' ∧ W.heap.size ≤ x'.h ∧ x'.h < w'.heap.size

theorem HTab.copy_face {w : World} {x : HTab} (ok : x.t.ok) (hh : x.t.d.kind = 2 → ∀ W, Fr No w W → x.here W) :
    ∃ T v f, x.cell = .iface T v ∧ Face T v "firewall/maps.copy" f ∧ ∀ W, Fr No w W → Calls Try.prog f #[v] W fun e w' => ∃ x', e = .returned x'.cell ∧ Hid (CopiedT x W x' w') ∧ Fr No W w' := by
  have hb := ok.bounds
  rcases ok.kinds with h1 | h2
  · refine ⟨_, _, _, by unfold HTab.cell; rw [if_pos h1], face_acopy _, fun W _ => (acopy_any _ W).mono ?_⟩
    rintro e w' ⟨rfl, rfl⟩
    refine ⟨x, by unfold HTab.cell; rw [if_pos h1], ⟨rfl, Fr.refl _ _, fun h => by omega⟩, Fr.refl _ _⟩
  · have hn1 : ¬ x.t.d.kind = 1 := by omega
    refine ⟨_, _, _, by unfold HTab.cell; rw [if_neg hn1], face_hcopy _ _ _, fun W hW => ?_⟩
    have here := hh h2 W hW
    refine (hcopy_walk _ x.t.ks.length (strs x.t.ks) W (clone_strs x.h 0 x.t.ks.length x.cap (strs x.t.ks) W (by rw [strs_length]; omega) (by omega) (by omega) here.keys (strs_one _))).mono ?_
    rintro e w' ⟨g, cap, rfl, a1, a2, a3, a4, a5, a6⟩
    refine ⟨⟨x.t, g, cap⟩, by unfold HTab.cell; rw [if_neg hn1], ⟨rfl, a6, fun _ => ⟨⟨a3, by rw [Nat.mul_one] at a4; exact a4, a5⟩, a1, a2⟩⟩, a6⟩

end Go.Proofs.Ytlinnhaodkiolaa
