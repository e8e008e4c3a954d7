/- Arguments of chapter 8 that are slices of structs, opened: their elements as a list. firewalllaw08.MapsPlay: at any maps, any acts. -/
import Derived.Test.YtlinnhaodkiolaaGreatBundle20
import Derived.Test.YtlinnhaodkiolaaGreatBundle11
import Derived.Deep.Slices
import Derived.ProofKit
import Derived.OpenShut
namespace Go.Proofs.YtlinnhaodkiolaaGreat
open Go.ChangeShapes Go.WideShapes Go.ChangeAt Go.RowKit Go.Deep

theorem Tryz.cellsM_map : Tryz.prog.cellsOf 62 = 4 := by kernel_rfl
theorem Tryz.cellsM_act : Tryz.prog.cellsOf 43 = 4 := by kernel_rfl
theorem Tryz.cellsM_u8 : Tryz.prog.cellsOf 5 = 1 := by kernel_rfl
theorem Tryz.cellsM_int : Tryz.prog.cellsOf 3 = 1 := by kernel_rfl
theorem Tryz.cellsM_str : Tryz.prog.cellsOf 9 = 1 := by kernel_rfl

theorem open_mapds {H : Type} {enc : TypeId × Value → H} {base : Nat} {spare : Nat → Bool} {held : Bool} {w : World} {v : Value} {d : DataW H} {p : List MemPlace}
    (hv1 : v.cells.toList = [v]) (h : DataW.Trod enc Tryz.prog w base spare held 22 v d p) :
    ∃ l : List MapD, SrcAt w v l.length (mflat l) := by
  obtain ⟨fuel, hf⟩ := h
  rw [hv1] at hf
  rcases open_slice Tryz.underlying22 hf with ⟨h0, _⟩ | ⟨a, len, cap, m, n, D, Pl, h0, hb, hl, hm, hmm, hx, hi⟩
  · simp at h0
    subst h0
    exact ⟨[], .inl ⟨rfl, rfl, rfl⟩⟩
  · simp at h0
    subst h0
    have hlm : len ≤ m := by rw [hmm]; split <;> omega
    obtain ⟨l, h1, h2, h3⟩ := rows_open (w := w) (a := a) 4 MapD.cells (fun _ => True) (fun x => rfl) len (fun i hil => by
      obtain ⟨cs', hc, ht⟩ := hi i (by omega)
      rw [Tryz.cellsM_map] at hc
      obtain ⟨_, hcl, hat⟩ := World.cells?_some hc
      obtain ⟨c0, c1, c2, c3, rfl⟩ : ∃ a b c d, cs' = [a, b, c, d] := by
        match cs', hcl with
        | [a, b, c, d], _ => exact ⟨a, b, c, d, rfl⟩
      obtain ⟨xs, m', _, hx', hl', hn', hall⟩ := DataW.trod_struct Tryz.underlying62 ht
      have h0 := hall 0 _ rfl
      have h1 := hall 1 _ rfl
      have h2 := hall 2 _ rfl
      have h3 := hall 3 _ rfl
      simp only [List.getElem_toArray, List.getElem_cons_zero, List.getElem_cons_succ, Tryz.cellsM_int, List.drop_zero, List.take_succ_cons, List.take_zero, List.drop_succ_cons] at h0 h1 h2 h3
      have hn4 : xs.length = 4 := hn'
      have e0 : xs[0]? = some xs[0] := List.getElem?_eq_getElem (by omega)
      have e1 : xs[1]? = some xs[1] := List.getElem?_eq_getElem (by omega)
      have e2 : xs[2]? = some xs[2] := List.getElem?_eq_getElem (by omega)
      have e3 : xs[3]? = some xs[3] := List.getElem?_eq_getElem (by omega)
      rw [e0] at h0
      rw [e1] at h1
      rw [e2] at h2
      rw [e3] at h3
      obtain ⟨x0, ea, _, wa⟩ := DataW.trod_int Tryz.underlying3 h0
      obtain ⟨x1, eb, _, wb⟩ := DataW.trod_int Tryz.underlying3 h1
      obtain ⟨x2, ec, _, wc⟩ := DataW.trod_int Tryz.underlying3 h2
      obtain ⟨x3, ed, _, wd⟩ := DataW.trod_int Tryz.underlying3 h3
      simp at ea eb ec ed
      subst ea eb ec ed
      refine ⟨⟨x0, x1, x2, x3⟩, trivial, fun c u hcu => ?_⟩
      have hcc := hat c (by have := (List.getElem?_eq_some_iff.1 hcu).1; simpa [MapD.cells] using this)
      rw [Deep.add_add] at hcc
      rw [hcc, ← hcu]
      rfl)
    exact ⟨l, .inr ⟨a, cap, by rw [h1], h3⟩⟩

theorem srcAt_maps {w : World} {v : Value} {l : List MapD} (h : SrcAt w v l.length (mflat l)) : MapsIn w v l := by
  rcases h with ⟨h0, _, rfl⟩ | ⟨ad, c, rfl, hc⟩
  · exact .inl ⟨List.eq_nil_of_length_eq_zero h0, _, _, rfl⟩
  · rcases Nat.eq_zero_or_pos l.length with h0 | h0
    · rw [h0]
      exact .inl ⟨List.eq_nil_of_length_eq_zero h0, _, _, rfl⟩
    · have h00 : (mflat l)[0]? = some (l[0].cells[0]'(by simp [MapD.cells])) := by
        have := mflat_get l 0 0 h0 (by omega)
        simpa using this
      obtain ⟨b, off, spot⟩ := ad
      have hspot : spot = none := by simpa [Addr.add] using World.cell?_spot (hc 0 _ h00)
      subst hspot
      exact .inr ⟨b, off, c, rfl, fun j u hj => by rw [← addr_add]; exact hc j u hj⟩

/-- what an act of chapter 8 may be -/
def ActMOk (x : ActM) : Prop := x.kind < 256 ∧ -9223372036854775808 ≤ x.map ∧ x.map ≤ 9223372036854775807

theorem open_actms {H : Type} {enc : TypeId × Value → H} {base : Nat} {spare : Nat → Bool} {held : Bool} {w : World} {v : Value} {d : DataW H} {p : List MemPlace}
    (hv1 : v.cells.toList = [v]) (h : DataW.Trod enc Tryz.prog w base spare held 23 v d p) :
    ∃ (l : List ActM) (ad : Option Addr) (c ga oa : Nat), v = .slice ad l.length c ∧ (0 < l.length → ad = some ⟨ga, oa, none⟩ ∧ CellsAt w ga oa (amflat l)) ∧ (∀ x ∈ l, ActMOk x) ∧ l.length ≤ maxLen := by
  obtain ⟨fuel, hf⟩ := h
  rw [hv1] at hf
  rcases open_slice Tryz.underlying23 hf with ⟨h0, _⟩ | ⟨a, len, cap, m, n, D, Pl, h0, hb, hl, hm, hmm, hx, hi⟩
  · simp at h0
    subst h0
    exact ⟨[], none, 0, 0, 0, rfl, by simp, by simp, by simp⟩
  · simp at h0
    subst h0
    have hlm : len ≤ m := by rw [hmm]; split <;> omega
    obtain ⟨l, h1, h2, h3⟩ := rows_open (w := w) (a := a) 4 ActM.cells ActMOk (fun x => rfl) len (fun i hil => by
      obtain ⟨cs', hc, ht⟩ := hi i (by omega)
      rw [Tryz.cellsM_act] at hc
      obtain ⟨_, hcl, hat⟩ := World.cells?_some hc
      obtain ⟨c0, c1, c2, c3, rfl⟩ : ∃ a b c d, cs' = [a, b, c, d] := by
        match cs', hcl with
        | [a, b, c, d], _ => exact ⟨a, b, c, d, rfl⟩
      obtain ⟨xs, m', _, hx', hl', hn', hall⟩ := DataW.trod_struct Tryz.underlying43 ht
      have h0 := hall 0 _ rfl
      have h1 := hall 1 _ rfl
      have h2 := hall 2 _ rfl
      have h3 := hall 3 _ rfl
      simp only [List.getElem_toArray, List.getElem_cons_zero, List.getElem_cons_succ, Tryz.cellsM_u8, Tryz.cellsM_int, Tryz.cellsM_str, List.drop_zero, List.take_succ_cons, List.take_zero, List.drop_succ_cons] at h0 h1 h2 h3
      have hn4 : xs.length = 4 := hn'
      have e0 : xs[0]? = some xs[0] := List.getElem?_eq_getElem (by omega)
      have e1 : xs[1]? = some xs[1] := List.getElem?_eq_getElem (by omega)
      have e2 : xs[2]? = some xs[2] := List.getElem?_eq_getElem (by omega)
      have e3 : xs[3]? = some xs[3] := List.getElem?_eq_getElem (by omega)
      rw [e0] at h0
      rw [e1] at h1
      rw [e2] at h2
      rw [e3] at h3
      obtain ⟨x0, ea, _, wa⟩ := DataW.trod_int Tryz.underlying5 h0
      obtain ⟨x1, eb, _, wb⟩ := DataW.trod_int Tryz.underlying3 h1
      obtain ⟨x2, ec, _, wc⟩ := DataW.trod_string Tryz.underlying9 h2
      obtain ⟨x3, ed, _, wd⟩ := DataW.trod_string Tryz.underlying9 h3
      have ba := bounds_u8 wa
      have bb := bounds_i64 wb
      simp at ea eb ec ed
      subst ea eb ec ed
      obtain ⟨x0, rfl⟩ := Int.eq_ofNat_of_zero_le (show 0 ≤ x0 by omega)
      refine ⟨⟨x0, x1, x2, x3⟩, ⟨by show x0 < _; omega, bb.1, bb.2⟩, fun c u hcu => ?_⟩
      have hcc := hat c (by have := (List.getElem?_eq_some_iff.1 hcu).1; simpa [ActM.cells] using this)
      rw [Deep.add_add] at hcc
      rw [hcc, ← hcu]
      rfl)
    rcases Nat.eq_zero_or_pos len with h0 | h0
    · subst h0
      exact ⟨l, some a, cap, 0, 0, by rw [h1], fun h => by omega, h2, by rw [h1]; simp⟩
    · obtain ⟨u0, h00⟩ : ∃ u, (amflat l)[0]? = some u := by
        cases l with
        | nil => simp at h1; omega
        | cons y ys => exact ⟨.int .u8 y.kind, by simp [amflat, ActM.cells]⟩
      obtain ⟨b, off, spot⟩ := a
      have hspot : spot = none := by simpa [Addr.add] using World.cell?_spot (h3 0 _ h00)
      subst hspot
      exact ⟨l, _, cap, b, off, by rw [h1], fun _ => ⟨rfl, fun j u hj => by rw [← addr_add]; exact h3 j u hj⟩, h2, by rw [h1]; omega⟩

end Go.Proofs.YtlinnhaodkiolaaGreat

namespace Go.Proofs.YtlinnhaodkiolaaGreat
open Go.RowKit

set_option maxRecDepth 100000 in
set_option maxHeartbeats 1000000 in
theorem pmap_great1 (a : Option Addr) (n c : Nat) (v1 : Value) (w : World) (h : 6 < n) : Calls Tryz.prog 3 #[.slice a n c, v1] w fun e w' => e = .returned (.bool true) ∧ Fr No w w' := by
  have q : decide ((6 : Int) < (n : Int)) = true := by simp; omega
  go_enter Tryz.func3, Tryz.ntmps3
  go_wp2_with (go_at_call 5; refine (kept_any _).mono ?_; rintro e w9 ⟨rfl, hlf⟩)
  go_ret
  exact ⟨rfl, hlf⟩

set_option maxRecDepth 100000 in
set_option maxHeartbeats 1000000 in
theorem pmap_great2 (a : Option Addr) (n c : Nat) (v1 : Value) (w : World) (h : n ≤ 6) (hg : Calls Tryz.prog 4 #[v1, .int .i64 150] w fun e w' => e = .returned (.bool true) ∧ w = w') : Calls Tryz.prog 3 #[.slice a n c, v1] w fun e w' => e = .returned (.bool true) ∧ Fr No w w' := by
  have HG := Lib.hid hg
  have q : decide ((6 : Int) < (n : Int)) = false := by simp; omega
  clear hg
  go_enter Tryz.func3, Tryz.ntmps3
  go_wp2_with (first | (go_at_call 4; (with_reducible refine (HG.out).mono ?_); rintro e w0 ⟨rfl, rfl⟩) | (go_at_call 5; refine (kept_any _).mono ?_; rintro e w9 ⟨rfl, hlf⟩))
  go_ret
  exact ⟨rfl, hlf⟩

theorem pmap_any (l : List MapD) (acts : List ActM) (v0 : Value) (ad : Option Addr) (ga oa c : Nat) (w : World) (hsrc : SrcAt w v0 l.length (mflat l)) (hac : 0 < acts.length → ad = some ⟨ga, oa, none⟩ ∧ CellsAt w ga oa (amflat acts)) (hok : ∀ x ∈ acts, ActMOk x) (hml : acts.length ≤ maxLen) :
    Calls Tryz.prog 3 #[v0, .slice ad acts.length c] w fun e w' => e = .returned (.bool true) ∧ Below w.heap.size w w' := by
  have hin := srcAt_maps hsrc
  obtain ⟨a0, c0, rfl⟩ := hin.form
  have key : Calls Tryz.prog 3 #[.slice a0 l.length c0, .slice ad acts.length c] w fun e w' => e = .returned (.bool true) ∧ Fr No w w' := by
    by_cases h6 : 6 < l.length
    · exact pmap_great1 _ _ _ _ w h6
    · have hai : ActsIn w (.slice ad acts.length c) acts := by
        rcases Nat.eq_zero_or_pos acts.length with h0 | h0
        · exact .inl ⟨List.eq_nil_of_length_eq_zero h0, _, _, by rw [h0]⟩
        · obtain ⟨rfl, hc⟩ := hac h0
          exact .inr ⟨ga, oa, c, rfl, hc⟩
      have hg := great8_any _ acts 150 w hai (by unfold maxLen at hml; omega)
      cases hgr : greatB acts 150 with
      | true => rw [hgr] at hg; exact pmap_great2 _ _ _ _ w (by omega) hg
      | false =>
        unfold greatB at hgr
        rw [Bool.or_eq_false_iff] at hgr
        obtain ⟨g1, g2⟩ := hgr
        have h150 : acts.length ≤ 150 := by simp at g2; omega
        have hsm : ∀ x ∈ acts, x.value.size ≤ 100 := fun x hx => by
          rw [List.any_eq_false] at g1
          have := g1 x hx
          unfold ActM.big at this
          simp at this
          omega
        refine pmap_walk l acts _ ad ga oa l.length acts.length c w rfl (by omega) hin ⟨_, _, rfl⟩ (fun W hW => hsrc.fr hW (fun _ _ => id)) rfl h150 hac (fun x hx => ⟨(hok x hx).1, (hok x hx).2.1, (hok x hx).2.2⟩) hsm hai ?_
        unfold greatB
        rw [g1, g2]
        rfl
  exact key.mono fun _ _ ⟨he, hf⟩ => ⟨he, hf.below⟩

end Go.Proofs.YtlinnhaodkiolaaGreat
