/- maps: slices.Clone of keys and of maps; slices.ContainsFunc of maps; may. -/
import Derived.Test.YtlinnhaodkiolaaMapQ
import Derived.Test.YtlinnhaodkiolaaCopy1
namespace Go.Proofs.Ytlinnhaodkiolaa
open Go.RowKit

theorem Try.info_cstrs : (Try.prog.info? 9).map (fun i => (i.zero, i.size, i.bytes)) = some (some (.string ⟨#[]⟩), 1, 16) := by kernel_rfl
theorem slice_ne_strs (w : World) (a : Addr) (n c : Nat) : (binOp .eql 74 (.slice (some a) n c) (.slice none 0 0)).run Try.prog w = .ok (.bool false) w := Lib.run_eql_slice_nil w 74 9 (some a) n c 0 0 Try.underlying74
theorem slice_eq_strs (w : World) (n c : Nat) : (binOp .eql 74 (.slice none n c) (.slice none 0 0)).run Try.prog w = .ok (.bool true) w := Lib.run_eql_slice_nil w 74 9 none n c 0 0 Try.underlying74

set_option maxHeartbeats 1000000 in
theorem clone_strs (g off n c : Nat) (vs : List Value) (w : World) (hl : vs.length = n * 1) (h1 : 1 ≤ n) (hm : n ≤ 1000000) (hc : CellsAt w g off vs) (hone : ∀ u ∈ vs, u.oneCell' = true) :
    Calls Try.prog 102 #[.slice (some ⟨g, off, none⟩) n c] w (ClonePost n vs w 1) := by
  have HC := Lib.hid hc
  have HL := Lib.hid hl
  clear hc hl
  have kn := fun w => slice_ne_strs w ⟨g, off, none⟩ n c
  obtain ⟨i0, hi, hz0, hz1, hz2⟩ := info_parts Try.info_cstrs
  have hown : (w.alloc (.cells #[] 9)).ownsRow w.heap.size 9 1 (.slice (some ⟨w.heap.size, 0, none⟩) 0 0) 0 [] := World.ownsRow_made w #[] 0 (Nat.le_refl _) (by unfold maxLen; omega) rfl
  have hnews : ∀ j u, vs[j]? = some u → (w.alloc (.cells #[] 9)).cell? ((⟨g, off, none⟩ : Addr).add j) = some u := fun j u hj => by
    rw [addr_add]; exact ((Fr.refl No w).alloc _).cell (HC.out j u hj) id
  go_enter Try.func102, Try.ntmps102
  go_wp2_with (at_builtin; refine wpList_append_lies _ rfl _ _ 74 rfl w.heap.size 9 i0 _ 1 16 Try.underlying74 hi hz0 hz1 hz2 rfl (by decide) _ 0 [] rfl hown ⟨g, off, none⟩ n c vs rfl HL.out hnews hone (by omega) (by unfold maxLen; omega) (by omega) (by simp) _ rfl ?_; intro gg cap2 w1 hown2 hgrow hat hlt2)
  go_ret
  rw [Nat.zero_add, List.nil_append] at hown2
  have := clone_post (v := .slice none 0 0) hown2 hgrow hlt2
  simpa using this

set_option maxHeartbeats 400000 in
theorem clone_strs_nil (n c : Nat) (w : World) : Calls Try.prog 102 #[.slice none n c] w fun e w' => e = .returned (.slice none 0 0) ∧ w = w' := by
  have kn := fun w => slice_eq_strs w n c
  go_enter Try.func102, Try.ntmps102
  go_wp2_with fail
  go_ret
  exact ⟨rfl, rfl⟩

set_option maxHeartbeats 400000 in
theorem clone_strs_zero (a : Addr) (c : Nat) (w : World) : Calls Try.prog 102 #[.slice (some a) 0 c] w fun e w' => e = .returned (.slice (some ⟨w.heap.size, 0, none⟩) 0 0) ∧ Fr No w w' := by
  have kn := fun w => slice_ne_strs w a 0 c
  go_enter Try.func102, Try.ntmps102
  go_wp2_with fail
  go_ret
  exact ⟨rfl, (Fr.refl _ _).alloc _⟩

theorem Try.info_cmaps : (Try.prog.info? 49).map (fun i => (i.zero, i.size, i.bytes)) = some (some (.agg #[.int .i64 0, .int .i64 0, .int .i64 0, .int .i64 0]), 4, 32) := by kernel_rfl
theorem slice_ne_maps (w : World) (a : Addr) (n c : Nat) : (binOp .eql 54 (.slice (some a) n c) (.slice none 0 0)).run Try.prog w = .ok (.bool false) w := Lib.run_eql_slice_nil w 54 49 (some a) n c 0 0 Try.underlying54
theorem slice_eq_maps (w : World) (n c : Nat) : (binOp .eql 54 (.slice none n c) (.slice none 0 0)).run Try.prog w = .ok (.bool true) w := Lib.run_eql_slice_nil w 54 49 none n c 0 0 Try.underlying54

set_option maxHeartbeats 1000000 in
theorem clone_maps (g off n c : Nat) (vs : List Value) (w : World) (hl : vs.length = n * 4) (h1 : 1 ≤ n) (hm : n ≤ 1000000) (hc : CellsAt w g off vs) (hone : ∀ u ∈ vs, u.oneCell' = true) :
    Calls Try.prog 35 #[.slice (some ⟨g, off, none⟩) n c] w (ClonePost n vs w 4) := by
  have HC := Lib.hid hc
  have HL := Lib.hid hl
  clear hc hl
  have kn := fun w => slice_ne_maps w ⟨g, off, none⟩ n c
  obtain ⟨i0, hi, hz0, hz1, hz2⟩ := info_parts Try.info_cmaps
  have hown : (w.alloc (.cells #[] 49)).ownsRow w.heap.size 49 4 (.slice (some ⟨w.heap.size, 0, none⟩) 0 0) 0 [] := World.ownsRow_made w #[] 0 (Nat.le_refl _) (by unfold maxLen; omega) rfl
  have hnews : ∀ j u, vs[j]? = some u → (w.alloc (.cells #[] 49)).cell? ((⟨g, off, none⟩ : Addr).add j) = some u := fun j u hj => by
    rw [addr_add]; exact ((Fr.refl No w).alloc _).cell (HC.out j u hj) id
  go_enter Try.func35, Try.ntmps35
  go_wp2_with (at_builtin; refine wpList_append_lies _ rfl _ _ 54 rfl w.heap.size 49 i0 _ 4 32 Try.underlying54 hi hz0 hz1 hz2 rfl (by decide) _ 0 [] rfl hown ⟨g, off, none⟩ n c vs rfl HL.out hnews hone (by omega) (by unfold maxLen; omega) (by omega) (by simp) _ rfl ?_; intro gg cap2 w1 hown2 hgrow hat hlt2)
  go_ret
  rw [Nat.zero_add, List.nil_append] at hown2
  have := clone_post (v := .slice none 0 0) hown2 hgrow hlt2
  simpa using this

set_option maxHeartbeats 400000 in
theorem clone_maps_nil (n c : Nat) (w : World) : Calls Try.prog 35 #[.slice none n c] w fun e w' => e = .returned (.slice none 0 0) ∧ w = w' := by
  have kn := fun w => slice_eq_maps w n c
  go_enter Try.func35, Try.ntmps35
  go_wp2_with fail
  go_ret
  exact ⟨rfl, rfl⟩

set_option maxHeartbeats 400000 in
theorem clone_maps_zero (a : Addr) (c : Nat) (w : World) : Calls Try.prog 35 #[.slice (some a) 0 c] w fun e w' => e = .returned (.slice (some ⟨w.heap.size, 0, none⟩) 0 0) ∧ Fr No w w' := by
  have kn := fun w => slice_ne_maps w a 0 c
  go_enter Try.func35, Try.ntmps35
  go_wp2_with fail
  go_ret
  exact ⟨rfl, (Fr.refl _ _).alloc _⟩


def geI : Option Nat → Bool
  | none => false
  | some _ => true

set_option maxHeartbeats 1000000 in
theorem idxf_maps (g off n c f : Nat) (l : List MapD) (p : MapD → Bool) (w : World) (hn : l.length = n) (hm : n ≤ 1000000) (hc : CellsAt w g off (mflat l)) (he : ∀ args w, (callFunc f args).run Try.prog w = .ok (.enter f args) w)
    (hp : ∀ x ∈ l, ∀ W, Fr No w W → Calls Try.prog f #[.agg #[.int .i64 x.kind, .int .i64 x.key, .int .i64 x.value, .int .i64 x.max]] W fun e w' => e = .returned (.bool (p x)) ∧ Fr No W w') :
    Calls Try.prog 68 #[.slice (some ⟨g, off, none⟩) n c, .func (.func f) #[] #[]] w fun e w' => e = .returned (.int .i64 (optI (l.findIdx? p))) ∧ Fr No w w' := by
  have HC := Lib.hid hc
  have HN := Lib.hid hn
  have HP := Lib.hid hp
  clear hc hn hp
  go_enter Try.func68, Try.ntmps68
  go_wp2_with fail
  go_loopw [8] (fun i wr => ∃ k : Nat, k ≤ n ∧ i = .int .i64 k ∧ Hid (Fr No w wr) ∧ Hid (∀ (j : Nat) x, j < k → l[j]? = some x → p x = false)) (fun i _ => n - (intOf i).toNat)
  case atStart => exact ⟨0, Nat.zero_le _, rfl, Fr.refl _ _, fun j _ h => absurd h (Nat.not_lt_zero _)⟩
  case round =>
    obtain ⟨k, hk, rfl, HF, HJ⟩ := hrel
    by_cases hlt : k < n
    · obtain ⟨x, hx⟩ : ∃ x, l[k]? = some x := ⟨l[k]'(by rw [HN.out]; exact hlt), List.getElem?_eq_getElem _⟩
      obtain ⟨k0, k1, k2, k3⟩ := map_cells (HF.out.cells HC.out id) hx
      have HX := Lib.hid hx
      have HPX := Lib.hid (HP.out x (List.mem_of_getElem? hx) wr HF.out)
      obtain ⟨t, ht⟩ : ∃ t, p x = t := ⟨_, rfl⟩
      rw [ht] at HPX
      have HT := Lib.hid ht
      clear ht hx
      cases t with
      | true =>
        have HFI : Hid (l.findIdx? p = some k) := Lib.hid (by
          rw [List.findIdx?_eq_some_iff_getElem]
          have hkl : k < l.length := by rw [HN.out]; exact hlt
          have := HX.out
          rw [List.getElem?_eq_getElem hkl] at this
          refine ⟨hkl, by rw [Option.some.inj this]; exact HT.out, fun j hj => ?_⟩
          have := HJ.out j _ hj (List.getElem?_eq_getElem (by omega))
          simpa using this)
        go_wp2_with fail
        refine (HPX.out).mono ?_
        rintro e w5 ⟨rfl, hf5⟩
        go_wp2_with fail
        go_ret
        exact ⟨by rw [HFI.out]; rfl, HF.out.trans hf5⟩
      | false =>
        have HJ2 : Hid (∀ (j : Nat) y, j < k + 1 → l[j]? = some y → p y = false) := fun j y hj hy => by
          by_cases e : j = k
          · subst e
            rw [HX.out] at hy
            obtain rfl := Option.some.inj hy
            exact HT.out
          · exact HJ.out j y (by omega) hy
        go_wp2_with fail
        refine (HPX.out).mono ?_
        rintro e w5 ⟨rfl, hf5⟩
        go_wp2_with fail
        go_roundw
        case rel => exact ⟨k + 1, by omega, by go_num, HF.out.trans hf5, HJ2⟩
        case measure => simp [intOf] <;> omega
    · obtain rfl : k = n := by omega
      have HFI : Hid (l.findIdx? p = none) := Lib.hid (by
        rw [List.findIdx?_eq_none_iff]
        intro x hx
        obtain ⟨j, hj, rfl⟩ := List.getElem_of_mem hx
        exact HJ.out j _ (by rw [← HN.out]; exact hj) (List.getElem?_eq_getElem hj))
      go_wp2_with fail
      go_ret
      exact ⟨by rw [HFI.out]; rfl, HF.out⟩

set_option maxHeartbeats 400000 in
theorem contf_maps (v fv : Value) (o : Option Nat) (w : World) (h : Calls Try.prog 68 #[v, fv] w fun e w' => e = .returned (.int .i64 (optI o)) ∧ Fr No w w') :
    Calls Try.prog 47 #[v, fv] w fun e w' => e = .returned (.bool (geI o)) ∧ Fr No w w' := by
  have H := Lib.hid h
  clear h
  cases o with
  | none =>
    have H1 : Hid (Calls Try.prog 68 #[v, fv] w fun e w' => e = .returned (.int .i64 (-1)) ∧ Fr No w w') := H.out
    go_enter Try.func47, Try.ntmps47
    go_wp2_with fail
    refine (H1.out).mono ?_
    rintro e w' ⟨rfl, hf⟩
    go_wp2_with fail
    go_ret
    exact ⟨rfl, hf⟩
  | some p =>
    have H1 : Hid (Calls Try.prog 68 #[v, fv] w fun e w' => e = .returned (.int .i64 p) ∧ Fr No w w') := H.out
    have q : decide ((p : Int) ≥ 0) = true := by simp
    go_enter Try.func47, Try.ntmps47
    go_wp2_with fail
    refine (H1.out).mono ?_
    rintro e w' ⟨rfl, hf⟩
    go_wp2_with fail
    go_ret
    exact ⟨rfl, hf⟩

/-- what maps are, at a slice's value -/
def MapsIn (w : World) (v : Value) (l : List MapD) : Prop := (l = [] ∧ ∃ a c, v = .slice a 0 c) ∨ ∃ g off cap, v = .slice (some ⟨g, off, none⟩) l.length cap ∧ CellsAt w g off (mflat l)

theorem MapsIn.fr {w w' : World} {v : Value} {l : List MapD} (h : MapsIn w v l) (hf : Fr No w w') : MapsIn w' v l := by
  rcases h with h | ⟨g, off, cap, rfl, hc⟩
  · exact .inl h
  · exact .inr ⟨g, off, cap, rfl, hf.cells hc id⟩

theorem MapsIn.form {w : World} {v : Value} {l : List MapD} (h : MapsIn w v l) : ∃ a c, v = .slice a l.length c := by
  rcases h with ⟨rfl, a, c, rfl⟩ | ⟨g, off, cap, rfl, hc⟩
  · exact ⟨a, c, rfl⟩
  · exact ⟨_, _, rfl⟩

set_option maxHeartbeats 400000 in
theorem idxf_maps_zero (a : Option Addr) (c : Nat) (fv : Value) (w : World) :
    Calls Try.prog 68 #[.slice a 0 c, fv] w fun e w' => e = .returned (.int .i64 (optI none)) ∧ Fr No w w' := by
  go_enter Try.func68, Try.ntmps68
  go_wp2_with fail
  refine wp_loop_rounds 1 ?_
  rw [rounds_succ]
  go_wp2_with fail
  go_ret
  exact ⟨rfl, Fr.refl _ _⟩

theorem contf_may (v : Value) (l : List MapD) (w : World) (h : MapsIn w v l) (hm : l.length ≤ 1000000) :
    Calls Try.prog 47 #[v, .func (.func 48) #[] #[]] w fun e w' => e = .returned (.bool (!(l.all MapD.may))) ∧ Fr No w w' := by
  have key : geI (l.findIdx? fun x => !x.may) = !(l.all MapD.may) := by
    cases hf : l.findIdx? (fun x => !x.may) with
    | none =>
      rw [List.findIdx?_eq_none_iff] at hf
      have : l.all MapD.may = true := by rw [List.all_eq_true]; intro x hx; simpa using hf x hx
      rw [this]; rfl
    | some i =>
      rw [List.findIdx?_eq_some_iff_getElem] at hf
      obtain ⟨hi, h1, _⟩ := hf
      have : l.all MapD.may = false := by
        rw [List.all_eq_false]
        exact ⟨l[i], List.getElem_mem hi, by simpa using h1⟩
      rw [this]; rfl
  rw [← key]
  rcases h with ⟨rfl, a, c, rfl⟩ | ⟨g, off, cap, rfl, hc⟩
  · exact contf_maps _ _ none w (idxf_maps_zero a c _ w)
  · exact contf_maps _ _ _ w (idxf_maps g off l.length cap 48 l (fun x => !x.may) w rfl hm hc (enters_of Try.func48 (by kernel_rfl) rfl) (fun x _ W _ => may1_any x W))

set_option maxHeartbeats 400000 in
theorem may_any (v : Value) (l : List MapD) (w : World) (h : MapsIn w v l) (hm : l.length ≤ 1000000) :
    Calls Try.prog 33 #[v] w fun e w' => e = .returned (.bool (mayL l)) ∧ Fr No w w' := by
  have HC := Lib.hid (contf_may v l w h hm)
  obtain ⟨a, c, rfl⟩ := h.form
  unfold mayL
  generalize l.all MapD.may = t at *
  generalize l.length = n at *
  clear h
  by_cases h4 : n ≤ 4
  · have q : decide (n ≤ 4) = true := by simpa using h4
    have hs : (decide (n ≤ 4) && t) = t := by rw [q]; rfl
    rw [hs]
    cases t with
    | true =>
      go_enter Try.func33, Try.ntmps33
      go_wp2_with (go_at_call 47; (with_reducible refine (HC.out).mono ?_); rintro e w' ⟨rfl, hf⟩)
      go_ret
      exact ⟨rfl, hf⟩
    | false =>
      go_enter Try.func33, Try.ntmps33
      go_wp2_with (go_at_call 47; (with_reducible refine (HC.out).mono ?_); rintro e w' ⟨rfl, hf⟩)
      go_ret
      exact ⟨rfl, hf⟩
  · have q : decide (n ≤ 4) = false := by simpa using h4
    have hs : (decide (n ≤ 4) && t) = false := by rw [q]; rfl
    rw [hs]
    go_enter Try.func33, Try.ntmps33
    go_wp2_with fail
    go_ret
    exact ⟨rfl, Fr.refl _ _⟩

end Go.Proofs.Ytlinnhaodkiolaa
