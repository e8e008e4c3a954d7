/- maps: hold. -/
import Derived.Test.YtlinnhaodkiolaaMapU
namespace Go.Proofs.Ytlinnhaodkiolaa
open Go.RowKit

def holdsB (rs m : List Reg) : Bool := rs.all fun x => m.any (fits x)
def errI (b : Bool) : Int := if b = true then 0 else 2

set_option maxHeartbeats 400000 in
theorem hold_none (lv mp : Value) (w : World) (hcopy : Calls Try.prog 21 #[mp] w fun e w' => e = .returned (.pointer none) ∧ w = w') :
    Calls Try.prog 34 #[lv, mp] w fun e w' => e = .returned (.int .i64 1) ∧ w = w' := by
  have H := Lib.hid hcopy
  clear hcopy
  go_enter Try.func34, Try.ntmps34
  go_wp2_with (go_at_call 21; (with_reducible refine (H.out).mono ?_); rintro e w' ⟨rfl, rfl⟩)
  go_ret
  exact ⟨rfl, rfl⟩

set_option maxRecDepth 100000 in
set_option maxHeartbeats 1000000 in
theorem hold_walk (lv mp : Value) (rs m : List Reg) (w : World) (hm : m.length ≤ 1000000) (hrs : rs.length ≤ 1000000)
    (hcopy : Calls Try.prog 21 #[mp] w fun e w' => (∃ b', e = .returned (.pointer (some ⟨b', 0, none⟩))) ∧ Fr No w w')
    (hreg : ∀ W, Fr No w W → Calls Try.prog 49 #[mp] W fun e w' => ∃ u, e = .returned u ∧ RegsAt w' u m ∧ Fr No W w')
    (hmr : ∀ W, Fr No w W → Calls Try.prog 22 #[lv] W fun e w' => ∃ u, e = .returned u ∧ RegsAt w' u rs ∧ Fr No W w') :
    Calls Try.prog 34 #[lv, mp] w fun e w' => e = .returned (.int .i64 (errI (holdsB rs m))) ∧ Fr No w w' := by
  have HCOPY := Lib.hid hcopy
  have HREG := Lib.hid hreg
  have HMR := Lib.hid hmr
  clear hcopy hreg hmr
  go_enter Try.func34, Try.ntmps34
  go_wp2_with fail
  refine (HCOPY.out).mono ?_
  rintro e w1 ⟨⟨b', rfl⟩, hf1⟩
  have HF1 := Lib.hid hf1
  clear hf1
  go_wp2_with fail
  refine (HREG.out w1 HF1.out).mono ?_
  rintro e w2 ⟨u, rfl, hu, hf2⟩
  have HF2 := Lib.hid (HF1.out.trans hf2)
  have HU := Lib.hid hu
  clear hf2 hu
  go_wp2_with fail
  refine (HMR.out w2 HF2.out).mono ?_
  rintro e w3 ⟨v, rfl, hv, hf3⟩
  have HF3 := Lib.hid (HF2.out.trans hf3)
  have HU3 : Hid (RegsAt w3 u m) := HU.out.fr hf3
  clear hf3 HU HREG HMR HCOPY HF1 HF2
  obtain ⟨hty, ⟨rfl, a, c, rfl⟩ | ⟨g, off, cap, rfl, hc⟩⟩ := hv
  · go_wp2_with fail
    refine wp_loop_rounds 1 ?_
    rw [rounds_succ]
    go_wp2_with fail
    go_ret
    exact ⟨rfl, HF3.out⟩
  · have HC := Lib.hid hc
    obtain ⟨n, hn⟩ : ∃ n, rs.length = n := ⟨_, rfl⟩
    rw [hn] at hrs ⊢
    have HN := Lib.hid hn
    clear hc hty hn
    go_wp2_with fail
    go_loopw [16] (fun i wr => ∃ k : Nat, k ≤ n ∧ i = .int .i64 k ∧ Hid (Fr No w3 wr) ∧ Hid (∀ (j : Nat) x, j < k → rs[j]? = some x → m.any (fits x) = true)) (fun i _ => n - (intOf i).toNat)
    case atStart => exact ⟨0, Nat.zero_le _, rfl, Fr.refl _ _, fun j _ h => absurd h (Nat.not_lt_zero _)⟩
    case round =>
      obtain ⟨k, hk, rfl, HF, HJ⟩ := hrel
      by_cases hlt : k < n
      · obtain ⟨x, hx⟩ : ∃ x, rs[k]? = some x := ⟨rs[k]'(by rw [HN.out]; exact hlt), List.getElem?_eq_getElem _⟩
        obtain ⟨k0, k1, k2⟩ := areg_cells (HF.out.cells HC.out id) hx
        have HX := Lib.hid hx
        have HCT : Hid (Calls Try.prog 50 #[u, .func (.func 51) #[] #[.pointer (some ⟨wr.heap.size, 0, none⟩)]] (wr.alloc (.cells #[.int .u64 x.base, .string ⟨x.data.toArray⟩, .bool x.free] 88)) fun e w' => e = .returned (.bool (m.any (fits x))) ∧ Fr No wr w') :=
          Lib.hid ((contf_hold wr.heap.size x u m _ (HU3.out.fr (HF.out.trans ((Fr.refl _ _).alloc _))) hm (by rw [World.cell?_alloc_new]; rfl) (by rw [World.cell?_alloc_new]; rfl)).mono fun e w' ⟨he, hf⟩ => ⟨he, ((Fr.refl _ _).alloc _).trans hf⟩)
        obtain ⟨t, ht⟩ : ∃ t, m.any (fits x) = t := ⟨_, rfl⟩
        rw [ht] at HCT
        have HT := Lib.hid ht
        clear ht hx
        cases t with
        | true =>
          have HJ2 : Hid (∀ (j : Nat) y, j < k + 1 → rs[j]? = some y → m.any (fits y) = true) := fun j y hj hy => by
            by_cases e : j = k
            · subst e
              rw [HX.out] at hy
              obtain rfl := Option.some.inj hy
              exact HT.out
            · exact HJ.out j y (by omega) hy
          go_wp2_with fail
          refine (HCT.out).mono ?_
          rintro e w5 ⟨rfl, hf5⟩
          go_wp2_with fail
          go_roundw
          case rel => exact ⟨k + 1, by omega, by go_num, HF.out.trans hf5, HJ2⟩
          case measure => simp [intOf] <;> omega
        | false =>
          have HR : Hid (errI (holdsB rs m) = 2) := Lib.hid (by
            have : holdsB rs m = false := by
              unfold holdsB
              rw [List.all_eq_false]
              exact ⟨x, List.mem_of_getElem? HX.out, by rw [HT.out]; simp⟩
            rw [this]; rfl)
          go_wp2_with fail
          refine (HCT.out).mono ?_
          rintro e w5 ⟨rfl, hf5⟩
          go_wp2_with fail
          go_ret
          exact ⟨by rw [HR.out]; rfl, HF3.out.trans (HF.out.trans hf5)⟩
      · obtain rfl : k = n := by omega
        have HR : Hid (errI (holdsB rs m) = 0) := Lib.hid (by
          have : holdsB rs m = true := by
            unfold holdsB
            rw [List.all_eq_true]
            intro x hx
            obtain ⟨j, hj, rfl⟩ := List.getElem_of_mem hx
            exact HJ.out j _ (by rw [← HN.out]; exact hj) (List.getElem?_eq_getElem hj)
          rw [this]; rfl)
        go_wp2_with fail
        go_ret
        exact ⟨by rw [HR.out]; rfl, HF3.out.trans HF.out⟩

/-- a memory that may be told and copied -/
def MemOk (m : List Reg) : Prop := m.length ≤ 1000000 ∧ ∀ r ∈ m, r.data.length ≤ 140737488355328

theorem mregsOf_length (l : List MapD) : (mregsOf l).length ≤ 4 := by
  unfold mregsOf
  split
  · rename_i h
    rw [mregs_length]
    exact ((mayL_iff l).1 h).1
  · simp

theorem hold_any {T : Nat → Prop} {w : World} {mb : Nat} {m : List Reg} (hm : MemAt w mb m T) (hok : MemOk m) (v : Value) (l : List MapD) (h : MapsIn w v l) (hl : l.length ≤ 1000000) :
    Calls Try.prog 34 #[v, .pointer (some ⟨mb, 0, none⟩)] w fun e w' => e = .returned (.int .i64 (errI (holdsB (mregsOf l) m))) ∧ Fr No w w' := by
  refine hold_walk v _ (mregsOf l) m w hok.1 (by have := mregsOf_length l; omega) ((copy_any hm hok.1 hok.2).mono ?_) (fun W hW => regions_any (hm.fr hW (fun _ _ => id)) hok.1) (fun W hW => mregions_any v l W (h.fr hW) hl)
  rintro e w' ⟨b', he, hf, _⟩
  exact ⟨⟨b', he⟩, hf⟩

end Go.Proofs.Ytlinnhaodkiolaa
