/- maps: are the maps' regions in a memory? -/
import Derived.Test.YtlinnhaodkiolaaMapT
import Derived.Test.YtlinnhaodkiolaaCopy2
import Derived.Test.YtlinnhaodkiolaaAreg
namespace Go.Proofs.Ytlinnhaodkiolaa
open Go.RowKit

/-- is a region of a memory the one that is asked for? -/
def fits (x y : Reg) : Bool := decide (y.base = x.base ∧ y.data.length = x.data.length ∧ y.free = true)

set_option maxHeartbeats 400000 in
theorem hold1_base (bx : Nat) (xb yb : Int) (yd : ByteArray) (yf : Bool) (w : World) (h0 : w.cell? ⟨bx, 0, none⟩ = some (.int .u64 xb)) (hne : (yb == xb) = false) :
    Calls Try.prog 51 #[.agg #[.int .u64 yb, .string yd, .bool yf], .pointer (some ⟨bx, 0, none⟩)] w fun e w' => e = .returned (.bool false) ∧ Fr No w w' := by
  have h0' : (w.alloc (.cells #[.int .u64 yb, .string yd, .bool yf] 88)).cell? ⟨bx, 0, none⟩ = some (.int .u64 xb) := ((Fr.refl No w).alloc _).cell h0 id
  go_enter Try.func51, Try.ntmps51
  go_wp2_with fail
  go_ret
  exact ⟨rfl, (Fr.refl _ _).alloc _⟩

set_option maxHeartbeats 400000 in
theorem hold1_len (bx yl xl : Nat) (xb yb : Int) (xd yd : ByteArray) (yf : Bool) (w : World) (h0 : w.cell? ⟨bx, 0, none⟩ = some (.int .u64 xb)) (h1 : w.cell? ⟨bx, 1, none⟩ = some (.string xd)) (he : (yb == xb) = true) (sx : xd.size = xl) (sy : yd.size = yl) (t : Bool) (hl : (yl == xl) = t) (hl2 : ((yl : Int) == (xl : Int)) = t) (r : Bool) (hr : (t && yf) = r) :
    Calls Try.prog 51 #[.agg #[.int .u64 yb, .string yd, .bool yf], .pointer (some ⟨bx, 0, none⟩)] w fun e w' => e = .returned (.bool r) ∧ Fr No w w' := by
  have h0' : (w.alloc (.cells #[.int .u64 yb, .string yd, .bool yf] 88)).cell? ⟨bx, 0, none⟩ = some (.int .u64 xb) := ((Fr.refl No w).alloc _).cell h0 id
  have h1' : (w.alloc (.cells #[.int .u64 yb, .string yd, .bool yf] 88)).cell? ⟨bx, 1, none⟩ = some (.string xd) := ((Fr.refl No w).alloc _).cell h1 id
  cases t with
  | false =>
    obtain rfl : r = false := hr.symm
    clear hr
    go_enter Try.func51, Try.ntmps51
    go_wp2_with fail
    go_ret
    exact ⟨rfl, (Fr.refl _ _).alloc _⟩
  | true =>
    obtain rfl : yf = r := hr
    go_enter Try.func51, Try.ntmps51
    go_wp2_with fail
    go_ret
    exact ⟨rfl, (Fr.refl _ _).alloc _⟩

theorem hold1_any (bx : Nat) (x y : Reg) (w : World) (h0 : w.cell? ⟨bx, 0, none⟩ = some (.int .u64 x.base)) (h1 : w.cell? ⟨bx, 1, none⟩ = some (.string ⟨x.data.toArray⟩)) :
    Calls Try.prog 51 #[.agg #[.int .u64 y.base, .string ⟨y.data.toArray⟩, .bool y.free], .pointer (some ⟨bx, 0, none⟩)] w fun e w' => e = .returned (.bool (fits x y)) ∧ Fr No w w' := by
  unfold fits
  by_cases hb : y.base = x.base
  · refine hold1_len bx y.data.length x.data.length _ _ _ _ _ w h0 h1 (by simpa using hb) rfl rfl (decide (y.data.length = x.data.length)) ?_ ?_ _ ?_
    · rw [Bool.eq_iff_iff]; simp
    · rw [Bool.eq_iff_iff]; simp; omega
    · rw [Bool.eq_iff_iff]; simp [hb]
  · have e : decide (y.base = x.base ∧ y.data.length = x.data.length ∧ y.free = true) = false := by simp [hb]
    rw [e]
    exact hold1_base bx _ _ _ _ w h0 (by simpa using hb)

set_option maxHeartbeats 1000000 in
theorem idxf_regs (g off n c f : Nat) (lb : Value) (l : List Reg) (p : Reg → Bool) (w : World) (hn : l.length = n) (hm : n ≤ 1000000) (hc : CellsAt w g off (aflat l)) (he : ∀ args w, (callFunc f args).run Try.prog w = .ok (.enter f args) w)
    (hp : ∀ x ∈ l, ∀ W, Fr No w W → Calls Try.prog f #[.agg #[.int .u64 x.base, .string ⟨x.data.toArray⟩, .bool x.free], lb] W fun e w' => e = .returned (.bool (p x)) ∧ Fr No W w') :
    Calls Try.prog 69 #[.slice (some ⟨g, off, none⟩) n c, .func (.func f) #[] #[lb]] w fun e w' => e = .returned (.int .i64 (optI (l.findIdx? p))) ∧ Fr No w w' := by
  have HC := Lib.hid hc
  have HN := Lib.hid hn
  have HP := Lib.hid hp
  clear hc hn hp
  go_enter Try.func69, Try.ntmps69
  go_wp2_with fail
  go_loopw [8] (fun i wr => ∃ k : Nat, k ≤ n ∧ i = .int .i64 k ∧ Hid (Fr No w wr) ∧ Hid (∀ (j : Nat) x, j < k → l[j]? = some x → p x = false)) (fun i _ => n - (intOf i).toNat)
  case atStart => exact ⟨0, Nat.zero_le _, rfl, Fr.refl _ _, fun j _ h => absurd h (Nat.not_lt_zero _)⟩
  case round =>
    obtain ⟨k, hk, rfl, HF, HJ⟩ := hrel
    by_cases hlt : k < n
    · obtain ⟨x, hx⟩ : ∃ x, l[k]? = some x := ⟨l[k]'(by rw [HN.out]; exact hlt), List.getElem?_eq_getElem _⟩
      obtain ⟨k0, k1, k2⟩ := areg_cells (HF.out.cells HC.out id) hx
      have HX := Lib.hid hx
      have HPX := Lib.hid (HP.out x (List.mem_of_getElem? hx) wr HF.out)
      obtain ⟨t, ht⟩ : ∃ t, p x = t := ⟨_, rfl⟩
      rw [ht] at HPX
      have HT := Lib.hid ht
      clear ht hx
      cases t with
      | true =>
        have HFI : Hid (l.findIdx? p = some k) := Lib.hid (by
          rw [List.findIdx?_eq_some_iff_getElem]
          have hkl : k < l.length := by rw [HN.out]; exact hlt
          have := HX.out
          rw [List.getElem?_eq_getElem hkl] at this
          refine ⟨hkl, by rw [Option.some.inj this]; exact HT.out, fun j hj => ?_⟩
          have := HJ.out j _ hj (List.getElem?_eq_getElem (by omega))
          simpa using this)
        go_wp2_with fail
        refine (HPX.out).mono ?_
        rintro e w5 ⟨rfl, hf5⟩
        go_wp2_with fail
        go_ret
        exact ⟨by rw [HFI.out]; rfl, HF.out.trans hf5⟩
      | false =>
        have HJ2 : Hid (∀ (j : Nat) y, j < k + 1 → l[j]? = some y → p y = false) := fun j y hj hy => by
          by_cases e : j = k
          · subst e
            rw [HX.out] at hy
            obtain rfl := Option.some.inj hy
            exact HT.out
          · exact HJ.out j y (by omega) hy
        go_wp2_with fail
        refine (HPX.out).mono ?_
        rintro e w5 ⟨rfl, hf5⟩
        go_wp2_with fail
        go_roundw
        case rel => exact ⟨k + 1, by omega, by go_num, HF.out.trans hf5, HJ2⟩
        case measure => simp [intOf] <;> omega
    · obtain rfl : k = n := by omega
      have HFI : Hid (l.findIdx? p = none) := Lib.hid (by
        rw [List.findIdx?_eq_none_iff]
        intro x hx
        obtain ⟨j, hj, rfl⟩ := List.getElem_of_mem hx
        exact HJ.out j _ (by rw [← HN.out]; exact hj) (List.getElem?_eq_getElem hj))
      go_wp2_with fail
      go_ret
      exact ⟨by rw [HFI.out]; rfl, HF.out⟩

set_option maxHeartbeats 400000 in
theorem idxf_regs_zero (a : Option Addr) (c : Nat) (fv : Value) (w : World) :
    Calls Try.prog 69 #[.slice a 0 c, fv] w fun e w' => e = .returned (.int .i64 (optI none)) ∧ Fr No w w' := by
  go_enter Try.func69, Try.ntmps69
  go_wp2_with fail
  refine wp_loop_rounds 1 ?_
  rw [rounds_succ]
  go_wp2_with fail
  go_ret
  exact ⟨rfl, Fr.refl _ _⟩

set_option maxHeartbeats 400000 in
theorem contf_regs (v fv : Value) (o : Option Nat) (w : World) (h : Calls Try.prog 69 #[v, fv] w fun e w' => e = .returned (.int .i64 (optI o)) ∧ Fr No w w') :
    Calls Try.prog 50 #[v, fv] w fun e w' => e = .returned (.bool (geI o)) ∧ Fr No w w' := by
  have H := Lib.hid h
  clear h
  cases o with
  | none =>
    have H1 : Hid (Calls Try.prog 69 #[v, fv] w fun e w' => e = .returned (.int .i64 (-1)) ∧ Fr No w w') := H.out
    go_enter Try.func50, Try.ntmps50
    go_wp2_with fail
    refine (H1.out).mono ?_
    rintro e w' ⟨rfl, hf⟩
    go_wp2_with fail
    go_ret
    exact ⟨rfl, hf⟩
  | some p =>
    have H1 : Hid (Calls Try.prog 69 #[v, fv] w fun e w' => e = .returned (.int .i64 p) ∧ Fr No w w') := H.out
    have q : decide ((p : Int) ≥ 0) = true := by simp
    go_enter Try.func50, Try.ntmps50
    go_wp2_with fail
    refine (H1.out).mono ?_
    rintro e w' ⟨rfl, hf⟩
    go_wp2_with fail
    go_ret
    exact ⟨rfl, hf⟩

theorem geI_find {α : Type} (l : List α) (p : α → Bool) : geI (l.findIdx? p) = l.any p := by
  cases hf : l.findIdx? p with
  | none =>
    rw [List.findIdx?_eq_none_iff] at hf
    have : l.any p = false := by rw [List.any_eq_false]; intro x hx; simpa using hf x hx
    rw [this]; rfl
  | some i =>
    rw [List.findIdx?_eq_some_iff_getElem] at hf
    obtain ⟨hi, h1, _⟩ := hf
    have : l.any p = true := by
      rw [List.any_eq_true]
      exact ⟨l[i], List.getElem_mem hi, h1⟩
    rw [this]; rfl

/-- is x among the regions? -/
theorem contf_hold (bx : Nat) (x : Reg) (v : Value) (l : List Reg) (w : World) (h : RegsAt w v l) (hm : l.length ≤ 1000000) (h0 : w.cell? ⟨bx, 0, none⟩ = some (.int .u64 x.base)) (h1 : w.cell? ⟨bx, 1, none⟩ = some (.string ⟨x.data.toArray⟩)) :
    Calls Try.prog 50 #[v, .func (.func 51) #[] #[.pointer (some ⟨bx, 0, none⟩)]] w fun e w' => e = .returned (.bool (l.any (fits x))) ∧ Fr No w w' := by
  rw [← geI_find]
  rcases h.2 with ⟨rfl, a, c, rfl⟩ | ⟨g, off, cap, rfl, hc⟩
  · exact contf_regs _ _ none w (idxf_regs_zero a c _ w)
  · exact contf_regs _ _ _ w (idxf_regs g off l.length cap 51 (.pointer (some ⟨bx, 0, none⟩)) l (fits x) w rfl hm hc (enters_of Try.func51 (by kernel_rfl) rfl) (fun y _ W hW => hold1_any bx x y W (hW.cell h0 id) (hW.cell h1 id)))

end Go.Proofs.Ytlinnhaodkiolaa
