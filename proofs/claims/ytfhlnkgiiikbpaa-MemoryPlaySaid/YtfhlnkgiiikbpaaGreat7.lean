/- firewalllaw07.Great. -/
import Derived.Test.YtfhlnkgiiikbpaaRef1
namespace Go.Proofs.Ytfhlnkgiiikbpaa
open Go.RowKit

def GreatPost (l : List Reg) (most : Nat) (w : World) (e : Ending) (w' : World) : Prop := (∃ t : Bool, e = .returned (.bool t) ∧ (t = true ↔ ((∃ r ∈ l, 1000 < r.data.length) ∨ most < l.length))) ∧ w = w'

set_option maxHeartbeats 400000 in
theorem great_walk (g off n cap most : Nat) (l : List Reg) (w : World) (hn : l.length = n) (hc : CellsAt w g off (aflat l)) (hm : n ≤ 9223372036854775807) (hty : ∀ r ∈ l, r.typed) :
    Calls Try.prog 18 #[.slice (some ⟨g, off, none⟩) n cap, .int .i64 most] w (GreatPost l most w) := by
  have HN := Lib.hid hn
  have HC := Lib.hid hc
  have HT : Hid (∀ r ∈ l, r.typed) := hty
  clear hn hc hty
  go_enter Try.func18, Try.ntmps18
  go_wp2_with fail
  go_loop [5] (fun i => ∃ k : Nat, k ≤ n ∧ i = .int .i64 k ∧ Hid (∀ j, j < k → ∀ r, l[j]? = some r → r.data.length ≤ 1000)) (fun i => n - (intOf i).toNat)
  case atStart => exact ⟨0, Nat.zero_le _, rfl, fun j hj => absurd hj (Nat.not_lt_zero _)⟩
  case round =>
    obtain ⟨k, hk, rfl, HI⟩ := hrel
    by_cases hlt : k < n
    · obtain ⟨r, hr⟩ : ∃ r, l[k]? = some r := ⟨l[k]'(by rw [HN.out]; exact hlt), List.getElem?_eq_getElem _⟩
      obtain ⟨_, k1, _⟩ := areg_cells HC.out hr
      have ht := (HT.out r (List.mem_of_getElem? hr)).small
      obtain ⟨dl, hdl⟩ : ∃ dl, dl = r.data.length := ⟨_, rfl⟩
      have sz : (⟨r.data.toArray⟩ : ByteArray).size = dl := by rw [hdl]; rfl
      rw [← hdl] at ht
      have HD := Lib.hid hdl
      have HR := Lib.hid hr
      clear hr hdl
      by_cases hg : 1000 < dl
      · have HF : Hid (∃ r ∈ l, 1000 < r.data.length) := ⟨r, List.mem_of_getElem? HR.out, by rw [← HD.out]; exact hg⟩
        go_wp2_with fail
        go_ret
        exact ⟨⟨true, rfl, ⟨fun _ => .inl HF.out, fun _ => rfl⟩⟩, rfl⟩
      · have HF : Hid (∀ j, j < k + 1 → ∀ r, l[j]? = some r → r.data.length ≤ 1000) := fun j hj x hx => by
          by_cases e : j = k
          · subst e; rw [HR.out] at hx; have := HD.out; exact Option.some.inj hx ▸ (by omega)
          · exact HI.out j (by omega) x hx
        go_wp2_with fail
        go_round
        case rel => exact ⟨k + 1, by omega, by go_num, HF⟩
        case measure => simp [intOf] <;> omega
    · obtain rfl : k = n := by omega
      have HF : Hid (¬ ∃ r ∈ l, 1000 < r.data.length) := by
        rintro ⟨r, hr, h⟩
        obtain ⟨j, hj, rfl⟩ := List.getElem_of_mem hr
        have := HI.out j (by rw [← HN.out]; exact hj) _ (List.getElem?_eq_getElem hj)
        omega
      go_wp2_with fail
      go_ret
      refine ⟨⟨decide (most < k), by simp, ?_⟩, rfl⟩
      rw [decide_eq_true_iff, HN.out]
      exact ⟨.inr, fun h => h.elim (fun h => absurd h HF.out) id⟩

set_option maxHeartbeats 400000 in
theorem great_empty (a : Option Addr) (cap most : Nat) (w : World) : Calls Try.prog 18 #[.slice a 0 cap, .int .i64 most] w (GreatPost [] most w) := by
  go_enter Try.func18, Try.ntmps18
  go_wp2_with fail
  refine wp_loop_rounds 1 ?_
  rw [rounds_succ]
  go_wp2_with fail
  go_ret
  refine ⟨⟨false, ?_, by simp⟩, rfl⟩
  have : ¬ ((most : Int) < 0) := by omega
  simp [this]

theorem great_any (l : List Reg) (v : Value) (most : Nat) (w : World) (h : RegsAt w v l) (hm : l.length ≤ 9223372036854775807) : Calls Try.prog 18 #[v, .int .i64 most] w (GreatPost l most w) := by
  obtain ⟨hty, ⟨rfl, a, c, rfl⟩ | ⟨g, off, cap, rfl, hc⟩⟩ := h
  · exact great_empty a c most w
  · exact great_walk g off l.length cap most l w rfl hc hm hty

end Go.Proofs.Ytfhlnkgiiikbpaa
