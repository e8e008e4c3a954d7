/- firewalllaw08.Great: are acts more than is gone through. -/
import Derived.Test.YtlinnhaodkiolaaKept
namespace Go.Proofs.Ytlinnhaodkiolaa
open Go.RowKit

/-- what is done with maps -/
structure ActM where
  kind : Nat
  map : Int
  key : ByteArray
  value : ByteArray

def ActM.cells (x : ActM) : List Value := [.int .u8 x.kind, .int .i64 x.map, .string x.key, .string x.value]
def amflat (l : List ActM) : List Value := l.flatMap ActM.cells

theorem am_cells {w : World} {g off : Nat} {l : List ActM} (h : CellsAt w g off (amflat l)) {k : Nat} {x : ActM} (hr : l[k]? = some x) :
    w.cell? ⟨g, off + k * 4, none⟩ = some (.int .u8 x.kind) ∧ w.cell? ⟨g, off + k * 4 + 1, none⟩ = some (.int .i64 x.map) ∧ w.cell? ⟨g, off + k * 4 + 2, none⟩ = some (.string x.key) ∧ w.cell? ⟨g, off + k * 4 + 3, none⟩ = some (.string x.value) := by
  have key : ∀ (l : List ActM) (k : Nat) x, l[k]? = some x → (amflat l)[k * 4]? = some (.int .u8 x.kind) ∧ (amflat l)[k * 4 + 1]? = some (.int .i64 x.map) ∧ (amflat l)[k * 4 + 2]? = some (.string x.key) ∧ (amflat l)[k * 4 + 3]? = some (.string x.value) := by
    intro l
    induction l with
    | nil => intro k x hx; simp at hx
    | cons y l ih =>
      intro k x hx
      cases k with
      | zero =>
        simp at hx
        subst hx
        simp [amflat, ActM.cells]
      | succ k =>
        have := ih k x (by simpa using hx)
        rw [show (k + 1) * 4 = k * 4 + 1 + 1 + 1 + 1 by omega]
        simpa [amflat, ActM.cells] using this
  obtain ⟨a, b, c, d⟩ := key l k x hr
  exact ⟨h _ _ a, h _ _ b, h _ _ c, h _ _ d⟩

def ActM.big (x : ActM) : Bool := decide (100 < x.key.size ∨ 100 < x.value.size)

def ActsIn (w : World) (v : Value) (l : List ActM) : Prop := (l = [] ∧ ∃ a c, v = .slice a 0 c) ∨ ∃ g off cap, v = .slice (some ⟨g, off, none⟩) l.length cap ∧ CellsAt w g off (amflat l)

theorem ActsIn.fr {w w' : World} {v : Value} {l : List ActM} (h : ActsIn w v l) (hf : Fr No w w') : ActsIn w' v l := by
  rcases h with h | ⟨g, off, cap, rfl, hc⟩
  · exact .inl h
  · exact .inr ⟨g, off, cap, rfl, hf.cells hc id⟩

def greatB (l : List ActM) (most : Int) : Bool := l.any ActM.big || decide (most < (l.length : Int))

set_option maxHeartbeats 1000000 in
theorem great8_walk (g off n cap : Nat) (l : List ActM) (most : Int) (w : World) (hn : l.length = n) (hm : n ≤ 1000000) (hc : CellsAt w g off (amflat l)) :
    Calls Try.prog 16 #[.slice (some ⟨g, off, none⟩) n cap, .int .i64 most] w fun e w' => e = .returned (.bool (greatB l most)) ∧ w = w' := by
  have HC := Lib.hid hc
  have HN := Lib.hid hn
  clear hc hn
  go_enter Try.func16, Try.ntmps16
  go_wp2_with fail
  go_loop [5] (fun i => ∃ k : Nat, k ≤ n ∧ i = .int .i64 k ∧ Hid (∀ (j : Nat) x, j < k → l[j]? = some x → x.big = false)) (fun i => n - (intOf i).toNat)
  case atStart => exact ⟨0, Nat.zero_le _, rfl, fun j _ h => absurd h (Nat.not_lt_zero _)⟩
  case round =>
    obtain ⟨k, hk, rfl, HJ⟩ := hrel
    by_cases hlt : k < n
    · obtain ⟨x, hx⟩ : ∃ x, l[k]? = some x := ⟨l[k]'(by rw [HN.out]; exact hlt), List.getElem?_eq_getElem _⟩
      obtain ⟨k0, k1, k2, k3⟩ := am_cells HC.out hx
      have HX := Lib.hid hx
      have hbig : Hid (x.big = true → greatB l most = true) := Lib.hid fun hb => by
        have : l.any ActM.big = true := by
          rw [List.any_eq_true]
          exact ⟨x, List.mem_of_getElem? HX.out, hb⟩
        unfold greatB
        rw [this]; rfl
      obtain ⟨kl, hkl⟩ : ∃ kl, x.key.size = kl := ⟨_, rfl⟩
      obtain ⟨vl, hvl⟩ : ∃ vl, x.value.size = vl := ⟨_, rfl⟩
      have HB : Hid (x.big = decide (100 < kl ∨ 100 < vl)) := Lib.hid (by unfold ActM.big; rw [hkl, hvl])
      have HXX : Hid (∀ j y, j < k + 1 → l[j]? = some y → x.big = false → y.big = false) := fun j y hj hy hb => by
        by_cases e : j = k
        · subst e
          rw [HX.out] at hy
          obtain rfl := Option.some.inj hy
          exact hb
        · exact HJ.out j y (by omega) hy
      generalize hK : x.key = K at *
      generalize hV : x.value = V at *
      clear hx hK hV
      by_cases c1 : 100 < kl
      · have HG : Hid (greatB l most = true) := hbig.out (by rw [HB.out]; simp [c1])
        go_wp2_with fail
        go_ret
        exact ⟨by rw [HG.out]; rfl, rfl⟩
      · by_cases c2 : 100 < vl
        · have HG : Hid (greatB l most = true) := hbig.out (by rw [HB.out]; simp [c2])
          go_wp2_with fail
          go_ret
          exact ⟨by rw [HG.out]; rfl, rfl⟩
        · have HJ2 : Hid (∀ (j : Nat) y, j < k + 1 → l[j]? = some y → y.big = false) := fun j y hj hy => HXX.out j y hj hy (by rw [HB.out]; simp; omega)
          go_wp2_with fail
          go_round
          case rel => exact ⟨k + 1, by omega, by go_num, HJ2⟩
          case measure => simp [intOf] <;> omega
    · obtain rfl : k = n := by omega
      have HG : Hid (greatB l most = decide (most < (k : Int))) := Lib.hid (by
        have : l.any ActM.big = false := by
          rw [List.any_eq_false]
          intro x hx
          obtain ⟨j, hj, rfl⟩ := List.getElem_of_mem hx
          have := HJ.out j _ (by rw [← HN.out]; exact hj) (List.getElem?_eq_getElem hj)
          rw [this]; simp
        unfold greatB
        rw [this, HN.out]
        rfl)
      go_wp2_with fail
      go_ret
      exact ⟨by rw [HG.out]; rfl, rfl⟩

set_option maxHeartbeats 400000 in
theorem great8_zero (a : Option Addr) (c : Nat) (most : Int) (w : World) :
    Calls Try.prog 16 #[.slice a 0 c, .int .i64 most] w fun e w' => e = .returned (.bool (decide (most < 0))) ∧ w = w' := by
  go_enter Try.func16, Try.ntmps16
  go_wp2_with fail
  refine wp_loop_rounds 1 ?_
  rw [rounds_succ]
  go_wp2_with fail
  go_ret
  exact ⟨rfl, rfl⟩

theorem great8_any (v : Value) (l : List ActM) (most : Int) (w : World) (h : ActsIn w v l) (hm : l.length ≤ 1000000) :
    Calls Try.prog 16 #[v, .int .i64 most] w fun e w' => e = .returned (.bool (greatB l most)) ∧ w = w' := by
  rcases h with ⟨rfl, a, c, rfl⟩ | ⟨g, off, cap, rfl, hc⟩
  · exact great8_zero a c most w
  · exact great8_walk g off l.length cap l most w rfl hm hc

end Go.Proofs.Ytlinnhaodkiolaa
