/- memory: what its reading functions compute. -/
import Derived.Test.YtlinnhaodkiolaaMem0
import Derived.Test.YtlinnhaodkiolaaNums
namespace Go.Proofs.Ytlinnhaodkiolaa
open Go.RowKit

set_option maxHeartbeats 400000 in
theorem at1_any (bx ba b bl cap n i : Nat) (base addr : Int) (w : World) (hi : i < n) (hn : n ≤ 4611686018427387904)
    (h1 : w.cell? ⟨bx, 0, none⟩ = some (.pointer (some ⟨b, 0, none⟩))) (h2 : w.cell? ⟨b, 1, none⟩ = some (.slice (some ⟨bl, 0, none⟩) n cap))
    (h3 : w.cell? ⟨bl, i * 3, none⟩ = some (.int .u64 base)) (h4 : w.cell? ⟨ba, 0, none⟩ = some (.int .u64 addr)) :
    Calls Try.prog 43 #[.int .i64 i, .pointer (some ⟨bx, 0, none⟩), .pointer (some ⟨ba, 0, none⟩)] w fun e w' => e = .returned (.bool (decide (addr < base))) ∧ ∃ q, w' = w.drewN q := by
  have hin : (i : Int) < (n : Int) := by omega
  go_enter Try.func43, Try.ntmps43
  go_wp2
  go_quiet (fail)
  go_wp2
  go_ret
  exact ⟨rfl, _, rfl⟩


def SearchPost (p : Nat → Bool) (n : Nat) (w : World) (e : Ending) (w' : World) : Prop :=
  ∃ r q : Nat, e = .returned (.int .i64 (r : Int)) ∧ w' = w.drewN q ∧ r ≤ n ∧ (∀ t, t < r → p t = false) ∧ (∀ t, r ≤ t → t < n → p t = true)

set_option maxHeartbeats 400000 in
theorem search_any (cb : Array Value) (n : Nat) (p : Nat → Bool) (w : World) (hn : n ≤ 4611686018427387904) (hmono : ∀ s t, s ≤ t → t < n → p s = true → p t = true)
    (hf : ∀ q i, i < n → Calls Try.prog 43 (#[.int .i64 (i : Int)] ++ cb) (w.drewN q) fun e w' => e = .returned (.bool (p i)) ∧ ∃ q', w' = (w.drewN q).drewN q') :
    Calls Try.prog 42 #[.int .i64 n, .func (.func 43) #[] cb] w (SearchPost p n w) := by
  have HF := Lib.hid hf
  have M := Lib.hid hmono
  clear hf hmono
  go_enter Try.func42, Try.ntmps42
  go_wp2
  go_loopw [5, 6] (fun s5 s6 wr => ∃ (lo hi q : Nat), s5 = .int .i64 lo ∧ s6 = .int .i64 hi ∧ lo ≤ hi ∧ hi ≤ n ∧ wr = w.drewN q ∧ Hid ((∀ t, t < lo → p t = false) ∧ (∀ t, hi ≤ t → t < n → p t = true))) (fun s5 s6 _ => (intOf s6 - intOf s5).toNat)
  case atStart => exact ⟨0, n, 0, rfl, rfl, Nat.zero_le _, Nat.le_refl _, rfl, (⟨fun t ht => absurd ht (Nat.not_lt_zero _), fun t h1 h2 => by omega⟩ : (∀ t, t < 0 → p t = false) ∧ (∀ t, n ≤ t → t < n → p t = true))⟩
  case round =>
    obtain ⟨lo, hi, q, rfl, rfl, hlh, hin, rfl, I⟩ := hrel
    by_cases hlt : lo < hi
    · have hc := HF.out q ((lo + hi) / 2) (by omega)
      rw [show (((lo + hi) / 2 : Nat) : Int) = ((lo : Int) + (hi : Int)) / 2 by omega] at hc
      cases hp : p ((lo + hi) / 2) <;> rw [hp] at hc
      · have HP := Lib.hid hp; clear hp
        have HC := Lib.hid hc; clear hc
        go_wp2_with (go_at_call 43; refine HC.out.mono ?_; rintro e w' ⟨rfl, nq, rfl⟩)
        go_roundw
        case rel =>
          have I2 : Hid ((∀ t, t < (lo + hi) / 2 + 1 → p t = false) ∧ (∀ t, hi ≤ t → t < n → p t = true)) := ⟨fun t ht => (by
            cases h : p t with
            | false => rfl
            | true => have := M.out t ((lo + hi) / 2) (by omega) (by omega) h; rw [HP.out] at this; cases this), I.out.2⟩
          exact ⟨(lo + hi) / 2 + 1, hi, q + nq, by rw [show ((lo : Int) + (hi : Int)) / 2 + 1 = (((lo + hi) / 2 + 1 : Nat) : Int) by omega], rfl, by omega, hin, rfl, I2⟩
        case measure => simp [intOf] <;> omega
      · have HP := Lib.hid hp; clear hp
        have HC := Lib.hid hc; clear hc
        go_wp2_with (go_at_call 43; refine HC.out.mono ?_; rintro e w' ⟨rfl, nq, rfl⟩)
        go_roundw
        case rel =>
          have I2 : Hid ((∀ t, t < lo → p t = false) ∧ (∀ t, (lo + hi) / 2 ≤ t → t < n → p t = true)) := ⟨I.out.1, fun t ht htn => M.out ((lo + hi) / 2) t ht htn HP.out⟩
          exact ⟨lo, (lo + hi) / 2, q + nq, rfl, by rw [show ((lo : Int) + (hi : Int)) / 2 = (((lo + hi) / 2 : Nat) : Int) by omega], by omega, by omega, rfl, I2⟩
        case measure => simp [intOf] <;> omega
    · obtain rfl : hi = lo := by omega
      go_wp2
      go_ret
      exact ⟨hi, q, rfl, rfl, hin, I.out.1, I.out.2⟩


/-- the world of 'at' when it searches -/
def atWorld (w : World) (b : Nat) (addr : Int) : World := (w.alloc (.cells #[.pointer (some ⟨b, 0, none⟩)] 25)).alloc (.cells #[.int .u64 addr] 30)

theorem cell_atWorld (w : World) (b : Nat) (addr : Int) (a : Addr) (v : Value) (h : w.cell? a = some v) : (atWorld w b addr).cell? a = some v := by
  have := World.block_lt_of_cell? w a h
  unfold atWorld
  rw [World.cell?_alloc_lt _ _ _ (by simp; omega), World.cell?_alloc_lt _ _ _ this, h]

theorem atWorld_0 (w : World) (b : Nat) (addr : Int) : (atWorld w b addr).cell? ⟨w.heap.size, 0, none⟩ = some (.pointer (some ⟨b, 0, none⟩)) := by
  unfold atWorld
  rw [World.cell?_alloc_lt _ _ _ (by simp), World.cell?_alloc_new]; rfl
theorem atWorld_1 (w : World) (b : Nat) (addr : Int) : (atWorld w b addr).cell? ⟨w.heap.size + 1, 0, none⟩ = some (.int .u64 addr) := by
  unfold atWorld
  rw [show w.heap.size + 1 = (w.alloc (.cells #[.pointer (some ⟨b, 0, none⟩)] 25)).heap.size by simp, World.cell?_alloc_new]; rfl

theorem ListAt.len_le {w : World} {v : Value} {l : List HReg} (h : ListAt w v l) : ∃ ad cap, v = .slice ad l.length cap := by
  rcases h with ⟨rfl, rfl⟩ | ⟨bl, cap, rfl, _⟩
  · exact ⟨none, 0, rfl⟩
  · exact ⟨_, cap, rfl⟩

theorem search_cnt {S : Nat → Prop} {w : World} {b : Nat} {v : Value} {l : List HReg} (h : MemL w b v l S) (addr : Int) (hn : l.length ≤ 4611686018427387904) :
    Calls Try.prog 42 #[.int .i64 l.length, .func (.func 43) #[] #[.pointer (some ⟨w.heap.size, 0, none⟩), .pointer (some ⟨w.heap.size + 1, 0, none⟩)]] (atWorld w b addr)
      fun e w' => e = .returned (.int .i64 (cnt (l.map (·.r)) addr : Nat)) ∧ ∃ q, w' = (atWorld w b addr).drewN q := by
  have hs := cnt_spec h.wf addr
  simp only [List.length_map, List.getElem_map] at hs
  have hcl := cnt_le (l.map (·.r)) addr
  rw [List.length_map] at hcl
  refine (search_any _ l.length (fun i => decide (cnt (l.map (·.r)) addr ≤ i)) (atWorld w b addr) hn (fun s t hst _ hp => by simp at *; omega) ?_).mono ?_
  · intro q i hi
    obtain ⟨bl, cap, rfl, _, c0, _, _⟩ := h.list.reg i hi
    refine (at1_any w.heap.size (w.heap.size + 1) b bl cap l.length i l[i].r.base addr ((atWorld w b addr).drewN q) hi hn (atWorld_0 w b addr) (cell_atWorld _ _ _ _ _ h.cell) (cell_atWorld _ _ _ _ _ c0) (atWorld_1 w b addr)).mono ?_
    rintro e w' ⟨rfl, q', rfl⟩
    refine ⟨?_, q', rfl⟩
    congr 2
    have := hs i hi
    by_cases hh : l[i].r.base ≤ addr
    · have := this.1 hh
      simp; omega
    · have : ¬ i < cnt (l.map (·.r)) addr := fun hx => hh (this.2 hx)
      simp; omega
  · rintro e w' ⟨r, q, rfl, rfl, hr, h1, h2⟩
    refine ⟨?_, q, rfl⟩
    have e : r = cnt (l.map (·.r)) addr := by
      rcases Nat.lt_trichotomy r (cnt (l.map (·.r)) addr) with hlt | he | hgt
      · have := h2 r (Nat.le_refl _) (by omega)
        simp at this; omega
      · exact he
      · have := h1 _ hgt
        simp at this
    rw [e]


theorem Fr.atWorld (w : World) (b : Nat) (addr : Int) : Fr No w (atWorld w b addr) := ((Fr.refl No w).alloc _).alloc _

/-- u64's minus and int's reading as u64, in bounds -/
theorem u64_sub (x y : Int) (h : y ≤ x) (h0 : 0 ≤ y) (h1 : x ≤ 18446744073709551615) : IntKind.u64.wrap (x - y) = x - y := IntWalk.u64_in _ (by omega)

set_option maxHeartbeats 400000 in
theorem at_none0 {S : Nat → Prop} {w : World} {b : Nat} {v : Value} {l : List HReg} (h : MemL w b v l S) (addr n : Int) (hn : l.length ≤ 4611686018427387904) (hc : cnt (l.map (·.r)) addr = 0) :
    Calls Try.prog 29 #[.pointer (some ⟨b, 0, none⟩), .int .u64 addr, .int .i64 n] w fun e w' => e = .returned (.tuple #[.slice none 0 0, .bool false]) ∧ Fr No w w' := by
  have hs := search_cnt h addr hn
  rw [hc] at hs
  obtain ⟨ad, cap, hv⟩ := h.list.len_le
  have h1 := h.cell
  have hb := h.lt
  rw [hv] at h1
  generalize hL : l.length = L at h1 hn hs
  have HS := Lib.hid hs
  have HF : Hid _ := Fr.atWorld w b addr
  clear hc hs hv h hL
  go_enter Try.func29, Try.ntmps29
  go_wp2_with (go_at_call 42; change Calls _ _ _ (atWorld w b addr) _; refine HS.out.mono ?_; rintro e w' ⟨rfl, q, rfl⟩)
  go_ret2
  exact ⟨rfl, HF.out.drewN q⟩

end Go.Proofs.Ytlinnhaodkiolaa
