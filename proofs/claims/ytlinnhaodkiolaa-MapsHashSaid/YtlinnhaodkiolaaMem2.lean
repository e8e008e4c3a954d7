/- memory: at. -/
import Derived.Test.YtlinnhaodkiolaaMem1
namespace Go.Proofs.Ytlinnhaodkiolaa
open Go.RowKit

/-- what the search of 'at' says -/
def Searched (w : World) (b : Nat) (addr : Int) (L r : Nat) : Prop :=
    Calls Try.prog 42 #[.int .i64 L, .func (.func 43) #[] #[.pointer (some ⟨w.heap.size, 0, none⟩), .pointer (some ⟨w.heap.size + 1, 0, none⟩)]] (atWorld w b addr)
      fun e w' => e = .returned (.int .i64 (r : Int)) ∧ ∃ q, w' = (atWorld w b addr).drewN q

set_option maxHeartbeats 400000 in
theorem at_walk (w : World) (b bl L cap c g dcap len f k : Nat) (addr base : Int) (free : Bool) (hb : b < w.heap.size)
    (hs : Searched w b addr L (c + 1)) (hcl : c < L) (hn : L ≤ 4611686018427387904)
    (h1 : w.cell? ⟨b, 1, none⟩ = some (.slice (some ⟨bl, 0, none⟩) L cap))
    (c0 : w.cell? ⟨bl, c * 3, none⟩ = some (.int .u64 base)) (c1 : w.cell? ⟨bl, c * 3 + 1, none⟩ = some (.slice (some ⟨g, 0, none⟩) len dcap)) (c2 : w.cell? ⟨bl, c * 3 + 2, none⟩ = some (.bool free))
    (e1 : IntKind.u64.wrap (addr - base) = f) (e2 : IntKind.u64.wrap (len : Int) = len) (e3 : IntKind.u64.wrap ((len : Int) - f) = len - f) (e4 : IntKind.u64.wrap (k : Int) = k)
    (hk : 1 ≤ k) (hfk : f + k ≤ len) (hcap : len ≤ dcap) :
    Calls Try.prog 29 #[.pointer (some ⟨b, 0, none⟩), .int .u64 addr, .int .i64 k] w fun e w' =>
      e = .returned (.tuple #[.slice (some ⟨g, f, none⟩) k k, .bool free]) ∧ Fr No w w' := by
  have HF : Hid _ := Fr.atWorld w b addr
  have g1 : ¬ ((len : Int) < f) := by omega
  have g2 : ¬ ((len : Int) - f < k) := by omega
  have g3 : (c : Int) < L := by omega
  have g4 : ¬ dcap = f := by omega
  go_enter Try.func29, Try.ntmps29
  go_wp2_with fail
  change Calls _ _ _ (atWorld w b addr) _
  refine (show Calls _ _ _ _ _ from hs).mono ?_
  rintro e w3 ⟨rfl, q, hw3⟩
  have k0 : w3.cell? ⟨w.heap.size, 0, none⟩ = some (.pointer (some ⟨b, 0, none⟩)) := by rw [hw3]; exact atWorld_0 w b addr
  have k1 : w3.cell? ⟨w.heap.size + 1, 0, none⟩ = some (.int .u64 addr) := by rw [hw3]; exact atWorld_1 w b addr
  have k2 : w3.cell? ⟨b, 1, none⟩ = some (.slice (some ⟨bl, 0, none⟩) L cap) := by rw [hw3]; exact cell_atWorld _ _ _ _ _ h1
  have k3 : w3.cell? ⟨bl, c * 3, none⟩ = some (.int .u64 base) := by rw [hw3]; exact cell_atWorld _ _ _ _ _ c0
  have k4 : w3.cell? ⟨bl, c * 3 + 1, none⟩ = some (.slice (some ⟨g, 0, none⟩) len dcap) := by rw [hw3]; exact cell_atWorld _ _ _ _ _ c1
  have k5 : w3.cell? ⟨bl, c * 3 + 2, none⟩ = some (.bool free) := by rw [hw3]; exact cell_atWorld _ _ _ _ _ c2
  have HW : Hid (Fr No w w3) := by rw [hw3]; exact HF.out.drewN q
  have hsz : w.heap.size + 1 < w3.heap.size := by rw [hw3]; show _ < (atWorld w b addr).heap.size; simp [atWorld]
  clear hw3 h1 c0 c1 c2 hs HF
  go_wp2_with fail
  have q1 : (f : Int) ≤ len := by omega
  have q2 : (k : Int) ≤ (dcap : Int) - f := by omega
  have q3 : (k : Int) ≤ ((dcap - f : Nat) : Int) := by omega
  go_quiet (fail)
  go_wp2
  go_ret2
  exact ⟨rfl, (HW.out.alloc _).drewN _⟩

set_option maxHeartbeats 400000 in
theorem at_miss (w : World) (b bl L cap c g dcap len f k : Nat) (addr base : Int) (free : Bool) (hb : b < w.heap.size)
    (hs : Searched w b addr L (c + 1)) (hcl : c < L) (hn : L ≤ 4611686018427387904)
    (h1 : w.cell? ⟨b, 1, none⟩ = some (.slice (some ⟨bl, 0, none⟩) L cap))
    (c0 : w.cell? ⟨bl, c * 3, none⟩ = some (.int .u64 base)) (c1 : w.cell? ⟨bl, c * 3 + 1, none⟩ = some (.slice (some ⟨g, 0, none⟩) len dcap)) (c2 : w.cell? ⟨bl, c * 3 + 2, none⟩ = some (.bool free))
    (e1 : IntKind.u64.wrap (addr - base) = f) (e2 : IntKind.u64.wrap (len : Int) = len) (e3 : f ≤ len → IntKind.u64.wrap ((len : Int) - f) = len - f) (e4 : IntKind.u64.wrap (k : Int) = k)
    (hfk : len < f ∨ (f ≤ len ∧ len < f + k)) :
    Calls Try.prog 29 #[.pointer (some ⟨b, 0, none⟩), .int .u64 addr, .int .i64 k] w fun e w' =>
      e = .returned (.tuple #[.slice none 0 0, .bool false]) ∧ Fr No w w' := by
  rcases hfk with hfk | ⟨hf1, hfk⟩
  · have HF : Hid _ := Fr.atWorld w b addr
    have g1 : len < f := hfk
    clear e3 e4
    have g3 : (c : Int) < L := by omega
    go_enter Try.func29, Try.ntmps29
    go_wp2_with fail
    change Calls _ _ _ (atWorld w b addr) _
    refine (show Calls _ _ _ _ _ from hs).mono ?_
    rintro e w3 ⟨rfl, q, hw3⟩
    have k0 : w3.cell? ⟨w.heap.size, 0, none⟩ = some (.pointer (some ⟨b, 0, none⟩)) := by rw [hw3]; exact atWorld_0 w b addr
    have k1 : w3.cell? ⟨w.heap.size + 1, 0, none⟩ = some (.int .u64 addr) := by rw [hw3]; exact atWorld_1 w b addr
    have k2 : w3.cell? ⟨b, 1, none⟩ = some (.slice (some ⟨bl, 0, none⟩) L cap) := by rw [hw3]; exact cell_atWorld _ _ _ _ _ h1
    have k3 : w3.cell? ⟨bl, c * 3, none⟩ = some (.int .u64 base) := by rw [hw3]; exact cell_atWorld _ _ _ _ _ c0
    have k4 : w3.cell? ⟨bl, c * 3 + 1, none⟩ = some (.slice (some ⟨g, 0, none⟩) len dcap) := by rw [hw3]; exact cell_atWorld _ _ _ _ _ c1
    have k5 : w3.cell? ⟨bl, c * 3 + 2, none⟩ = some (.bool free) := by rw [hw3]; exact cell_atWorld _ _ _ _ _ c2
    have HW : Hid (Fr No w w3) := by rw [hw3]; exact HF.out.drewN q
    have hsz : w.heap.size + 1 < w3.heap.size := by rw [hw3]; show _ < (atWorld w b addr).heap.size; simp [atWorld]
    clear hw3 h1 c0 c1 c2 hs HF
    go_wp2_with fail
    go_ret2
    exact ⟨rfl, HW.out.alloc _⟩
  · have HF : Hid _ := Fr.atWorld w b addr
    have g1 : ¬ (len < f) := by omega
    have g2 : ((len : Int) - f < k) := by omega
    have e3 := e3 (by omega)
    have g3 : (c : Int) < L := by omega
    go_enter Try.func29, Try.ntmps29
    go_wp2_with fail
    change Calls _ _ _ (atWorld w b addr) _
    refine (show Calls _ _ _ _ _ from hs).mono ?_
    rintro e w3 ⟨rfl, q, hw3⟩
    have k0 : w3.cell? ⟨w.heap.size, 0, none⟩ = some (.pointer (some ⟨b, 0, none⟩)) := by rw [hw3]; exact atWorld_0 w b addr
    have k1 : w3.cell? ⟨w.heap.size + 1, 0, none⟩ = some (.int .u64 addr) := by rw [hw3]; exact atWorld_1 w b addr
    have k2 : w3.cell? ⟨b, 1, none⟩ = some (.slice (some ⟨bl, 0, none⟩) L cap) := by rw [hw3]; exact cell_atWorld _ _ _ _ _ h1
    have k3 : w3.cell? ⟨bl, c * 3, none⟩ = some (.int .u64 base) := by rw [hw3]; exact cell_atWorld _ _ _ _ _ c0
    have k4 : w3.cell? ⟨bl, c * 3 + 1, none⟩ = some (.slice (some ⟨g, 0, none⟩) len dcap) := by rw [hw3]; exact cell_atWorld _ _ _ _ _ c1
    have k5 : w3.cell? ⟨bl, c * 3 + 2, none⟩ = some (.bool free) := by rw [hw3]; exact cell_atWorld _ _ _ _ _ c2
    have HW : Hid (Fr No w w3) := by rw [hw3]; exact HF.out.drewN q
    have hsz : w.heap.size + 1 < w3.heap.size := by rw [hw3]; show _ < (atWorld w b addr).heap.size; simp [atWorld]
    clear hw3 h1 c0 c1 c2 hs HF
    go_wp2_with fail
    go_ret2
    exact ⟨rfl, HW.out.alloc _⟩

/-- what 'at' returns -/
def AtPost (l : List HReg) (addr n : Int) (e : Ending) : Prop :=
  match spot (l.map (·.r)) addr n with
  | none => e = .returned (.tuple #[.slice none 0 0, .bool false])
  | some i => ∃ x, l[i]? = some x ∧ e = .returned (.tuple #[.slice (some ⟨x.g, (addr - x.r.base).toNat, none⟩) n.toNat n.toNat, .bool x.r.free])

theorem at_any {S : Nat → Prop} {w : World} {b : Nat} {v : Value} {l : List HReg} (h : MemL w b v l S) (addr n : Int) (ha : 0 ≤ addr) (h64 : addr ≤ 18446744073709551615) (h1 : 1 ≤ n) (h63 : n ≤ 9223372036854775807) :
    Calls Try.prog 29 #[.pointer (some ⟨b, 0, none⟩), .int .u64 addr, .int .i64 n] w fun e w' => AtPost l addr n e ∧ Fr No w w' := by
  have hm := h.wf.many
  rw [List.length_map] at hm
  have hsp := spot_eq h.wf addr n h1
  have hcl := cnt_le (l.map (·.r)) addr
  rw [List.length_map] at hcl
  rcases Nat.eq_zero_or_pos (cnt (l.map (·.r)) addr) with hc | hc
  · rw [dif_neg (by omega)] at hsp
    refine (at_none0 h addr n hm hc).mono ?_
    rintro e w' ⟨rfl, hf⟩
    exact ⟨by unfold AtPost; rw [hsp], hf⟩
  · obtain ⟨c, hc'⟩ : ∃ c, cnt (l.map (·.r)) addr = c + 1 := ⟨_, (Nat.succ_pred_eq_of_pos hc).symm⟩
    rw [dif_pos hc] at hsp
    have hcL : c < l.length := by omega
    have hx : (l.map (·.r))[cnt (l.map (·.r)) addr - 1]'(by rw [List.length_map]; omega) = l[c].r := by simp [hc']
    rw [hx] at hsp
    have hbase : l[c].r.base ≤ addr := by
      have := (cnt_spec h.wf addr c (by rw [List.length_map]; exact hcL)).2 (by omega)
      simpa using this
    have hok := h.wf.ok l[c].r (List.mem_map_of_mem (List.getElem_mem hcL))
    have hlow := hok.low
    have hsm := hok.small
    have hcap := (h.here l[c] (List.getElem_mem hcL)).cap
    obtain ⟨bl, cap, hv, hbl, c0, c1, c2⟩ := h.list.reg c hcL
    have hcell := h.cell
    rw [hv] at hcell
    have hs : Searched w b addr l.length (c + 1) := by
      have := search_cnt h addr hm
      rw [hc'] at this
      exact this
    obtain ⟨k, rfl⟩ := Int.eq_ofNat_of_zero_le (show 0 ≤ n by omega)
    obtain ⟨f, hf⟩ : ∃ f : Nat, addr - l[c].r.base = f := ⟨(addr - l[c].r.base).toNat, by omega⟩
    have e1 : IntKind.u64.wrap (addr - l[c].r.base) = f := by rw [u64_sub _ _ hbase hlow h64, hf]
    have e2 : IntKind.u64.wrap (l[c].r.data.length : Int) = l[c].r.data.length := IntWalk.u64_in _ (by omega)
    have e3 : f ≤ l[c].r.data.length → IntKind.u64.wrap ((l[c].r.data.length : Int) - f) = l[c].r.data.length - f := fun hh => u64_sub _ _ (by omega) (by omega) (by omega)
    have e4 : IntKind.u64.wrap (k : Int) = k := IntWalk.u64_in _ (by omega)
    by_cases hh : l[c].r.has addr k = true
    · rw [if_pos hh] at hsp
      have hh' : l[c].r.base ≤ addr ∧ addr + (k : Int) ≤ l[c].r.base + (l[c].r.data.length : Int) := (Reg.has_iff _ _ _).1 hh
      have hfl : f + k ≤ l[c].r.data.length := by clear e1 e2 e3 e4; omega
      refine (at_walk w b bl l.length cap c l[c].g l[c].cap l[c].r.data.length f k addr l[c].r.base l[c].r.free h.lt hs hcL hm hcell c0 c1 c2 e1 e2 (e3 (by omega)) e4 (by omega) hfl hcap).mono ?_
      rintro e w' ⟨rfl, hfr⟩
      refine ⟨?_, hfr⟩
      unfold AtPost
      rw [hsp]
      refine ⟨l[c], by rw [hc']; simp [hcL], ?_⟩
      rw [hf]
      rfl
    · rw [if_neg hh] at hsp
      have hh' : ¬ (l[c].r.base ≤ addr ∧ addr + (k : Int) ≤ l[c].r.base + (l[c].r.data.length : Int)) := fun h' => hh ((Reg.has_iff _ _ _).2 h')
      have hfl : l[c].r.data.length < f ∨ (f ≤ l[c].r.data.length ∧ l[c].r.data.length < f + k) := by clear e1 e2 e3 e4; omega
      refine (at_miss w b bl l.length cap c l[c].g l[c].cap l[c].r.data.length f k addr l[c].r.base l[c].r.free h.lt hs hcL hm hcell c0 c1 c2 e1 e2 e3 e4 hfl).mono ?_
      rintro e w' ⟨rfl, hfr⟩
      exact ⟨by unfold AtPost; rw [hsp], hfr⟩

end Go.Proofs.Ytlinnhaodkiolaa
