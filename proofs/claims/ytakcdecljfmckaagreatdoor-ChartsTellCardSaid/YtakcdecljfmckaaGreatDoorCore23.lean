/- firewallref31: what is led to without a block; which block is ahead, plain. firewalllaw31.led. firewallref31: Led, Ahead. -/
import Derived.Test.YtakcdecljfmckaaGreatDoorCore22
import Derived.Test.YtakcdecljfmckaaGreatDoorCore19
set_option linter.all false
set_option linter.unusedVariables false
set_option linter.unusedSimpArgs false
namespace Go.Proofs.YtakcdecljfmckaaGreatDoor
open Go.RowKit

/-- the document's search, midway in a turn: `old` was marked when the turn began -/
structure LedTurn (nx : Nat → List Nat) (N wo : Nat) (old s : List Bool) (i k : Nat) : Prop where
  len : s.length = N
  led : ∀ p, seenP s p → LedTo nx (· = wo) p
  zero : wo ≠ 0 → seenP s 0
  mono : ∀ p, seenP old p → seenP s p
  ch : s = old ∨ unseen s < unseen old
  done : ∀ j, j < i → seenP old j → ∀ n ∈ nx j, n ≠ wo → seenP s n
  part : seenP old i → ∀ (j n : Nat), j < k → (nx i)[j]? = some n → n ≠ wo → seenP s n
/-- what holds ahead of a turn -/
structure LedGo (nx : Nat → List Nat) (N wo : Nat) (s : List Bool) (t : Nat) : Prop where
  len : s.length = N
  led : ∀ p, seenP s p → LedTo nx (· = wo) p
  zero : wo ≠ 0 → seenP s 0
  cnt : (∀ j, seenP s j → ∀ n ∈ nx j, n ≠ wo → seenP s n) ∨ unseen s + t ≤ N
theorem unseen_le (s : List Bool) : unseen s ≤ s.length := List.countP_le_length
theorem LedGo.start {nx : Nat → List Nat} {N wo : Nat} (hN : 0 < N) : LedGo nx N wo ((List.replicate N false).set 0 (decide (wo ≠ 0))) 0 := by
  have hl : ((List.replicate N false).set 0 (decide (wo ≠ 0))).length = N := by simp
  have h0 : ∀ p, seenP ((List.replicate N false).set 0 (decide (wo ≠ 0))) p → p = 0 ∧ wo ≠ 0 := fun p hp => by
    unfold seenP at hp
    by_cases e : p = 0
    · subst e
      rw [List.getElem?_set_self (by simpa using hN)] at hp
      exact ⟨rfl, by simpa using hp⟩
    · rw [List.getElem?_set_ne (Ne.symm e)] at hp
      exact absurd hp (seenP_none N p)
  refine ⟨hl, fun p hp => ?_, fun h => ?_, .inr (by have := unseen_le ((List.replicate N false).set 0 (decide (wo ≠ 0))); omega)⟩
  · obtain ⟨rfl, h⟩ := h0 p hp
    exact .start (fun e => h e.symm)
  · unfold seenP
    rw [List.getElem?_set_self (by simpa using hN)]
    simpa using h
theorem LedGo.go {nx : Nat → List Nat} {N wo : Nat} {s : List Bool} {t : Nat} (h : LedGo nx N wo s t) : LedTurn nx N wo s s 0 0 :=
  ⟨h.len, h.led, h.zero, fun _ h => h, .inl rfl, fun j hj => absurd hj (Nat.not_lt_zero _), fun _ j _ hj => absurd hj (Nat.not_lt_zero _)⟩
theorem LedTurn.next {nx : Nat → List Nat} {N wo : Nat} {old s : List Bool} {i k : Nat} (h : LedTurn nx N wo old s i k) (hk : (nx i).length ≤ k ∨ ¬ seenP s i) : LedTurn nx N wo old s (i + 1) 0 := by
  refine ⟨h.len, h.led, h.zero, h.mono, h.ch, fun j hj hs n hn hw => ?_, fun _ j _ hj => absurd hj (Nat.not_lt_zero _)⟩
  by_cases e : j = i
  · subst e
    rcases hk with hk | hk
    · obtain ⟨q, hq, rfl⟩ := List.getElem_of_mem hn
      exact h.part hs q _ (by omega) (List.getElem?_eq_getElem hq) hw
    · exact absurd (h.mono j hs) hk
  · exact h.done j (by omega) hs n hn hw
theorem LedTurn.skip {nx : Nat → List Nat} {N wo : Nat} {old s : List Bool} {i k n : Nat} (h : LedTurn nx N wo old s i k) (hn : (nx i)[k]? = some n) (hw : n = wo) : LedTurn nx N wo old s i (k + 1) := by
  refine ⟨h.len, h.led, h.zero, h.mono, h.ch, h.done, fun hs j m hj hm hne => ?_⟩
  by_cases e : j = k
  · subst e
    rw [hn] at hm
    exact absurd ((Option.some.inj hm).symm.trans hw) hne
  · exact h.part hs j m (by omega) hm hne
theorem LedTurn.mark {nx : Nat → List Nat} {N wo : Nat} {old s : List Bool} {i k n : Nat} (h : LedTurn nx N wo old s i k) (hs : seenP s i) (hn : (nx i)[k]? = some n) (hw : n ≠ wo) (hnN : n < N) : LedTurn nx N wo old (s.set n true) i (k + 1) := by
  have hlt : n < s.length := by rw [h.len]; exact hnN
  have hm : ∀ p, seenP s p → seenP (s.set n true) p := fun p hp => (seenP_set hlt).2 (.inl hp)
  refine ⟨by rw [List.length_set]; exact h.len, fun p hp => ?_, fun hz => hm 0 (h.zero hz), fun p hp => hm p (h.mono p hp), ?_, fun j hj hs n hn hw => hm _ (h.done j hj hs n hn hw), fun ho j m hj hj2 hne => ?_⟩
  · rcases (seenP_set hlt).1 hp with h1 | rfl
    · exact h.led p h1
    · exact .step (h.led i hs) (List.mem_of_getElem? hn) hw
  · cases e : s.getD n true with
    | true =>
      have h1 := (seen_get hlt).1 e
      unfold seenP at h1
      obtain ⟨h2, h3⟩ := List.getElem?_eq_some_iff.1 h1
      have : s.set n true = s := by rw [← h3]; exact List.set_getElem_self h2
      rw [this]
      exact h.ch
    | false =>
      have h1 := unseen_set s n (seen_not hlt e)
      rcases h.ch with h2 | h2
      · right; rw [← h2]; omega
      · right; omega
  · by_cases e : j = k
    · subst e
      rw [hn] at hj2
      obtain rfl := Option.some.inj hj2
      exact (seenP_set hlt).2 (.inr rfl)
    · exact hm _ (h.part ho j m (by omega) hj2 hne)
theorem LedTurn.stop {nx : Nat → List Nat} {N wo : Nat} {old s : List Bool} {t : Nat} (h : LedTurn nx N wo old s N 0) (hg : LedGo nx N wo old t) : LedGo nx N wo s (t + 1) := by
  have hlt : ∀ j, seenP old j → j < N := fun j hj => by rw [← hg.len]; exact (List.getElem?_eq_some_iff.1 hj).1
  refine ⟨h.len, h.led, h.zero, ?_⟩
  rcases hg.cnt with hcl | hcn
  · left
    have key : ∀ p, LedTo nx (· = wo) p → seenP old p := by
      intro p hp
      induction hp with
      | start h0 => exact hg.zero (fun e => h0 e.symm)
      | step hu hv hw ih => exact hcl _ ih _ hv hw
    exact fun j hj n hn hw => h.mono n (hcl j (key j (h.led j hj)) n hn hw)
  · rcases h.ch with rfl | hc
    · exact .inl (fun j hj n hn hw => h.done j (hlt j hj) hj n hn hw)
    · right; omega
theorem unseen_zero : ∀ {s : List Bool}, unseen s = 0 → ∀ p, p < s.length → seenP s p
  | [], _, p, hp => absurd hp (by simp)
  | b :: s, h, p, hp => by
    unfold unseen at h
    rw [List.countP_cons] at h
    cases b with
    | false => simp at h
    | true =>
      cases p with
      | zero => rfl
      | succ p =>
        have := unseen_zero (s := s) (by unfold unseen; omega) p (by simpa using hp)
        unfold seenP at *
        simpa using this
theorem LedGo.end {nx : Nat → List Nat} {N wo : Nat} {s : List Bool} (h : LedGo nx N wo s N) (hnx : ∀ k n, n ∈ nx k → n < N) (p : Nat) : seenP s p ↔ LedTo nx (· = wo) p := by
  refine ⟨h.led p, fun hp => ?_⟩
  have hcl : ∀ j, seenP s j → ∀ n ∈ nx j, n ≠ wo → seenP s n := by
    rcases h.cnt with hc | hc
    · exact hc
    · exact fun j _ n hn _ => unseen_zero (by omega) n (by rw [h.len]; exact hnx j n hn)
  induction hp with
  | start h0 => exact h.zero (fun e => h0 e.symm)
  | step hu hv hw ih => exact hcl _ ih _ hv hw

/-! ### which block is ahead, which is nearest -/
/-- a block is ahead of another one for sure -/
def AheadP (nx : Nat → List Nat) (x y : Nat) : Prop := x ≠ y ∧ ¬ LedTo nx (· = x) y
theorem Doms.ahead {nx : Nat → List Nat} {N : Nat} {d : Nat → Int} (h : Doms nx N d) {x y : Nat} (hy : y < N) : AheadP nx x y ↔ Anc d x y :=
  ⟨fun ha => h.all y x hy ha.1 ha.2, fun ha => ⟨(h.cut y x hy ha).2.1, (h.cut y x hy ha).2.2⟩⟩
/-- a block that the document takes for the nearest one -/
def OkP (nx : Nat → List Nat) (N x y : Nat) : Prop := AheadP nx x y ∧ ∀ z, z < N → z = x ∨ ¬ AheadP nx z y ∨ AheadP nx z x
theorem Doms.ok {nx : Nat → List Nat} {N : Nat} {d : Nat → Int} (h : Doms nx N d) {x y : Nat} (hx : x < N) (hy : y < N) : OkP nx N x y ↔ d y = (x : Int) := by
  constructor
  · rintro ⟨h1, h2⟩
    have ha := (h.ahead hy).1 h1
    cases ha with
    | one he => exact he
    | @more _ u he hu =>
      have h3 := h.cut y u hy (.one he)
      rcases h2 u h3.1 with rfl | h4 | h4
      · exact he
      · exact absurd ((h.ahead hy).2 (.one he)) h4
      · have h5 := (h.ahead hx).1 h4
        exact absurd rfl (h.cut u u h3.1 (h5.trans hu)).2.1
  · intro he
    refine ⟨(h.ahead hy).2 (.one he), fun z hz => ?_⟩
    by_cases hzy : AheadP nx z y
    · rcases ((h.ahead hy).1 hzy).split he with rfl | h3
      · exact .inl rfl
      · exact .inr (.inr ((h.ahead hx).2 h3))
    · exact .inr (.inl hzy)
/-- the nearest one of those below x -/
def nearB (d : Nat → Int) (x y : Nat) : Int := if 0 ≤ d y ∧ d y < (x : Int) then d y else -1
theorem nearB_zero (d : Nat → Int) (y : Nat) : nearB d 0 y = -1 := by unfold nearB; rw [if_neg (by omega)]
theorem nearB_yes {d : Nat → Int} {x y : Nat} (h : d y = (x : Int)) : nearB d (x + 1) y = (x : Int) := by unfold nearB; rw [if_pos (by omega), h]
theorem nearB_no {d : Nat → Int} {x y : Nat} (h : d y ≠ (x : Int)) : nearB d (x + 1) y = nearB d x y := by
  unfold nearB
  by_cases h1 : 0 ≤ d y ∧ d y < (x : Int)
  · rw [if_pos h1, if_pos (by omega)]
  · rw [if_neg h1, if_neg (by omega)]
theorem Doms.near {nx : Nat → List Nat} {N : Nat} {d : Nat → Int} (h : Doms nx N d) {y : Nat} (hy : y < N) : nearB d N y = d y := by
  unfold nearB
  by_cases h0 : y = 0
  · subst h0
    rw [h.root, if_neg (by omega)]
  · obtain ⟨m, h1, h2, -⟩ := h.up y hy h0
    rw [if_pos (by omega)]
theorem Doms.upP {nx : Nat → List Nat} {N : Nat} {d : Nat → Int} (h : Doms nx N d) {n i : Nat} (hi : i < N) : Up d n i ↔ n = i ∨ AheadP nx n i := by
  unfold Up
  rw [h.ahead hi]
end Go.Proofs.YtakcdecljfmckaaGreatDoor

namespace Go.Proofs.YtakcdecljfmckaaGreatDoor
open Go.RowKit

def boolOf (w : World) (g k : Nat) : Bool := match w.cell? ⟨g, k, none⟩ with
  | some (.bool b) => b
  | _ => false
def lenOf : Value → Nat
  | .slice _ n _ => n
  | _ => 0
def unseenW (w : World) (g N : Nat) : Nat := unseen ((List.range N).map (boolOf w g))
theorem SeenAt.count {w : World} {g : Nat} {s : List Bool} (h : SeenAt w g s) : unseenW w g s.length = unseen s := by
  unfold unseenW
  congr 1
  apply List.ext_getElem?
  intro j
  rw [List.getElem?_map]
  by_cases hj : j < s.length
  · rw [List.getElem?_range hj, List.getElem?_eq_getElem hj]
    have h1 := (h j hj).1
    unfold boolOf
    simp only [Option.map_some]
    rw [h1]
    simp [List.getD_eq_getElem?_getD, List.getElem?_eq_getElem hj]
  · rw [List.getElem?_eq_none (by simpa using hj), List.getElem?_eq_none (by omega)]
    rfl
theorem NatsAt.src {w : World} {v : Value} {L : List Nat} (h : NatsAt w v L) : SrcAt w v L.length (i64s L) := by
  rcases h with ⟨rfl, rfl⟩ | ⟨g, c, rfl, hc⟩
  · exact .inl ⟨rfl, rfl, rfl⟩
  · exact .inr ⟨_, _, rfl, fun j v hj => by rw [addr_add]; exact hc j v hj⟩
/-- the blocks that are still to be looked at -/
def TodoAt (gs : Nat) (w : World) (v : Value) (L : List Nat) : Prop := NatsAt w v L ∧ (∀ k, v.ownBlock = some k → k ≠ gs) ∧ ∃ a n c, v = .slice a n c ∧ n ≤ c
theorem TodoAt.fr {gs : Nat} {w w' : World} {v : Value} {L : List Nat} (h : TodoAt gs w v L) (hf : Fr (Isb gs) w w') : TodoAt gs w' v L := ⟨h.1.frS hf (fun k hk e => h.2.1 k hk e), h.2⟩
theorem TodoAt.last {gs : Nat} {w : World} {v : Value} {L : List Nat} {x : Nat} (h : TodoAt gs w v (L ++ [x])) : ∃ g c, v = .slice (some ⟨g, 0, none⟩) (L.length + 1) c ∧ w.cell? ⟨g, L.length, none⟩ = some (.int .i64 (x : Int)) ∧ TodoAt gs w (.slice (some ⟨g, 0, none⟩) L.length c) L ∧ L.length + 1 ≤ c := by
  obtain ⟨h1, h2, a3, n3, c3, h3, h4⟩ := h
  rcases h1 with ⟨h5, _⟩ | ⟨g, c, rfl, hc⟩
  · simp at h5
  · injection h3 with _ h6 h7
    rw [List.length_append] at h6
    simp only [List.length_cons, List.length_nil] at h6
    refine ⟨g, c, by simp, i64_cell hc (by simp), ⟨.inr ⟨g, c, rfl, fun j v hj => ?_⟩, fun k hk => h2 k hk, _, _, _, rfl, by omega⟩, by omega⟩
    refine hc j v ?_
    rw [i64s_snoc, List.getElem?_append_left (List.getElem?_eq_some_iff.1 hj).1]
    exact hj
/-- midway: what is seen is led to, and what it leads to is seen or to be looked at -/
structure LedS (nx : Nat → List Nat) (N : Nat) (wo : Int) (s : List Bool) (L : List Nat) : Prop where
  len : s.length = N
  led : ∀ k, seenP s k → LedTo nx (fun k => (k : Int) = wo) k
  todo : ∀ k ∈ L, k < N ∧ (¬ (k : Int) = wo → LedTo nx (fun k => (k : Int) = wo) k)
  zero : seenP s 0 ∨ 0 ∈ L ∨ (0 : Int) = wo
  next : ∀ k, seenP s k → ∀ n ∈ nx k, seenP s n ∨ n ∈ L ∨ (n : Int) = wo
theorem LedS.start {nx : Nat → List Nat} {N : Nat} {wo : Int} (hN : 0 < N) : LedS nx N wo (List.replicate N false) [0] := by
  have hs : ∀ k, ¬ seenP (List.replicate N false) k := fun k h => by unfold seenP at h; rw [List.getElem?_replicate] at h; split at h <;> simp at h
  exact ⟨by simp, fun k h => absurd h (hs k), fun k h => by rw [List.mem_singleton.1 h]; exact ⟨hN, fun h => .start (by simpa using h)⟩, .inr (.inl (by simp)), fun k h => absurd h (hs k)⟩
theorem LedS.skip {nx : Nat → List Nat} {N : Nat} {wo : Int} {s : List Bool} {L : List Nat} {x : Nat} (h : LedS nx N wo s (L ++ [x])) (hx : seenP s x ∨ (x : Int) = wo) : LedS nx N wo s L := by
  refine ⟨h.len, h.led, fun k hk => h.todo k (List.mem_append_left _ hk), ?_, fun k hk n hn => ?_⟩
  · rcases h.zero with h1 | h1 | h1
    · exact .inl h1
    · rcases List.mem_append.1 h1 with h1 | h1
      · exact .inr (.inl h1)
      · have : x = 0 := (List.mem_singleton.1 h1).symm
        subst this
        rcases hx with h2 | h2
        · exact .inl h2
        · exact .inr (.inr (by simpa using h2))
    · exact .inr (.inr h1)
  · rcases h.next k hk n hn with h1 | h1 | h1
    · exact .inl h1
    · rcases List.mem_append.1 h1 with h1 | h1
      · exact .inr (.inl h1)
      · have : x = n := (List.mem_singleton.1 h1).symm
        subst this
        rcases hx with h2 | h2
        · exact .inl h2
        · exact .inr (.inr h2)
    · exact .inr (.inr h1)
theorem LedS.mark {nx : Nat → List Nat} {N : Nat} {wo : Int} {s : List Bool} {L : List Nat} {x : Nat} (h : LedS nx N wo s (L ++ [x])) (hw : ¬ (x : Int) = wo) (hnx : ∀ n ∈ nx x, n < N) : LedS nx N wo (s.set x true) (L ++ nx x) := by
  have hxN := (h.todo x (by simp)).1
  have hxl : x < s.length := by rw [h.len]; exact hxN
  have hled := (h.todo x (by simp)).2 hw
  refine ⟨by rw [List.length_set]; exact h.len, fun k hk => ?_, fun k hk => ?_, ?_, fun k hk n hn => ?_⟩
  · rcases (seenP_set hxl).1 hk with h1 | rfl
    · exact h.led k h1
    · exact hled
  · rcases List.mem_append.1 hk with hk | hk
    · exact h.todo k (List.mem_append_left _ hk)
    · exact ⟨hnx k hk, fun hw2 => .step hled hk hw2⟩
  · rcases h.zero with h1 | h1 | h1
    · exact .inl ((seenP_set hxl).2 (.inl h1))
    · rcases List.mem_append.1 h1 with h1 | h1
      · exact .inr (.inl (List.mem_append_left _ h1))
      · exact .inl ((seenP_set hxl).2 (.inr (List.mem_singleton.1 h1)))
    · exact .inr (.inr h1)
  · rcases (seenP_set hxl).1 hk with h1 | rfl
    · rcases h.next k h1 n hn with h2 | h2 | h2
      · exact .inl ((seenP_set hxl).2 (.inl h2))
      · rcases List.mem_append.1 h2 with h2 | h2
        · exact .inr (.inl (List.mem_append_left _ h2))
        · exact .inl ((seenP_set hxl).2 (.inr (List.mem_singleton.1 h2)))
      · exact .inr (.inr h2)
    · exact .inr (.inl (List.mem_append_right _ hn))
theorem LedS.end {nx : Nat → List Nat} {N : Nat} {wo : Int} {s : List Bool} (h : LedS nx N wo s []) (k : Nat) : seenP s k ↔ LedTo nx (fun k => (k : Int) = wo) k := by
  refine ⟨h.led k, fun hl => ?_⟩
  induction hl with
  | start h0 =>
    rcases h.zero with h1 | h1 | h1
    · exact h1
    · simp at h1
    · exact absurd h1 (by simpa using h0)
  | step hu hv hw ih =>
    rcases h.next _ ih _ hv with h1 | h1 | h1
    · exact h1
    · simp at h1
    · exact absurd h1 hw
end Go.Proofs.YtakcdecljfmckaaGreatDoor

namespace Go.Proofs.YtakcdecljfmckaaGreatDoor
open Go.RowKit

theorem SeenAt.setB {w : World} {g : Nat} {s : List Bool} (h : SeenAt w g s) {k : Nat} (hk : k < s.length) (b : Bool) : SeenAt (w.setCell ⟨g, k, none⟩ (.bool b)) g (s.set k b) := by
  have := BoolsAt.set h hk b
  intro j hj
  rw [List.length_set] at hj
  obtain ⟨h1, h2⟩ := this j hj
  refine ⟨?_, h2⟩
  rw [h1]
  refine congrArg (fun b => some (Value.bool b)) ?_
  show (if j = k then b else s.getD j true) = (s.set k b).getD j true
  rw [List.getD_eq_getElem?_getD, List.getD_eq_getElem?_getD]
  by_cases e : j = k
  · subst e
    rw [if_pos rfl, List.getElem?_set_self hj]
    rfl
  · rw [if_neg e, List.getElem?_set_ne (Ne.symm e)]
theorem seenAt_new (w : World) (N : Nat) (t : TypeId) : SeenAt (w.alloc (.cells (Array.replicate N (.bool false)) t)) w.heap.size (List.replicate N false) := by
  have eR : (Array.replicate N (Value.bool false)) = (List.replicate N (Value.bool false)).toArray := by simp
  have hb := BoolsAt.new w N t
  rw [← eR] at hb
  intro k hk
  rw [List.length_replicate] at hk
  obtain ⟨m1, m2⟩ := hb k hk
  refine ⟨?_, m2⟩
  rw [m1]
  refine congrArg (fun b => some (Value.bool b)) ?_
  show false = (List.replicate N false).getD k true
  rw [List.getD_eq_getElem?_getD, List.getElem?_replicate, if_pos hk]
  rfl
/-- the row that Led tells -/
def LedRow (nx : Nat → List Nat) (N wo : Nat) (g : Nat) (w' : World) : Prop := ∃ s, SeenAt w' g s ∧ s.length = N ∧ ∀ p, seenP s p ↔ LedTo nx (· = wo) p

set_option maxRecDepth 100000 in
set_option maxHeartbeats 4000000 in
theorem rled_any (bs : List Blk) (bv : Value) (wo : Nat) (w : World) (hv : BlksAt w bv bs) (hG : Graph bs) :
    Calls Tryz.prog 69 #[bv, .int .i64 (wo : Int)] w fun e w' => ∃ g, e = .returned (.slice (some ⟨g, 0, none⟩) bs.length bs.length) ∧ LedRow (nxM bs) bs.length wo g w' ∧ Fr No w w' := by
  obtain ⟨gb, cb, rfl, hbk⟩ := hv
  have HBK := Lib.hid hbk
  have HG := Lib.hid hG
  unfold LedRow
  have hpos := hG.pos
  have hlen := hG.len
  have HNX : Hid (∀ k n, n ∈ nxM bs k → n < bs.length) := hG.nx
  have HN2 : Hid (∀ k, (nxM bs k).length ≤ 2) := hG.n2
  obtain ⟨N, hN⟩ : ∃ N, bs.length = N := ⟨_, rfl⟩
  rw [hN] at hpos hlen HNX ⊢
  have HN := Lib.hid hN
  have HPL := Lib.hid (And.intro hpos hlen)
  have hmk := fun W => make_bools N (by omega) W
  have q0 : ((wo : Int) != 0) = decide (wo ≠ 0) := by rw [Bool.eq_iff_iff]; simp
  have HGO0 := Lib.hid (LedGo.start (nx := nxM bs) (wo := wo) hpos)
  have HNB : Hid (∀ k b, bs[k]? = some b → nxM bs k = b.next) := fun k b hb => by unfold nxM; rw [List.getD_eq_getElem?_getD, hb]; rfl
  have hr1 : (0 : Int) < (N : Int) := by omega
  clear hbk hG hN
  obtain ⟨nx, hnx⟩ : ∃ nx, nxM bs = nx := ⟨_, rfl⟩
  rw [hnx] at HNX HN2 HGO0 HNB ⊢
  clear hnx
  obtain ⟨zb, hzb⟩ : ∃ zb, decide (wo ≠ 0) = zb := ⟨_, rfl⟩
  rw [hzb] at q0 HGO0
  have HS0 := Lib.hid (seenAt_new w N 4)
  have k0 := (HS0.out 0 (by rw [List.length_replicate]; exact hpos)).1
  have k1 := (HS0.out 0 (by rw [List.length_replicate]; exact hpos)).2
  have HFA : Hid (Fr No w (w.alloc (.cells (Array.replicate N (.bool false)) 4))) := (Fr.refl _ _).alloc _
  have HPOS := Lib.hid hpos
  generalize ((List.replicate N false).getD 0 true) = yb at k0
  clear hzb hpos hlen
  go_enter Tryz.func69, Tryz.ntmps69
  go_upto_region 2 with fail
  clear hmk
  generalize w.alloc (.cells (Array.replicate N (.bool false)) 4) = W0 at *
  obtain ⟨gs, hgs⟩ : ∃ gs, w.heap.size = gs := ⟨_, rfl⟩
  have HGS : Hid (w.heap.size ≤ gs) := Nat.le_of_eq hgs
  rw [hgs] at HS0 k0 k1 ⊢
  clear hgs
  have HS1 := Lib.hid (HS0.out.setB (k := 0) (by rw [List.length_replicate]; exact HPOS.out) zb)
  have HF1 : Hid (Fr No w (W0.setCell ⟨gs, 0, none⟩ (.bool zb))) := ((HFA.out.any.trans (((Fr.refl (Isb gs) W0).setB _ _).mono fun k _ hk => by rw [show k = gs from hk]; exact HGS.out)) : Fr (From w) w _).ours
  go_upto_region 3 with fail
  clear k0 k1 HS0 HFA
  generalize W0.setCell ⟨gs, 0, none⟩ (.bool zb) = W1 at *
  go_wp2_with fail
  have HOWN : Hid (∀ W W', Fr No w W → Fr (Isb gs) W W' → Fr No w W') := fun W W' h1 h2 => ((h1.any.trans (h2.mono fun k _ hk => by rw [show k = gs from hk]; exact HGS.out)) : Fr (From w) w W').ours
  go_loopw [6] (fun tv wr => ∃ (t : Nat) (s : List Bool), tv = .int .i64 (t : Int) ∧ t ≤ N ∧ Hid (SeenAt wr gs s) ∧ Hid (LedGo nx N wo s t) ∧ Hid (Fr (Isb gs) W1 wr)) (fun tv _ => N - (intOf tv).toNat)
  case atStart => exact ⟨0, _, rfl, Nat.zero_le _, HS1.out, HGO0.out, Fr.refl _ _⟩
  case round =>
    obtain ⟨t, s, rfl, ht, HSA, HGO, HF⟩ := hrel
    by_cases hlt : t < N
    · have p1 : (t : Int) < (N : Int) := by omega
      have HTN := Lib.hid hlt
      have HT0 := Lib.hid HGO.out.go
      clear hlt
      go_wp2_with fail
      go_loopw [7] (fun iv wr' => ∃ (i : Nat) (u : List Bool), iv = .int .i64 (i : Int) ∧ i ≤ N ∧ Hid (SeenAt wr' gs u) ∧ Hid (LedTurn nx N wo s u i 0) ∧ Hid (Fr (Isb gs) W1 wr')) (fun iv _ => N - (intOf iv).toNat)
      case atStart => exact ⟨0, s, rfl, Nat.zero_le _, HSA.out, HT0.out, HF.out⟩
      case round =>
        obtain ⟨i, u, rfl, hi, HUA, HTU, HG1⟩ := hrel
        by_cases hlt : i < N
        · obtain ⟨b, hb⟩ : ∃ b, bs[i]? = some b := ⟨bs[i]'(by rw [HN.out]; exact hlt), List.getElem?_eq_getElem _⟩
          have hw1 : Fr No w wr := HOWN.out _ _ HF1.out HG1.out
          obtain ⟨m0, m1, nv, m2, m3⟩ := HBK.out i b hb
          have HNI := Lib.hid (HNB.out i b hb)
          obtain ⟨an, cn, hnv⟩ := m3.form
          subst hnv
          obtain ⟨L, hL⟩ : ∃ L, b.next = L := ⟨_, rfl⟩
          rw [hL] at m2 m3 HNI
          obtain ⟨q, hq⟩ : ∃ q, L.length = q := ⟨_, rfl⟩
          rw [hq] at m2 m3
          have HQ := Lib.hid hq
          have HIN := Lib.hid hlt
          have HM2 : Hid (∀ W, Fr No w W → W.cell? ⟨gb, i * 3 + 2, none⟩ = some (.slice an q cn)) := fun W hf => hf.cell m2 id
          have HCE : Hid (∀ W, Fr No w W → ∀ (k x : Nat), L[k]? = some x → ∃ g2, an = some ⟨g2, 0, none⟩ ∧ W.cell? ⟨g2, k, none⟩ = some (.int .i64 (x : Int))) := fun W hf k x hx => by
            rcases m3 with ⟨h1, _⟩ | ⟨g2, c2, h2, hc2⟩
            · rw [h1] at hx; simp at hx
            · injection h2 with h2 _ _
              exact ⟨g2, h2, hf.cell (i64_cell hc2 hx) id⟩
          have HQ2 : Hid (q ≤ 2) := by rw [← hq, ← HNI.out]; exact Lib.hid (HN2.out i)
          have s1 : (i : Int) < (N : Int) := by omega
          have s0 : (0 : Int) ≤ (i : Int) := by omega
          clear hb m0 m1 m2 m3 hL hq hlt hw1
          go_wp2_with fail
          go_loopw [8] (fun kv wr' => ∃ (k : Nat) (z : List Bool), kv = .int .i64 (k : Int) ∧ k ≤ q ∧ Hid (SeenAt wr' gs z) ∧ Hid (LedTurn nx N wo s z i k) ∧ Hid (Fr (Isb gs) W1 wr')) (fun kv _ => q - (intOf kv).toNat)
          case atStart => exact ⟨0, u, rfl, Nat.zero_le _, HUA.out, HTU.out, HG1.out⟩
          case round =>
            obtain ⟨k, z, rfl, hk, HZA, HTZ, HH⟩ := hrel
            have HW : Hid (Fr No w wr) := HOWN.out _ _ HF1.out HH.out
            have c2 := HM2.out _ HW.out
            have hq2 := HQ2.out
            have hin := HIN.out
            have hN1000 := HPL.out.2
            have b0 : wr.cell? ⟨gs, i, none⟩ = some (.bool (z.getD i true)) := (HZA.out i (by rw [HTZ.out.len]; exact HIN.out)).1
            obtain ⟨sb, hsb⟩ : ∃ sb, z.getD i true = sb := ⟨_, rfl⟩
            rw [hsb] at b0
            by_cases hlt : k < q
            · have k1 : (k : Int) < (q : Int) := by omega
              have kq : (0 : Int) ≤ (k : Int) := by omega
              have HKQ := Lib.hid hlt
              cases sb with
              | false =>
                have HNT : Hid (LedTurn nx N wo s z (i + 1) 0) := HTZ.out.next (.inr (fun h => by rw [(seen_get (by rw [HTZ.out.len]; exact hin)).2 h] at hsb; cases hsb))
                clear hlt hsb
                go_wp2_with fail
                go_roundw
                case rel => exact ⟨i + 1, z, by go_num, by omega, HZA.out, HNT.out, HH.out⟩
                case measure => simp [intOf] <;> omega
              | true =>
                have HSP : Hid (seenP z i) := (seen_get (by rw [HTZ.out.len]; exact hin)).1 hsb
                obtain ⟨x, hx⟩ : ∃ x, L[k]? = some x := ⟨L[k]'(by rw [HQ.out]; exact hlt), List.getElem?_eq_getElem _⟩
                have HX : Hid ((nx i)[k]? = some x) := by rw [HNI.out]; exact Lib.hid hx
                have hxN : x < N := HNX.out i x (List.mem_of_getElem? HX.out)
                obtain ⟨g2, hg2, k2⟩ := HCE.out _ HW.out k x hx
                subst hg2
                have x1 : (x : Int) < (N : Int) := by omega
                have x0 : (0 : Int) ≤ (x : Int) := by omega
                have HXN := Lib.hid hxN
                clear hlt hsb hx
                by_cases hxw : x = wo
                · have HSK : Hid (LedTurn nx N wo s z i (k + 1)) := HTZ.out.skip HX.out hxw
                  have q1 : ((x : Int) != (wo : Int)) = false := by rw [hxw]; simp
                  clear hxw hxN
                  go_wp2_with fail
                  go_roundw
                  case rel => exact ⟨k + 1, z, by go_num, by have := HKQ.out; omega, HZA.out, HSK.out, HH.out⟩
                  case measure => (have := HKQ.out; simp [intOf] <;> omega)
                · have HMK : Hid (LedTurn nx N wo s (z.set x true) i (k + 1)) := HTZ.out.mark HSP.out HX.out hxw HXN.out
                  have q1 : ((x : Int) != (wo : Int)) = true := by rw [bne, beq_eq_false_iff_ne.2 (by omega)]; rfl
                  have b1 : wr.cell? ⟨gs, x, none⟩ = some (.bool (z.getD x true)) := (HZA.out x (by rw [HTZ.out.len]; exact hxN)).1
                  have b2 : wr.frozen? ⟨gs, x, none⟩ = false := (HZA.out x (by rw [HTZ.out.len]; exact hxN)).2
                  have HUS : Hid (SeenAt (wr.setCell ⟨gs, x, none⟩ (.bool true)) gs (z.set x true)) := HZA.out.set (by rw [HTZ.out.len]; exact hxN)
                  have HHS : Hid (Fr (Isb gs) W1 (wr.setCell ⟨gs, x, none⟩ (.bool true))) := HH.out.setB _ _
                  clear hxw hxN
                  generalize z.getD x true = sx at *
                  go_wp2_with fail
                  go_roundw
                  case rel => exact ⟨k + 1, _, by go_num, by have := HKQ.out; omega, HUS.out, HMK.out, HHS.out⟩
                  case measure => (have := HKQ.out; simp [intOf] <;> omega)
            · obtain rfl : k = q := by omega
              have k1 : ¬ (k : Int) < (k : Int) := by omega
              have HNT : Hid (LedTurn nx N wo s z (i + 1) 0) := HTZ.out.next (.inl (by rw [HNI.out, HQ.out]; exact Nat.le_refl _))
              clear hlt hsb
              go_wp2_with fail
              go_roundw
              case rel => exact ⟨i + 1, z, by go_num, by omega, HZA.out, HNT.out, HH.out⟩
              case measure => simp [intOf] <;> omega
        · obtain rfl : i = N := by omega
          have s1 : ¬ (i : Int) < (i : Int) := by omega
          have HGN : Hid (LedGo nx i wo u (t + 1)) := HTU.out.stop HGO.out
          have htn := HTN.out
          have hN1000 := HPL.out.2
          clear hlt
          go_wp2_with fail
          go_roundw
          case rel => exact ⟨t + 1, u, by go_num, by omega, HUA.out, HGN.out, HG1.out⟩
          case measure => simp [intOf] <;> omega
    · obtain rfl : t = N := by omega
      have p1 : ¬ (t : Int) < (t : Int) := by omega
      clear hlt
      go_wp2_with fail
      go_ret
      exact ⟨gs, rfl, ⟨s, HSA.out, HGO.out.len, HGO.out.end HNX.out⟩, HOWN.out _ _ HF1.out HF.out⟩
open Classical in
noncomputable def aheadB (bs : List Blk) (x y : Nat) : Bool := decide (AheadP (nxM bs) x y)
open Classical in
theorem aheadB_iff {bs : List Blk} {x y : Nat} : aheadB bs x y = true ↔ AheadP (nxM bs) x y := decide_eq_true_iff
set_option maxHeartbeats 400000 in
theorem ahead_any (bs : List Blk) (bv : Value) (x y : Nat) (w : World) (hv : BlksAt w bv bs) (hG : Graph bs) (hy : y < bs.length) :
    Calls Tryz.prog 35 #[bv, .int .i64 (x : Int), .int .i64 (y : Int)] w fun e w' => e = .returned (.bool (aheadB bs x y)) ∧ Fr No w w' := by
  have HC := Lib.hid (rled_any bs bv x w hv hG)
  have hN : bs.length ≤ 1000 := hG.len
  have HE : Hid (∀ s : List Bool, s.length = bs.length → (∀ p, seenP s p ↔ LedTo (nxM bs) (· = x) p) → x ≠ y → (!s.getD y true) = aheadB bs x y) := fun s hl hs hne => by
    rw [Bool.eq_iff_iff]
    rw [aheadB_iff]
    have h1 : s.getD y true = true ↔ LedTo (nxM bs) (· = x) y := (seen_get (by rw [hl]; exact hy)).trans (hs y)
    unfold AheadP
    rw [← h1]
    simp [hne]
  have HE0 : Hid (x = y → aheadB bs x y = false) := fun e => by rw [Bool.eq_false_iff]; exact fun h => (aheadB_iff.1 h).1 e
  obtain ⟨gb, cb, rfl, hbk⟩ := hv
  unfold LedRow at HC
  obtain ⟨N, hn⟩ : ∃ N, bs.length = N := ⟨_, rfl⟩
  rw [hn] at HC HE hy hN ⊢
  obtain ⟨R, hR⟩ : ∃ R, aheadB bs x y = R := ⟨_, rfl⟩
  rw [hR] at HE HE0 ⊢
  clear hbk hG hn hR
  by_cases hxy : x = y
  · have HR := Lib.hid (HE0.out hxy)
    subst hxy
    have q1 : ((x : Int) != (x : Int)) = false := by simp
    clear HE HE0
    go_enter Tryz.func35, Tryz.ntmps35
    go_wp2_with fail
    go_ret
    exact ⟨by rw [HR.out]; rfl, Fr.refl _ _⟩
  · have q1 : ((x : Int) != (y : Int)) = true := by rw [bne, beq_eq_false_iff_ne.2 (by omega)]; rfl
    have y1 : (y : Int) < (N : Int) := by omega
    have y0 : (0 : Int) ≤ (y : Int) := by omega
    have HXY := Lib.hid hxy
    have HY := Lib.hid hy
    clear hxy hy HE0
    go_enter Tryz.func35, Tryz.ntmps35
    go_wp2_with (go_at_call 69; (with_reducible refine (HC.out).mono ?_); rintro e w5 ⟨g, rfl, ⟨s, hs1, hs2, hs3⟩, hf5⟩; have HR := Lib.hid (HE.out s hs2 hs3 HXY.out); have k0 : w5.cell? ⟨g, y, none⟩ = some (.bool (s.getD y true)) := (hs1 y (by rw [hs2]; exact HY.out)).1; have HF5 := Lib.hid hf5; clear hs1 hs2 hs3 hf5; obtain ⟨sb, hsb⟩ : ∃ sb, s.getD y true = sb := ⟨_, rfl⟩; rw [hsb] at HR k0; clear hsb)
    go_ret
    exact ⟨by rw [← HR.out]; rfl, HF5.out⟩
end Go.Proofs.YtakcdecljfmckaaGreatDoor
