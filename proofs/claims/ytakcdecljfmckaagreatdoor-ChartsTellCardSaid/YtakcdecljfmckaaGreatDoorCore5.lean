/- Ways through a graph, and what lies on all of them: plain. The nearest one of each block, plain: what the search holds of it. The nearest one of each block, plain: each change keeps that all that lies on all ways is told. -/
import Derived.RowKit
set_option linter.all false
set_option linter.unusedVariables false
set_option linter.unusedSimpArgs false
namespace Go.Proofs.YtakcdecljfmckaaGreatDoor

/-- the first node leads to one, by nodes that are none of those -/
inductive LedTo (nx : Nat → List Nat) (w : Nat → Prop) : Nat → Prop
  | start : ¬ w 0 → LedTo nx w 0
  | step {u v : Nat} : LedTo nx w u → v ∈ nx u → ¬ w v → LedTo nx w v
/-- x lies ahead of v on the way that d tells -/
inductive Anc (d : Nat → Int) (x : Nat) : Nat → Prop
  | one {v : Nat} : d v = (x : Int) → Anc d x v
  | more {v u : Nat} : d v = (u : Int) → Anc d x u → Anc d x v

theorem LedTo.not {nx : Nat → List Nat} {w : Nat → Prop} {v : Nat} (h : LedTo nx w v) : ¬ w v := by
  cases h with
  | start h => exact h
  | step _ _ h => exact h
theorem LedTo.any {nx : Nat → List Nat} {w : Nat → Prop} {v : Nat} (h : LedTo nx w v) : LedTo nx (fun _ => False) v := by
  induction h with
  | start _ => exact .start id
  | step _ hv _ ih => exact .step ih hv id
theorem Anc.trans {d : Nat → Int} {x y v : Nat} (h1 : Anc d x y) (h2 : Anc d y v) : Anc d x v := by
  induction h2 with
  | one h => exact .more h h1
  | more h _ ih => exact .more h ih
theorem Anc.split {d : Nat → Int} {x v y : Nat} (h : Anc d x v) (hy : d v = (y : Int)) : x = y ∨ Anc d x y := by
  cases h with
  | one h => left; omega
  | more h h2 =>
    right
    rename_i u
    have : u = y := by omega
    exact this ▸ h2
theorem Anc.has {d : Nat → Int} {x v : Nat} (h : Anc d x v) : 0 ≤ d v := by
  cases h with
  | one h => omega
  | more h _ => omega
/-- what d tells lies on all ways -/
theorem anc_cut {nx : Nat → List Nat} {d : Nat → Int} (h0 : d 0 < 0) (H : ∀ u v, LedTo nx (fun _ => False) u → v ∈ nx u → v ≠ 0 → ∃ y : Nat, d v = (y : Int) ∧ (y = u ∨ Anc d y u)) {x v : Nat} (hl : LedTo nx (· = x) v) : ¬ Anc d x v := by
  induction hl with
  | start _ => intro h; have := h.has; omega
  | @step u v hu hv hw ih =>
    intro h
    have hv0 : v ≠ 0 := by rintro rfl; have := h.has; omega
    obtain ⟨y, hy, hc⟩ := H u v hu.any hv hv0
    rcases h.split hy with rfl | h2
    · rcases hc with rfl | hc
      · exact hu.not rfl
      · exact ih hc
    · rcases hc with rfl | hc
      · exact ih h2
      · exact ih (h2.trans hc)
/-- where all ways go on, nothing lies ahead that is behind -/
theorem led_on {nx : Nat → List Nat} (hon : ∀ u v, v ∈ nx u → u < v) {x v : Nat} (h : LedTo nx (fun _ => False) v) (hlt : v < x) : LedTo nx (· = x) v := by
  induction h with
  | start _ => exact .start (by omega)
  | @step u v _ hv _ ih =>
    have := hon u v hv
    exact .step (ih (by omega)) hv (by omega)

/-! ### blocks in an order in which each but the last has one behind it that leads to it -/
/-- midway at node i: L has come, behind those that were seen ahead; the nodes of done were looked at -/
structure Part (nx : Nat → List Nat) (N : Nat) (seen : Nat → Prop) (i : Nat) (done L : List Nat) : Prop where
  nodup : L.Nodup
  fresh : ∀ k ∈ L, k < N ∧ k ≠ i ∧ ¬ seen k
  closed : ∀ k ∈ L, ∀ n ∈ nx k, seen n ∨ n = i ∨ n ∈ L
  kids : ∀ n ∈ done, seen n ∨ n = i ∨ n ∈ L
  led : ∀ A k B, L = A ++ k :: B → k ∈ nx i ∨ ∃ u ∈ B, k ∈ nx u
/-- a node is gone to: L has come, itself the last -/
structure Seg (nx : Nat → List Nat) (N : Nat) (seen : Nat → Prop) (i : Nat) (L : List Nat) : Prop where
  last : ∃ L', L = L' ++ [i]
  nodup : L.Nodup
  fresh : ∀ k ∈ L, k < N ∧ ¬ seen k
  closed : ∀ k ∈ L, ∀ n ∈ nx k, seen n ∨ n ∈ L
  led : ∀ A k B, L = A ++ k :: B → B = [] ∨ ∃ u ∈ B, k ∈ nx u
theorem Part.start {nx : Nat → List Nat} {N : Nat} {seen : Nat → Prop} {i : Nat} : Part nx N seen i [] [] :=
  ⟨List.nodup_nil, fun _ h => absurd h (by simp), fun _ h => absurd h (by simp), fun _ h => absurd h (by simp), fun A k B h => absurd h (by simp)⟩
theorem Part.skip {nx : Nat → List Nat} {N : Nat} {seen : Nat → Prop} {i n : Nat} {done L : List Nat} (h : Part nx N seen i done L) (hn : seen n ∨ n = i ∨ n ∈ L) : Part nx N seen i (done ++ [n]) L :=
  ⟨h.nodup, h.fresh, h.closed, fun k hk => by
    rcases List.mem_append.1 hk with hk | hk
    · exact h.kids k hk
    · rw [List.mem_singleton.1 hk]; exact hn, h.led⟩
theorem Part.child {nx : Nat → List Nat} {N : Nat} {seen : Nat → Prop} {i n : Nat} {done L K : List Nat} (h : Part nx N seen i done L) (hn : n ∈ nx i) (hk : Seg nx N (fun k => seen k ∨ k = i ∨ k ∈ L) n K) : Part nx N seen i (done ++ [n]) (L ++ K) := by
  obtain ⟨K', hK'⟩ := hk.last
  have hnK : n ∈ K := by rw [hK']; simp
  refine ⟨?_, ?_, ?_, ?_, ?_⟩
  · refine List.nodup_append.2 ⟨h.nodup, hk.nodup, fun a ha b hb e => ?_⟩
    subst e
    exact (hk.fresh a hb).2 (.inr (.inr ha))
  · intro k hk2
    rcases List.mem_append.1 hk2 with hk2 | hk2
    · exact h.fresh k hk2
    · have := hk.fresh k hk2
      exact ⟨this.1, fun e => this.2 (.inr (.inl e)), fun e => this.2 (.inl e)⟩
  · intro k hk2 m hm
    rcases List.mem_append.1 hk2 with hk2 | hk2
    · rcases h.closed k hk2 m hm with h1 | h1 | h1
      · exact .inl h1
      · exact .inr (.inl h1)
      · exact .inr (.inr (List.mem_append_left _ h1))
    · rcases hk.closed k hk2 m hm with (h1 | h1 | h1) | h1
      · exact .inl h1
      · exact .inr (.inl h1)
      · exact .inr (.inr (List.mem_append_left _ h1))
      · exact .inr (.inr (List.mem_append_right _ h1))
  · intro k hk2
    rcases List.mem_append.1 hk2 with hk2 | hk2
    · rcases h.kids k hk2 with h1 | h1 | h1
      · exact .inl h1
      · exact .inr (.inl h1)
      · exact .inr (.inr (List.mem_append_left _ h1))
    · rw [List.mem_singleton.1 hk2]
      exact .inr (.inr (List.mem_append_right _ hnK))
  · intro A k B e
    rcases List.append_eq_append_iff.1 e with ⟨A', hA, hB⟩ | ⟨C, hA, hB⟩
    · -- L ++ A' = A, K = A' ++ k :: B
      rcases hk.led A' k B hB with h1 | h1
      · subst h1
        have : k = n := by
          have e2 : K' ++ [n] = A' ++ [k] := hK'.symm.trans hB
          have := (List.append_inj' e2 rfl).2
          simpa using this.symm
        exact .inl (this ▸ hn)
      · exact .inr h1
    · cases C with
      | nil =>
        simp only [List.nil_append] at hB
        simp only [List.append_nil] at hA
        have hB2 : K = [] ++ k :: B := by simpa using hB.symm
        rcases hk.led [] k B hB2 with h1 | h1
        · subst h1
          have : k = n := by
            have e2 : K' ++ [n] = [] ++ [k] := hK'.symm.trans hB2
            have := (List.append_inj' e2 rfl).2
            simpa using this.symm
          exact .inl (this ▸ hn)
        · exact .inr h1
      | cons c C =>
        simp only [List.cons_append, List.cons.injEq] at hB
        obtain ⟨rfl, hB⟩ := hB
        rcases h.led A k C hA with h1 | ⟨u, hu, h1⟩
        · exact .inl h1
        · exact .inr ⟨u, by rw [hB]; exact List.mem_append_left _ hu, h1⟩
theorem Part.done {nx : Nat → List Nat} {N : Nat} {seen : Nat → Prop} {i : Nat} {L : List Nat} (h : Part nx N seen i (nx i) L) (hi : i < N) (hs : ¬ seen i) : Seg nx N seen i (L ++ [i]) := by
  refine ⟨⟨L, rfl⟩, ?_, ?_, ?_, ?_⟩
  · refine List.nodup_append.2 ⟨h.nodup, by simp, fun a ha b hb e => ?_⟩
    rw [List.mem_singleton.1 hb] at e
    exact (h.fresh a ha).2.1 e
  · intro k hk
    rcases List.mem_append.1 hk with hk | hk
    · exact ⟨(h.fresh k hk).1, (h.fresh k hk).2.2⟩
    · rw [List.mem_singleton.1 hk]; exact ⟨hi, hs⟩
  · intro k hk n hn
    have : seen n ∨ n = i ∨ n ∈ L := by
      rcases List.mem_append.1 hk with hk | hk
      · exact h.closed k hk n hn
      · rw [List.mem_singleton.1 hk] at hn
        exact h.kids n hn
    rcases this with h1 | h1 | h1
    · exact .inl h1
    · exact .inr (by rw [h1]; simp)
    · exact .inr (List.mem_append_left _ h1)
  · intro A k B e
    rcases List.append_eq_append_iff.1 e with ⟨A', hA, hB⟩ | ⟨C, hA, hB⟩
    · left
      have : ([i] : List Nat).length = (A' ++ k :: B).length := congrArg List.length hB
      simp only [List.length_cons, List.length_nil, List.length_append] at this
      exact List.eq_nil_of_length_eq_zero (by omega)
    · cases C with
      | nil =>
        left
        simp only [List.nil_append] at hB
        have := congrArg List.length hB
        simp only [List.length_cons, List.length_nil] at this
        exact List.eq_nil_of_length_eq_zero (by omega)
      | cons c C =>
        simp only [List.cons_append, List.cons.injEq] at hB
        obtain ⟨rfl, hB⟩ := hB
        right
        rcases h.led A k C hA with h1 | ⟨u, hu, h1⟩
        · exact ⟨i, by rw [hB]; simp, h1⟩
        · exact ⟨u, by rw [hB]; exact List.mem_append_left _ hu, h1⟩
/-- all that the first node leads to has come -/
theorem Seg.all {nx : Nat → List Nat} {N : Nat} {L : List Nat} (h : Seg nx N (fun _ => False) 0 L) {v : Nat} (hl : LedTo nx (fun _ => False) v) : v ∈ L := by
  induction hl with
  | start _ =>
    obtain ⟨L', e⟩ := h.last
    rw [e]; simp
  | step _ hv _ ih =>
    rcases h.closed _ ih _ hv with h1 | h1
    · exact h1.elim
    · exact h1
end Go.Proofs.YtakcdecljfmckaaGreatDoor

namespace Go.Proofs.YtakcdecljfmckaaGreatDoor

/-- the first node has none -/
def cut0 (d : Nat → Int) : Nat → Int := fun v => if v = 0 then -1 else d v
def AncS (d : Nat → Int) (x v : Nat) : Prop := x = v ∨ Anc (cut0 d) x v
def setAt (d : Nat → Int) (n : Nat) (r : Int) : Nat → Int := fun v => if v = n then r else d v
/-- what is told so far: of the first node itself -/
structure Told (N : Nat) (pl : Nat → Nat) (d : Nat → Int) : Prop where
  root : d 0 = 0
  pos : 0 < N
  set : ∀ v, v < N → v ≠ 0 → d v = -1 ∨ ∃ y : Nat, d v = (y : Int) ∧ y < N ∧ pl y < pl v ∧ 0 ≤ d y
  inj : ∀ u v, u < N → v < N → pl u = pl v → u = v
  low : ∀ v, v < N → pl v < N

theorem Told.up {N : Nat} {pl : Nat → Nat} {d : Nat → Int} (h : Told N pl d) {v : Nat} (hv : v < N) (h0 : v ≠ 0) (hs : 0 ≤ d v) : ∃ y : Nat, d v = (y : Int) ∧ y < N ∧ pl y < pl v ∧ 0 ≤ d y ∧ AncS d y v := by
  rcases h.set v hv h0 with h1 | ⟨y, h1, h2, h3, h4⟩
  · omega
  · exact ⟨y, h1, h2, h3, h4, .inr (.one (by unfold cut0; rw [if_neg h0]; exact h1))⟩
theorem AncS.trans {d : Nat → Int} {x y v : Nat} (h1 : AncS d x y) (h2 : AncS d y v) : AncS d x v := by
  rcases h1 with rfl | h1
  · exact h2
  · rcases h2 with rfl | h2
    · exact .inr h1
    · exact .inr (h1.trans h2)
theorem Told.upd {N : Nat} {pl : Nat → Nat} {d : Nat → Int} (h : Told N pl d) {n r : Nat} (hn : n < N) (h0 : n ≠ 0) (hr : r < N) (hp : pl r < pl n) (hs : 0 ≤ d r) : Told N pl (setAt d n r) := by
  refine ⟨by unfold setAt; rw [if_neg (Ne.symm h0)]; exact h.root, h.pos, fun v hv hv0 => ?_, h.inj, h.low⟩
  have hge : ∀ y, 0 ≤ d y → 0 ≤ setAt d n r y := fun y hy => by unfold setAt; split <;> omega
  by_cases e : v = n
  · subst e
    exact .inr ⟨r, by unfold setAt; rw [if_pos rfl], hr, hp, hge r hs⟩
  · have e2 : setAt d n r v = d v := by unfold setAt; rw [if_neg e]
    rw [e2]
    rcases h.set v hv hv0 with h1 | ⟨y, h1, h2, h3, h4⟩
    · exact .inl h1
    · exact .inr ⟨y, h1, h2, h3, hge y h4⟩
/-- how far all are from the first one -/
def farN (N : Nat) (pl : Nat → Nat) (d : Nat → Int) (v : Nat) : Nat := if d v < 0 then N else pl (d v).toNat
def farAll (N : Nat) (pl : Nat → Nat) (d : Nat → Int) : Nat := ((List.range N).map (farN N pl d)).sum
theorem sum_lt {f g : Nat → Nat} : ∀ (l : List Nat) {n : Nat}, n ∈ l → (∀ v ∈ l, g v ≤ f v) → g n < f n → (l.map g).sum < (l.map f).sum
  | v :: l, n, hn, hle, hlt => by
    simp only [List.map_cons, List.sum_cons]
    have hrest : ∀ (l : List Nat), (∀ v ∈ l, g v ≤ f v) → (l.map g).sum ≤ (l.map f).sum := by
      intro l
      induction l with
      | nil => intro _; simp
      | cons a l ih =>
        intro h
        simp only [List.map_cons, List.sum_cons]
        have := h a List.mem_cons_self
        have := ih fun v hv => h v (List.mem_cons_of_mem _ hv)
        omega
    rcases List.mem_cons.1 hn with rfl | hn
    · have := hrest l fun v hv => hle v (List.mem_cons_of_mem _ hv)
      omega
    · have := sum_lt l hn (fun v hv => hle v (List.mem_cons_of_mem _ hv)) hlt
      have := hle v List.mem_cons_self
      omega
theorem Told.nearer {N : Nat} {pl : Nat → Nat} {d : Nat → Int} (h : Told N pl d) {n r : Nat} (hn : n < N) (hr : r < N) (hlt : pl r < farN N pl d n) : farAll N pl (setAt d n r) < farAll N pl d := by
  unfold farAll
  refine sum_lt _ (List.mem_range.2 hn) (fun v hv => ?_) ?_
  · by_cases e : v = n
    · subst e
      have : farN N pl (setAt d v r) v = pl r := by unfold farN setAt; rw [if_pos rfl, if_neg (by omega), Int.toNat_natCast]
      omega
    · have : farN N pl (setAt d n r) v = farN N pl d v := by unfold farN setAt; rw [if_neg e]
      omega
  · have : farN N pl (setAt d n r) n = pl r := by unfold farN setAt; rw [if_pos rfl, if_neg (by omega), Int.toNat_natCast]
    omega

/-! ### the order -/
theorem turn_head {nx : Nat → List Nat} {N : Nat} {L : List Nat} (h : Seg nx N (fun _ => False) 0 L) : ∃ T, L.reverse = 0 :: T := by
  obtain ⟨L', e⟩ := h.last
  exact ⟨L'.reverse, by rw [e, List.reverse_append]; rfl⟩
theorem turn_led {nx : Nat → List Nat} {N : Nat} {L : List Nat} (h : Seg nx N (fun _ => False) 0 L) (v : Nat) (hv : v ∈ L.reverse) (h0 : v ≠ 0) : ∃ u ∈ L.reverse, L.reverse.idxOf u < L.reverse.idxOf v ∧ v ∈ nx u := by
  have hv := List.mem_reverse.1 hv
  obtain ⟨A, B, e⟩ := List.append_of_mem hv
  have hnd := h.nodup
  rw [e] at hnd
  have hvB : v ∉ B := fun hb => by
    have := (List.nodup_append.1 hnd).2.1
    rw [List.nodup_cons] at this
    exact this.1 hb
  rcases h.led A v B e with hB | ⟨u, hu, hvu⟩
  · obtain ⟨L', e2⟩ := h.last
    rw [hB] at e
    have := (List.append_inj' (e.symm.trans e2) rfl).2
    simp only [List.cons.injEq, and_true] at this
    exact absurd this h0
  · refine ⟨u, List.mem_reverse.2 (by rw [e]; exact List.mem_append_right _ (List.mem_cons_of_mem _ hu)), ?_, hvu⟩
    have er : L.reverse = B.reverse ++ v :: A.reverse := by rw [e]; simp
    rw [er, List.idxOf_append, List.idxOf_append, if_pos (List.mem_reverse.2 hu), if_neg (fun hb => hvB (List.mem_reverse.1 hb))]
    have := List.idxOf_lt_length_of_mem (List.mem_reverse.2 hu)
    have h2 : (v :: A.reverse).idxOf v = 0 := List.idxOf_cons_self
    rw [h2]
    omega
end Go.Proofs.YtakcdecljfmckaaGreatDoor

namespace Go.Proofs.YtakcdecljfmckaaGreatDoor

/-- a node leads to another one by nodes of a kind -/
inductive Via (nx : Nat → List Nat) (P : Nat → Prop) (u : Nat) : Nat → Prop
  | one {v : Nat} : v ∈ nx u → P v → Via nx P u v
  | more {v w : Nat} : Via nx P u v → w ∈ nx v → P w → Via nx P u w
theorem Via.mono {nx : Nat → List Nat} {P Q : Nat → Prop} {u v : Nat} (h : Via nx P u v) (hm : ∀ k, P k → Q k) : Via nx Q u v := by
  induction h with
  | one h1 h2 => exact .one h1 (hm _ h2)
  | more _ h1 h2 ih => exact .more ih h1 (hm _ h2)
theorem Via.trans {nx : Nat → List Nat} {P : Nat → Prop} {u v w : Nat} (h1 : Via nx P u v) (h2 : Via nx P v w) : Via nx P u w := by
  induction h2 with
  | one h h' => exact .more h1 h h'
  | more _ h h' ih => exact .more ih h h'
theorem LedTo.via {nx : Nat → List Nat} {x u v : Nat} (h : LedTo nx (· = x) u) (hv : Via nx (fun k => k ≠ x) u v) : LedTo nx (· = x) v := by
  induction hv with
  | one h1 h2 => exact .step h h1 h2
  | more _ h1 h2 ih => exact .step ih h1 h2
/-- all ways to v go through x -/
def Cuts (nx : Nat → List Nat) (x v : Nat) : Prop := ¬ LedTo nx (· = x) v
theorem Cuts.zero {nx : Nat → List Nat} {x : Nat} (h : Cuts nx x 0) : x = 0 := by
  refine Classical.byContradiction fun hne => h (.start fun e => hne e.symm)
theorem Cuts.back {nx : Nat → List Nat} {x u v : Nat} (h : Cuts nx x v) (hv : Via nx (fun k => k ≠ x) u v) : Cuts nx x u := fun hl => h (hl.via hv)

structure Nears (nx : Nat → List Nat) (N : Nat) (pl : Nat → Nat) (d : Nat → Int) : Prop extends Told N pl d where
  pl0 : pl 0 = 0
  via : ∀ v y : Nat, v < N → v ≠ 0 → d v = (y : Int) → Via nx (fun k => pl y < pl k) y v
  cuts : ∀ v x : Nat, v < N → 0 ≤ d v → x ≠ v → Cuts nx x v → Anc (cut0 d) x v

theorem cut0_ne {d : Nat → Int} {v : Nat} (h : v ≠ 0) : cut0 d v = d v := if_neg h
theorem Anc.cut_ne {d : Nat → Int} {x v : Nat} (h : Anc (cut0 d) x v) : v ≠ 0 := by
  rintro rfl
  have := h.has
  simp [cut0] at this
/-- what is told ahead of a node lies ahead of it in the order -/
theorem Told.anc {N : Nat} {pl : Nat → Nat} {d : Nat → Int} (h : Told N pl d) {x v : Nat} (hv : v < N) (ha : Anc (cut0 d) x v) : x < N ∧ pl x < pl v := by
  induction ha with
  | @one v he =>
    have h0 : v ≠ 0 := (Anc.one he).cut_ne
    rw [cut0_ne h0] at he
    rcases h.set v hv h0 with h1 | ⟨y, h1, h2, h3, -⟩
    · omega
    · have : x = y := by omega
      subst this
      exact ⟨h2, h3⟩
  | @more v u he ha ih =>
    have h0 : v ≠ 0 := (Anc.more he ha).cut_ne
    rw [cut0_ne h0] at he
    rcases h.set v hv h0 with h1 | ⟨y, h1, h2, h3, -⟩
    · omega
    · have : u = y := by omega
      subst this
      have := ih h2
      exact ⟨this.1, by omega⟩
theorem Told.ancS {N : Nat} {pl : Nat → Nat} {d : Nat → Int} (h : Told N pl d) {x v : Nat} (hv : v < N) (ha : AncS d x v) : x < N ∧ pl x ≤ pl v := by
  rcases ha with rfl | ha
  · exact ⟨hv, Nat.le_refl _⟩
  · have := h.anc hv ha
    exact ⟨this.1, by omega⟩
/-- what lies ahead of a node that stands ahead of n is told as it was -/
theorem Told.keep {N : Nat} {pl : Nat → Nat} {d : Nat → Int} (h : Told N pl d) {n : Nat} {r : Int} {x v : Nat} (hv : v < N) (hlt : pl v < pl n) (ha : Anc (cut0 d) x v) : Anc (cut0 (setAt d n r)) x v := by
  induction ha with
  | @one v he =>
    have h0 : v ≠ 0 := (Anc.one he).cut_ne
    refine .one ?_
    rw [cut0_ne h0] at he ⊢
    unfold setAt
    rw [if_neg (by rintro rfl; omega)]
    exact he
  | @more v u he ha ih =>
    have h0 : v ≠ 0 := (Anc.more he ha).cut_ne
    have hu := h.anc hv (.one he)
    refine .more ?_ (ih hu.1 (by omega))
    rw [cut0_ne h0] at he ⊢
    unfold setAt
    rw [if_neg (by rintro rfl; omega)]
    exact he
theorem Nears.anc_via {nx : Nat → List Nat} {N : Nat} {pl : Nat → Nat} {d : Nat → Int} (h : Nears nx N pl d) {x v : Nat} (hv : v < N) (ha : Anc (cut0 d) x v) : Via nx (fun k => pl x < pl k) x v := by
  induction ha with
  | @one v he =>
    have h0 : v ≠ 0 := (Anc.one he).cut_ne
    rw [cut0_ne h0] at he
    exact h.via v x hv h0 he
  | @more v u he ha ih =>
    have h0 : v ≠ 0 := (Anc.more he ha).cut_ne
    have hu := h.toTold.anc hv (.one he)
    have hx := h.toTold.anc hu.1 ha
    rw [cut0_ne h0] at he
    exact (ih hu.1).trans ((h.via v u hv h0 he).mono fun k hk => by omega)
/-- a change -/
theorem Nears.upd {nx : Nat → List Nat} {N : Nat} {pl : Nat → Nat} {d : Nat → Int} (h : Nears nx N pl d) {n r : Nat} (hn : n < N) (h0 : n ≠ 0) (hr : r < N) (hp : pl r < pl n) (hs : 0 ≤ d r)
    (hvia : Via nx (fun k => pl r < pl k) r n) (hc : ∀ x, x ≠ n → Cuts nx x n → AncS d x r) : Nears nx N pl (setAt d n r) := by
  refine ⟨h.toTold.upd hn h0 hr hp hs, h.pl0, fun v y hv hv0 he => ?_, ?_⟩
  · by_cases e : v = n
    · subst e
      have : r = y := by unfold setAt at he; rw [if_pos rfl] at he; omega
      exact this ▸ hvia
    · have e2 : setAt d n r v = d v := if_neg e
      rw [e2] at he
      exact h.via v y hv hv0 he
  · have key : ∀ m v x, pl v ≤ m → v < N → 0 ≤ setAt d n r v → x ≠ v → Cuts nx x v → Anc (cut0 (setAt d n r)) x v := by
      intro m
      induction m with
      | zero =>
        intro v x hm hv _ hne hcut
        have : v = 0 := h.inj v 0 hv h.pos (by rw [h.pl0]; omega)
        subst this
        exact absurd hcut.zero hne
      | succ m ih =>
        intro v x hm hv hge hne hcut
        by_cases hv0 : v = 0
        · subst hv0
          exact absurd hcut.zero hne
        by_cases e : v = n
        · subst e
          have hd : cut0 (setAt d v r) v = (r : Int) := by rw [cut0_ne hv0]; exact if_pos rfl
          rcases hc x hne hcut with rfl | h1
          · exact .one hd
          · exact .more hd (h.toTold.keep hr hp h1)
        · have e2 : setAt d n r v = d v := if_neg e
          rw [e2] at hge
          have ha := h.cuts v x hv hge hne hcut
          rcases h.set v hv hv0 with h1 | ⟨u, h1, h2, h3, h4⟩
          · omega
          have hd : cut0 (setAt d n r) v = (u : Int) := by rw [cut0_ne hv0, e2]; exact h1
          rcases ha.split (by rw [cut0_ne hv0]; exact h1) with rfl | h5
          · exact .one hd
          · have h6 := h.toTold.anc h2 h5
            refine .more hd (ih u x (by omega) h2 ?_ (by rintro rfl; omega) (hcut.back ((h.via v u hv hv0 h1).mono fun k hk => by rintro rfl; omega)))
            unfold setAt
            split <;> omega
    exact fun v x hv hge hne hcut => key _ v x (Nat.le_refl _) hv hge hne hcut
/-- the first time -/
theorem Nears.first {nx : Nat → List Nat} {N : Nat} {pl : Nat → Nat} {d : Nat → Int} (h : Nears nx N pl d) {n i : Nat} (hn : n < N) (h0 : n ≠ 0) (hi : i < N) (hp : pl i < pl n) (hs : 0 ≤ d i) (he : n ∈ nx i) : Nears nx N pl (setAt d n i) := by
  refine h.upd hn h0 hi hp hs (.one he hp) fun x hne hcut => ?_
  have hci : Cuts nx x i := hcut.back (.one he fun e => hne e.symm)
  by_cases e : x = i
  · exact .inl e
  · exact .inr (h.cuts i x hi hs e hci)
/-- later ones -/
theorem Nears.again {nx : Nat → List Nat} {N : Nat} {pl : Nat → Nat} {d : Nat → Int} (h : Nears nx N pl d) {n i r m : Nat} (hn : n < N) (h0 : n ≠ 0) (hi : i < N) (hs : 0 ≤ d i) (he : n ∈ nx i) (hm : d n = (m : Int))
    (h2 : AncS d r m) (hall : ∀ x, AncS d x i → AncS d x m → AncS d x r) : Nears nx N pl (setAt d n r) := by
  rcases h.set n hn h0 with h1 | ⟨y, h1, hy, hpy, hsy⟩
  · omega
  have : y = m := by omega
  subst this
  have hrp := h.toTold.ancS hy h2
  have hvm := h.via n y hn h0 hm
  have hsr : 0 ≤ d r := by
    rcases h2 with rfl | h2
    · exact hsy
    · -- an ancestor is told
      have : ∀ {x v : Nat}, v < N → Anc (cut0 d) x v → 0 ≤ d x := by
        intro x v hv ha
        induction ha with
        | @one v he =>
          have h0 : v ≠ 0 := (Anc.one he).cut_ne
          rw [cut0_ne h0] at he
          rcases h.set v hv h0 with h1 | ⟨z, h1, h2, h3, h4⟩
          · omega
          · have : x = z := by omega
            exact this ▸ h4
        | @more v u he ha ih => exact ih (h.toTold.anc hv (.one he)).1
      exact this hy h2
  refine h.upd hn h0 hrp.1 (by omega) hsr ?_ fun x hne hcut => ?_
  · rcases h2 with rfl | h2
    · exact hvm
    · exact (h.anc_via hy h2).trans (hvm.mono fun k hk => by omega)
  · refine hall x ?_ ?_
    · have hci : Cuts nx x i := hcut.back (.one he fun e => hne e.symm)
      by_cases e : x = i
      · exact .inl e
      · exact .inr (h.cuts i x hi hs e hci)
    · have ha := h.cuts n x hn (by omega) hne hcut
      rcases ha.split (by rw [cut0_ne h0]; exact hm) with rfl | h5
      · exact .inl rfl
      · exact .inr h5
theorem Nears.start {nx : Nat → List Nat} {N : Nat} {pl : Nat → Nat} (hN : 0 < N) (h0 : pl 0 = 0) (hinj : ∀ u v, u < N → v < N → pl u = pl v → u = v) (hlow : ∀ v, v < N → pl v < N) : Nears nx N pl (fun v => if v = 0 then 0 else -1) := by
  refine ⟨⟨rfl, hN, fun v _ hv0 => .inl (if_neg hv0), hinj, hlow⟩, h0, fun v y _ hv0 he => ?_, fun v x _ hge hne hcut => ?_⟩
  · rw [if_neg hv0] at he; omega
  · by_cases e : v = 0
    · subst e; exact absurd hcut.zero hne
    · simp only [if_neg e] at hge; omega
/-- two nodes that meet: what is held on the way -/
structure Meets (N : Nat) (d : Nat → Int) (i m x y : Nat) : Prop where
  xN : x < N
  yN : y < N
  xs : 0 ≤ d x
  ys : 0 ≤ d y
  xi : AncS d x i
  ym : AncS d y m
  all : ∀ z, AncS d z i → AncS d z m → AncS d z x ∧ AncS d z y
theorem Meets.start {N : Nat} {d : Nat → Int} {i m : Nat} (hi : i < N) (hm : m < N) (si : 0 ≤ d i) (sm : 0 ≤ d m) : Meets N d i m i m :=
  ⟨hi, hm, si, sm, .inl rfl, .inl rfl, fun _ h1 h2 => ⟨h1, h2⟩⟩
theorem Meets.left {nx : Nat → List Nat} {N : Nat} {pl : Nat → Nat} {d : Nat → Int} (h : Nears nx N pl d) {i m x y : Nat} (hm : Meets N d i m x y) (hlt : pl y < pl x) : ∃ u : Nat, d x = (u : Int) ∧ pl u < pl x ∧ Meets N d i m u y := by
  have h0 : x ≠ 0 := by rintro rfl; have := h.pl0; omega
  obtain ⟨u, h1, h2, h3, h4, h5⟩ := h.toTold.up hm.xN h0 hm.xs
  refine ⟨u, h1, h3, h2, hm.yN, h4, hm.ys, h5.trans hm.xi, hm.ym, fun z z1 z2 => ?_⟩
  obtain ⟨z3, z4⟩ := hm.all z z1 z2
  refine ⟨?_, z4⟩
  have z5 := h.toTold.ancS hm.yN z4
  rcases z3 with rfl | z3
  · omega
  · rcases z3.split (by rw [cut0_ne h0]; exact h1) with rfl | z6
    · exact .inl rfl
    · exact .inr z6
theorem Meets.right {nx : Nat → List Nat} {N : Nat} {pl : Nat → Nat} {d : Nat → Int} (h : Nears nx N pl d) {i m x y : Nat} (hm : Meets N d i m x y) (hlt : pl x < pl y) : ∃ u : Nat, d y = (u : Int) ∧ pl u < pl y ∧ Meets N d i m x u := by
  have h0 : y ≠ 0 := by rintro rfl; have := h.pl0; omega
  obtain ⟨u, h1, h2, h3, h4, h5⟩ := h.toTold.up hm.yN h0 hm.ys
  refine ⟨u, h1, h3, hm.xN, h2, hm.xs, h4, hm.xi, h5.trans hm.ym, fun z z1 z2 => ?_⟩
  obtain ⟨z3, z4⟩ := hm.all z z1 z2
  refine ⟨z3, ?_⟩
  have z5 := h.toTold.ancS hm.xN z3
  rcases z4 with rfl | z4
  · omega
  · rcases z4.split (by rw [cut0_ne h0]; exact h1) with rfl | z6
    · exact .inl rfl
    · exact .inr z6
/-- an edge at which nothing is to be done any more -/
def Calm (d : Nat → Int) (i n : Nat) : Prop := n ≠ 0 → ∃ m : Nat, d n = (m : Int) ∧ AncS d m i
/-- what is told at the end -/
structure Doms (nx : Nat → List Nat) (N : Nat) (d : Nat → Int) : Prop where
  root : d 0 = -1
  up : ∀ v, v < N → v ≠ 0 → ∃ y : Nat, d v = (y : Int) ∧ y < N ∧ y ≠ v
  cut : ∀ v x, v < N → Anc d x v → x < N ∧ x ≠ v ∧ Cuts nx x v
  all : ∀ v x, v < N → x ≠ v → Cuts nx x v → Anc d x v
theorem Nears.end {nx : Nat → List Nat} {N : Nat} {pl : Nat → Nat} {d : Nat → Int} (h : Nears nx N pl d) (hall : ∀ v, v < N → LedTo nx (fun _ => False) v) (hin : ∀ u v, u < N → v ∈ nx u → v < N)
    (hcalm : ∀ i n, i < N → n ∈ nx i → Calm d i n) : Doms nx N (cut0 d) := by
  have hset : ∀ v, v < N → v ≠ 0 → 0 ≤ d v := by
    intro v hv h0
    cases hall v hv with
    | start => exact absurd rfl h0
    | @step u _ hu hv' _ =>
      have hu' : ∀ k, LedTo nx (fun _ => False) k → k < N := by
        intro k hk
        induction hk with
        | start _ => exact h.pos
        | step _ h1 _ ih => exact hin _ _ ih h1
      obtain ⟨m, hm, -⟩ := hcalm u v (hu' u hu) hv' h0
      omega
  have hled : ∀ k, LedTo nx (fun _ => False) k → k < N := by
    intro k hk
    induction hk with
    | start _ => exact h.pos
    | step _ h1 _ ih => exact hin _ _ ih h1
  refine ⟨by simp [cut0], fun v hv h0 => ?_, fun v x hv ha => ?_, fun v x hv hne hcut => ?_⟩
  · obtain ⟨y, h1, h2, h3, -, -⟩ := h.toTold.up hv h0 (hset v hv h0)
    exact ⟨y, by rw [cut0_ne h0]; exact h1, h2, by rintro rfl; omega⟩
  · have hx := h.toTold.anc hv ha
    refine ⟨hx.1, by rintro rfl; omega, fun hl => ?_⟩
    refine anc_cut (nx := nx) (d := cut0 d) (by simp [cut0]) (fun u v hu he hv0 => ?_) hl ha
    obtain ⟨m, hm, hs⟩ := hcalm u v (hled u hu) he hv0
    exact ⟨m, by rw [cut0_ne hv0]; exact hm, hs⟩
  · by_cases h0 : v = 0
    · subst h0
      exact absurd hcut.zero hne
    · exact h.cuts v x hv (hset v hv h0) hne hcut
end Go.Proofs.YtakcdecljfmckaaGreatDoor
