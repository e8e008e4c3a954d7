/- append onto a row of the call's own, of whatever source (nil, or none of its elements, too): what it comes to, in a region that draws its order and in one that does not. A slice that a call gathers, element by element. No condition. Ways through a graph, and what lies on all of them: plain. The nearest one of each block, plain: what the search holds of it. -/
import Derived.Test.YtakcdecljfmckaaGreatDoorCore2
import Derived.Deep.AppendLies
import Derived.Laws.OwnMore
import Derived.Laws.AppendOwnNone
import Derived.RegionTactic
import Derived.RowKit
set_option linter.all false
set_option linter.unusedVariables false
set_option linter.unusedSimpArgs false
namespace Go.Proofs.YtakcdecljfmckaaGreatDoor
open Go.RowKit

/-- a slice's value, and the cells of its m elements -/
def SrcAt (w : World) (u : Value) (m : Nat) (news : List Value) : Prop := (m = 0 ∧ news = [] ∧ u = .slice none 0 0) ∨ ∃ ad c, u = .slice (some ad) m c ∧ ∀ j v, news[j]? = some v → w.cell? (ad.add j) = some v

theorem SrcAt.fr {S : Nat → Prop} {w w' : World} {u : Value} {m : Nat} {news : List Value} (h : SrcAt w u m news) (hf : Fr S w w') (hn : ∀ k, u.ownBlock = some k → ¬ S k) : SrcAt w' u m news := by
  rcases h with h | ⟨ad, c, rfl, h⟩
  · exact .inl h
  · refine .inr ⟨ad, c, rfl, fun j v hj => hf.cell (h j v hj) ?_⟩
    have := hn ad.block rfl
    have e : (ad.add j).block = ad.block := by unfold Addr.add; split <;> rfl
    rw [e]; exact this

/-- a slice's own block -/
def OwnOf (v : Value) : Nat → Prop := fun k => v.ownBlock = some k
theorem OwnOf.ge {w : World} {base n size : Nat} {e : TypeId} {v : Value} {xs : List Value} (h : w.ownsRow base e size v n xs) {k : Nat} (hk : OwnOf v k) : base ≤ k := by
  rcases h.2 with ⟨rfl, _⟩ | ⟨g, cap, cur, rfl, hb, _⟩
  · simp [OwnOf, Value.ownBlock] at hk
  · simp [OwnOf, Value.ownBlock] at hk; omega

theorem grown_fr {w w' : World} {v : Value} (h : w.grownBy w' v.ownBlock) : Fr (OwnOf v) w w' :=
  ⟨h.os, h.tape, h.output, h.size, fun k hk hs => h.block k hk (fun he => hs he.symm)⟩

theorem run_append_src {P : Program} {w : World} (t ty : TypeId) (base : Nat) (e : TypeId) (i : TypeInfo) (z : Value) (size bytes : Nat) (ht : P.underlying t = some (.slice e)) (hi : P.info? e = some i) (hz : i.zero = some z)
    (hsize : i.size = size) (hby : i.bytes = bytes) (hzs : z.cells.size = size) (hsz : 0 < size)
    (v : Value) (n : Nat) (xs : List Value) (hown : w.ownsRow base e size v n xs) (u : Value) (m : Nat) (news : List Value) (hu : SrcAt w u m news) (hl : news.length = m * size) (h1 : ∀ u ∈ news, u.oneCell' = true)
    (h63 : n + m ≤ maxLen) (hbytes : (n + m) * bytes ≤ 140737488355328) (hbase : base ≤ w.heap.size) :
    ∃ v' w', (Builtin.append_ #[t, t] ty #[v, u]).run P w = .ok v' w' ∧ w'.ownsRow base e size v' (n + m) (xs ++ news) ∧ Fr (OwnOf v) w w' := by
  rcases hu with ⟨rfl, rfl, rfl⟩ | ⟨ad, c, rfl, hnews⟩
  · exact ⟨v, w, run_append_owned_none (P := P) (w := w) base t ty e i size ht hi v n xs hown, by simpa using hown, Fr.refl _ _⟩
  · obtain ⟨v', w', hr, h2, h3, _⟩ := run_append_own (P := P) w base t ty e i z size bytes ht hi hz hsize hby hzs hsz v n xs hown ad m c news hl hnews h1 h63 hbytes hbase
    exact ⟨v', w', hr, h2, grown_fr h3⟩

theorem wp_append_src {P : Program} {w : World} {o : Oper} {a : Act} {K : Act → World → Prop} {Q : Exit → Act → World → Prop} (s x : Operand) (t : TypeId)
    (ho : o.op = .call { callee := .builtin .append, args := #[s, x], argTypes := #[t, t] })
    (base : Nat) (e : TypeId) (i : TypeInfo) (z : Value) (size bytes : Nat) (ht : P.underlying t = some (.slice e)) (hi : P.info? e = some i) (hz : i.zero = some z)
    (hsize : i.size = size) (hby : i.bytes = bytes) (hzs : z.cells.size = size) (hsz : 0 < size)
    (v : Value) (n : Nat) (xs : List Value) (hs : a.eval s = v) (hown : w.ownsRow base e size v n xs) (u : Value) (m : Nat) (news : List Value) (hx : a.eval x = u) (hu : SrcAt w u m news) (hl : news.length = m * size) (h1 : ∀ u ∈ news, u.oneCell' = true)
    (h63 : n + m ≤ maxLen) (hbytes : (n + m) * bytes ≤ 140737488355328) (hbase : base ≤ w.heap.size)
    (h : ∀ v' w', w'.ownsRow base e size v' (n + m) (xs ++ news) → Fr (OwnOf v) w w' → K (a.put o.dst v') w') : o.wp P a w K Q := by
  obtain ⟨v', w', hr, h2, h3⟩ := run_append_src (P := P) t o.type base e i z size bytes ht hi hz hsize hby hzs hsz v n xs hown u m news hu hl h1 h63 hbytes hbase
  unfold Oper.wp execOp
  simp only [ho, resolve, invoke, builtin, Sem.run_bind, Sem.run_pure, Result.andThen_ok, List.map_toArray, List.map_cons, List.map_nil, hs, hx, hr]
  exact h v' w' h2 h3

theorem wpList_append_src {P : Program} {w : World} {ops : Array Oper} {rest : List Oper} {o : Oper} {a : Act} {Q : Exit → Act → World → Prop} (hgd : o.guard = none) (s x : Operand) (t : TypeId)
    (ho : o.op = .call { callee := .builtin .append, args := #[s, x], argTypes := #[t, t] })
    (base : Nat) (e : TypeId) (i : TypeInfo) (z : Value) (size bytes : Nat) (ht : P.underlying t = some (.slice e)) (hi : P.info? e = some i) (hz : i.zero = some z)
    (hsize : i.size = size) (hby : i.bytes = bytes) (hzs : z.cells.size = size) (hsz : 0 < size)
    (v : Value) (n : Nat) (xs : List Value) (hs : a.eval s = v) (hown : w.ownsRow base e size v n xs) (u : Value) (m : Nat) (news : List Value) (hx : a.eval x = u) (hu : SrcAt w u m news) (hl : news.length = m * size) (h1 : ∀ u ∈ news, u.oneCell' = true)
    (h63 : n + m ≤ maxLen) (hbytes : (n + m) * bytes ≤ 140737488355328) (hbase : base ≤ w.heap.size)
    (h : ∀ v' w', w'.ownsRow base e size v' (n + m) (xs ++ news) → Fr (OwnOf v) w w' → wpList P ops Q rest (a.put o.dst v') w') : wpList P ops Q (o :: rest) a w :=
  wpList_plain hgd fun _ hK => wp_append_src s x t ho base e i z size bytes ht hi hz hsize hby hzs hsz v n xs hs hown u m news hx hu hl h1 h63 hbytes hbase fun v' w' h2 h3 => hK _ _ (h v' w' h2 h3)

theorem step_append_src {P : Program} {w : World} {ops : Array Oper} {o : Oper} {a : Act} {K : Act → World → Prop} {Q : Exit → Act → World → Prop} {E : Prop} (hgd : o.guard = none) (s x : Operand) (t : TypeId)
    (ho : o.op = .call { callee := .builtin .append, args := #[s, x], argTypes := #[t, t] })
    (base : Nat) (e : TypeId) (i : TypeInfo) (z : Value) (size bytes : Nat) (ht : P.underlying t = some (.slice e)) (hi : P.info? e = some i) (hz : i.zero = some z)
    (hsize : i.size = size) (hby : i.bytes = bytes) (hzs : z.cells.size = size) (hsz : 0 < size)
    (v : Value) (n : Nat) (xs : List Value) (hs : a.eval s = v) (hown : w.ownsRow base e size v n xs) (u : Value) (m : Nat) (news : List Value) (hx : a.eval x = u) (hu : SrcAt w u m news) (hl : news.length = m * size) (h1 : ∀ u ∈ news, u.oneCell' = true)
    (h63 : n + m ≤ maxLen) (hbytes : (n + m) * bytes ≤ 140737488355328) (hbase : base ≤ w.heap.size)
    (h : ∀ v' w', w'.ownsRow base e size v' (n + m) (xs ++ news) → Fr (OwnOf v) w w' → K (a.put o.dst v') w') :
    if Region.wanted o (yielded ops a.tmps) = true then Oper.wp P o a w K Q else E := by
  have hw : Region.wanted o (yielded ops a.tmps) = true := by simp [Region.wanted, hgd]
  rw [if_pos hw]
  exact wp_append_src s x t ho base e i z size bytes ht hi hz hsize hby hzs hsz v n xs hs hown u m news hx hu hl h1 h63 hbytes hbase h

end Go.Proofs.YtakcdecljfmckaaGreatDoor

namespace Go.Proofs.YtakcdecljfmckaaGreatDoor
open Go.RowKit

theorem ownsRow_fr {S : Nat → Prop} {w w' : World} {base size n : Nat} {e : TypeId} {v : Value} {xs : List Value} (h : w.ownsRow base e size v n xs) (hf : Fr S w w') (hn : ∀ k, v.ownBlock = some k → ¬ S k) : w'.ownsRow base e size v n xs := by
  refine ⟨h.1, ?_⟩
  rcases h.2 with h2 | ⟨g, cap, cur, hv, hb, hg, h3⟩
  · exact .inl h2
  · refine .inr ⟨g, cap, cur, hv, hb, ?_, h3⟩
    have hlt : g < w.heap.size := by
      rcases Nat.lt_or_ge g w.heap.size with h | h
      · exact h
      · rw [Array.getElem?_eq_none h] at hg; cases hg
    rw [hf.block g hlt (hn g (by rw [hv]; rfl))]
    exact hg

/-- n elements are gathered, whose cells are xs -/
structure Gath (w : World) (t : TypeId) (size n : Nat) (xs : List Value) (v : Value) (wr : World) : Prop where
  fr : Fr No w wr
  own : wr.ownsRow w.heap.size t size v n xs

theorem Gath.start (w : World) (t : TypeId) (size : Nat) : Gath w t size 0 [] (.slice none 0 0) w := ⟨Fr.refl _ _, World.ownsRow_nil _ _ _ _⟩
theorem Gath.start' {w wr : World} (hf : Fr No w wr) (t : TypeId) (size : Nat) : Gath w t size 0 [] (.slice none 0 0) wr := ⟨hf, World.ownsRow_nil _ _ _ _⟩

theorem Gath.to {w wr w' : World} {t : TypeId} {size n : Nat} {xs : List Value} {v : Value} (h : Gath w t size n xs v wr) (hf : Fr No wr w') : Gath w t size n xs v w' :=
  ⟨h.fr.trans hf, ownsRow_fr h.own hf (fun _ _ => id)⟩

/-- behind an append -/
theorem Gath.step {w wr w' : World} {t : TypeId} {size n : Nat} {xs news : List Value} {v v' : Value} (h : Gath w t size n xs v wr) (ho : w'.ownsRow w.heap.size t size v' (n + 1) (xs ++ news)) (hf : Fr (OwnOf v) wr w') : Gath w t size (n + 1) (xs ++ news) v' w' :=
  ⟨((h.fr.any.trans (hf.mono fun k _ hk => OwnOf.ge h.own hk)) : Fr (From w) w w').ours, ho⟩

/-- a slice that holds cells, or is empty -/
theorem Gath.cells {w w' : World} {t : TypeId} {size n : Nat} {xs : List Value} {v : Value} (h : Gath w t size n xs v w') : (n = 0 ∧ xs = [] ∧ ∃ a c, v = .slice a 0 c) ∨ ∃ g cap, v = .slice (some ⟨g, 0, none⟩) n cap ∧ CellsAt w' g 0 xs ∧ w.heap.size ≤ g := by
  rcases h.own.2 with ⟨rfl, h0⟩ | ⟨g, cap, cur, hv, hb, hg, _, _, _, hx⟩
  · refine .inl ⟨h0, ?_, _, _, rfl⟩
    have := h.own.1
    rw [h0, Nat.zero_mul] at this
    exact List.eq_nil_of_length_eq_zero this
  · refine .inr ⟨g, cap, hv, fun j u hj => ?_, hb⟩
    rw [Nat.zero_add, cell_of_row w' g j cur t _ hg]
    rw [← hx, List.getElem?_take] at hj
    split at hj
    · simpa using hj
    · cases hj

/-- for an arm at a region's step: is the operation this append? (then 'rfl' closes the first goal; else the arm fails at once) -/
theorem guard_append {P : Program} {w : World} {ops : Array Oper} {o : Oper} {a : Act} {K : Act → World → Prop} {Q : Exit → Act → World → Prop} {E : Prop} (s x : Operand) (t : TypeId)
    (_ho : o.op = .call { callee := .builtin .append, args := #[s, x], argTypes := #[t, t] }) (h : if Region.wanted o (yielded ops a.tmps) = true then Oper.wp P o a w K Q else E) :
    if Region.wanted o (yielded ops a.tmps) = true then Oper.wp P o a w K Q else E := h

/-- a struct that was built lies in a block of its own -/
theorem src_new (w : World) (cs : List Value) (t : TypeId) : SrcAt (w.alloc (.cells cs.toArray t)) (.slice (some ⟨w.heap.size, 0, none⟩) 1 1) 1 cs := by
  refine .inr ⟨_, _, rfl, ?_⟩
  exact World.news_of_block (cs := cs.toArray) (by simpa using heap_alloc_new w (.cells cs.toArray t))

end Go.Proofs.YtakcdecljfmckaaGreatDoor

namespace Go.Proofs.YtakcdecljfmckaaGreatDoor

/-- the first node leads to one, by nodes that are none of those -/
inductive LedTo (nx : Nat → List Nat) (w : Nat → Prop) : Nat → Prop
  | start : ¬ w 0 → LedTo nx w 0
  | step {u v : Nat} : LedTo nx w u → v ∈ nx u → ¬ w v → LedTo nx w v
/-- x lies ahead of v on the way that d tells -/
inductive Anc (d : Nat → Int) (x : Nat) : Nat → Prop
  | one {v : Nat} : d v = (x : Int) → Anc d x v
  | more {v u : Nat} : d v = (u : Int) → Anc d x u → Anc d x v

theorem LedTo.not {nx : Nat → List Nat} {w : Nat → Prop} {v : Nat} (h : LedTo nx w v) : ¬ w v := by
  cases h with
  | start h => exact h
  | step _ _ h => exact h
theorem LedTo.any {nx : Nat → List Nat} {w : Nat → Prop} {v : Nat} (h : LedTo nx w v) : LedTo nx (fun _ => False) v := by
  induction h with
  | start _ => exact .start id
  | step _ hv _ ih => exact .step ih hv id
theorem Anc.trans {d : Nat → Int} {x y v : Nat} (h1 : Anc d x y) (h2 : Anc d y v) : Anc d x v := by
  induction h2 with
  | one h => exact .more h h1
  | more h _ ih => exact .more h ih
theorem Anc.split {d : Nat → Int} {x v y : Nat} (h : Anc d x v) (hy : d v = (y : Int)) : x = y ∨ Anc d x y := by
  cases h with
  | one h => left; omega
  | more h h2 =>
    right
    rename_i u
    have : u = y := by omega
    exact this ▸ h2
theorem Anc.has {d : Nat → Int} {x v : Nat} (h : Anc d x v) : 0 ≤ d v := by
  cases h with
  | one h => omega
  | more h _ => omega
/-- what d tells lies on all ways -/
theorem anc_cut {nx : Nat → List Nat} {d : Nat → Int} (h0 : d 0 < 0) (H : ∀ u v, LedTo nx (fun _ => False) u → v ∈ nx u → v ≠ 0 → ∃ y : Nat, d v = (y : Int) ∧ (y = u ∨ Anc d y u)) {x v : Nat} (hl : LedTo nx (· = x) v) : ¬ Anc d x v := by
  induction hl with
  | start _ => intro h; have := h.has; omega
  | @step u v hu hv hw ih =>
    intro h
    have hv0 : v ≠ 0 := by rintro rfl; have := h.has; omega
    obtain ⟨y, hy, hc⟩ := H u v hu.any hv hv0
    rcases h.split hy with rfl | h2
    · rcases hc with rfl | hc
      · exact hu.not rfl
      · exact ih hc
    · rcases hc with rfl | hc
      · exact ih h2
      · exact ih (h2.trans hc)
/-- where all ways go on, nothing lies ahead that is behind -/
theorem led_on {nx : Nat → List Nat} (hon : ∀ u v, v ∈ nx u → u < v) {x v : Nat} (h : LedTo nx (fun _ => False) v) (hlt : v < x) : LedTo nx (· = x) v := by
  induction h with
  | start _ => exact .start (by omega)
  | @step u v _ hv _ ih =>
    have := hon u v hv
    exact .step (ih (by omega)) hv (by omega)

/-! ### blocks in an order in which each but the last has one behind it that leads to it -/
/-- midway at node i: L has come, behind those that were seen ahead; the nodes of done were looked at -/
structure Part (nx : Nat → List Nat) (N : Nat) (seen : Nat → Prop) (i : Nat) (done L : List Nat) : Prop where
  nodup : L.Nodup
  fresh : ∀ k ∈ L, k < N ∧ k ≠ i ∧ ¬ seen k
  closed : ∀ k ∈ L, ∀ n ∈ nx k, seen n ∨ n = i ∨ n ∈ L
  kids : ∀ n ∈ done, seen n ∨ n = i ∨ n ∈ L
  led : ∀ A k B, L = A ++ k :: B → k ∈ nx i ∨ ∃ u ∈ B, k ∈ nx u
/-- a node is gone to: L has come, itself the last -/
structure Seg (nx : Nat → List Nat) (N : Nat) (seen : Nat → Prop) (i : Nat) (L : List Nat) : Prop where
  last : ∃ L', L = L' ++ [i]
  nodup : L.Nodup
  fresh : ∀ k ∈ L, k < N ∧ ¬ seen k
  closed : ∀ k ∈ L, ∀ n ∈ nx k, seen n ∨ n ∈ L
  led : ∀ A k B, L = A ++ k :: B → B = [] ∨ ∃ u ∈ B, k ∈ nx u
theorem Part.start {nx : Nat → List Nat} {N : Nat} {seen : Nat → Prop} {i : Nat} : Part nx N seen i [] [] :=
  ⟨List.nodup_nil, fun _ h => absurd h (by simp), fun _ h => absurd h (by simp), fun _ h => absurd h (by simp), fun A k B h => absurd h (by simp)⟩
theorem Part.skip {nx : Nat → List Nat} {N : Nat} {seen : Nat → Prop} {i n : Nat} {done L : List Nat} (h : Part nx N seen i done L) (hn : seen n ∨ n = i ∨ n ∈ L) : Part nx N seen i (done ++ [n]) L :=
  ⟨h.nodup, h.fresh, h.closed, fun k hk => by
    rcases List.mem_append.1 hk with hk | hk
    · exact h.kids k hk
    · rw [List.mem_singleton.1 hk]; exact hn, h.led⟩
theorem Part.child {nx : Nat → List Nat} {N : Nat} {seen : Nat → Prop} {i n : Nat} {done L K : List Nat} (h : Part nx N seen i done L) (hn : n ∈ nx i) (hk : Seg nx N (fun k => seen k ∨ k = i ∨ k ∈ L) n K) : Part nx N seen i (done ++ [n]) (L ++ K) := by
  obtain ⟨K', hK'⟩ := hk.last
  have hnK : n ∈ K := by rw [hK']; simp
  refine ⟨?_, ?_, ?_, ?_, ?_⟩
  · refine List.nodup_append.2 ⟨h.nodup, hk.nodup, fun a ha b hb e => ?_⟩
    subst e
    exact (hk.fresh a hb).2 (.inr (.inr ha))
  · intro k hk2
    rcases List.mem_append.1 hk2 with hk2 | hk2
    · exact h.fresh k hk2
    · have := hk.fresh k hk2
      exact ⟨this.1, fun e => this.2 (.inr (.inl e)), fun e => this.2 (.inl e)⟩
  · intro k hk2 m hm
    rcases List.mem_append.1 hk2 with hk2 | hk2
    · rcases h.closed k hk2 m hm with h1 | h1 | h1
      · exact .inl h1
      · exact .inr (.inl h1)
      · exact .inr (.inr (List.mem_append_left _ h1))
    · rcases hk.closed k hk2 m hm with (h1 | h1 | h1) | h1
      · exact .inl h1
      · exact .inr (.inl h1)
      · exact .inr (.inr (List.mem_append_left _ h1))
      · exact .inr (.inr (List.mem_append_right _ h1))
  · intro k hk2
    rcases List.mem_append.1 hk2 with hk2 | hk2
    · rcases h.kids k hk2 with h1 | h1 | h1
      · exact .inl h1
      · exact .inr (.inl h1)
      · exact .inr (.inr (List.mem_append_left _ h1))
    · rw [List.mem_singleton.1 hk2]
      exact .inr (.inr (List.mem_append_right _ hnK))
  · intro A k B e
    rcases List.append_eq_append_iff.1 e with ⟨A', hA, hB⟩ | ⟨C, hA, hB⟩
    · -- L ++ A' = A, K = A' ++ k :: B
      rcases hk.led A' k B hB with h1 | h1
      · subst h1
        have : k = n := by
          have e2 : K' ++ [n] = A' ++ [k] := hK'.symm.trans hB
          have := (List.append_inj' e2 rfl).2
          simpa using this.symm
        exact .inl (this ▸ hn)
      · exact .inr h1
    · cases C with
      | nil =>
        simp only [List.nil_append] at hB
        simp only [List.append_nil] at hA
        have hB2 : K = [] ++ k :: B := by simpa using hB.symm
        rcases hk.led [] k B hB2 with h1 | h1
        · subst h1
          have : k = n := by
            have e2 : K' ++ [n] = [] ++ [k] := hK'.symm.trans hB2
            have := (List.append_inj' e2 rfl).2
            simpa using this.symm
          exact .inl (this ▸ hn)
        · exact .inr h1
      | cons c C =>
        simp only [List.cons_append, List.cons.injEq] at hB
        obtain ⟨rfl, hB⟩ := hB
        rcases h.led A k C hA with h1 | ⟨u, hu, h1⟩
        · exact .inl h1
        · exact .inr ⟨u, by rw [hB]; exact List.mem_append_left _ hu, h1⟩
theorem Part.done {nx : Nat → List Nat} {N : Nat} {seen : Nat → Prop} {i : Nat} {L : List Nat} (h : Part nx N seen i (nx i) L) (hi : i < N) (hs : ¬ seen i) : Seg nx N seen i (L ++ [i]) := by
  refine ⟨⟨L, rfl⟩, ?_, ?_, ?_, ?_⟩
  · refine List.nodup_append.2 ⟨h.nodup, by simp, fun a ha b hb e => ?_⟩
    rw [List.mem_singleton.1 hb] at e
    exact (h.fresh a ha).2.1 e
  · intro k hk
    rcases List.mem_append.1 hk with hk | hk
    · exact ⟨(h.fresh k hk).1, (h.fresh k hk).2.2⟩
    · rw [List.mem_singleton.1 hk]; exact ⟨hi, hs⟩
  · intro k hk n hn
    have : seen n ∨ n = i ∨ n ∈ L := by
      rcases List.mem_append.1 hk with hk | hk
      · exact h.closed k hk n hn
      · rw [List.mem_singleton.1 hk] at hn
        exact h.kids n hn
    rcases this with h1 | h1 | h1
    · exact .inl h1
    · exact .inr (by rw [h1]; simp)
    · exact .inr (List.mem_append_left _ h1)
  · intro A k B e
    rcases List.append_eq_append_iff.1 e with ⟨A', hA, hB⟩ | ⟨C, hA, hB⟩
    · left
      have : ([i] : List Nat).length = (A' ++ k :: B).length := congrArg List.length hB
      simp only [List.length_cons, List.length_nil, List.length_append] at this
      exact List.eq_nil_of_length_eq_zero (by omega)
    · cases C with
      | nil =>
        left
        simp only [List.nil_append] at hB
        have := congrArg List.length hB
        simp only [List.length_cons, List.length_nil] at this
        exact List.eq_nil_of_length_eq_zero (by omega)
      | cons c C =>
        simp only [List.cons_append, List.cons.injEq] at hB
        obtain ⟨rfl, hB⟩ := hB
        right
        rcases h.led A k C hA with h1 | ⟨u, hu, h1⟩
        · exact ⟨i, by rw [hB]; simp, h1⟩
        · exact ⟨u, by rw [hB]; exact List.mem_append_left _ hu, h1⟩
/-- all that the first node leads to has come -/
theorem Seg.all {nx : Nat → List Nat} {N : Nat} {L : List Nat} (h : Seg nx N (fun _ => False) 0 L) {v : Nat} (hl : LedTo nx (fun _ => False) v) : v ∈ L := by
  induction hl with
  | start _ =>
    obtain ⟨L', e⟩ := h.last
    rw [e]; simp
  | step _ hv _ ih =>
    rcases h.closed _ ih _ hv with h1 | h1
    · exact h1.elim
    · exact h1
end Go.Proofs.YtakcdecljfmckaaGreatDoor

namespace Go.Proofs.YtakcdecljfmckaaGreatDoor

/-- the first node has none -/
def cut0 (d : Nat → Int) : Nat → Int := fun v => if v = 0 then -1 else d v
def AncS (d : Nat → Int) (x v : Nat) : Prop := x = v ∨ Anc (cut0 d) x v
def setAt (d : Nat → Int) (n : Nat) (r : Int) : Nat → Int := fun v => if v = n then r else d v
/-- what is told so far: of the first node itself -/
structure Told (N : Nat) (pl : Nat → Nat) (d : Nat → Int) : Prop where
  root : d 0 = 0
  pos : 0 < N
  set : ∀ v, v < N → v ≠ 0 → d v = -1 ∨ ∃ y : Nat, d v = (y : Int) ∧ y < N ∧ pl y < pl v ∧ 0 ≤ d y
  inj : ∀ u v, u < N → v < N → pl u = pl v → u = v
  low : ∀ v, v < N → pl v < N

theorem Told.up {N : Nat} {pl : Nat → Nat} {d : Nat → Int} (h : Told N pl d) {v : Nat} (hv : v < N) (h0 : v ≠ 0) (hs : 0 ≤ d v) : ∃ y : Nat, d v = (y : Int) ∧ y < N ∧ pl y < pl v ∧ 0 ≤ d y ∧ AncS d y v := by
  rcases h.set v hv h0 with h1 | ⟨y, h1, h2, h3, h4⟩
  · omega
  · exact ⟨y, h1, h2, h3, h4, .inr (.one (by unfold cut0; rw [if_neg h0]; exact h1))⟩
theorem AncS.trans {d : Nat → Int} {x y v : Nat} (h1 : AncS d x y) (h2 : AncS d y v) : AncS d x v := by
  rcases h1 with rfl | h1
  · exact h2
  · rcases h2 with rfl | h2
    · exact .inr h1
    · exact .inr (h1.trans h2)
theorem Told.upd {N : Nat} {pl : Nat → Nat} {d : Nat → Int} (h : Told N pl d) {n r : Nat} (hn : n < N) (h0 : n ≠ 0) (hr : r < N) (hp : pl r < pl n) (hs : 0 ≤ d r) : Told N pl (setAt d n r) := by
  refine ⟨by unfold setAt; rw [if_neg (Ne.symm h0)]; exact h.root, h.pos, fun v hv hv0 => ?_, h.inj, h.low⟩
  have hge : ∀ y, 0 ≤ d y → 0 ≤ setAt d n r y := fun y hy => by unfold setAt; split <;> omega
  by_cases e : v = n
  · subst e
    exact .inr ⟨r, by unfold setAt; rw [if_pos rfl], hr, hp, hge r hs⟩
  · have e2 : setAt d n r v = d v := by unfold setAt; rw [if_neg e]
    rw [e2]
    rcases h.set v hv hv0 with h1 | ⟨y, h1, h2, h3, h4⟩
    · exact .inl h1
    · exact .inr ⟨y, h1, h2, h3, hge y h4⟩
/-- how far all are from the first one -/
def farN (N : Nat) (pl : Nat → Nat) (d : Nat → Int) (v : Nat) : Nat := if d v < 0 then N else pl (d v).toNat
def farAll (N : Nat) (pl : Nat → Nat) (d : Nat → Int) : Nat := ((List.range N).map (farN N pl d)).sum
theorem sum_lt {f g : Nat → Nat} : ∀ (l : List Nat) {n : Nat}, n ∈ l → (∀ v ∈ l, g v ≤ f v) → g n < f n → (l.map g).sum < (l.map f).sum
  | v :: l, n, hn, hle, hlt => by
    simp only [List.map_cons, List.sum_cons]
    have hrest : ∀ (l : List Nat), (∀ v ∈ l, g v ≤ f v) → (l.map g).sum ≤ (l.map f).sum := by
      intro l
      induction l with
      | nil => intro _; simp
      | cons a l ih =>
        intro h
        simp only [List.map_cons, List.sum_cons]
        have := h a List.mem_cons_self
        have := ih fun v hv => h v (List.mem_cons_of_mem _ hv)
        omega
    rcases List.mem_cons.1 hn with rfl | hn
    · have := hrest l fun v hv => hle v (List.mem_cons_of_mem _ hv)
      omega
    · have := sum_lt l hn (fun v hv => hle v (List.mem_cons_of_mem _ hv)) hlt
      have := hle v List.mem_cons_self
      omega
theorem Told.nearer {N : Nat} {pl : Nat → Nat} {d : Nat → Int} (h : Told N pl d) {n r : Nat} (hn : n < N) (hr : r < N) (hlt : pl r < farN N pl d n) : farAll N pl (setAt d n r) < farAll N pl d := by
  unfold farAll
  refine sum_lt _ (List.mem_range.2 hn) (fun v hv => ?_) ?_
  · by_cases e : v = n
    · subst e
      have : farN N pl (setAt d v r) v = pl r := by unfold farN setAt; rw [if_pos rfl, if_neg (by omega), Int.toNat_natCast]
      omega
    · have : farN N pl (setAt d n r) v = farN N pl d v := by unfold farN setAt; rw [if_neg e]
      omega
  · have : farN N pl (setAt d n r) n = pl r := by unfold farN setAt; rw [if_pos rfl, if_neg (by omega), Int.toNat_natCast]
    omega

/-! ### the order -/
theorem turn_head {nx : Nat → List Nat} {N : Nat} {L : List Nat} (h : Seg nx N (fun _ => False) 0 L) : ∃ T, L.reverse = 0 :: T := by
  obtain ⟨L', e⟩ := h.last
  exact ⟨L'.reverse, by rw [e, List.reverse_append]; rfl⟩
theorem turn_led {nx : Nat → List Nat} {N : Nat} {L : List Nat} (h : Seg nx N (fun _ => False) 0 L) (v : Nat) (hv : v ∈ L.reverse) (h0 : v ≠ 0) : ∃ u ∈ L.reverse, L.reverse.idxOf u < L.reverse.idxOf v ∧ v ∈ nx u := by
  have hv := List.mem_reverse.1 hv
  obtain ⟨A, B, e⟩ := List.append_of_mem hv
  have hnd := h.nodup
  rw [e] at hnd
  have hvB : v ∉ B := fun hb => by
    have := (List.nodup_append.1 hnd).2.1
    rw [List.nodup_cons] at this
    exact this.1 hb
  rcases h.led A v B e with hB | ⟨u, hu, hvu⟩
  · obtain ⟨L', e2⟩ := h.last
    rw [hB] at e
    have := (List.append_inj' (e.symm.trans e2) rfl).2
    simp only [List.cons.injEq, and_true] at this
    exact absurd this h0
  · refine ⟨u, List.mem_reverse.2 (by rw [e]; exact List.mem_append_right _ (List.mem_cons_of_mem _ hu)), ?_, hvu⟩
    have er : L.reverse = B.reverse ++ v :: A.reverse := by rw [e]; simp
    rw [er, List.idxOf_append, List.idxOf_append, if_pos (List.mem_reverse.2 hu), if_neg (fun hb => hvB (List.mem_reverse.1 hb))]
    have := List.idxOf_lt_length_of_mem (List.mem_reverse.2 hu)
    have h2 : (v :: A.reverse).idxOf v = 0 := List.idxOf_cons_self
    rw [h2]
    omega
end Go.Proofs.YtakcdecljfmckaaGreatDoor
