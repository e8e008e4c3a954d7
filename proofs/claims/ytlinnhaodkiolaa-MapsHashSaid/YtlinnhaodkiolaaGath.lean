/- A slice that a call gathers, element by element. No condition. -/
import Derived.Test.YtlinnhaodkiolaaApp
namespace Go.Proofs.Ytlinnhaodkiolaa
open Go.RowKit

theorem ownsRow_fr {S : Nat → Prop} {w w' : World} {base size n : Nat} {e : TypeId} {v : Value} {xs : List Value} (h : w.ownsRow base e size v n xs) (hf : Fr S w w') (hn : ∀ k, v.ownBlock = some k → ¬ S k) : w'.ownsRow base e size v n xs := by
  refine ⟨h.1, ?_⟩
  rcases h.2 with h2 | ⟨g, cap, cur, hv, hb, hg, h3⟩
  · exact .inl h2
  · refine .inr ⟨g, cap, cur, hv, hb, ?_, h3⟩
    have hlt : g < w.heap.size := by
      rcases Nat.lt_or_ge g w.heap.size with h | h
      · exact h
      · rw [Array.getElem?_eq_none h] at hg; cases hg
    rw [hf.block g hlt (hn g (by rw [hv]; rfl))]
    exact hg

/-- n elements are gathered, whose cells are xs -/
structure Gath (w : World) (t : TypeId) (size n : Nat) (xs : List Value) (v : Value) (wr : World) : Prop where
  fr : Fr No w wr
  own : wr.ownsRow w.heap.size t size v n xs

theorem Gath.start (w : World) (t : TypeId) (size : Nat) : Gath w t size 0 [] (.slice none 0 0) w := ⟨Fr.refl _ _, World.ownsRow_nil _ _ _ _⟩
theorem Gath.start' {w wr : World} (hf : Fr No w wr) (t : TypeId) (size : Nat) : Gath w t size 0 [] (.slice none 0 0) wr := ⟨hf, World.ownsRow_nil _ _ _ _⟩

theorem Gath.to {w wr w' : World} {t : TypeId} {size n : Nat} {xs : List Value} {v : Value} (h : Gath w t size n xs v wr) (hf : Fr No wr w') : Gath w t size n xs v w' :=
  ⟨h.fr.trans hf, ownsRow_fr h.own hf (fun _ _ => id)⟩

/-- behind an append -/
theorem Gath.step {w wr w' : World} {t : TypeId} {size n : Nat} {xs news : List Value} {v v' : Value} (h : Gath w t size n xs v wr) (ho : w'.ownsRow w.heap.size t size v' (n + 1) (xs ++ news)) (hf : Fr (OwnOf v) wr w') : Gath w t size (n + 1) (xs ++ news) v' w' :=
  ⟨((h.fr.any.trans (hf.mono fun k _ hk => OwnOf.ge h.own hk)) : Fr (From w) w w').ours, ho⟩

/-- a slice that holds cells, or is empty -/
theorem Gath.cells {w w' : World} {t : TypeId} {size n : Nat} {xs : List Value} {v : Value} (h : Gath w t size n xs v w') : (n = 0 ∧ xs = [] ∧ ∃ a c, v = .slice a 0 c) ∨ ∃ g cap, v = .slice (some ⟨g, 0, none⟩) n cap ∧ CellsAt w' g 0 xs ∧ w.heap.size ≤ g := by
  rcases h.own.2 with ⟨rfl, h0⟩ | ⟨g, cap, cur, hv, hb, hg, _, _, _, hx⟩
  · refine .inl ⟨h0, ?_, _, _, rfl⟩
    have := h.own.1
    rw [h0, Nat.zero_mul] at this
    exact List.eq_nil_of_length_eq_zero this
  · refine .inr ⟨g, cap, hv, fun j u hj => ?_, hb⟩
    rw [Nat.zero_add, cell_of_row w' g j cur t _ hg]
    rw [← hx, List.getElem?_take] at hj
    split at hj
    · simpa using hj
    · cases hj

/-- for an arm at a region's step: is the operation this append? (then 'rfl' closes the first goal; else the arm fails at once) -/
theorem guard_append {P : Program} {w : World} {ops : Array Oper} {o : Oper} {a : Act} {K : Act → World → Prop} {Q : Exit → Act → World → Prop} {E : Prop} (s x : Operand) (t : TypeId)
    (_ho : o.op = .call { callee := .builtin .append, args := #[s, x], argTypes := #[t, t] }) (h : if Region.wanted o (yielded ops a.tmps) = true then Oper.wp P o a w K Q else E) :
    if Region.wanted o (yielded ops a.tmps) = true then Oper.wp P o a w K Q else E := h

/-- a struct that was built lies in a block of its own -/
theorem src_new (w : World) (cs : List Value) (t : TypeId) : SrcAt (w.alloc (.cells cs.toArray t)) (.slice (some ⟨w.heap.size, 0, none⟩) 1 1) 1 cs := by
  refine .inr ⟨_, _, rfl, ?_⟩
  exact World.news_of_block (cs := cs.toArray) (by simpa using heap_alloc_new w (.cells cs.toArray t))

end Go.Proofs.Ytlinnhaodkiolaa
