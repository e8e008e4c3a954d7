/- What the operations of a region that draws its order do, one by one, for LnK0's rule. -/
import Derived.Test.YthkdokkpiaaljaaGreatDoorLnK0
import Derived.Deep.MidRow
import Derived.Deep.WholeRow
set_option linter.all false
set_option linter.unusedVariables false
set_option linter.unusedSimpArgs false
namespace Go.Proofs.YthkdokkpiaaljaaGreatDoor
open Go.RowKit

theorem evalT {A : Act} {d : Tmp} {v : Value} (h : A.tmps[d]? = some v) : A.eval (.tmp d) = v := by
  show A.tmps.getD d undef = v
  rw [Array.getD_eq_getD_getElem?, h]
  rfl
section
variable {P : Program} {ops : Array Oper} {C : List (Option Value)} {h : Nat → Option Value} {a : Act} {i : Nat}
/-- a slot that is known ahead -/
theorem pre_val (hpre : ∀ k ∈ preOf ops i, Filled ops C h a k) (k d : Nat) {c : Value} (hk : (preOf ops i).contains k = true) (hd : dstOf ops k = some d) (hc : C.getD k none = some c) : a.eval (.tmp d) = c :=
  evalT ((hpre k (by simpa using hk)).pure hd hc)
theorem pre_val2 (hpre : ∀ k ∈ preOf ops i, Filled ops C h a k ∧ (C.getD k none = none → ∃ v, h k = some v)) (k d : Nat) {c : Value} (hk : (preOf ops i).contains k = true) (hd : dstOf ops k = some d) (hc : C.getD k none = some c) : a.eval (.tmp d) = c :=
  evalT ((hpre k (by simpa using hk)).1.pure hd hc)
/-- a slot that was made -/
theorem pre_made (hpre : ∀ k ∈ preOf ops i, Filled ops C h a k ∧ (C.getD k none = none → ∃ v, h k = some v)) (k d : Nat) (hk : (preOf ops i).contains k = true) (hd : dstOf ops k = some d) (hc : C.getD k none = none) : ∃ v, h k = some v ∧ a.eval (.tmp d) = v := by
  obtain ⟨v, h1, h2⟩ := (hpre k (by simpa using hk)).1.made hd hc
  exact ⟨v, h1, evalT h2⟩
/-- a step that has no slot was done -/
theorem pre_done (hpre : ∀ k ∈ preOf ops i, Filled ops C h a k ∧ (C.getD k none = none → ∃ v, h k = some v)) (k : Nat) (hk : (preOf ops i).contains k = true) (hc : C.getD k none = none) : ∃ v, h k = some v := (hpre k (by simpa using hk)).2 hc
theorem base_val {base : List (Tmp × Value)} (hb : Vals a base) (d : Nat) {v : Value} (hm : (d, v) ∈ base) : a.eval (.tmp d) = v := evalT (of_vals hb (d, v) hm)
end
section
variable {P : Program} {A : Act} {W : World}
theorem do_move {x : Operand} {v : Value} {d : Option Tmp} {ty : TypeId} {pos : String} {af : Array Edge} {g : Option (Nat × Bool)} (hx : A.eval x = v) : (execOp A.eval ⟨d, .move x, ty, pos, af, g⟩).run P W = .ok (.value v) W := by rw [← hx]; rfl
theorem do_assign {x : Operand} {v : Value} {d : Option Tmp} {ty : TypeId} {pos : String} {af : Array Edge} {g : Option (Nat × Bool)} (hx : A.eval x = v) : (execOp A.eval ⟨d, .assign x, ty, pos, af, g⟩).run P W = .ok (.value v) W := by rw [← hx]; rfl
theorem do_convert {x : Operand} {v r : Value} {s t : TypeId} {d : Option Tmp} {ty : TypeId} {pos : String} {af : Array Edge} {g : Option (Nat × Bool)} (hx : A.eval x = v) (hr : (convert s t v).run P W = .ok r W) : (execOp A.eval ⟨d, .convert s t x, ty, pos, af, g⟩).run P W = .ok (.value r) W := by
  simp [execOp, hx, hr, Result.andThen]
theorem do_bin {op : BinOp} {x y : Operand} {v u r : Value} {s t : TypeId} {d : Option Tmp} {ty : TypeId} {pos : String} {af : Array Edge} {g : Option (Nat × Bool)} (hx : A.eval x = v) (hy : A.eval y = u) (hr : (do eqGuard op s x y v u; binOp op s v u : Sem Value).run P W = .ok r W) : (execOp A.eval ⟨d, .binOp op s x y t, ty, pos, af, g⟩).run P W = .ok (.value r) W := by
  simp only [execOp, hx, hy]
  rw [Sem.run_bind, hr]
  rfl
theorem do_index {x y : Operand} {v u r : Value} {t : TypeId} {d : Option Tmp} {ty : TypeId} {pos : String} {af : Array Edge} {g : Option (Nat × Bool)} (hx : A.eval x = v) (hy : A.eval y = u) (hr : (Instr.indexAt t v u).run P W = .ok r W) : (execOp A.eval ⟨d, .indexAddr t x y, ty, pos, af, g⟩).run P W = .ok (.value r) W := by
  simp [execOp, hx, hy, hr, Result.andThen]
theorem do_load {x : Operand} {v r : Value} {t : TypeId} {d : Option Tmp} {ty : TypeId} {pos : String} {af : Array Edge} {g : Option (Nat × Bool)} (hx : A.eval x = v) (hr : (Instr.loadAt t v).run P W = .ok r W) : (execOp A.eval ⟨d, .load t x, ty, pos, af, g⟩).run P W = .ok (.value r) W := by
  simp [execOp, hx, hr, Result.andThen]
theorem do_alloc {z : Array Value} {t : TypeId} {d : Option Tmp} {ty : TypeId} {pos : String} {af : Array Edge} {g : Option (Nat × Bool)} {K : Act → World → Prop} {Q : Exit → Act → World → Prop} (hz : (P.info? t).map (fun i => (i.zero, i.size)) = some (some (.agg z), z.size)) (hK : K (A.put d (.pointer (some ⟨W.heap.size, 0, none⟩))) (W.alloc (.cells z t))) : Oper.wp P ⟨d, .alloc t, ty, pos, af, g⟩ A W K Q := by
  have h := (zero_of_info hz).1 W
  have hc : (newVar t (.agg z)).run P W = .ok ⟨W.heap.size, 0, none⟩ (W.alloc (.cells z t)) := by simp [newVar, go_sem, Value.cells]
  unfold Oper.wp
  have e : (execOp A.eval ⟨d, .alloc t, ty, pos, af, g⟩).run P W = .ok (.value (.pointer (some ⟨W.heap.size, 0, none⟩))) (W.alloc (.cells z t)) := by
    simp [execOp, Instr.alloc, h, hc, Result.andThen]
  rw [e]
  exact hK
theorem do_store {t : TypeId} {x y : Operand} {b : Nat} {cs : Array Value} {ty : TypeId} {pos : String} {af : Array Edge} {g : Option (Nat × Bool)} {K : Act → World → Prop} {Q : Exit → Act → World → Prop} (hx : A.eval x = .pointer (some ⟨b, 0, none⟩)) (hy : A.eval y = .agg cs) (ht : W.there b 0 cs.size) (hi : (P.info? t).map (·.size) = some cs.size) (h1 : cs.all (·.oneCell') = true) (hK : K A (W.setCells b 0 cs.toList)) : Oper.wp P ⟨none, .store t x y, ty, pos, af, g⟩ A W K Q :=
  wp_store_mid t x y rfl b 0 cs hx hy ht hi h1 hK
end
/-- a variable that a region makes (at the pointer hp), and perhaps has written since (hd): these cells -/
def Boxed (w1 W : World) (hp hd : Option Value) (cs : List Value) : Prop :=
  (hp = none → hd = none) ∧ ∀ v, hp = some v → ∃ b, v = .pointer (some ⟨b, 0, none⟩) ∧ w1.heap.size ≤ b ∧ b < W.heap.size ∧ W.there b 0 cs.length ∧ (hd ≠ none → CellsAt W b 0 cs)
theorem Boxed.not {w1 W : World} {cs : List Value} : Boxed w1 W none none cs := ⟨fun _ => rfl, fun v h => by cases h⟩
theorem Boxed.made {w1 W : World} {cs : List Value} (hs : w1.heap.size ≤ W.heap.size) (z : List Value) (t : TypeId) (hz : z.length = cs.length) : Boxed w1 (W.alloc (.cells z.toArray t)) (some (.pointer (some ⟨W.heap.size, 0, none⟩))) none cs := by
  refine ⟨fun _ => rfl, fun v h => ?_⟩
  obtain rfl := Option.some.inj h
  refine ⟨_, rfl, hs, by show _ < (W.heap.push _).size; rw [Array.size_push]; omega, fun j hj => ?_, fun h => absurd rfl h⟩
  have hc := CellsAt.new W z t j z[j] (List.getElem?_eq_getElem (by omega))
  exact ⟨by rw [hc]; rfl, World.frozen?_alloc_new _ _ _ _⟩
theorem Boxed.alloc {w1 W : World} {hp hd : Option Value} {cs : List Value} (h : Boxed w1 W hp hd cs) (o : Obj) : Boxed w1 (W.alloc o) hp hd cs := by
  refine ⟨h.1, fun v hv => ?_⟩
  obtain ⟨b, e, h1, h2, h3, h4⟩ := h.2 v hv
  exact ⟨b, e, h1, by show _ < (W.heap.push _).size; rw [Array.size_push]; omega, World.there_alloc h3 o, fun hn => World.rangeAt_alloc (h4 hn) o⟩
theorem Boxed.put {w1 W : World} {b : Nat} {hd : Option Value} {cs : List Value} (h : Boxed w1 W (some (.pointer (some ⟨b, 0, none⟩))) hd cs) (u : Value) : Boxed w1 (W.setCells b 0 cs) (some (.pointer (some ⟨b, 0, none⟩))) (some u) cs := by
  obtain ⟨b', e, h1, h2, h3, -⟩ := h.2 _ rfl
  cases e
  refine ⟨fun h => absurd h (by simp), fun v hv => ?_⟩
  obtain rfl := Option.some.inj hv
  exact ⟨b, rfl, h1, by rw [size_setCells]; exact h2, World.there_setCells h3 b 0 cs, fun _ => World.rangeAt_setCells_same W b 0 cs h3⟩
theorem Boxed.other {w1 W : World} {hp hd : Option Value} {cs : List Value} (h : Boxed w1 W hp hd cs) (b : Nat) (vs : List Value) (hn : ∀ v, hp = some v → v ≠ .pointer (some ⟨b, 0, none⟩)) : Boxed w1 (W.setCells b 0 vs) hp hd cs := by
  refine ⟨h.1, fun v hv => ?_⟩
  obtain ⟨b', e, h1, h2, h3, h4⟩ := h.2 v hv
  have hb : b' ≠ b := by rintro rfl; exact hn v hv e
  exact ⟨b', e, h1, by rw [size_setCells]; exact h2, World.there_setCells h3 b 0 vs, fun hd => World.rangeAt_setCells_apart (h4 hd) b 0 vs (.inl hb)⟩
end Go.Proofs.YthkdokkpiaaljaaGreatDoor
