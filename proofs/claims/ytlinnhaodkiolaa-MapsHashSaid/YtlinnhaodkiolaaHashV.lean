/- A hash of the call's own, and two rows of strings beside it: what a call does to all three. No condition. -/
import Derived.Test.YtlinnhaodkiolaaHashT
namespace Go.Proofs.Ytlinnhaodkiolaa
open Go.RowKit

def kB (c : Nat) : ByteArray := ⟨(leBytes 2 c).toArray⟩
def vB (v : List UInt8) : ByteArray := ⟨v.toArray⟩

theorem kB_eq {a b : Nat} (ha : a < 65536) (hb : b < 65536) : ((kB a).toList == (kB b).toList) = decide (a = b) := by
  unfold kB
  rw [bytes_eql]
  rw [Bool.eq_iff_iff]
  simp only [decide_eq_true_eq]
  exact ⟨two_inj ha hb, fun h => by rw [h]⟩

theorem vB_eq (a b : List UInt8) : ((vB a).toList == (vB b).toList) = decide (a = b) := bytes_eql a b

/-- the maps, their memory, and two rows -/
structure KT (w : World) (b mb B : Nat) (A H T : Nat → Prop) (S : List Tab) (m : List Reg) (kv : Value) (nk : Nat) (xk : List Value) (vv : Value) (nv : Nat) (xv : List Value) (wr : World) : Prop where
  k : KSt w b mb S m A H T wr
  t : Two B kv nk xk vv nv xv wr
  low : ∀ q, A q ∨ H q ∨ T q → q < B
  lo : w.heap.size ≤ B

section
variable {w wr w' : World} {b mb B : Nat} {A H T : Nat → Prop} {S : List Tab} {m : List Reg} {kv vv : Value} {nk nv : Nat} {xk xv : List Value}

theorem KT.to (h : KT w b mb B A H T S m kv nk xk vv nv xv wr) (hf : Fr No wr w') : KT w b mb B A H T S m kv nk xk vv nv xv w' := ⟨h.k.to hf, h.t.no hf, h.low, h.lo⟩
theorem KT.swap (h : KT w b mb B A H T S m kv nk xk vv nv xv wr) : KT w b mb B A H T S m vv nv xv kv nk xk wr := ⟨h.k, h.t.swap, h.low, h.lo⟩

theorem KT.own (h : KT w b mb B A H T S m kv nk xk vv nv xv wr) {X : Nat → Prop} (hf : Fr X wr w') (hX : ∀ k, X k → B ≤ k) {kv' : Value} {nk' : Nat} {xk' : List Value} (ht : Two B kv' nk' xk' vv nv xv w') : KT w b mb B A H T S m kv' nk' xk' vv nv xv w' :=
  ⟨h.k.apart hf (fun q hq => Nat.le_trans h.lo (hX q hq)) (fun q hq hx => by have := hX q hx; have := h.low q (.inl hq); omega) (fun q hq hx => by have := hX q hx; have := h.low q (.inr (.inl hq)); omega) (fun q hq hx => by have := hX q hx; have := h.low q (.inr (.inr hq)); omega), ht, h.low, h.lo⟩

theorem KT.update (h : KT w b mb B A H T S m kv nk xk vv nv xv wr) (c : Nat) (D : List UInt8) (S' : List Tab) (m' : List Reg) (r : Int) (hr : mupdate S m 1 (leBytes 2 c) D = ((S', m'), r)) :
    Calls Try.prog 11 #[.pointer (some ⟨b, 0, none⟩), .int .i64 1, .string (kB c), .string (vB D)] wr fun e w' => e = .returned (.int .i64 r) ∧ Hid (KT w b mb B A H T S' m' kv nk xk vv nv xv w') :=
  (h.k.update 1 (leBytes 2 c) D S' m' r hr).mono fun e w' ⟨he, hk, hf⟩ => ⟨he, ⟨hk.out, h.t.to hf (fun q hq => h.low q (.inr hq)), h.low, h.lo⟩⟩

theorem KT.delete (h : KT w b mb B A H T S m kv nk xk vv nv xv wr) (c : Nat) (S' : List Tab) (r : Int) (hr : mdelete S 1 (leBytes 2 c) = (S', r)) :
    Calls Try.prog 10 #[.pointer (some ⟨b, 0, none⟩), .int .i64 1, .string (kB c)] wr fun e w' => e = .returned (.int .i64 r) ∧ Hid (KT w b mb B A H T S' m kv nk xk vv nv xv w') :=
  (h.k.delete 1 (leBytes 2 c) S' r hr).mono fun e w' ⟨he, hk, hf⟩ => ⟨he, ⟨hk.out, h.t.to hf (fun q hq => h.low q (.inr (.inl hq))), h.low, h.lo⟩⟩

/-- an element is appended to the left row -/
theorem list_left {ops : Array Oper} {rest : List Oper} {o : Oper} {a : Act} {Q : Exit → Act → World → Prop}
    (hgd : o.guard = none) (s x : Operand) (ho : o.op = .call { callee := .builtin .append, args := #[s, x], argTypes := #[28, 28] }) (v : Value) (hv : v.oneCell' = true)
    (h : Hid (KT w b mb B A H T S m kv nk xk vv nv xv wr)) (hs : a.eval s = kv)
    (hx : a.eval x = .slice (some ⟨wr.heap.size, 0, none⟩) 1 1) (hn : nk + 1 ≤ 4294967296)
    (hk : ∀ v' w', Hid (KT w b mb B A H T S m v' (nk + 1) (xk ++ [v]) vv nv xv w') → wpList Try.prog ops Q rest (a.put o.dst v') w') : wpList Try.prog ops Q (o :: rest) a (wr.alloc (.cells #[v] 9)) := by
  have h2 := h.out.to ((Fr.refl No wr).alloc (.cells #[v] 9))
  refine list_two hgd s x ho (Lib.hid h2.t) hs _ 1 [v] hx (src_new wr [v] _) rfl (fun u hu => ?_) hn ?_
  · simp at hu; subst hu; exact hv
  · intro v' w' ht hf
    exact hk v' w' (h2.own hf (fun q hq => (h2.t.ks.lt q hq).1) ht.out)

theorem list_right {ops : Array Oper} {rest : List Oper} {o : Oper} {a : Act} {Q : Exit → Act → World → Prop}
    (hgd : o.guard = none) (s x : Operand) (ho : o.op = .call { callee := .builtin .append, args := #[s, x], argTypes := #[28, 28] }) (v : Value) (hv : v.oneCell' = true)
    (h : Hid (KT w b mb B A H T S m kv nk xk vv nv xv wr)) (hs : a.eval s = vv)
    (hx : a.eval x = .slice (some ⟨wr.heap.size, 0, none⟩) 1 1) (hn : nv + 1 ≤ 4294967296)
    (hk : ∀ v' w', Hid (KT w b mb B A H T S m kv nk xk v' (nv + 1) (xv ++ [v]) w') → wpList Try.prog ops Q rest (a.put o.dst v') w') : wpList Try.prog ops Q (o :: rest) a (wr.alloc (.cells #[v] 9)) :=
  list_left hgd s x ho v hv (Lib.hid h.out.swap) hs hx hn fun v' w' h' => hk v' w' h'.out.swap

/-- an element of the right row is laid anew -/
theorem KT.store {g cap : Nat} (h : KT w b mb B A H T S m kv nk xk (.slice (some ⟨g, 0, none⟩) nv cap) nv xv wr) (j : Nat) (u : Value) :
    KT w b mb B A H T S m kv nk xk (.slice (some ⟨g, 0, none⟩) nv cap) nv (xv.set j u) (wr.setCell ⟨g, j, none⟩ u) := by
  obtain ⟨a, hf⟩ := h.t.swap.store j u
  have hg : B ≤ g := (h.t.vs.lt g rfl).1
  exact (h.swap.own hf (fun k hk => by rw [hk]; exact hg) a).swap

/-- rows made anew take the place of the old ones -/
theorem KT.anew (h : KT w b mb B A H T S m kv nk xk vv nv xv wr) {kv' vv' : Value} {nk' nv' : Nat} {xk' xv' : List Value} (hr : TwoF wr kv' nk' xk' vv' nv' xv' w') : KT w b mb B A H T S m kv' nk' xk' vv' nv' xv' w' :=
  ⟨h.k.to hr.2, hr.1.mono h.t.size, h.low, h.lo⟩

end

/-- the state between two acts -/
structure HashW (w : World) (b mb B many : Nat) (A H T : Nat → Prop) (S : List Tab) (m : List Reg) (K : List Nat) (V : List (List UInt8)) (kv vv : Value) (wr : World) : Prop where
  kt : KT w b mb B A H T S m kv K.length (kcells K) vv K.length (vcells V) wr
  i : HashI many S m K V

section
variable {w wr w' : World} {b mb B many : Nat} {A H T : Nat → Prop} {S : List Tab} {m : List Reg} {K : List Nat} {V : List (List UInt8)}

theorem HashW.to {kv vv : Value} (h : HashW w b mb B many A H T S m K V kv vv wr) (hf : Fr No wr w') : HashW w b mb B many A H T S m K V kv vv w' := ⟨h.kt.to hf, h.i⟩

/-- where a key is, among the first k -/
def AtIs (K : List Nat) (c k : Nat) (s : Value) : Prop := (s = .int .i64 (-1) ∧ ∀ j d, j < k → K[j]? = some d → d ≠ c) ∨ ∃ j : Nat, j < k ∧ s = .int .i64 j ∧ K[j]? = some c

theorem AtIs.next {K : List Nat} {c k : Nat} {s : Value} (h : AtIs K c k s) (hn : K[k]? ≠ some c) : AtIs K c (k + 1) s := by
  rcases h with ⟨h1, h2⟩ | ⟨j, hj, h1, h2⟩
  · refine .inl ⟨h1, fun j d hj hd e => ?_⟩
    by_cases hjk : j = k
    · subst hjk; subst e; exact hn hd
    · exact h2 j d (by omega) hd e
  · exact .inr ⟨j, by omega, h1, h2⟩

theorem kcell {w : World} {g : Nat} {K : List Nat} (h : CellsAt w g 0 (kcells K)) {j c : Nat} (hj : K[j]? = some c) : w.cell? ⟨g, j, none⟩ = some (.string (kB c)) := by
  have := h j (.string (kB c)) (by unfold kcells; rw [List.getElem?_map, hj]; rfl)
  rwa [Nat.zero_add] at this
theorem vcell {w : World} {g : Nat} {V : List (List UInt8)} (h : CellsAt w g 0 (vcells V)) {j : Nat} {v : List UInt8} (hj : V[j]? = some v) : w.cell? ⟨g, j, none⟩ = some (.string (vB v)) := by
  have := h j (.string (vB v)) (by unfold vcells; rw [List.getElem?_map, hj]; rfl)
  rwa [Nat.zero_add] at this

/-- the keys' row, and the values' -/
theorem HashW.krow {nk kc : Nat} {ka : Option Addr} {vv : Value} (h : HashW w b mb B many A H T S m K V (.slice ka nk kc) vv wr) (hn : K.length = nk) (h0 : 0 < nk) :
    ∃ g, ka = some ⟨g, 0, none⟩ ∧ CellsAt wr g 0 (kcells K) ∧ nk ≤ kc := by
  rcases h.kt.t.ks.2 with ⟨he, h0'⟩ | ⟨g, cap, cur, he, hb, hg, hc, _, _, hx⟩
  · omega
  · obtain ⟨ka', kc', he2, hpos⟩ := h.kt.t.form
    obtain ⟨g', hg', _, hcs, _⟩ := hpos (by omega)
    injection he with e1 e2 e3
    injection he2 with f1 f2 f3
    exact ⟨g', by rw [f1, hg'], hcs, by omega⟩

theorem HashW.vrow {nk vc : Nat} {va : Option Addr} {kv : Value} (h : HashW w b mb B many A H T S m K V kv (.slice va nk vc) wr) (hn : K.length = nk) (h0 : 0 < nk) :
    ∃ g, va = some ⟨g, 0, none⟩ ∧ CellsAt wr g 0 (vcells V) ∧ nk ≤ vc ∧ ∀ j, wr.frozen? ⟨g, j, none⟩ = false := by
  rcases h.kt.t.vs.2 with ⟨he, h0'⟩ | ⟨g, cap, cur, he, hb, hg, hc, _, _, hx⟩
  · omega
  · obtain ⟨ka', kc', he2, hpos⟩ := h.kt.t.swap.form
    obtain ⟨g', hg', _, hcs, hfz⟩ := hpos (by omega)
    injection he with e1 e2 e3
    injection he2 with f1 f2 f3
    exact ⟨g', by rw [f1, hg'], hcs, by omega, hfz⟩

theorem HashW.key {nk kc : Nat} {ka : Option Addr} {vv : Value} (h : HashW w b mb B many A H T S m K V (.slice ka nk kc) vv wr) (hn : K.length = nk) {j : Nat} (hj : j < nk) :
    ∃ g c, ka = some ⟨g, 0, none⟩ ∧ K[j]? = some c ∧ wr.cell? ⟨g, j, none⟩ = some (.string (kB c)) ∧ c < 20 := by
  obtain ⟨g, hg, hc, _⟩ := h.krow hn (by omega)
  have hx : K[j]? = some K[j] := List.getElem?_eq_getElem (by omega)
  exact ⟨g, K[j], hg, hx, kcell hc hx, h.i.lens.2.2.1 _ (List.getElem_mem _)⟩

theorem HashW.pushed {S' : List Tab} {m' : List Reg} {kv vv : Value} {k c : Nat} {D : List UInt8} (hk : K.length = k) (h : KT w b mb B A H T S' m' kv (k + 1) (kcells K ++ [.string (kB c)]) vv (k + 1) (vcells V ++ [.string (vB D)]) wr) (hi : HashI many S' m' (K ++ [c]) (V ++ [D])) : HashW w b mb B many A H T S' m' (K ++ [c]) (V ++ [D]) kv vv wr := by
  refine ⟨?_, hi⟩
  have e1 : kcells (K ++ [c]) = kcells K ++ [.string (kB c)] := by simp [kcells, kB]
  have e2 : vcells (V ++ [D]) = vcells V ++ [.string (vB D)] := by simp [vcells, vB]
  rw [e1, e2, List.length_append, hk]
  exact h

theorem HashW.stored {S' : List Tab} {m' : List Reg} {kv vv : Value} {k j : Nat} {D : List UInt8} (hk : K.length = k) (h : KT w b mb B A H T S' m' kv k (kcells K) vv k ((vcells V).set j (.string (vB D))) wr) (hi : HashI many S' m' K (V.set j D)) : HashW w b mb B many A H T S' m' K (V.set j D) kv vv wr := by
  refine ⟨?_, hi⟩
  have e2 : vcells (V.set j D) = (vcells V).set j (.string (vB D)) := by simp [vcells, vB, List.map_set]
  rw [e2, hk]
  exact h

theorem HashW.erased {S' : List Tab} {m' : List Reg} {kv vv : Value} {k j : Nat} (hk : K.length = k) (hj : j < k) (h : KT w b mb B A H T S' m' kv (0 + j + (k - (j + 1))) ([] ++ (kcells K).take j ++ (kcells K).drop (j + 1)) vv (0 + j + (k - (j + 1))) ([] ++ (vcells V).take j ++ (vcells V).drop (j + 1)) wr) (hi : HashI many S' m' (K.eraseIdx j) (V.eraseIdx j)) : HashW w b mb B many A H T S' m' (K.eraseIdx j) (V.eraseIdx j) kv vv wr := by
  refine ⟨?_, hi⟩
  have e1 : kcells (K.eraseIdx j) = [] ++ (kcells K).take j ++ (kcells K).drop (j + 1) := by rw [List.nil_append, ← List.eraseIdx_eq_take_drop_succ]; unfold kcells; rw [map_erase]
  have e2 : vcells (V.eraseIdx j) = [] ++ (vcells V).take j ++ (vcells V).drop (j + 1) := by rw [List.nil_append, ← List.eraseIdx_eq_take_drop_succ]; unfold vcells; rw [map_erase]
  have e3 : (K.eraseIdx j).length = 0 + j + (k - (j + 1)) := by rw [List.length_eraseIdx, if_pos (by omega)]; omega
  rw [e1, e2, e3]
  exact h

end

end Go.Proofs.Ytlinnhaodkiolaa
