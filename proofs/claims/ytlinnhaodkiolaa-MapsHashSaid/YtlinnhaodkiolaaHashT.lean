/- Two rows of strings of the call's own, side by side: what an append onto one, or a store into one, leaves of both. No condition. -/
import Derived.Test.YtlinnhaodkiolaaHashQ
import Derived.Test.YtlinnhaodkiolaaGath
namespace Go.Proofs.Ytlinnhaodkiolaa
open Go.RowKit

/-- an append, and where the new row lies -/
theorem run_append_src_at {P : Program} {w : World} (t ty : TypeId) (base : Nat) (e : TypeId) (i : TypeInfo) (z : Value) (size bytes : Nat) (ht : P.underlying t = some (.slice e)) (hi : P.info? e = some i) (hz : i.zero = some z)
    (hsize : i.size = size) (hby : i.bytes = bytes) (hzs : z.cells.size = size) (hsz : 0 < size)
    (v : Value) (n : Nat) (xs : List Value) (hown : w.ownsRow base e size v n xs) (u : Value) (m : Nat) (news : List Value) (hu : SrcAt w u m news) (hl : news.length = m * size) (h1 : ∀ u ∈ news, u.oneCell' = true)
    (h63 : n + m ≤ maxLen) (hbytes : (n + m) * bytes ≤ 140737488355328) (hbase : base ≤ w.heap.size) :
    ∃ v' w', (Builtin.append_ #[t, t] ty #[v, u]).run P w = .ok v' w' ∧ w'.ownsRow base e size v' (n + m) (xs ++ news) ∧ Fr (OwnOf v) w w' ∧ (v'.ownBlock = v.ownBlock ∨ v'.ownBlock = some w.heap.size) := by
  rcases hu with ⟨rfl, rfl, rfl⟩ | ⟨ad, c, rfl, hnews⟩
  · exact ⟨v, w, run_append_owned_none (P := P) (w := w) base t ty e i size ht hi v n xs hown, by simpa using hown, Fr.refl _ _, .inl rfl⟩
  · obtain ⟨v', w', hr, h2, h3, _, h5⟩ := run_append_own_at (P := P) w base t ty e i z size bytes ht hi hz hsize hby hzs hsz v n xs hown ad m c news hl hnews h1 h63 hbytes hbase
    exact ⟨v', w', hr, h2, grown_fr h3, h5⟩

structure Two (B : Nat) (kv : Value) (nk : Nat) (xk : List Value) (vv : Value) (nv : Nat) (xv : List Value) (wr : World) : Prop where
  ks : wr.ownsRow B 9 1 kv nk xk
  vs : wr.ownsRow B 9 1 vv nv xv
  ap : ∀ k, kv.ownBlock = some k → vv.ownBlock ≠ some k
  size : B ≤ wr.heap.size

theorem Two.start (wr : World) {B : Nat} (h : B ≤ wr.heap.size) : Two B (.slice none 0 0) 0 [] (.slice none 0 0) 0 [] wr :=
  ⟨World.ownsRow_nil _ _ _ _, World.ownsRow_nil _ _ _ _, fun k hk => by simp [Value.ownBlock] at hk, h⟩

theorem Two.swap {B : Nat} {kv vv : Value} {nk nv : Nat} {xk xv : List Value} {wr : World} (h : Two B kv nk xk vv nv xv wr) : Two B vv nv xv kv nk xk wr :=
  ⟨h.vs, h.ks, fun k hk hk2 => h.ap k hk2 hk, h.size⟩

theorem Two.to {B : Nat} {kv vv : Value} {nk nv : Nat} {xk xv : List Value} {wr w' : World} {X : Nat → Prop} (h : Two B kv nk xk vv nv xv wr) (hf : Fr X wr w') (hX : ∀ k, X k → k < B) : Two B kv nk xk vv nv xv w' :=
  ⟨ownsRow_fr h.ks hf (fun k hk hx => by have := (h.ks.lt k hk).1; have := hX k hx; omega), ownsRow_fr h.vs hf (fun k hk hx => by have := (h.vs.lt k hk).1; have := hX k hx; omega), h.ap, Nat.le_trans h.size hf.size⟩

theorem Two.no {B : Nat} {kv vv : Value} {nk nv : Nat} {xk xv : List Value} {wr w' : World} (h : Two B kv nk xk vv nv xv wr) (hf : Fr No wr w') : Two B kv nk xk vv nv xv w' := h.to hf (fun _ h => h.elim)

theorem Two.left {B : Nat} {kv vv kv' : Value} {nk nv n' : Nat} {xk xv xk' : List Value} {wr w' : World} (h : Two B kv nk xk vv nv xv wr) (ho : w'.ownsRow B 9 1 kv' n' xk') (hf : Fr (OwnOf kv) wr w') (hat : kv'.ownBlock = kv.ownBlock ∨ kv'.ownBlock = some wr.heap.size) : Two B kv' n' xk' vv nv xv w' := by
  refine ⟨ho, ownsRow_fr h.vs hf (fun k hk ho => h.ap k ho hk), fun k hk hk2 => ?_, Nat.le_trans h.size hf.size⟩
  rcases hat with hat | hat
  · exact h.ap k (hat ▸ hk) hk2
  · have := (h.vs.lt k hk2).2
    rw [hat] at hk
    have := Option.some.inj hk
    omega

/-- append onto the left one -/
theorem Two.append {B : Nat} {kv vv : Value} {nk nv : Nat} {xk xv : List Value} {wr : World} (h : Two B kv nk xk vv nv xv wr) (u : Value) (m : Nat) (news : List Value) (hu : SrcAt wr u m news) (hl : news.length = m) (h1 : ∀ u ∈ news, u.oneCell' = true) (hn : nk + m ≤ 4294967296) (ty : TypeId) :
    ∃ v' w', (Builtin.append_ #[28, 28] ty #[kv, u]).run Try.prog wr = .ok v' w' ∧ Two B v' (nk + m) (xk ++ news) vv nv xv w' ∧ Fr (OwnOf kv) wr w' := by
  obtain ⟨i0, hi, hz0, hz1, hz2⟩ := info_parts Try.info_str
  obtain ⟨v', w', hr, ho, hf, hat⟩ := run_append_src_at (P := Try.prog) 28 ty B 9 i0 _ 1 16 Try.underlying28 hi hz0 hz1 hz2 rfl (by decide) kv nk xk h.ks u m news hu (by omega) h1 (by unfold maxLen; omega) (by omega) h.size
  exact ⟨v', w', hr, h.left ho hf hat, hf⟩

/-- at a step of a region that draws -/
theorem step_two {ops : Array Oper} {o : Oper} {a : Act} {K : Act → World → Prop} {Q : Exit → Act → World → Prop} {E : Prop} {B : Nat} {kv vv : Value} {nk nv : Nat} {xk xv : List Value} {wr : World}
    (hgd : o.guard = none) (s x : Operand) (ho : o.op = .call { callee := .builtin .append, args := #[s, x], argTypes := #[28, 28] }) (h : Hid (Two B kv nk xk vv nv xv wr)) (hs : a.eval s = kv)
    (u : Value) (m : Nat) (news : List Value) (hx : a.eval x = u) (hu : SrcAt wr u m news) (hl : news.length = m) (h1 : ∀ u ∈ news, u.oneCell' = true) (hn : nk + m ≤ 4294967296)
    (hk : ∀ v' w', Hid (Two B v' (nk + m) (xk ++ news) vv nv xv w') → Fr (OwnOf kv) wr w' → K (a.put o.dst v') w') :
    if Region.wanted o (yielded ops a.tmps) = true then Oper.wp Try.prog o a wr K Q else E := by
  have hw : Region.wanted o (yielded ops a.tmps) = true := by simp [Region.wanted, hgd]
  rw [if_pos hw]
  obtain ⟨v', w', hr, ho2, hf⟩ := h.out.append u m news hu hl h1 hn o.type
  unfold Oper.wp execOp
  simp only [ho, resolve, invoke, builtin, Sem.run_bind, Sem.run_pure, Result.andThen_ok, List.map_toArray, List.map_cons, List.map_nil, hs, hx, hr]
  exact hk v' w' ho2 hf

/-- at a plain region's list -/
theorem list_two {ops : Array Oper} {rest : List Oper} {o : Oper} {a : Act} {Q : Exit → Act → World → Prop} {B : Nat} {kv vv : Value} {nk nv : Nat} {xk xv : List Value} {wr : World}
    (hgd : o.guard = none) (s x : Operand) (ho : o.op = .call { callee := .builtin .append, args := #[s, x], argTypes := #[28, 28] }) (h : Hid (Two B kv nk xk vv nv xv wr)) (hs : a.eval s = kv)
    (u : Value) (m : Nat) (news : List Value) (hx : a.eval x = u) (hu : SrcAt wr u m news) (hl : news.length = m) (h1 : ∀ u ∈ news, u.oneCell' = true) (hn : nk + m ≤ 4294967296)
    (hk : ∀ v' w', Hid (Two B v' (nk + m) (xk ++ news) vv nv xv w') → Fr (OwnOf kv) wr w' → wpList Try.prog ops Q rest (a.put o.dst v') w') : wpList Try.prog ops Q (o :: rest) a wr := by
  refine wpList_plain hgd fun _ hK => ?_
  obtain ⟨v', w', hr, ho2, hf⟩ := h.out.append u m news hu hl h1 hn o.type
  unfold Oper.wp execOp
  simp only [ho, resolve, invoke, builtin, Sem.run_bind, Sem.run_pure, Result.andThen_ok, List.map_toArray, List.map_cons, List.map_nil, hs, hx, hr]
  exact hK _ _ (hk v' w' ho2 hf)

/-- a store into the left one -/
theorem Two.store {B g cap : Nat} {vv : Value} {nk nv : Nat} {xk xv : List Value} {wr : World} (h : Two B (.slice (some ⟨g, 0, none⟩) nk cap) nk xk vv nv xv wr) (j : Nat) (u : Value) :
    Two B (.slice (some ⟨g, 0, none⟩) nk cap) nk (xk.set j u) vv nv xv (wr.setCell ⟨g, j, none⟩ u) ∧ Fr (fun k => k = g) wr (wr.setCell ⟨g, j, none⟩ u) := by
  obtain ⟨a, b⟩ := h.ks.stored j u
  have hf : Fr (fun k => k = g) wr (wr.setCell ⟨g, j, none⟩ u) := (Fr.refl (fun k => k = g) wr).setCell (p := ⟨g, j, none⟩) (.inr rfl) u
  exact ⟨h.left a (hf.mono fun k _ hk => by rw [hk]; rfl) (.inl rfl), hf⟩

/-- what a row looks like -/
theorem Two.form {B : Nat} {kv vv : Value} {nk nv : Nat} {xk xv : List Value} {wr : World} (h : Two B kv nk xk vv nv xv wr) : ∃ ka kc, kv = .slice ka nk kc ∧ (0 < nk → ∃ g, ka = some ⟨g, 0, none⟩ ∧ B ≤ g ∧ CellsAt wr g 0 xk ∧ ∀ j, wr.frozen? ⟨g, j, none⟩ = false) := by
  have hks := h.ks
  rcases h.ks.2 with ⟨rfl, h0⟩ | ⟨g, cap, cur, rfl, hb, hg, _, _, _, hx⟩
  · exact ⟨none, 0, by rw [h0], fun h => by omega⟩
  · refine ⟨some ⟨g, 0, none⟩, cap, rfl, fun _ => ⟨g, rfl, hb, fun j u hj => ?_, fun j => hks.frozenAt j⟩⟩
    rw [Nat.zero_add, hks.cellAt j ?_, hj]
    have := (List.getElem?_eq_some_iff.1 hj).1
    have := hks.1
    omega

/-! ### two rows that a call makes anew from a world -/
def TwoF (w0 : World) (kv : Value) (nk : Nat) (xk : List Value) (vv : Value) (nv : Nat) (xv : List Value) (wr : World) : Prop := Two w0.heap.size kv nk xk vv nv xv wr ∧ Fr No w0 wr

theorem TwoF.start {w0 wr : World} (hf : Fr No w0 wr) : TwoF w0 (.slice none 0 0) 0 [] (.slice none 0 0) 0 [] wr := ⟨Two.start wr hf.size, hf⟩
theorem TwoF.swap {w0 wr : World} {kv vv : Value} {nk nv : Nat} {xk xv : List Value} (h : TwoF w0 kv nk xk vv nv xv wr) : TwoF w0 vv nv xv kv nk xk wr := ⟨h.1.swap, h.2⟩

theorem step_left {ops : Array Oper} {o : Oper} {a : Act} {K : Act → World → Prop} {Q : Exit → Act → World → Prop} {E : Prop} {w0 : World} {kv vv : Value} {nk nv : Nat} {xk xv : List Value} {wr : World}
    (hgd : o.guard = none) (s x : Operand) (ho : o.op = .call { callee := .builtin .append, args := #[s, x], argTypes := #[28, 28] }) (h : Hid (TwoF w0 kv nk xk vv nv xv wr)) (hs : a.eval s = kv)
    (u : Value) (m : Nat) (news : List Value) (hx : a.eval x = u) (hu : Hid (∀ W, Fr No w0 W → SrcAt W u m news)) (hl : Hid (news.length = m)) (h1 : Hid (∀ u ∈ news, u.oneCell' = true)) (hn : nk + m ≤ 4294967296)
    (hk : ∀ v' w', Hid (TwoF w0 v' (nk + m) (xk ++ news) vv nv xv w') → K (a.put o.dst v') w') :
    if Region.wanted o (yielded ops a.tmps) = true then Oper.wp Try.prog o a wr K Q else E := by
  refine step_two hgd s x ho (Lib.hid h.out.1) hs u m news hx (hu.out _ h.out.2) hl.out h1.out hn ?_
  intro v' w' ht hf
  exact hk v' w' ⟨ht.out, ((h.out.2.any.trans (hf.mono fun k _ hk => (h.out.1.ks.lt k hk).1)) : Fr (From w0) w0 w').ours⟩

theorem step_right {ops : Array Oper} {o : Oper} {a : Act} {K : Act → World → Prop} {Q : Exit → Act → World → Prop} {E : Prop} {w0 : World} {kv vv : Value} {nk nv : Nat} {xk xv : List Value} {wr : World}
    (hgd : o.guard = none) (s x : Operand) (ho : o.op = .call { callee := .builtin .append, args := #[s, x], argTypes := #[28, 28] }) (h : Hid (TwoF w0 vv nv xv kv nk xk wr)) (hs : a.eval s = kv)
    (u : Value) (m : Nat) (news : List Value) (hx : a.eval x = u) (hu : Hid (∀ W, Fr No w0 W → SrcAt W u m news)) (hl : Hid (news.length = m)) (h1 : Hid (∀ u ∈ news, u.oneCell' = true)) (hn : nk + m ≤ 4294967296)
    (hk : ∀ v' w', Hid (TwoF w0 vv nv xv v' (nk + m) (xk ++ news) w') → K (a.put o.dst v') w') :
    if Region.wanted o (yielded ops a.tmps) = true then Oper.wp Try.prog o a wr K Q else E :=
  step_left hgd s x ho (Lib.hid h.out.swap) hs u m news hx hu hl h1 hn fun v' w' ht => hk v' w' ht.out.swap

theorem Two.mono {B B' : Nat} {kv vv : Value} {nk nv : Nat} {xk xv : List Value} {wr : World} (h : Two B kv nk xk vv nv xv wr) (hB : B' ≤ B) : Two B' kv nk xk vv nv xv wr := by
  have key : ∀ {v : Value} {n : Nat} {xs : List Value}, wr.ownsRow B 9 1 v n xs → wr.ownsRow B' 9 1 v n xs := fun ho => by
    refine ⟨ho.1, ?_⟩
    rcases ho.2 with h2 | ⟨g, cap, cur, h1, h2, h3⟩
    · exact .inl h2
    · exact .inr ⟨g, cap, cur, h1, by omega, h3⟩
  exact ⟨key h.ks, key h.vs, h.ap, Nat.le_trans hB h.size⟩

/-- the head and the tail of a row, as sources -/
theorem src_head {w0 : World} {g n cap j : Nat} {xs : List Value} (hc : CellsAt w0 g 0 xs) : ∀ W, Fr No w0 W → SrcAt W (.slice (some ⟨g, 0, none⟩) j cap) j (xs.take j) := fun W hf => by
  refine .inr ⟨_, _, rfl, fun i v hi => ?_⟩
  rw [List.getElem?_take] at hi
  split at hi
  · have := hf.cells hc id i v hi
    rw [Nat.zero_add] at this
    rw [show (⟨g, 0, none⟩ : Addr).add i = ⟨g, i, none⟩ by unfold Addr.add; split <;> simp_all]
    exact this
  · cases hi

theorem src_tail {w0 : World} {g n cap j : Nat} {xs : List Value} (hc : CellsAt w0 g 0 xs) (hn : xs.length = n) (hcap : n ≤ cap) (hj : j < n) : ∀ W, Fr No w0 W → SrcAt W (.slice (if cap = j + 1 then some ⟨g, 0, none⟩ else some ⟨g, j + 1, none⟩) (n - (j + 1)) (cap - (j + 1))) (n - (j + 1)) (xs.drop (j + 1)) := fun W hf => by
  by_cases h : cap = j + 1
  · rw [if_pos h]
    refine .inr ⟨_, _, rfl, fun i v hi => ?_⟩
    rw [List.getElem?_drop, List.getElem?_eq_none (by omega)] at hi
    cases hi
  · rw [if_neg h]
    refine .inr ⟨_, _, rfl, fun i v hi => ?_⟩
    rw [List.getElem?_drop] at hi
    have := hf.cells hc id _ v hi
    rw [Nat.zero_add] at this
    rw [show (⟨g, j + 1, none⟩ : Addr).add i = ⟨g, j + 1 + i, none⟩ by unfold Addr.add; split <;> simp_all]
    exact this

def kcells (K : List Nat) : List Value := K.map fun c => .string ⟨(leBytes 2 c).toArray⟩
def vcells (V : List (List UInt8)) : List Value := V.map fun v => .string ⟨v.toArray⟩

theorem kcells_one (K : List Nat) : ∀ u ∈ kcells K, u.oneCell' = true := fun u hu => by
  obtain ⟨c, _, rfl⟩ := List.mem_map.1 hu; rfl
theorem vcells_one (V : List (List UInt8)) : ∀ u ∈ vcells V, u.oneCell' = true := fun u hu => by
  obtain ⟨c, _, rfl⟩ := List.mem_map.1 hu; rfl

end Go.Proofs.Ytlinnhaodkiolaa
