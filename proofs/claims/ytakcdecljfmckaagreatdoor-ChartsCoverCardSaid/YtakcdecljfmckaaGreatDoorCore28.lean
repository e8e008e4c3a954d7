/- lines.build's drawn regions: what each operation does. -/
import Derived.Test.YtakcdecljfmckaaGreatDoorCore27
import Derived.Test.YtakcdecljfmckaaGreatDoorCore18
import Derived.Test.YtakcdecljfmckaaGreatDoorCore14
import Derived.Laws.Panics
import Derived.Lib.BoundsPanic
set_option linter.all false
set_option linter.unusedVariables false
set_option linter.unusedSimpArgs false
namespace Go.Proofs.YtakcdecljfmckaaGreatDoor
open Go.RowKit

/-- the words' meanings, as build is given them -/
def XsAt (w : World) (xv : Value) (b : Nat) (x : List Mv) : Prop := (∃ p c, xv = .slice p x.length c ∧ (x ≠ [] → p = some ⟨b, 0, none⟩)) ∧ CellsAt w b 0 (x.map Mv.v) ∧ (∀ m ∈ x, m.ok) ∧ x.length ≤ 1000000000
theorem XsAt.fr {w w' : World} {xv : Value} {b : Nat} {x : List Mv} (h : XsAt w xv b x) (hf : Fr No w w') : XsAt w' xv b x := ⟨h.1, hf.cells h.2.1 id, h.2.2⟩

section
variable {P : Program} {Q : Exit → Act → World → Prop}
theorem put_same {A : Act} {d : Tmp} {v : Value} (h : A.tmps[d]? = some v) : A.put (some d) v = A := by
  have : A.tmps.setIfInBounds d v = A.tmps := by
    refine Array.ext_getElem? fun s => ?_
    by_cases hs : d = s
    · subst hs
      rw [Array.getElem?_setIfInBounds, if_pos rfl, h]
      have := (Array.getElem?_eq_some_iff.1 h).1
      rw [if_pos this]
    · rw [Array.getElem?_setIfInBounds_ne hs]
  unfold Act.put
  simp only [this]
theorem does_val {o : Oper} {A : Act} {W W' : World} {l : Prop} {d : Tmp} {v : Value} (hd : o.dst = some d) (h : (execOp A.eval o).run P W = .ok (.value v) W') (hv : A.tmps[d]? = some v) (hf : Fr No W W') (hl : l) : Does P Q o A W l := by
  unfold Does Oper.wp
  rw [h]
  show A.put o.dst v = A ∧ Fr No W W' ∧ l
  rw [hd]
  exact ⟨put_same hv, hf, hl⟩
theorem does_die {o : Oper} {A : Act} {W W' : World} {l : Prop} {v : Value} (h : (execOp A.eval o).run P W = .halt (.panic v) W') (hq : Q (.panic [{ v := v, recovered := false }]) A W') : Does P Q o A W l := by
  unfold Does Oper.wp
  rw [h]
  exact hq
theorem does_call {o : Oper} {A : Act} {W : World} {l : Prop} {d : Tmp} {f : FuncId} {args : Array Value} (hd : o.dst = some d) (h : (execOp A.eval o).run P W = .ok (.enter f args) W)
    (hc : Calls P f args W fun e w' => (∃ v, e = .returned v ∧ A.tmps[d]? = some v ∧ Fr No W w' ∧ l) ∨ (∃ c, e = .panicked c ∧ Q (.panic c) A w')) : Does P Q o A W l := by
  unfold Does Oper.wp
  rw [h]
  refine Calls.mono hc ?_
  rintro e w' (⟨v, rfl, hv, hf, hl⟩ | ⟨c, rfl, hq⟩)
  · show A.put o.dst v = A ∧ Fr No W w' ∧ l
    rw [hd]
    exact ⟨put_same hv, hf, hl⟩
  · exact hq
end
theorem ev {A : Act} {d : Tmp} {v : Value} (h : A.tmps[d]? = some v) : A.eval (.tmp d) = v := by
  show A.tmps.getD d undef = v
  rw [Array.getD_eq_getD_getElem?, h]
  rfl
theorem does_move {P : Program} {Q : Exit → Act → World → Prop} {A : Act} {d : Tmp} {x : Operand} {v : Value} {W : World} {ty : TypeId} {pos : String} {af : Array Edge} (hx : A.eval x = v) (hd : A.tmps[d]? = some v) : Does P Q ⟨some d, .move x, ty, pos, af, none⟩ A W True :=
  does_val (o := ⟨some d, .move x, ty, pos, af, none⟩) (v := v) (W' := W) rfl (by rw [← hx]; rfl) hd (Fr.refl _ _) trivial
theorem does_assign {P : Program} {Q : Exit → Act → World → Prop} {A : Act} {d : Tmp} {x : Operand} {v : Value} {W : World} {ty : TypeId} {pos : String} {af : Array Edge} (hx : A.eval x = v) (hd : A.tmps[d]? = some v) : Does P Q ⟨some d, .assign x, ty, pos, af, none⟩ A W True :=
  does_val (o := ⟨some d, .assign x, ty, pos, af, none⟩) (v := v) (W' := W) rfl (by rw [← hx]; rfl) hd (Fr.refl _ _) trivial
theorem does_build {P : Program} {Q : Exit → Act → World → Prop} {A : Act} {d : Tmp} {t : TypeId} {ps : Array (Nat × Operand)} {vs : Array (Nat × Value)} {v : Value} {W : World} {ty : TypeId} {pos : String} {af : Array Edge} (hx : ps.map (fun (i, x) => (i, A.eval x)) = vs) (hrun : (Instr.build t vs).run P W = .ok v W) (hd : A.tmps[d]? = some v) : Does P Q ⟨some d, .build t ps, ty, pos, af, none⟩ A W True := by
  refine does_val (o := ⟨some d, .build t ps, ty, pos, af, none⟩) (v := v) (W' := W) rfl ?_ hd (Fr.refl _ _) trivial
  subst hx
  simp [execOp, hrun, Result.andThen]
theorem does_arrx {P : Program} {Q : Exit → Act → World → Prop} {A : Act} {d : Tmp} {t : TypeId} {xo : Operand} {xv iv p : Value} {W : World} {ty : TypeId} {pos : String} {af : Array Edge} (hx : A.eval xo = xv) (hr : (Instr.indexAt t xv iv).run P W = .ok p W) (hd : A.tmps[d]? = some p) : Does P Q ⟨some d, .indexAddr t xo (.const iv), ty, pos, af, none⟩ A W True := by
  refine does_val (o := ⟨some d, .indexAddr t xo (.const iv), ty, pos, af, none⟩) (v := p) (W' := W) rfl ?_ hd (Fr.refl _ _) trivial
  have hc : A.eval (.const iv) = iv := rfl
  simp [execOp, hx, hc, hr, Result.andThen]
theorem does_arrl {P : Program} {Q : Exit → Act → World → Prop} {A : Act} {d : Tmp} {t : TypeId} {xo : Operand} {xv v : Value} {W : World} {ty : TypeId} {pos : String} {af : Array Edge} (hx : A.eval xo = xv) (hr : (Instr.loadAt t xv).run P W = .ok v W) (hd : A.tmps[d]? = some v) : Does P Q ⟨some d, .load t xo, ty, pos, af, none⟩ A W True := by
  refine does_val (o := ⟨some d, .load t xo, ty, pos, af, none⟩) (v := v) (W' := W) rfl ?_ hd (Fr.refl _ _) trivial
  simp [execOp, hx, hr, Result.andThen]
/-- a byte's load -/
theorem ld_u8 {W : World} {a : Addr} {n : Int} (h : W.cell? a = some (.int .u8 n)) : (Instr.loadAt 5 (.pointer (some a))).run Tryz.prog W = .ok (.int .u8 n) W := by
  simp [Instr.loadAt, go_sem, h]
theorem slice_run {P : Program} {A : Act} {d : Tmp} {t : TypeId} {n : Nat} {ps : Array (Nat × Operand)} {vs : Array (Nat × Value)} {v : Value} {W W' : World} {ty : TypeId} {pos : String} {af : Array Edge} (hx : ps.map (fun (i, x) => (i, A.eval x)) = vs) (hrun : (Instr.buildSlice t n vs).run P W = .ok v W') :
    (execOp A.eval ⟨some d, .buildSlice t n ps, ty, pos, af, none⟩).run P W = .ok (.value v) W' := by
  subst hx
  simp [execOp, hrun, Result.andThen]
/-! ### the arguments -/
/-- an argument's place -/
def px (b j : Nat) : Value := .pointer (some ⟨b, j, none⟩)
/-- an argument -/
def xg (x : List Mv) (j : Nat) : Mv := x.getD j .no
theorem act_const (A : Act) (v : Value) : A.eval (.const v) = v := rfl
theorem act_func (A : Act) (f : FuncId) : A.eval (.func f) = .func (.func f) #[] #[] := rfl
theorem idx_some {xv : Value} {b : Nat} {x : List Mv} {w W : World} (h : XsAt w xv b x) (j : Nat) (hj : (x[j]?).isSome = true) : (Instr.indexAt 107 xv (.int .i64 j)).run Tryz.prog W = .ok (px b j) W := by
  obtain ⟨⟨p, c, rfl, hp⟩, _, _, _⟩ := h
  have hlt : j < x.length := by
    rcases Nat.lt_or_ge j x.length with h | h
    · exact h
    · rw [List.getElem?_eq_none h] at hj; cases hj
  obtain rfl := hp (by rintro rfl; exact absurd hlt (Nat.not_lt_zero _))
  rw [run_indexAt_slice (h := by kernel_rfl), if_pos (by omega)]
  have e : (sizeOf (Tryz.prog.elem 107)).run Tryz.prog W = .ok 1 W := by kernel_rfl
  rw [e]
  show Result.ok (Value.pointer (some (Addr.add ⟨b, 0, none⟩ (Int.toNat (j : Int) * 1)))) W = _
  unfold px Addr.add
  by_cases h0 : j = 0
  · subst h0; simp
  · simp [h0]
theorem idx_none {xv : Value} {b : Nat} {x : List Mv} {w W : World} (h : XsAt w xv b x) (j : Nat) (hj6 : j < 6) (hj : x[j]? = none) : ∃ v, (Instr.indexAt 107 xv (.int .i64 j)).run Tryz.prog W = .halt (.panic v) W.drew ∧ IsErr v := by
  obtain ⟨⟨p, c, rfl, hp⟩, _, _, _⟩ := h
  have hle : x.length ≤ j := List.getElem?_eq_none_iff.1 hj
  cases p with
  | some a =>
    rw [run_indexAt_slice (h := by kernel_rfl), if_neg (by omega), Lib.run_boundsPanic_index Tryz.prog j x.length W (by omega) (by omega)]
    exact ⟨_, rfl, .inr ⟨_, rfl⟩⟩
  | none =>
    rw [Lib.run_indexAt_nil W 107 20 _ _ _ _ (by kernel_rfl), Lib.run_boundsPanic_index Tryz.prog j 0 W (by omega) (by omega)]
    exact ⟨_, rfl, .inr ⟨_, rfl⟩⟩
theorem ld_run {xv : Value} {b : Nat} {x : List Mv} {w W : World} (h : XsAt w xv b x) (hf : Fr No w W) (j : Nat) (hj : (x[j]?).isSome = true) : (Instr.loadAt 20 (px b j)).run Tryz.prog W = .ok (xg x j).v W := by
  obtain ⟨_, hc, _, _⟩ := h
  obtain ⟨m, hm⟩ := Option.isSome_iff_exists.1 hj
  have hcell := (hf.cells hc id) j m.v (by rw [List.getElem?_map, hm]; rfl)
  rw [Nat.zero_add] at hcell
  have e : xg x j = m := by unfold xg; rw [List.getD_eq_getElem?_getD, hm]; rfl
  rw [e]
  unfold px
  simp [Instr.loadAt, go_sem, hcell]
section
variable {Q : Exit → Act → World → Prop}
set_option maxRecDepth 100000 in
theorem does_index {xv : Value} {b : Nat} {x : List Mv} {w W : World} {A : Act} {d : Tmp} {xo : Operand} {ty : TypeId} {pos : String} {af : Array Edge} (h : XsAt w xv b x) (j : Nat) (hj6 : j < 6) (hx : A.eval xo = xv) (hd : A.tmps[d]? = some (px b j))
    (hq : x[j]? = none → ∀ v W', IsErr v → Fr No W W' → Q (.panic [{ v := v, recovered := false }]) A W') :
    Does Tryz.prog Q ⟨some d, .indexAddr 107 xo (.const (.int .i64 j)), ty, pos, af, none⟩ A W ((x[j]?).isSome = true) := by
  cases hj : x[j]? with
  | none =>
    obtain ⟨v, hrun, hv⟩ := idx_none h j hj6 hj (W := W)
    refine does_die (v := v) (W' := W.drew) ?_ (hq hj v _ hv (Fr.refl _ _).drew)
    show (execOp A.eval ⟨_, .indexAddr _ _ _, _, _, _, _⟩).run Tryz.prog W = _
    simp [execOp, hx, act_const, hrun, Result.andThen]
  | some m =>
    refine does_val (W' := W) rfl ?_ hd (Fr.refl _ _) rfl
    have hrun := idx_some h j (by rw [hj]; rfl) (W := W)
    simp [execOp, hx, act_const, hrun, Result.andThen]
set_option maxRecDepth 100000 in
theorem does_load {xv : Value} {b : Nat} {x : List Mv} {w W : World} {A : Act} {d : Tmp} {po : Operand} {ty : TypeId} {pos : String} {af : Array Edge} (h : XsAt w xv b x) (hf : Fr No w W) (j : Nat) (hj : (x[j]?).isSome = true) (hx : A.eval po = px b j) (hd : A.tmps[d]? = some (xg x j).v) :
    Does Tryz.prog Q ⟨some d, .load 20 po, ty, pos, af, none⟩ A W ((x[j]?).isSome = true) := by
  refine does_val (W' := W) rfl ?_ hd (Fr.refl _ _) hj
  have hrun := ld_run h hf j hj
  simp [execOp, hx, hrun, Result.andThen]
/-- a function of a word's meaning -/
def ArgC (f : FuncId) (k : IntKind) (g : Mv → Option Int) : Prop := (∀ v W, (callFunc f #[v]).run Tryz.prog W = .ok (.enter f #[v]) W) ∧ ∀ m : Mv, m.ok → ∀ W, Calls Tryz.prog f #[m.v] W (fun e w' => (∃ z, g m = some z ∧ e = .returned (.int k z) ∧ Fr No W w') ∨ (g m = none ∧ Died W e w'))
theorem ArgC.some {f : FuncId} {k : IntKind} {g : Mv → Option Int} (h : ArgC f k g) {m : Mv} (hok : m.ok) {z : Int} (hz : g m = some z) : Hid (∀ W, Calls Tryz.prog f #[m.v] W fun e w' => e = .returned (.int k z) ∧ Fr No W w') := fun W => (h.2 m hok W).mono fun e w' he => by
  rcases he with ⟨z1, hz1, he, hf⟩ | ⟨hz1, _⟩
  · rw [hz] at hz1
    obtain rfl := Option.some.inj hz1
    exact ⟨he, hf⟩
  · rw [hz] at hz1; cases hz1
theorem ArgC.none {f : FuncId} {k : IntKind} {g : Mv → Option Int} (h : ArgC f k g) {m : Mv} (hok : m.ok) (hz : g m = none) : Hid (∀ W, Calls Tryz.prog f #[m.v] W (Died W)) := fun W => (h.2 m hok W).mono fun e w' he => by
  rcases he with ⟨z1, hz1, _⟩ | ⟨_, he⟩
  · rw [hz] at hz1; cases hz1
  · exact he
/-- what it makes of an argument -/
def ag (g : Mv → Option Int) (x : List Mv) (j : Nat) : Option Int := (x[j]?).bind g
set_option maxRecDepth 100000 in
theorem does_arg {f : FuncId} {k : IntKind} {g : Mv → Option Int} (hc : ArgC f k g) {xv : Value} {b : Nat} {x : List Mv} {w W : World} {A : Act} {d : Tmp} {po : Operand} {ty : TypeId} {pos : String} {af : Array Edge} {at' : Array TypeId} (h : XsAt w xv b x) (j : Nat) (hj : (x[j]?).isSome = true)
    (hx : A.eval po = (xg x j).v) (hd : A.tmps[d]? = some (.int k ((ag g x j).getD 0)))
    (hq : ag g x j = none → ∀ v W', IsErr v → Fr No W W' → Q (.panic [{ v := v, recovered := false }]) A W') :
    Does Tryz.prog Q ⟨some d, .call { callee := .value (.func f), args := #[po], argTypes := at' }, ty, pos, af, none⟩ A W ((ag g x j).isSome = true) := by
  obtain ⟨m, hm⟩ := Option.isSome_iff_exists.1 hj
  have e : xg x j = m := by unfold xg; rw [List.getD_eq_getElem?_getD, hm]; rfl
  have e2 : ag g x j = g m := by unfold ag; rw [hm]; rfl
  have hok : m.ok := h.2.2.1 m (List.mem_of_getElem? hm)
  rw [e] at hx
  rw [e2] at hd ⊢
  refine does_call rfl (f := f) (args := #[m.v]) ?_ (Calls.mono (hc.2 m hok W) ?_)
  · simp [execOp, resolve, act_func, hx, Deferred.ofValue, invoke, hc.1]
  · rintro e w' (⟨z, hz, rfl, hf⟩ | ⟨hn, v, rfl, hv, hf⟩)
    · rw [hz] at hd ⊢
      exact .inl ⟨_, rfl, hd, hf, rfl⟩
    · exact .inr ⟨_, rfl, hq (e2.trans hn) v w' hv hf⟩
end
def dstG (m : Mv) : Option Int := match regM m with
  | some n => some (n : Int)
  | none => none
theorem dst_c : ArgC 101 .u8 dstG := by
  refine ⟨fun v W => by kernel_rfl, fun m hok W => ?_⟩
  cases h : regM m with
  | none => exact (dst_none m h W).mono fun e w' he => .inr ⟨by unfold dstG; rw [h], he⟩
  | some n => exact (dst_some m n h W).mono fun e w' he => .inl ⟨n, by unfold dstG; rw [h], he⟩
def smallG (m : Mv) : Option Int := withinM m 0 255
def shortG (m : Mv) : Option Int := withinM m 32768 32767
def wholeG (m : Mv) : Option Int := withinM m 2147483648 2147483647
theorem small_c : ArgC 103 .u8 smallG := by
  refine ⟨fun v W => by kernel_rfl, fun m hok W => ?_⟩
  cases h : smallG m with
  | none => exact (small_none m hok h W).mono fun e w' he => .inr ⟨rfl, he⟩
  | some n => exact (small_some m n h W).mono fun e w' he => .inl ⟨n, rfl, he⟩
theorem short_c : ArgC 99 .i16 shortG := by
  refine ⟨fun v W => by kernel_rfl, fun m hok W => ?_⟩
  cases h : shortG m with
  | none => exact (short_none m hok h W).mono fun e w' he => .inr ⟨rfl, he⟩
  | some n => exact (short_some m n h W).mono fun e w' he => .inl ⟨n, rfl, he⟩
theorem whole_c : ArgC 98 .i32 wholeG := by
  refine ⟨fun v W => by kernel_rfl, fun m hok W => ?_⟩
  cases h : wholeG m with
  | none => exact (whole_none m hok h W).mono fun e w' he => .inr ⟨rfl, he⟩
  | some n => exact (whole_some m n h W).mono fun e w' he => .inl ⟨n, rfl, he⟩
/-- each operation of a row -/
def EachFrom (T : Nat → Oper → Prop) : Nat → List Oper → Prop
  | _, [] => True
  | k, o :: l => T k o ∧ EachFrom T (k + 1) l
theorem each_of (T : Nat → Oper → Prop) : ∀ (l : List Oper) (k : Nat), EachFrom T k l → ∀ i o, l[i]? = some o → T (k + i) o
  | [], _, _, i, o, h => by simp at h
  | p :: l, k, hT, i, o, h => by
    cases i with
    | zero => obtain rfl := Option.some.inj h; exact hT.1
    | succ i =>
      have := each_of T l (k + 1) hT.2 i o h
      rwa [Nat.add_right_comm] at this
theorem each_op (T : Nat → Oper → Prop) (l : List Oper) (h : EachFrom T 0 l) : ∀ i o, l.toArray[i]? = some o → T i o := fun i o hi => by
  have := each_of T l 0 h i o (by simpa using hi)
  rwa [Nat.zero_add] at this
end Go.Proofs.YtakcdecljfmckaaGreatDoor
