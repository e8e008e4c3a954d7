/- lines.build's drawn regions: what each operation does. What lines.mean reckons, without the program: Replace, CutPrefix and ParseUint come to numW; Atoi and Itoa to regW. No condition. -/
import Derived.Test.YthkdokkpiaaljaaGreatDoorCore16
import Derived.Test.YthkdokkpiaaljaaGreatDoorCore17
import Derived.Test.YthkdokkpiaaljaaGreatDoorCore7
import Derived.Laws.Panics
import Derived.Lib.BoundsPanic
import Derived.Test.YthkdokkpiaaljaaGreatDoorCore2
import Derived.Test.YthkdokkpiaaljaaGreatDoorCore4
import Derived.Lib.ParseIntB
import Derived.Lib.Replace
import Derived.Lib.CountLaws
set_option linter.all false
set_option linter.unusedVariables false
set_option linter.unusedSimpArgs false
namespace Go.Proofs.YthkdokkpiaaljaaGreatDoor
open Go.RowKit

/-- the words' meanings, as build is given them -/
def XsAt (w : World) (xv : Value) (b : Nat) (x : List Mv) : Prop := (∃ p c, xv = .slice p x.length c ∧ (x ≠ [] → p = some ⟨b, 0, none⟩)) ∧ CellsAt w b 0 (x.map Mv.v) ∧ (∀ m ∈ x, m.ok) ∧ x.length ≤ 1000000000
theorem XsAt.fr {w w' : World} {xv : Value} {b : Nat} {x : List Mv} (h : XsAt w xv b x) (hf : Fr No w w') : XsAt w' xv b x := ⟨h.1, hf.cells h.2.1 id, h.2.2⟩

section
variable {P : Program} {Q : Exit → Act → World → Prop}
theorem put_same {A : Act} {d : Tmp} {v : Value} (h : A.tmps[d]? = some v) : A.put (some d) v = A := by
  have : A.tmps.setIfInBounds d v = A.tmps := by
    refine Array.ext_getElem? fun s => ?_
    by_cases hs : d = s
    · subst hs
      rw [Array.getElem?_setIfInBounds, if_pos rfl, h]
      have := (Array.getElem?_eq_some_iff.1 h).1
      rw [if_pos this]
    · rw [Array.getElem?_setIfInBounds_ne hs]
  unfold Act.put
  simp only [this]
theorem does_val {o : Oper} {A : Act} {W W' : World} {l : Prop} {d : Tmp} {v : Value} (hd : o.dst = some d) (h : (execOp A.eval o).run P W = .ok (.value v) W') (hv : A.tmps[d]? = some v) (hf : Fr No W W') (hl : l) : Does P Q o A W l := by
  unfold Does Oper.wp
  rw [h]
  show A.put o.dst v = A ∧ Fr No W W' ∧ l
  rw [hd]
  exact ⟨put_same hv, hf, hl⟩
theorem does_die {o : Oper} {A : Act} {W W' : World} {l : Prop} {v : Value} (h : (execOp A.eval o).run P W = .halt (.panic v) W') (hq : Q (.panic [{ v := v, recovered := false }]) A W') : Does P Q o A W l := by
  unfold Does Oper.wp
  rw [h]
  exact hq
theorem does_call {o : Oper} {A : Act} {W : World} {l : Prop} {d : Tmp} {f : FuncId} {args : Array Value} (hd : o.dst = some d) (h : (execOp A.eval o).run P W = .ok (.enter f args) W)
    (hc : Calls P f args W fun e w' => (∃ v, e = .returned v ∧ A.tmps[d]? = some v ∧ Fr No W w' ∧ l) ∨ (∃ c, e = .panicked c ∧ Q (.panic c) A w')) : Does P Q o A W l := by
  unfold Does Oper.wp
  rw [h]
  refine Calls.mono hc ?_
  rintro e w' (⟨v, rfl, hv, hf, hl⟩ | ⟨c, rfl, hq⟩)
  · show A.put o.dst v = A ∧ Fr No W w' ∧ l
    rw [hd]
    exact ⟨put_same hv, hf, hl⟩
  · exact hq
end
theorem ev {A : Act} {d : Tmp} {v : Value} (h : A.tmps[d]? = some v) : A.eval (.tmp d) = v := by
  show A.tmps.getD d undef = v
  rw [Array.getD_eq_getD_getElem?, h]
  rfl
theorem does_move {P : Program} {Q : Exit → Act → World → Prop} {A : Act} {d : Tmp} {x : Operand} {v : Value} {W : World} {ty : TypeId} {pos : String} {af : Array Edge} (hx : A.eval x = v) (hd : A.tmps[d]? = some v) : Does P Q ⟨some d, .move x, ty, pos, af, none⟩ A W True :=
  does_val (o := ⟨some d, .move x, ty, pos, af, none⟩) (v := v) (W' := W) rfl (by rw [← hx]; rfl) hd (Fr.refl _ _) trivial
theorem does_assign {P : Program} {Q : Exit → Act → World → Prop} {A : Act} {d : Tmp} {x : Operand} {v : Value} {W : World} {ty : TypeId} {pos : String} {af : Array Edge} (hx : A.eval x = v) (hd : A.tmps[d]? = some v) : Does P Q ⟨some d, .assign x, ty, pos, af, none⟩ A W True :=
  does_val (o := ⟨some d, .assign x, ty, pos, af, none⟩) (v := v) (W' := W) rfl (by rw [← hx]; rfl) hd (Fr.refl _ _) trivial
theorem does_build {P : Program} {Q : Exit → Act → World → Prop} {A : Act} {d : Tmp} {t : TypeId} {ps : Array (Nat × Operand)} {vs : Array (Nat × Value)} {v : Value} {W : World} {ty : TypeId} {pos : String} {af : Array Edge} (hx : ps.map (fun (i, x) => (i, A.eval x)) = vs) (hrun : (Instr.build t vs).run P W = .ok v W) (hd : A.tmps[d]? = some v) : Does P Q ⟨some d, .build t ps, ty, pos, af, none⟩ A W True := by
  refine does_val (o := ⟨some d, .build t ps, ty, pos, af, none⟩) (v := v) (W' := W) rfl ?_ hd (Fr.refl _ _) trivial
  subst hx
  simp [execOp, hrun, Result.andThen]
theorem does_arrx {P : Program} {Q : Exit → Act → World → Prop} {A : Act} {d : Tmp} {t : TypeId} {xo : Operand} {xv iv p : Value} {W : World} {ty : TypeId} {pos : String} {af : Array Edge} (hx : A.eval xo = xv) (hr : (Instr.indexAt t xv iv).run P W = .ok p W) (hd : A.tmps[d]? = some p) : Does P Q ⟨some d, .indexAddr t xo (.const iv), ty, pos, af, none⟩ A W True := by
  refine does_val (o := ⟨some d, .indexAddr t xo (.const iv), ty, pos, af, none⟩) (v := p) (W' := W) rfl ?_ hd (Fr.refl _ _) trivial
  have hc : A.eval (.const iv) = iv := rfl
  simp [execOp, hx, hc, hr, Result.andThen]
theorem does_arrl {P : Program} {Q : Exit → Act → World → Prop} {A : Act} {d : Tmp} {t : TypeId} {xo : Operand} {xv v : Value} {W : World} {ty : TypeId} {pos : String} {af : Array Edge} (hx : A.eval xo = xv) (hr : (Instr.loadAt t xv).run P W = .ok v W) (hd : A.tmps[d]? = some v) : Does P Q ⟨some d, .load t xo, ty, pos, af, none⟩ A W True := by
  refine does_val (o := ⟨some d, .load t xo, ty, pos, af, none⟩) (v := v) (W' := W) rfl ?_ hd (Fr.refl _ _) trivial
  simp [execOp, hx, hr, Result.andThen]
/-- a byte's load -/
theorem ld_u8 {W : World} {a : Addr} {n : Int} (h : W.cell? a = some (.int .u8 n)) : (Instr.loadAt 5 (.pointer (some a))).run Tryz.prog W = .ok (.int .u8 n) W := by
  simp [Instr.loadAt, go_sem, h]
theorem slice_run {P : Program} {A : Act} {d : Tmp} {t : TypeId} {n : Nat} {ps : Array (Nat × Operand)} {vs : Array (Nat × Value)} {v : Value} {W W' : World} {ty : TypeId} {pos : String} {af : Array Edge} (hx : ps.map (fun (i, x) => (i, A.eval x)) = vs) (hrun : (Instr.buildSlice t n vs).run P W = .ok v W') :
    (execOp A.eval ⟨some d, .buildSlice t n ps, ty, pos, af, none⟩).run P W = .ok (.value v) W' := by
  subst hx
  simp [execOp, hrun, Result.andThen]
/-! ### the arguments -/
/-- an argument's place -/
def px (b j : Nat) : Value := .pointer (some ⟨b, j, none⟩)
/-- an argument -/
def xg (x : List Mv) (j : Nat) : Mv := x.getD j .no
theorem act_const (A : Act) (v : Value) : A.eval (.const v) = v := rfl
theorem act_func (A : Act) (f : FuncId) : A.eval (.func f) = .func (.func f) #[] #[] := rfl
theorem idx_some {xv : Value} {b : Nat} {x : List Mv} {w W : World} (h : XsAt w xv b x) (j : Nat) (hj : (x[j]?).isSome = true) : (Instr.indexAt 106 xv (.int .i64 j)).run Tryz.prog W = .ok (px b j) W := by
  obtain ⟨⟨p, c, rfl, hp⟩, _, _, _⟩ := h
  have hlt : j < x.length := by
    rcases Nat.lt_or_ge j x.length with h | h
    · exact h
    · rw [List.getElem?_eq_none h] at hj; cases hj
  obtain rfl := hp (by rintro rfl; exact absurd hlt (Nat.not_lt_zero _))
  rw [run_indexAt_slice (h := by kernel_rfl), if_pos (by omega)]
  have e : (sizeOf (Tryz.prog.elem 106)).run Tryz.prog W = .ok 1 W := by kernel_rfl
  rw [e]
  show Result.ok (Value.pointer (some (Addr.add ⟨b, 0, none⟩ (Int.toNat (j : Int) * 1)))) W = _
  unfold px Addr.add
  by_cases h0 : j = 0
  · subst h0; simp
  · simp [h0]
theorem idx_none {xv : Value} {b : Nat} {x : List Mv} {w W : World} (h : XsAt w xv b x) (j : Nat) (hj6 : j < 6) (hj : x[j]? = none) : ∃ v, (Instr.indexAt 106 xv (.int .i64 j)).run Tryz.prog W = .halt (.panic v) W.drew ∧ IsErr v := by
  obtain ⟨⟨p, c, rfl, hp⟩, _, _, _⟩ := h
  have hle : x.length ≤ j := List.getElem?_eq_none_iff.1 hj
  cases p with
  | some a =>
    rw [run_indexAt_slice (h := by kernel_rfl), if_neg (by omega), Lib.run_boundsPanic_index Tryz.prog j x.length W (by omega) (by omega)]
    exact ⟨_, rfl, .inr ⟨_, rfl⟩⟩
  | none =>
    rw [Lib.run_indexAt_nil W 106 20 _ _ _ _ (by kernel_rfl), Lib.run_boundsPanic_index Tryz.prog j 0 W (by omega) (by omega)]
    exact ⟨_, rfl, .inr ⟨_, rfl⟩⟩
theorem ld_run {xv : Value} {b : Nat} {x : List Mv} {w W : World} (h : XsAt w xv b x) (hf : Fr No w W) (j : Nat) (hj : (x[j]?).isSome = true) : (Instr.loadAt 20 (px b j)).run Tryz.prog W = .ok (xg x j).v W := by
  obtain ⟨_, hc, _, _⟩ := h
  obtain ⟨m, hm⟩ := Option.isSome_iff_exists.1 hj
  have hcell := (hf.cells hc id) j m.v (by rw [List.getElem?_map, hm]; rfl)
  rw [Nat.zero_add] at hcell
  have e : xg x j = m := by unfold xg; rw [List.getD_eq_getElem?_getD, hm]; rfl
  rw [e]
  unfold px
  simp [Instr.loadAt, go_sem, hcell]
section
variable {Q : Exit → Act → World → Prop}
set_option maxRecDepth 100000 in
theorem does_index {xv : Value} {b : Nat} {x : List Mv} {w W : World} {A : Act} {d : Tmp} {xo : Operand} {ty : TypeId} {pos : String} {af : Array Edge} (h : XsAt w xv b x) (j : Nat) (hj6 : j < 6) (hx : A.eval xo = xv) (hd : A.tmps[d]? = some (px b j))
    (hq : x[j]? = none → ∀ v W', IsErr v → Fr No W W' → Q (.panic [{ v := v, recovered := false }]) A W') :
    Does Tryz.prog Q ⟨some d, .indexAddr 106 xo (.const (.int .i64 j)), ty, pos, af, none⟩ A W ((x[j]?).isSome = true) := by
  cases hj : x[j]? with
  | none =>
    obtain ⟨v, hrun, hv⟩ := idx_none h j hj6 hj (W := W)
    refine does_die (v := v) (W' := W.drew) ?_ (hq hj v _ hv (Fr.refl _ _).drew)
    show (execOp A.eval ⟨_, .indexAddr _ _ _, _, _, _, _⟩).run Tryz.prog W = _
    simp [execOp, hx, act_const, hrun, Result.andThen]
  | some m =>
    refine does_val (W' := W) rfl ?_ hd (Fr.refl _ _) rfl
    have hrun := idx_some h j (by rw [hj]; rfl) (W := W)
    simp [execOp, hx, act_const, hrun, Result.andThen]
set_option maxRecDepth 100000 in
theorem does_load {xv : Value} {b : Nat} {x : List Mv} {w W : World} {A : Act} {d : Tmp} {po : Operand} {ty : TypeId} {pos : String} {af : Array Edge} (h : XsAt w xv b x) (hf : Fr No w W) (j : Nat) (hj : (x[j]?).isSome = true) (hx : A.eval po = px b j) (hd : A.tmps[d]? = some (xg x j).v) :
    Does Tryz.prog Q ⟨some d, .load 20 po, ty, pos, af, none⟩ A W ((x[j]?).isSome = true) := by
  refine does_val (W' := W) rfl ?_ hd (Fr.refl _ _) hj
  have hrun := ld_run h hf j hj
  simp [execOp, hx, hrun, Result.andThen]
/-- a function of a word's meaning -/
def ArgC (f : FuncId) (k : IntKind) (g : Mv → Option Int) : Prop := (∀ v W, (callFunc f #[v]).run Tryz.prog W = .ok (.enter f #[v]) W) ∧ ∀ m : Mv, m.ok → ∀ W, Calls Tryz.prog f #[m.v] W (fun e w' => (∃ z, g m = some z ∧ e = .returned (.int k z) ∧ Fr No W w') ∨ (g m = none ∧ Died W e w'))
theorem ArgC.some {f : FuncId} {k : IntKind} {g : Mv → Option Int} (h : ArgC f k g) {m : Mv} (hok : m.ok) {z : Int} (hz : g m = some z) : Hid (∀ W, Calls Tryz.prog f #[m.v] W fun e w' => e = .returned (.int k z) ∧ Fr No W w') := fun W => (h.2 m hok W).mono fun e w' he => by
  rcases he with ⟨z1, hz1, he, hf⟩ | ⟨hz1, _⟩
  · rw [hz] at hz1
    obtain rfl := Option.some.inj hz1
    exact ⟨he, hf⟩
  · rw [hz] at hz1; cases hz1
theorem ArgC.none {f : FuncId} {k : IntKind} {g : Mv → Option Int} (h : ArgC f k g) {m : Mv} (hok : m.ok) (hz : g m = none) : Hid (∀ W, Calls Tryz.prog f #[m.v] W (Died W)) := fun W => (h.2 m hok W).mono fun e w' he => by
  rcases he with ⟨z1, hz1, _⟩ | ⟨_, he⟩
  · rw [hz] at hz1; cases hz1
  · exact he
/-- what it makes of an argument -/
def ag (g : Mv → Option Int) (x : List Mv) (j : Nat) : Option Int := (x[j]?).bind g
set_option maxRecDepth 100000 in
theorem does_arg {f : FuncId} {k : IntKind} {g : Mv → Option Int} (hc : ArgC f k g) {xv : Value} {b : Nat} {x : List Mv} {w W : World} {A : Act} {d : Tmp} {po : Operand} {ty : TypeId} {pos : String} {af : Array Edge} {at' : Array TypeId} (h : XsAt w xv b x) (j : Nat) (hj : (x[j]?).isSome = true)
    (hx : A.eval po = (xg x j).v) (hd : A.tmps[d]? = some (.int k ((ag g x j).getD 0)))
    (hq : ag g x j = none → ∀ v W', IsErr v → Fr No W W' → Q (.panic [{ v := v, recovered := false }]) A W') :
    Does Tryz.prog Q ⟨some d, .call { callee := .value (.func f), args := #[po], argTypes := at' }, ty, pos, af, none⟩ A W ((ag g x j).isSome = true) := by
  obtain ⟨m, hm⟩ := Option.isSome_iff_exists.1 hj
  have e : xg x j = m := by unfold xg; rw [List.getD_eq_getElem?_getD, hm]; rfl
  have e2 : ag g x j = g m := by unfold ag; rw [hm]; rfl
  have hok : m.ok := h.2.2.1 m (List.mem_of_getElem? hm)
  rw [e] at hx
  rw [e2] at hd ⊢
  refine does_call rfl (f := f) (args := #[m.v]) ?_ (Calls.mono (hc.2 m hok W) ?_)
  · simp [execOp, resolve, act_func, hx, Deferred.ofValue, invoke, hc.1]
  · rintro e w' (⟨z, hz, rfl, hf⟩ | ⟨hn, v, rfl, hv, hf⟩)
    · rw [hz] at hd ⊢
      exact .inl ⟨_, rfl, hd, hf, rfl⟩
    · exact .inr ⟨_, rfl, hq (e2.trans hn) v w' hv hf⟩
end
def dstG (m : Mv) : Option Int := match regM m with
  | some n => some (n : Int)
  | none => none
theorem dst_c : ArgC 94 .u8 dstG := by
  refine ⟨fun v W => by kernel_rfl, fun m hok W => ?_⟩
  cases h : regM m with
  | none => exact (dst_none m h W).mono fun e w' he => .inr ⟨by unfold dstG; rw [h], he⟩
  | some n => exact (dst_some m n h W).mono fun e w' he => .inl ⟨n, by unfold dstG; rw [h], he⟩
def smallG (m : Mv) : Option Int := withinM m 0 255
def shortG (m : Mv) : Option Int := withinM m 32768 32767
def wholeG (m : Mv) : Option Int := withinM m 2147483648 2147483647
theorem small_c : ArgC 96 .u8 smallG := by
  refine ⟨fun v W => by kernel_rfl, fun m hok W => ?_⟩
  cases h : smallG m with
  | none => exact (small_none m hok h W).mono fun e w' he => .inr ⟨rfl, he⟩
  | some n => exact (small_some m n h W).mono fun e w' he => .inl ⟨n, rfl, he⟩
theorem short_c : ArgC 92 .i16 shortG := by
  refine ⟨fun v W => by kernel_rfl, fun m hok W => ?_⟩
  cases h : shortG m with
  | none => exact (short_none m hok h W).mono fun e w' he => .inr ⟨rfl, he⟩
  | some n => exact (short_some m n h W).mono fun e w' he => .inl ⟨n, rfl, he⟩
theorem whole_c : ArgC 91 .i32 wholeG := by
  refine ⟨fun v W => by kernel_rfl, fun m hok W => ?_⟩
  cases h : wholeG m with
  | none => exact (whole_none m hok h W).mono fun e w' he => .inr ⟨rfl, he⟩
  | some n => exact (whole_some m n h W).mono fun e w' he => .inl ⟨n, rfl, he⟩
/-- each operation of a row -/
def EachFrom (T : Nat → Oper → Prop) : Nat → List Oper → Prop
  | _, [] => True
  | k, o :: l => T k o ∧ EachFrom T (k + 1) l
theorem each_of (T : Nat → Oper → Prop) : ∀ (l : List Oper) (k : Nat), EachFrom T k l → ∀ i o, l[i]? = some o → T (k + i) o
  | [], _, _, i, o, h => by simp at h
  | p :: l, k, hT, i, o, h => by
    cases i with
    | zero => obtain rfl := Option.some.inj h; exact hT.1
    | succ i =>
      have := each_of T l (k + 1) hT.2 i o h
      rwa [Nat.add_right_comm] at this
theorem each_op (T : Nat → Oper → Prop) (l : List Oper) (h : EachFrom T 0 l) : ∀ i o, l.toArray[i]? = some o → T i o := fun i o hi => by
  have := each_of T l 0 h i o (by simpa using hi)
  rwa [Nat.zero_add] at this
end Go.Proofs.YthkdokkpiaaljaaGreatDoor

namespace Go.Proofs.YthkdokkpiaaljaaGreatDoor
open Go.RowKit

def okN {α : Type} : Lib.NumEnd α → Option α
  | .ok u => some u
  | _ => none
theorem parseM_dig : ∀ (l : List UInt8) (acc : Nat), acc ≤ 18446744073709551615 → okN (Lib.parseUintM 18446744073709551615 acc l) = digV l acc
  | [], acc, _ => rfl
  | c :: r, acc, h => by
    unfold Lib.parseUintM digV
    by_cases hd : 48 ≤ c.toNat ∧ c.toNat ≤ 57
    · have hd2 : ¬ (c < 48 ∨ 57 < c) := by
        rw [UInt8.lt_iff_toNat_lt, UInt8.lt_iff_toNat_lt]
        show ¬ (c.toNat < 48 ∨ 57 < c.toNat)
        omega
      rw [if_pos hd, if_neg hd2]
      by_cases h1 : 1844674407370955162 ≤ acc
      · rw [if_pos h1, if_pos (by omega)]
        rfl
      · rw [if_neg h1]
        by_cases h2 : 18446744073709551615 < acc * 10 + (c.toNat - 48)
        · rw [if_pos h2, if_pos (by omega)]
          rfl
        · rw [if_neg h2, if_neg (by omega)]
          exact parseM_dig r _ (by omega)
    · have hd2 : c < 48 ∨ 57 < c := by
        rw [UInt8.lt_iff_toNat_lt, UInt8.lt_iff_toNat_lt]
        show c.toNat < 48 ∨ 57 < c.toNat
        omega
      rw [if_neg hd, if_pos hd2]
      rfl
theorem parse64 (l : List UInt8) : okN (Lib.parseUintB 64 l) = digL l := by
  unfold Lib.parseUintB digL
  split
  · rfl
  · exact parseM_dig l 0 (by omega)

theorem digV_bad : ∀ (l : List UInt8) (n : Nat) (x : UInt8), x ∈ l → (x < 48 ∨ 57 < x) → digV l n = none
  | [], _, _, h, _ => absurd h (by simp)
  | c :: t, n, x, h, hx => by
    unfold digV
    by_cases hc : c < 48 ∨ 57 < c
    · rw [if_pos hc]
    · rw [if_neg hc]
      split
      · rfl
      · rcases List.mem_cons.1 h with rfl | h
        · exact absurd hx hc
        · exact digV_bad t _ x h hx
theorem digL_bad {l : List UInt8} {x : UInt8} (h : x ∈ l) (hx : x < 48 ∨ 57 < x) : digL l = none := by
  unfold digL
  split
  · rfl
  · exact digV_bad l 0 x h hx

/-- the minus sign's bytes -/
def oldM : List UInt8 := [226, 136, 146]
def replM (s : List UInt8) : List UInt8 := Lib.replace s oldM [45] 1
theorem repl_form (s : List UInt8) : (Lib.index s oldM = -1 ∧ replM s = s) ∨ ∃ i : Nat, Lib.index s oldM = i ∧ oldM.isPrefixOf (s.drop i) = true ∧ replM s = s.take i ++ 45 :: s.drop (i + 3) := by
  unfold replM Lib.replace
  have hne : (oldM == ([45] : List UInt8)) = false := by decide
  rw [hne]
  simp only [Bool.false_eq_true, if_false]
  rcases Lib.index_spec s oldM with ⟨h, _⟩ | ⟨i, h, hi, ho, _⟩
  · refine .inl ⟨h, ?_⟩
    have hc := Lib.count_miss h
    unfold Lib.replaceNum
    rw [hc]
    simp [Lib.replaceK]
  · refine .inr ⟨i, h, ho, ?_⟩
    have hc := Lib.count_hit (s := s) (sub := oldM) (by decide) h
    have : Lib.replaceNum s oldM 1 = 1 := by
      unfold Lib.replaceNum
      rw [hc]
      rw [if_neg (by omega)]
      rfl
    rw [this, Lib.replaceK_hit oldM [45] 0 s i h]
    simp [Lib.replaceK, oldM]

/-- what the program reckons of a word that is no register -/
def goNum (s : List UInt8) : Option (Bool × Nat) :=
  let R := replM s
  if Lib.hasPrefix R [45] then (okN (Lib.parseUintB 64 (Lib.trimPrefix R [45]))).map (true, ·)
  else (okN (Lib.parseUintB 64 (Lib.trimPrefix R [43]))).map (false, ·)
theorem hasP (c : UInt8) (s : List UInt8) : Lib.hasPrefix s [c] = (s.head? == some c) := by
  cases s with
  | nil => rfl
  | cons a t =>
    simp only [Lib.hasPrefix, List.isPrefixOf, List.head?_cons, Bool.and_true]
    rw [Bool.eq_iff_iff]
    simp
    exact eq_comm
theorem trimP (c : UInt8) (s : List UInt8) : Lib.trimPrefix s [c] = if s.head? = some c then s.drop 1 else s := by
  unfold Lib.trimPrefix
  rw [hasP]
  by_cases h : s.head? = some c
  · rw [if_pos h, if_pos (by simpa using h)]; rfl
  · rw [if_neg h, if_neg (by simpa using h)]

theorem num_same (s : List UInt8) : goNum s = numW s := by
  unfold goNum
  simp only [hasP, trimP, parse64]
  have b45 : (45 : UInt8) < 48 ∨ 57 < (45 : UInt8) := by decide
  have b226 : (226 : UInt8) < 48 ∨ 57 < (226 : UInt8) := by decide
  rcases repl_form s with ⟨hi, hr⟩ | ⟨i, hi, ho, hr⟩
  · rw [hr]
    have h3 : ¬ (3 < s.length ∧ s.take 3 = [226, 136, 146]) := by
      rintro ⟨_, h⟩
      have : Lib.index s oldM = 0 := by
        have hs : s = oldM ++ s.drop 3 := by
          have := List.take_append_drop 3 s
          rw [h] at this
          exact this.symm
        refine Lib.index_first (i := 0) (Nat.zero_le _) ?_ (fun j hj => absurd hj (Nat.not_lt_zero _))
        unfold Lib.occAt
        rw [List.drop_zero, hs]
        simp [oldM]
      omega
    unfold numW
    rw [if_neg h3]
    cases s with
    | nil => rfl
    | cons c t =>
      simp only [List.head?_cons, List.drop_one, List.tail_cons, List.length_cons, Option.some.injEq]
      by_cases h45 : c = 45
      · subst h45
        cases t with
        | nil => rfl
        | cons d t => simp
      · by_cases h43 : c = 43
        · subst h43
          cases t with
          | nil => rfl
          | cons d t => simp
        · simp [h45, h43]
  · have hd : ∃ t, s.drop i = 226 :: 136 :: 146 :: t := by
      obtain ⟨t, ht⟩ := List.isPrefixOf_iff_prefix.1 ho
      exact ⟨t, by rw [← ht]; rfl⟩
    obtain ⟨t, ht⟩ := hd
    have hs : s = s.take i ++ 226 :: 136 :: 146 :: t := by rw [← ht, List.take_append_drop]
    have hd3 : s.drop (i + 3) = t := by rw [← List.drop_drop, ht]; rfl
    rw [hr, hd3]
    generalize hA : s.take i = A at hs
    cases A with
    | nil =>
      simp only [List.nil_append] at hs ⊢
      subst hs
      unfold numW
      simp only [List.head?_cons, List.drop_one, List.tail_cons, List.length_cons]
      cases t with
      | nil => rfl
      | cons d t =>
        rw [if_pos (by simp)]
        simp
    | cons c A =>
      have h3 : ¬ (3 < s.length ∧ s.take 3 = [226, 136, 146]) := by
        rintro ⟨_, h⟩
        have hz : Lib.index s oldM = 0 := by
          have hs : s = oldM ++ s.drop 3 := by
            have := List.take_append_drop 3 s
            rw [h] at this
            exact this.symm
          refine Lib.index_first (i := 0) (Nat.zero_le _) ?_ (fun j hj => absurd hj (Nat.not_lt_zero _))
          unfold Lib.occAt
          rw [List.drop_zero, hs]
          simp [oldM]
        have : i = 0 := by omega
        subst this
        simp at hA
      have m1 : (45 : UInt8) ∈ A ++ 45 :: t := by simp
      have m2 : (226 : UInt8) ∈ A ++ 226 :: 136 :: 146 :: t := by simp
      have e1 := digL_bad m1 b45
      have e2 := digL_bad m2 b226
      have e3 : digL (c :: A ++ 45 :: t) = none := digL_bad (by simp) b45
      have e4 : digL (c :: A ++ 226 :: 136 :: 146 :: t) = none := digL_bad (by simp) b226
      unfold numW
      rw [if_neg h3, hs]
      simp only [List.cons_append, List.head?_cons, List.drop_one, List.tail_cons, Option.some.injEq] at e3 e4 ⊢
      have p1 : ∀ (P : Prop) [Decidable P], digL (if P then A ++ 45 :: t else c :: (A ++ 45 :: t)) = none := fun P _ => by split <;> assumption
      rw [p1, p1, e2, e4]
      simp

/-- what a word behind the first one is -/
theorem reg_num (n : Nat) (h : n ≤ 10) : okN (Lib.atoiAll (decN n)) = some (n : Int) := by
  have : ∀ n, n < 11 → okN (Lib.atoiAll (decN n)) = some (n : Int) := by decide +kernel
  exact this n (by omega)
end Go.Proofs.YthkdokkpiaaljaaGreatDoor
