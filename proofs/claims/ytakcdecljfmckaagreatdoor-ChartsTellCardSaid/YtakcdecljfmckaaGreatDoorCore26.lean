/- lines.build's drawn regions: what each operation does. lines.mean: what a word behind the first one is. -/
import Derived.Test.YtakcdecljfmckaaGreatDoorCore25
import Derived.Test.YtakcdecljfmckaaGreatDoorCore15
import Derived.Test.YtakcdecljfmckaaGreatDoorCore12
import Derived.Laws.Panics
import Derived.Lib.BoundsPanic
import Derived.Test.YtakcdecljfmckaaGreatDoorCore7
import Derived.Test.YtakcdecljfmckaaGreatDoorCore8
import Derived.BigGuardPart
import Derived.Lib.ConvBytes
set_option linter.all false
set_option linter.unusedVariables false
set_option linter.unusedSimpArgs false
namespace Go.Proofs.YtakcdecljfmckaaGreatDoor
open Go.RowKit

/-- the words' meanings, as build is given them -/
def XsAt (w : World) (xv : Value) (b : Nat) (x : List Mv) : Prop := (∃ p c, xv = .slice p x.length c ∧ (x ≠ [] → p = some ⟨b, 0, none⟩)) ∧ CellsAt w b 0 (x.map Mv.v) ∧ (∀ m ∈ x, m.ok) ∧ x.length ≤ 1000000000
theorem XsAt.fr {w w' : World} {xv : Value} {b : Nat} {x : List Mv} (h : XsAt w xv b x) (hf : Fr No w w') : XsAt w' xv b x := ⟨h.1, hf.cells h.2.1 id, h.2.2⟩

section
variable {P : Program} {Q : Exit → Act → World → Prop}
theorem put_same {A : Act} {d : Tmp} {v : Value} (h : A.tmps[d]? = some v) : A.put (some d) v = A := by
  have : A.tmps.setIfInBounds d v = A.tmps := by
    refine Array.ext_getElem? fun s => ?_
    by_cases hs : d = s
    · subst hs
      rw [Array.getElem?_setIfInBounds, if_pos rfl, h]
      have := (Array.getElem?_eq_some_iff.1 h).1
      rw [if_pos this]
    · rw [Array.getElem?_setIfInBounds_ne hs]
  unfold Act.put
  simp only [this]
theorem does_val {o : Oper} {A : Act} {W W' : World} {l : Prop} {d : Tmp} {v : Value} (hd : o.dst = some d) (h : (execOp A.eval o).run P W = .ok (.value v) W') (hv : A.tmps[d]? = some v) (hf : Fr No W W') (hl : l) : Does P Q o A W l := by
  unfold Does Oper.wp
  rw [h]
  show A.put o.dst v = A ∧ Fr No W W' ∧ l
  rw [hd]
  exact ⟨put_same hv, hf, hl⟩
theorem does_die {o : Oper} {A : Act} {W W' : World} {l : Prop} {v : Value} (h : (execOp A.eval o).run P W = .halt (.panic v) W') (hq : Q (.panic [{ v := v, recovered := false }]) A W') : Does P Q o A W l := by
  unfold Does Oper.wp
  rw [h]
  exact hq
theorem does_call {o : Oper} {A : Act} {W : World} {l : Prop} {d : Tmp} {f : FuncId} {args : Array Value} (hd : o.dst = some d) (h : (execOp A.eval o).run P W = .ok (.enter f args) W)
    (hc : Calls P f args W fun e w' => (∃ v, e = .returned v ∧ A.tmps[d]? = some v ∧ Fr No W w' ∧ l) ∨ (∃ c, e = .panicked c ∧ Q (.panic c) A w')) : Does P Q o A W l := by
  unfold Does Oper.wp
  rw [h]
  refine Calls.mono hc ?_
  rintro e w' (⟨v, rfl, hv, hf, hl⟩ | ⟨c, rfl, hq⟩)
  · show A.put o.dst v = A ∧ Fr No W w' ∧ l
    rw [hd]
    exact ⟨put_same hv, hf, hl⟩
  · exact hq
end
theorem ev {A : Act} {d : Tmp} {v : Value} (h : A.tmps[d]? = some v) : A.eval (.tmp d) = v := by
  show A.tmps.getD d undef = v
  rw [Array.getD_eq_getD_getElem?, h]
  rfl
theorem does_move {P : Program} {Q : Exit → Act → World → Prop} {A : Act} {d : Tmp} {x : Operand} {v : Value} {W : World} {ty : TypeId} {pos : String} {af : Array Edge} (hx : A.eval x = v) (hd : A.tmps[d]? = some v) : Does P Q ⟨some d, .move x, ty, pos, af, none⟩ A W True :=
  does_val (o := ⟨some d, .move x, ty, pos, af, none⟩) (v := v) (W' := W) rfl (by rw [← hx]; rfl) hd (Fr.refl _ _) trivial
theorem does_assign {P : Program} {Q : Exit → Act → World → Prop} {A : Act} {d : Tmp} {x : Operand} {v : Value} {W : World} {ty : TypeId} {pos : String} {af : Array Edge} (hx : A.eval x = v) (hd : A.tmps[d]? = some v) : Does P Q ⟨some d, .assign x, ty, pos, af, none⟩ A W True :=
  does_val (o := ⟨some d, .assign x, ty, pos, af, none⟩) (v := v) (W' := W) rfl (by rw [← hx]; rfl) hd (Fr.refl _ _) trivial
theorem does_build {P : Program} {Q : Exit → Act → World → Prop} {A : Act} {d : Tmp} {t : TypeId} {ps : Array (Nat × Operand)} {vs : Array (Nat × Value)} {v : Value} {W : World} {ty : TypeId} {pos : String} {af : Array Edge} (hx : ps.map (fun (i, x) => (i, A.eval x)) = vs) (hrun : (Instr.build t vs).run P W = .ok v W) (hd : A.tmps[d]? = some v) : Does P Q ⟨some d, .build t ps, ty, pos, af, none⟩ A W True := by
  refine does_val (o := ⟨some d, .build t ps, ty, pos, af, none⟩) (v := v) (W' := W) rfl ?_ hd (Fr.refl _ _) trivial
  subst hx
  simp [execOp, hrun, Result.andThen]
theorem does_arrx {P : Program} {Q : Exit → Act → World → Prop} {A : Act} {d : Tmp} {t : TypeId} {xo : Operand} {xv iv p : Value} {W : World} {ty : TypeId} {pos : String} {af : Array Edge} (hx : A.eval xo = xv) (hr : (Instr.indexAt t xv iv).run P W = .ok p W) (hd : A.tmps[d]? = some p) : Does P Q ⟨some d, .indexAddr t xo (.const iv), ty, pos, af, none⟩ A W True := by
  refine does_val (o := ⟨some d, .indexAddr t xo (.const iv), ty, pos, af, none⟩) (v := p) (W' := W) rfl ?_ hd (Fr.refl _ _) trivial
  have hc : A.eval (.const iv) = iv := rfl
  simp [execOp, hx, hc, hr, Result.andThen]
theorem does_arrl {P : Program} {Q : Exit → Act → World → Prop} {A : Act} {d : Tmp} {t : TypeId} {xo : Operand} {xv v : Value} {W : World} {ty : TypeId} {pos : String} {af : Array Edge} (hx : A.eval xo = xv) (hr : (Instr.loadAt t xv).run P W = .ok v W) (hd : A.tmps[d]? = some v) : Does P Q ⟨some d, .load t xo, ty, pos, af, none⟩ A W True := by
  refine does_val (o := ⟨some d, .load t xo, ty, pos, af, none⟩) (v := v) (W' := W) rfl ?_ hd (Fr.refl _ _) trivial
  simp [execOp, hx, hr, Result.andThen]
/-- a byte's load -/
theorem ld_u8 {W : World} {a : Addr} {n : Int} (h : W.cell? a = some (.int .u8 n)) : (Instr.loadAt 5 (.pointer (some a))).run Tryz.prog W = .ok (.int .u8 n) W := by
  simp [Instr.loadAt, go_sem, h]
theorem slice_run {P : Program} {A : Act} {d : Tmp} {t : TypeId} {n : Nat} {ps : Array (Nat × Operand)} {vs : Array (Nat × Value)} {v : Value} {W W' : World} {ty : TypeId} {pos : String} {af : Array Edge} (hx : ps.map (fun (i, x) => (i, A.eval x)) = vs) (hrun : (Instr.buildSlice t n vs).run P W = .ok v W') :
    (execOp A.eval ⟨some d, .buildSlice t n ps, ty, pos, af, none⟩).run P W = .ok (.value v) W' := by
  subst hx
  simp [execOp, hrun, Result.andThen]
/-! ### the arguments -/
/-- an argument's place -/
def px (b j : Nat) : Value := .pointer (some ⟨b, j, none⟩)
/-- an argument -/
def xg (x : List Mv) (j : Nat) : Mv := x.getD j .no
theorem act_const (A : Act) (v : Value) : A.eval (.const v) = v := rfl
theorem act_func (A : Act) (f : FuncId) : A.eval (.func f) = .func (.func f) #[] #[] := rfl
theorem idx_some {xv : Value} {b : Nat} {x : List Mv} {w W : World} (h : XsAt w xv b x) (j : Nat) (hj : (x[j]?).isSome = true) : (Instr.indexAt 107 xv (.int .i64 j)).run Tryz.prog W = .ok (px b j) W := by
  obtain ⟨⟨p, c, rfl, hp⟩, _, _, _⟩ := h
  have hlt : j < x.length := by
    rcases Nat.lt_or_ge j x.length with h | h
    · exact h
    · rw [List.getElem?_eq_none h] at hj; cases hj
  obtain rfl := hp (by rintro rfl; exact absurd hlt (Nat.not_lt_zero _))
  rw [run_indexAt_slice (h := by kernel_rfl), if_pos (by omega)]
  have e : (sizeOf (Tryz.prog.elem 107)).run Tryz.prog W = .ok 1 W := by kernel_rfl
  rw [e]
  show Result.ok (Value.pointer (some (Addr.add ⟨b, 0, none⟩ (Int.toNat (j : Int) * 1)))) W = _
  unfold px Addr.add
  by_cases h0 : j = 0
  · subst h0; simp
  · simp [h0]
theorem idx_none {xv : Value} {b : Nat} {x : List Mv} {w W : World} (h : XsAt w xv b x) (j : Nat) (hj6 : j < 6) (hj : x[j]? = none) : ∃ v, (Instr.indexAt 107 xv (.int .i64 j)).run Tryz.prog W = .halt (.panic v) W.drew ∧ IsErr v := by
  obtain ⟨⟨p, c, rfl, hp⟩, _, _, _⟩ := h
  have hle : x.length ≤ j := List.getElem?_eq_none_iff.1 hj
  cases p with
  | some a =>
    rw [run_indexAt_slice (h := by kernel_rfl), if_neg (by omega), Lib.run_boundsPanic_index Tryz.prog j x.length W (by omega) (by omega)]
    exact ⟨_, rfl, .inr ⟨_, rfl⟩⟩
  | none =>
    rw [Lib.run_indexAt_nil W 107 20 _ _ _ _ (by kernel_rfl), Lib.run_boundsPanic_index Tryz.prog j 0 W (by omega) (by omega)]
    exact ⟨_, rfl, .inr ⟨_, rfl⟩⟩
theorem ld_run {xv : Value} {b : Nat} {x : List Mv} {w W : World} (h : XsAt w xv b x) (hf : Fr No w W) (j : Nat) (hj : (x[j]?).isSome = true) : (Instr.loadAt 20 (px b j)).run Tryz.prog W = .ok (xg x j).v W := by
  obtain ⟨_, hc, _, _⟩ := h
  obtain ⟨m, hm⟩ := Option.isSome_iff_exists.1 hj
  have hcell := (hf.cells hc id) j m.v (by rw [List.getElem?_map, hm]; rfl)
  rw [Nat.zero_add] at hcell
  have e : xg x j = m := by unfold xg; rw [List.getD_eq_getElem?_getD, hm]; rfl
  rw [e]
  unfold px
  simp [Instr.loadAt, go_sem, hcell]
section
variable {Q : Exit → Act → World → Prop}
set_option maxRecDepth 100000 in
theorem does_index {xv : Value} {b : Nat} {x : List Mv} {w W : World} {A : Act} {d : Tmp} {xo : Operand} {ty : TypeId} {pos : String} {af : Array Edge} (h : XsAt w xv b x) (j : Nat) (hj6 : j < 6) (hx : A.eval xo = xv) (hd : A.tmps[d]? = some (px b j))
    (hq : x[j]? = none → ∀ v W', IsErr v → Fr No W W' → Q (.panic [{ v := v, recovered := false }]) A W') :
    Does Tryz.prog Q ⟨some d, .indexAddr 107 xo (.const (.int .i64 j)), ty, pos, af, none⟩ A W ((x[j]?).isSome = true) := by
  cases hj : x[j]? with
  | none =>
    obtain ⟨v, hrun, hv⟩ := idx_none h j hj6 hj (W := W)
    refine does_die (v := v) (W' := W.drew) ?_ (hq hj v _ hv (Fr.refl _ _).drew)
    show (execOp A.eval ⟨_, .indexAddr _ _ _, _, _, _, _⟩).run Tryz.prog W = _
    simp [execOp, hx, act_const, hrun, Result.andThen]
  | some m =>
    refine does_val (W' := W) rfl ?_ hd (Fr.refl _ _) rfl
    have hrun := idx_some h j (by rw [hj]; rfl) (W := W)
    simp [execOp, hx, act_const, hrun, Result.andThen]
set_option maxRecDepth 100000 in
theorem does_load {xv : Value} {b : Nat} {x : List Mv} {w W : World} {A : Act} {d : Tmp} {po : Operand} {ty : TypeId} {pos : String} {af : Array Edge} (h : XsAt w xv b x) (hf : Fr No w W) (j : Nat) (hj : (x[j]?).isSome = true) (hx : A.eval po = px b j) (hd : A.tmps[d]? = some (xg x j).v) :
    Does Tryz.prog Q ⟨some d, .load 20 po, ty, pos, af, none⟩ A W ((x[j]?).isSome = true) := by
  refine does_val (W' := W) rfl ?_ hd (Fr.refl _ _) hj
  have hrun := ld_run h hf j hj
  simp [execOp, hx, hrun, Result.andThen]
/-- a function of a word's meaning -/
def ArgC (f : FuncId) (k : IntKind) (g : Mv → Option Int) : Prop := (∀ v W, (callFunc f #[v]).run Tryz.prog W = .ok (.enter f #[v]) W) ∧ ∀ m : Mv, m.ok → ∀ W, Calls Tryz.prog f #[m.v] W (fun e w' => (∃ z, g m = some z ∧ e = .returned (.int k z) ∧ Fr No W w') ∨ (g m = none ∧ Died W e w'))
theorem ArgC.some {f : FuncId} {k : IntKind} {g : Mv → Option Int} (h : ArgC f k g) {m : Mv} (hok : m.ok) {z : Int} (hz : g m = some z) : Hid (∀ W, Calls Tryz.prog f #[m.v] W fun e w' => e = .returned (.int k z) ∧ Fr No W w') := fun W => (h.2 m hok W).mono fun e w' he => by
  rcases he with ⟨z1, hz1, he, hf⟩ | ⟨hz1, _⟩
  · rw [hz] at hz1
    obtain rfl := Option.some.inj hz1
    exact ⟨he, hf⟩
  · rw [hz] at hz1; cases hz1
theorem ArgC.none {f : FuncId} {k : IntKind} {g : Mv → Option Int} (h : ArgC f k g) {m : Mv} (hok : m.ok) (hz : g m = none) : Hid (∀ W, Calls Tryz.prog f #[m.v] W (Died W)) := fun W => (h.2 m hok W).mono fun e w' he => by
  rcases he with ⟨z1, hz1, _⟩ | ⟨_, he⟩
  · rw [hz] at hz1; cases hz1
  · exact he
/-- what it makes of an argument -/
def ag (g : Mv → Option Int) (x : List Mv) (j : Nat) : Option Int := (x[j]?).bind g
set_option maxRecDepth 100000 in
theorem does_arg {f : FuncId} {k : IntKind} {g : Mv → Option Int} (hc : ArgC f k g) {xv : Value} {b : Nat} {x : List Mv} {w W : World} {A : Act} {d : Tmp} {po : Operand} {ty : TypeId} {pos : String} {af : Array Edge} {at' : Array TypeId} (h : XsAt w xv b x) (j : Nat) (hj : (x[j]?).isSome = true)
    (hx : A.eval po = (xg x j).v) (hd : A.tmps[d]? = some (.int k ((ag g x j).getD 0)))
    (hq : ag g x j = none → ∀ v W', IsErr v → Fr No W W' → Q (.panic [{ v := v, recovered := false }]) A W') :
    Does Tryz.prog Q ⟨some d, .call { callee := .value (.func f), args := #[po], argTypes := at' }, ty, pos, af, none⟩ A W ((ag g x j).isSome = true) := by
  obtain ⟨m, hm⟩ := Option.isSome_iff_exists.1 hj
  have e : xg x j = m := by unfold xg; rw [List.getD_eq_getElem?_getD, hm]; rfl
  have e2 : ag g x j = g m := by unfold ag; rw [hm]; rfl
  have hok : m.ok := h.2.2.1 m (List.mem_of_getElem? hm)
  rw [e] at hx
  rw [e2] at hd ⊢
  refine does_call rfl (f := f) (args := #[m.v]) ?_ (Calls.mono (hc.2 m hok W) ?_)
  · simp [execOp, resolve, act_func, hx, Deferred.ofValue, invoke, hc.1]
  · rintro e w' (⟨z, hz, rfl, hf⟩ | ⟨hn, v, rfl, hv, hf⟩)
    · rw [hz] at hd ⊢
      exact .inl ⟨_, rfl, hd, hf, rfl⟩
    · exact .inr ⟨_, rfl, hq (e2.trans hn) v w' hv hf⟩
end
def dstG (m : Mv) : Option Int := match regM m with
  | some n => some (n : Int)
  | none => none
theorem dst_c : ArgC 101 .u8 dstG := by
  refine ⟨fun v W => by kernel_rfl, fun m hok W => ?_⟩
  cases h : regM m with
  | none => exact (dst_none m h W).mono fun e w' he => .inr ⟨by unfold dstG; rw [h], he⟩
  | some n => exact (dst_some m n h W).mono fun e w' he => .inl ⟨n, by unfold dstG; rw [h], he⟩
def smallG (m : Mv) : Option Int := withinM m 0 255
def shortG (m : Mv) : Option Int := withinM m 32768 32767
def wholeG (m : Mv) : Option Int := withinM m 2147483648 2147483647
theorem small_c : ArgC 103 .u8 smallG := by
  refine ⟨fun v W => by kernel_rfl, fun m hok W => ?_⟩
  cases h : smallG m with
  | none => exact (small_none m hok h W).mono fun e w' he => .inr ⟨rfl, he⟩
  | some n => exact (small_some m n h W).mono fun e w' he => .inl ⟨n, rfl, he⟩
theorem short_c : ArgC 99 .i16 shortG := by
  refine ⟨fun v W => by kernel_rfl, fun m hok W => ?_⟩
  cases h : shortG m with
  | none => exact (short_none m hok h W).mono fun e w' he => .inr ⟨rfl, he⟩
  | some n => exact (short_some m n h W).mono fun e w' he => .inl ⟨n, rfl, he⟩
theorem whole_c : ArgC 98 .i32 wholeG := by
  refine ⟨fun v W => by kernel_rfl, fun m hok W => ?_⟩
  cases h : wholeG m with
  | none => exact (whole_none m hok h W).mono fun e w' he => .inr ⟨rfl, he⟩
  | some n => exact (whole_some m n h W).mono fun e w' he => .inl ⟨n, rfl, he⟩
/-- each operation of a row -/
def EachFrom (T : Nat → Oper → Prop) : Nat → List Oper → Prop
  | _, [] => True
  | k, o :: l => T k o ∧ EachFrom T (k + 1) l
theorem each_of (T : Nat → Oper → Prop) : ∀ (l : List Oper) (k : Nat), EachFrom T k l → ∀ i o, l[i]? = some o → T (k + i) o
  | [], _, _, i, o, h => by simp at h
  | p :: l, k, hT, i, o, h => by
    cases i with
    | zero => obtain rfl := Option.some.inj h; exact hT.1
    | succ i =>
      have := each_of T l (k + 1) hT.2 i o h
      rwa [Nat.add_right_comm] at this
theorem each_op (T : Nat → Oper → Prop) (l : List Oper) (h : EachFrom T 0 l) : ∀ i o, l.toArray[i]? = some o → T i o := fun i o hi => by
  have := each_of T l 0 h i o (by simpa using hi)
  rwa [Nat.zero_add] at this
end Go.Proofs.YtakcdecljfmckaaGreatDoor

namespace Go.Proofs.YtakcdecljfmckaaGreatDoor
open Go.RowKit

/-- what a word is -/
def meanM (s : List UInt8) : Mv :=
  if s.head? = some 114 then (match regW s with | some n => .reg n | none => .no)
  else match numW s with
    | none => .no
    | some (m, n) => .val (m && decide (0 < n)) n

theorem cutp_any (s p : ByteArray) (w : World) : Calls Tryz.prog 93 #[.string s, .string p] w fun e w' => e = .returned (.tuple #[.string (bA (Lib.trimPrefix s.data.toList p.data.toList)), .bool (Lib.hasPrefix s.data.toList p.data.toList)]) ∧ w = w' :=
  (Tryz.strings_CutPrefix s p w).mono fun e w' ⟨he, hw⟩ => ⟨he, hw.symm⟩
theorem trimp_any (s p : ByteArray) (w : World) : Calls Tryz.prog 96 #[.string s, .string p] w fun e w' => e = .returned (.string (bA (Lib.trimPrefix s.data.toList p.data.toList))) ∧ w = w' :=
  (Tryz.strings_TrimPrefix s p w).mono fun e w' ⟨he, hw⟩ => ⟨he, hw.symm⟩
theorem bytesWorld_fr (w : World) (e : TypeId) (s : ByteArray) : Fr No w (Lib.bytesWorld w e s) := Fr.of_below (Lib.bytesWorld_below w e s)
/-- a number comes back, and no error -/
def SlNum (k : IntKind) (n : Int) (w : World) (e : Ending) (w' : World) : Prop := e = .returned (.tuple #[.int k n, .nilIface]) ∧ Fr No w w'
/-- an error comes back -/
def SlErr (k : IntKind) (w : World) (e : Ending) (w' : World) : Prop := ∃ n tp p, e = .returned (.tuple #[.int k n, .iface tp p]) ∧ Fr No w w'
theorem atoi_some (s : List UInt8) (n : Int) (hs : s.length ≤ 1000000) (h : okN (Lib.atoiAll s) = some n) (w : World) : Calls Tryz.prog 94 #[.string (bA s)] w (SlNum .i64 n w) := by
  have h2 : Lib.atoiAll (bA s).data.toList = .ok n := by
    show Lib.atoiAll s = .ok n
    cases ha : Lib.atoiAll s with
    | ok v => rw [ha] at h; obtain rfl := Option.some.inj h; rfl
    | range => rw [ha] at h; cases h
    | _ => rw [ha] at h; cases h
  refine (Tryz.strconv_Atoi_ok (bA s) (by rw [bA_size]; omega) n h2 w).mono ?_
  rintro e w' ⟨rfl, hw⟩
  refine ⟨rfl, ?_⟩
  rcases hw with rfl | ⟨t, rfl⟩
  · exact Fr.refl _ _
  · exact bytesWorld_fr _ _ _
theorem atoi_none (s : List UInt8) (hs : s.length ≤ 1000000) (h : okN (Lib.atoiAll s) = none) (w : World) (hT : LT w) : Calls Tryz.prog 94 #[.string (bA s)] w (SlErr .i64 w) := by
  obtain ⟨t1, p1, h1⟩ := hT.errS
  obtain ⟨t2, p2, h2⟩ := hT.errR
  cases ha : Lib.atoiAll s with
  | ok v => rw [ha] at h; cases h
  | range =>
    refine (Tryz.strconv_Atoi_range_var (bA s) (by rw [bA_size]; omega) ha t2 p2 w h2).mono ?_
    rintro e w' ⟨N, rfl, _, _, hb⟩
    exact ⟨_, _, _, rfl, Fr.of_below hb⟩
  | _ =>
    refine (Tryz.strconv_Atoi_syntax_var (bA s) (by rw [bA_size]; omega) ha t1 p1 w h1).mono ?_
    rintro e w' ⟨N, rfl, _, _, hb⟩
    exact ⟨_, _, _, rfl, Fr.of_below hb⟩
theorem pu_some (s : List UInt8) (n : Nat) (hs : s.length ≤ 1000000) (h : okN (Lib.parseUintB 64 s) = some n) (w : World) : Calls Tryz.prog 97 #[.string (bA s), .int .i64 10, .int .i64 64] w (SlNum .u64 n w) := by
  have h2 : Lib.parseUintB 64 (bA s).data.toList = .ok n := by
    show Lib.parseUintB 64 s = .ok n
    cases ha : Lib.parseUintB 64 s with
    | ok v => rw [ha] at h; obtain rfl := Option.some.inj h; rfl
    | range => rw [ha] at h; cases h
    | _ => rw [ha] at h; cases h
  refine (Tryz.strconv_ParseUint_10_at64_ok (bA s) (by rw [bA_size]; omega) n h2 w).mono ?_
  rintro e w' ⟨rfl, hw⟩
  refine ⟨rfl, ?_⟩
  rcases hw with rfl | rfl
  · exact Fr.refl _ _
  · exact bytesWorld_fr _ _ _
theorem pu_none (s : List UInt8) (hs : s.length ≤ 1000000) (h : okN (Lib.parseUintB 64 s) = none) (w : World) (hT : LT w) : Calls Tryz.prog 97 #[.string (bA s), .int .i64 10, .int .i64 64] w (SlErr .u64 w) := by
  obtain ⟨t1, p1, h1⟩ := hT.errS
  obtain ⟨t2, p2, h2⟩ := hT.errR
  cases ha : Lib.parseUintB 64 s with
  | ok v => rw [ha] at h; cases h
  | range =>
    refine (Tryz.strconv_ParseUint_10_at64_range_var (bA s) (by rw [bA_size]; omega) ha t2 p2 w h2).mono ?_
    rintro e w' ⟨N, rfl, _, _, hb⟩
    exact ⟨_, _, _, rfl, Fr.of_below hb⟩
  | _ =>
    refine (Tryz.strconv_ParseUint_10_at64_syntax_var (bA s) (by rw [bA_size]; omega) ha t1 p1 w h1).mono ?_
    rintro e w' ⟨N, rfl, _, _, hb⟩
    exact ⟨_, _, _, rfl, Fr.of_below hb⟩
theorem replM_any (s : List UInt8) (hs : s.length ≤ 1000000) (w : World) (hT : LT w) : Calls Tryz.prog 95 #[.string (bA s), .string ⟨#[226, 136, 146]⟩, .string ⟨#[45]⟩, .int .i64 1] w fun e w' => e = .returned (.string (bA (replM s))) ∧ Fr No w w' := by
  obtain ⟨m, hm⟩ := hT.max
  have hc : Lib.countB (bA s) ⟨#[226, 136, 146]⟩ ≤ (bA s).size + 1 := by
    exact Lib.count_le (bA s).data.toList [226, 136, 146]
  refine (Tryz.strings_Replace (bA s) ⟨#[226, 136, 146]⟩ ⟨#[45]⟩ 1 m w (by rw [bA_size]; omega) hm (by decide) (by
    have h1 : (⟨#[45]⟩ : ByteArray).size = 1 := rfl
    rw [h1, bA_size] at *
    omega)).mono ?_
  rintro e w' ⟨rfl, hb⟩
  exact ⟨rfl, Fr.of_below hb⟩
theorem data_bA (s : List UInt8) : (bA s).data.toList = s := rfl

set_option maxRecDepth 100000 in
set_option maxHeartbeats 1000000 in
theorem mean_reg (s : List UInt8) (hs : s.length ≤ 1000000) (h : s.head? = some 114) (w : World) (hT : LT w) : Calls Tryz.prog 74 #[.string (bA s)] w fun e w' => e = .returned (meanM s).v ∧ Fr No w w' := by
  obtain ⟨t, rfl⟩ : ∃ t, s = 114 :: t := by
    cases s with
    | nil => cases h
    | cons c t => obtain rfl := Option.some.inj h; exact ⟨t, rfl⟩
  have HC : Hid (∀ W, Calls Tryz.prog 93 #[.string (bA (114 :: t)), .string ⟨#[114]⟩] W fun e w' => e = .returned (.tuple #[.string (bA t), .bool true]) ∧ W = w') := fun W => by
    have := cutp_any (bA (114 :: t)) ⟨#[114]⟩ W
    have e1 : Lib.trimPrefix (bA (114 :: t)).data.toList (⟨#[114]⟩ : ByteArray).data.toList = t := by
      show Lib.trimPrefix (114 :: t) [114] = t
      rw [trimP]; simp
    have e2 : Lib.hasPrefix (bA (114 :: t)).data.toList (⟨#[114]⟩ : ByteArray).data.toList = true := by
      show Lib.hasPrefix (114 :: t) [114] = true
      rw [hasP]; simp
    rw [e1, e2] at this
    exact this
  have hm : meanM (114 :: t) = (match regW (114 :: t) with | some n => .reg n | none => .no) := by unfold meanM; rw [if_pos (by simp)]
  cases ha : okN (Lib.atoiAll t) with
  | none =>
    have hr : regW (114 :: t) = none := by
      cases hr : regW (114 :: t) with
      | none => rfl
      | some n =>
        have h1 := List.find?_some hr
        have h2 := regW_le hr
        simp only [beq_iff_eq, regN, List.cons.injEq, true_and] at h1
        rw [h1, reg_num n h2] at ha
        cases ha
    rw [hm, hr]
    have HA := Lib.hid (fun W h2 => atoi_none t (by simp at hs; omega) ha W h2)
    have HT := Lib.hid hT
    clear hT ha hr hm h hs
    go_enter Tryz.func74, Tryz.ntmps74
    go_wp2_with (first
      | (go_at_call 93; (with_reducible refine (HC.out _).mono ?_); rintro e w1 ⟨rfl, rfl⟩)
      | (go_at_call 94; (with_reducible refine (HA.out _ HT.out).mono ?_); rintro e w2 ⟨n2, tp2, p2, rfl, hf2⟩))
    go_ret
    exact ⟨rfl, hf2⟩
  | some n =>
    have HA := Lib.hid (fun W => atoi_some t n (by simp at hs; omega) ha W)
    have HT : Hid (∀ W, Fr No w W → LT W) := fun W h => hT.fr h
    by_cases hn : 0 ≤ n ∧ n ≤ 10
    · obtain ⟨k, rfl⟩ := Int.eq_ofNat_of_zero_le hn.1
      have HI : Hid (∀ W, LT W → Calls Tryz.prog 67 #[.int .i64 (k : Int)] W fun e w' => e = .returned (.string (bA (itoaN k))) ∧ Fr No W w') := fun W h2 => itoa_any k (by omega) (by omega) W h2
      have hk : (k : Int) ≤ 10 := hn.2
      have hit : itoaN (k : Int) = decN k := by unfold itoaN; rw [if_neg (by omega)]; simp
      rw [hit] at HI
      have q1 : decide ((k : Int) ≤ 10) = true := by simp; omega
      obtain ⟨b, hb⟩ : ∃ b : Bool, ((bA (decN k)).toList == (bA t).toList) = b := ⟨_, rfl⟩
      have hb2 : (decN k == t) = b := by rw [← hb, Lib.toList_data, Lib.toList_data]; rfl
      have f1 : IntKind.u8.wrap (k : Int) = k := IntWalk.u8_in _ (by omega)
      have hmm : meanM (114 :: t) = if b then .reg k else .no := by
        rw [hm]
        cases b with
        | true =>
          have : t = decN k := by simpa using (beq_iff_eq.1 hb2).symm
          rw [this]
          have := regW_reg (r := k) (by omega)
          unfold regN at this
          rw [this]
          rfl
        | false =>
          have : regW (114 :: t) = none := by
            cases hr : regW (114 :: t) with
            | none => rfl
            | some m =>
              have h1 := List.find?_some hr
              have h2 := regW_le hr
              simp only [beq_iff_eq, regN, List.cons.injEq, true_and] at h1
              rw [h1, reg_num m h2] at ha
              have : m = k := by have := Option.some.inj ha; omega
              subst this
              rw [h1] at hb2
              simp at hb2
          rw [this]
          rfl
      rw [hmm]
      generalize bA (decN k) = D at *
      clear hT ha hm h hs hmm hn hb2 hit
      cases b with
      | true =>
        go_enter Tryz.func74, Tryz.ntmps74
        go_wp2_with (first
          | (go_at_call 93; (with_reducible refine (HC.out _).mono ?_); rintro e w1 ⟨rfl, rfl⟩)
          | (go_at_call 94; (with_reducible refine (HA.out _).mono ?_); rintro e w2 ⟨rfl, hf2⟩; have HF2 := Lib.hid hf2; clear hf2)
          | (go_at_call 67; (with_reducible refine (HI.out _ (HT.out _ HF2.out)).mono ?_); rintro e w3 ⟨rfl, hf3⟩; have HF3 := Lib.hid (HF2.out.trans hf3); clear hf3))
        go_ret
        exact ⟨rfl, HF3.out⟩
      | false =>
        go_enter Tryz.func74, Tryz.ntmps74
        go_wp2_with (first
          | (go_at_call 93; (with_reducible refine (HC.out _).mono ?_); rintro e w1 ⟨rfl, rfl⟩)
          | (go_at_call 94; (with_reducible refine (HA.out _).mono ?_); rintro e w2 ⟨rfl, hf2⟩; have HF2 := Lib.hid hf2; clear hf2)
          | (go_at_call 67; (with_reducible refine (HI.out _ (HT.out _ HF2.out)).mono ?_); rintro e w3 ⟨rfl, hf3⟩; have HF3 := Lib.hid (HF2.out.trans hf3); clear hf3))
        go_ret
        exact ⟨rfl, HF3.out⟩
    · have hr : regW (114 :: t) = none := by
        cases hr : regW (114 :: t) with
        | none => rfl
        | some m =>
          have h1 := List.find?_some hr
          have h2 := regW_le hr
          simp only [beq_iff_eq, regN, List.cons.injEq, true_and] at h1
          rw [h1, reg_num m h2] at ha
          have := Option.some.inj ha
          omega
      rw [hm, hr]
      by_cases h0 : 0 ≤ n
      · have q1 : decide (n ≥ 0) = true := by simpa using h0
        have q2 : decide (n ≤ 10) = false := by simp; omega
        clear hT ha hm h hs hn hr
        go_enter Tryz.func74, Tryz.ntmps74
        go_wp2_with (first
          | (go_at_call 93; (with_reducible refine (HC.out _).mono ?_); rintro e w1 ⟨rfl, rfl⟩)
          | (go_at_call 94; (with_reducible refine (HA.out _).mono ?_); rintro e w2 ⟨rfl, hf2⟩; have HF2 := Lib.hid hf2; clear hf2))
        go_ret
        exact ⟨rfl, HF2.out⟩
      · have q1 : decide (n ≥ 0) = false := by simp; omega
        clear hT ha hm h hs hn hr
        go_enter Tryz.func74, Tryz.ntmps74
        go_wp2_with (first
          | (go_at_call 93; (with_reducible refine (HC.out _).mono ?_); rintro e w1 ⟨rfl, rfl⟩)
          | (go_at_call 94; (with_reducible refine (HA.out _).mono ?_); rintro e w2 ⟨rfl, hf2⟩; have HF2 := Lib.hid hf2; clear hf2))
        go_ret
        exact ⟨rfl, HF2.out⟩

set_option maxRecDepth 100000 in
set_option maxHeartbeats 1000000 in
theorem mean_num (s : List UInt8) (hs : s.length ≤ 1000000) (h : s.head? ≠ some 114) (w : World) (hT : LT w) : Calls Tryz.prog 74 #[.string (bA s)] w fun e w' => e = .returned (meanM s).v ∧ Fr No w w' := by
  have HC : Hid (∀ W, Calls Tryz.prog 93 #[.string (bA s), .string ⟨#[114]⟩] W fun e w' => e = .returned (.tuple #[.string (bA s), .bool false]) ∧ W = w') := fun W => by
    have := cutp_any (bA s) ⟨#[114]⟩ W
    have e1 : Lib.trimPrefix (bA s).data.toList (⟨#[114]⟩ : ByteArray).data.toList = s := by
      show Lib.trimPrefix s [114] = s
      rw [trimP, if_neg h]
    have e2 : Lib.hasPrefix (bA s).data.toList (⟨#[114]⟩ : ByteArray).data.toList = false := by
      show Lib.hasPrefix s [114] = false
      rw [hasP]; simpa using h
    rw [e1, e2] at this
    exact this
  have hm : meanM s = match goNum s with | none => .no | some (m, n) => .val (m && decide (0 < n)) n := by unfold meanM; rw [if_neg h, num_same]
  have hlr : (replM s).length ≤ 1000000 := by
    rcases repl_form s with ⟨_, hr⟩ | ⟨i, _, ho, hr⟩
    · rw [hr]; exact hs
    · obtain ⟨t, ht⟩ := List.isPrefixOf_iff_prefix.1 ho
      have := congrArg List.length ht
      rw [hr]
      simp [oldM] at this ⊢
      omega
  have HR : Hid (∀ W, LT W → Calls Tryz.prog 95 #[.string (bA s), .string ⟨#[226, 136, 146]⟩, .string ⟨#[45]⟩, .int .i64 1] W fun e w' => e = .returned (.string (bA (replM s))) ∧ Fr No W w') := fun W h2 => replM_any s hs W h2
  have HT : Hid (∀ W, Fr No w W → LT W) := fun W h => hT.fr h
  have hg : goNum s = if Lib.hasPrefix (replM s) [45] then (okN (Lib.parseUintB 64 (Lib.trimPrefix (replM s) [45]))).map (true, ·) else (okN (Lib.parseUintB 64 (Lib.trimPrefix (replM s) [43]))).map (false, ·) := rfl
  rw [hm, hg]
  have HT0 := Lib.hid hT
  clear hm hg h hs hT
  generalize replM s = R at *
  have hl1 : (Lib.trimPrefix R [45]).length ≤ 1000000 := by rw [trimP]; split; simp; omega; exact hlr
  have hl2 : (Lib.trimPrefix R [43]).length ≤ 1000000 := by rw [trimP]; split; simp; omega; exact hlr
  cases hp : Lib.hasPrefix R [45] with
  | true =>
    have HC2 : Hid (∀ W, Calls Tryz.prog 93 #[.string (bA R), .string ⟨#[45]⟩] W fun e w' => e = .returned (.tuple #[.string (bA (Lib.trimPrefix R [45])), .bool true]) ∧ W = w') := fun W => by
      have := cutp_any (bA R) ⟨#[45]⟩ W
      have e2 : Lib.hasPrefix (bA R).data.toList (⟨#[45]⟩ : ByteArray).data.toList = true := hp
      rw [e2] at this
      exact this
    simp only [if_true]
    generalize Lib.trimPrefix R [45] = T at *
    cases hu : okN (Lib.parseUintB 64 T) with
    | none =>
      have HP := Lib.hid (fun W h2 => pu_none T hl1 hu W h2)
      clear hu hl1 hl2 hp hlr
      go_enter Tryz.func74, Tryz.ntmps74
      go_wp2_with (first
        | (go_at_call 93; (with_reducible refine (HC.out _).mono ?_); rintro e w1 ⟨rfl, rfl⟩)
        | (go_at_call 95; (with_reducible refine (HR.out _ HT0.out).mono ?_); rintro e w2 ⟨rfl, hf2⟩; have HF2 := Lib.hid hf2; clear hf2)
        | (go_at_call 93; (with_reducible refine (HC2.out _).mono ?_); rintro e w1 ⟨rfl, rfl⟩)
        | (go_at_call 97; (with_reducible refine (HP.out _ (HT.out _ HF2.out)).mono ?_); rintro e w3 ⟨n3, tp3, p3, rfl, hf3⟩; have HF3 := Lib.hid (HF2.out.trans hf3); clear hf3))
      go_ret
      exact ⟨rfl, HF3.out⟩
    | some n =>
      have HP := Lib.hid (fun W => pu_some T n hl1 hu W)
      have hmv : (Mv.v (.val (true && decide (0 < n)) n)) = .iface 152 (.agg #[.bool (decide (0 < n)), .int .u64 n]) := rfl
      simp only [Option.map_some]
      rw [hmv]
      clear hu hl1 hl2 hp hlr hmv
      go_enter Tryz.func74, Tryz.ntmps74
      go_wp2_with (first
        | (go_at_call 93; (with_reducible refine (HC.out _).mono ?_); rintro e w1 ⟨rfl, rfl⟩)
        | (go_at_call 95; (with_reducible refine (HR.out _ HT0.out).mono ?_); rintro e w2 ⟨rfl, hf2⟩; have HF2 := Lib.hid hf2; clear hf2)
        | (go_at_call 93; (with_reducible refine (HC2.out _).mono ?_); rintro e w1 ⟨rfl, rfl⟩)
        | (go_at_call 97; (with_reducible refine (HP.out _).mono ?_); rintro e w3 ⟨rfl, hf3⟩; have HF3 := Lib.hid (HF2.out.trans hf3); clear hf3))
      go_ret
      exact ⟨rfl, HF3.out⟩
  | false =>
    have HC2 : Hid (∀ W, Calls Tryz.prog 93 #[.string (bA R), .string ⟨#[45]⟩] W fun e w' => e = .returned (.tuple #[.string (bA R), .bool false]) ∧ W = w') := fun W => by
      have := cutp_any (bA R) ⟨#[45]⟩ W
      have e2 : Lib.hasPrefix (bA R).data.toList (⟨#[45]⟩ : ByteArray).data.toList = false := hp
      have e1 : Lib.trimPrefix (bA R).data.toList (⟨#[45]⟩ : ByteArray).data.toList = R := by
        show Lib.trimPrefix R [45] = R
        unfold Lib.trimPrefix
        rw [hp]; rfl
      rw [e1, e2] at this
      exact this
    have HC3 : Hid (∀ W, Calls Tryz.prog 96 #[.string (bA R), .string ⟨#[43]⟩] W fun e w' => e = .returned (.string (bA (Lib.trimPrefix R [43]))) ∧ W = w') := fun W => trimp_any (bA R) ⟨#[43]⟩ W
    simp only [Bool.false_eq_true, if_false]
    generalize Lib.trimPrefix R [43] = T at *
    cases hu : okN (Lib.parseUintB 64 T) with
    | none =>
      have HP := Lib.hid (fun W h2 => pu_none T hl2 hu W h2)
      clear hu hl1 hl2 hp hlr
      go_enter Tryz.func74, Tryz.ntmps74
      go_wp2_with (first
        | (go_at_call 93; (with_reducible refine (HC.out _).mono ?_); rintro e w1 ⟨rfl, rfl⟩)
        | (go_at_call 95; (with_reducible refine (HR.out _ HT0.out).mono ?_); rintro e w2 ⟨rfl, hf2⟩; have HF2 := Lib.hid hf2; clear hf2)
        | (go_at_call 93; (with_reducible refine (HC2.out _).mono ?_); rintro e w1 ⟨rfl, rfl⟩)
        | (go_at_call 96; (with_reducible refine (HC3.out _).mono ?_); rintro e w1 ⟨rfl, rfl⟩)
        | (go_at_call 97; (with_reducible refine (HP.out _ (HT.out _ HF2.out)).mono ?_); rintro e w3 ⟨n3, tp3, p3, rfl, hf3⟩; have HF3 := Lib.hid (HF2.out.trans hf3); clear hf3))
      go_ret
      exact ⟨rfl, HF3.out⟩
    | some n =>
      have HP := Lib.hid (fun W => pu_some T n hl2 hu W)
      simp only [Option.map_some]
      clear hu hl1 hl2 hp hlr
      go_enter Tryz.func74, Tryz.ntmps74
      go_wp2_with (first
        | (go_at_call 93; (with_reducible refine (HC.out _).mono ?_); rintro e w1 ⟨rfl, rfl⟩)
        | (go_at_call 95; (with_reducible refine (HR.out _ HT0.out).mono ?_); rintro e w2 ⟨rfl, hf2⟩; have HF2 := Lib.hid hf2; clear hf2)
        | (go_at_call 93; (with_reducible refine (HC2.out _).mono ?_); rintro e w1 ⟨rfl, rfl⟩)
        | (go_at_call 96; (with_reducible refine (HC3.out _).mono ?_); rintro e w1 ⟨rfl, rfl⟩)
        | (go_at_call 97; (with_reducible refine (HP.out _).mono ?_); rintro e w3 ⟨rfl, hf3⟩; have HF3 := Lib.hid (HF2.out.trans hf3); clear hf3))
      go_ret
      exact ⟨rfl, HF3.out⟩
theorem mean_any (s : List UInt8) (hs : s.length ≤ 1000000) (w : World) (hT : LT w) : Calls Tryz.prog 74 #[.string (bA s)] w fun e w' => e = .returned (meanM s).v ∧ Fr No w w' := by
  by_cases h : s.head? = some 114
  · exact mean_reg s hs h w hT
  · exact mean_num s hs h w hT
end Go.Proofs.YtakcdecljfmckaaGreatDoor
