/- What a word behind the first one is: lines.within and the fields. lines: the fields of a word: small, short, whole, dst, long, either. progs.Check: its search, by how many slots are unseen. -/
import Derived.Test.YtakcdecljfmckaaGreatDoorCore13
import Derived.WalkLawsBesides
import Derived.Laws.BitsAllLaws
import Derived.Test.YtakcdecljfmckaaGreatDoorCore14
import Derived.Test.YtakcdecljfmckaaGreatDoorCore7
set_option linter.all false
set_option linter.unusedVariables false
set_option linter.unusedSimpArgs false
namespace Go.Proofs.YtakcdecljfmckaaGreatDoor
open Go.RowKit

/-- what a word is: nothing, a register, a value -/
inductive Mv where
  | no
  | reg (n : Nat)
  | val (m : Bool) (n : Nat)
def Mv.v : Mv → Value
  | .no => .nilIface
  | .reg n => .iface 146 (.int .u8 n)
  | .val m n => .iface 152 (.agg #[.bool m, .int .u64 n])
def Mv.ok : Mv → Prop
  | .no => True
  | .reg n => n < 256
  | .val _ n => n < 18446744073709551616

/-- an error of the runtime -/
def IsErr (v : Value) : Prop := (∃ x, v = .iface 15 x) ∨ (∃ x, v = .iface 8 x)
/-- it panics, with an error of the runtime -/
def Died (w : World) (e : Ending) (w' : World) : Prop := ∃ v, e = .panicked [{ v := v, recovered := false }] ∧ IsErr v ∧ Fr No w w'

theorem ta_val (W : World) (v : Value) : (Instr.typeAssert (.iface 152 v) 20 152 false).run Tryz.prog W = .ok v W := by kernel_rfl
theorem ta_val_nil (W : World) : (Instr.typeAssert .nilIface 20 152 false).run Tryz.prog W = .halt (.panic (.iface 15 (.pointer (some ⟨W.heap.size, 0, none⟩)))) (W.alloc (.cells #[.pointer (some ⟨11, 20, none⟩), .pointer none, .pointer (some ⟨11, 152, none⟩), .string ⟨#[]⟩] 222)) := by kernel_rfl
theorem ta_val_reg (W : World) (v : Value) : (Instr.typeAssert (.iface 146 v) 20 152 false).run Tryz.prog W = .halt (.panic (.iface 15 (.pointer (some ⟨W.heap.size, 0, none⟩)))) (W.alloc (.cells #[.pointer (some ⟨11, 20, none⟩), .pointer (some ⟨11, 146, none⟩), .pointer (some ⟨11, 152, none⟩), .string ⟨#[]⟩] 222)) := by kernel_rfl
theorem ta_i64_nil (W : World) : (Instr.typeAssert .nilIface 20 2 false).run Tryz.prog W = .halt (.panic (.iface 15 (.pointer (some ⟨W.heap.size, 0, none⟩)))) (W.alloc (.cells #[.pointer (some ⟨11, 20, none⟩), .pointer none, .pointer (some ⟨11, 2, none⟩), .string ⟨#[]⟩] 222)) := by kernel_rfl
theorem ta_u64_nil (W : World) : (Instr.typeAssert .nilIface 20 60 false).run Tryz.prog W = .halt (.panic (.iface 15 (.pointer (some ⟨W.heap.size, 0, none⟩)))) (W.alloc (.cells #[.pointer (some ⟨11, 20, none⟩), .pointer none, .pointer (some ⟨11, 60, none⟩), .string ⟨#[]⟩] 222)) := by kernel_rfl
theorem ta_reg (W : World) (v : Value) : (Instr.typeAssert (.iface 146 v) 20 146 false).run Tryz.prog W = .ok v W := by kernel_rfl
theorem ta_reg_nil (W : World) : (Instr.typeAssert .nilIface 20 146 false).run Tryz.prog W = .halt (.panic (.iface 15 (.pointer (some ⟨W.heap.size, 0, none⟩)))) (W.alloc (.cells #[.pointer (some ⟨11, 20, none⟩), .pointer none, .pointer (some ⟨11, 146, none⟩), .string ⟨#[]⟩] 222)) := by kernel_rfl
theorem ta_reg_val (W : World) (v : Value) : (Instr.typeAssert (.iface 152 v) 20 146 false).run Tryz.prog W = .halt (.panic (.iface 15 (.pointer (some ⟨W.heap.size, 0, none⟩)))) (W.alloc (.cells #[.pointer (some ⟨11, 20, none⟩), .pointer (some ⟨11, 152, none⟩), .pointer (some ⟨11, 146, none⟩), .string ⟨#[]⟩] 222)) := by kernel_rfl
theorem tc_reg (W : World) (v : Value) : (Instr.typeAssert (.iface 146 v) 20 146 true).run Tryz.prog W = .ok (.tuple #[v, .bool true]) W := by kernel_rfl
theorem tc_reg_nil (W : World) : (Instr.typeAssert .nilIface 20 146 true).run Tryz.prog W = .ok (.tuple #[.int .u8 0, .bool false]) W := by kernel_rfl
theorem tc_reg_val (W : World) (v : Value) : (Instr.typeAssert (.iface 152 v) 20 146 true).run Tryz.prog W = .ok (.tuple #[.int .u8 0, .bool false]) W := by kernel_rfl

def withinM (x : Mv) (lo hi : Nat) : Option Int :=
  match x with
  | .val true n => if n ≤ lo then some (-(n : Int)) else none
  | .val false n => if n ≤ hi then some n else none
  | _ => none

set_option maxRecDepth 100000 in
set_option maxHeartbeats 1000000 in
theorem within_none (x : Mv) (lo hi : Nat) (hlo : lo ≤ 4294967296) (hhi : hi ≤ 4294967296) (hx : x.ok) (h : withinM x lo hi = none) (w : World) : Calls Tryz.prog 129 #[x.v, .int .i64 (-(lo : Int)), .int .i64 hi] w (Died w) := by
  cases x with
  | no =>
    have h1 := ta_val_nil
    clear hx h
    unfold Mv.v
    go_enter Tryz.func129, Tryz.ntmps129
    go_wp2_with fail
    exact ⟨rfl, _, rfl, .inl ⟨_, rfl⟩, (Fr.refl _ _).alloc _⟩
  | reg n =>
    have h1 := ta_val_reg
    clear hx h
    unfold Mv.v
    go_enter Tryz.func129, Tryz.ntmps129
    go_wp2_with fail
    exact ⟨rfl, _, rfl, .inl ⟨_, rfl⟩, (Fr.refl _ _).alloc _⟩
  | val m n =>
    unfold Mv.ok at hx
    have h1 := ta_val
    have h2 := ta_i64_nil
    have f1 : IntKind.i64.wrap (lo : Int) = lo := IntWalk.i64_in _ (by omega)
    have f2 : IntKind.u64.wrap (lo : Int) = lo := IntWalk.u64_in _ (by omega)
    have f3 : IntKind.u64.wrap (hi : Int) = hi := IntWalk.u64_in _ (by omega)
    have f0 : -(-(lo : Int)) = lo := by omega
    cases m with
    | true =>
      have q : decide ((n : Int) ≤ (lo : Int)) = false := by
        unfold withinM at h
        simp only [] at h
        split at h
        · cases h
        · simp; omega
      have q2 : decide (n ≤ lo) = false := by simpa using q
      clear hx h hlo hhi
      unfold Mv.v
      go_enter Tryz.func129, Tryz.ntmps129
      go_wp2_with fail
      exact ⟨rfl, _, rfl, .inl ⟨_, rfl⟩, ((Fr.refl _ _).alloc _).alloc _⟩
    | false =>
      have q : decide ((n : Int) ≤ (hi : Int)) = false := by
        unfold withinM at h
        simp only [] at h
        split at h
        · cases h
        · simp; omega
      have q2 : decide (n ≤ hi) = false := by simpa using q
      clear hx h hlo hhi
      unfold Mv.v
      go_enter Tryz.func129, Tryz.ntmps129
      go_wp2_with fail
      exact ⟨rfl, _, rfl, .inl ⟨_, rfl⟩, ((Fr.refl _ _).alloc _).alloc _⟩

set_option maxRecDepth 100000 in
set_option maxHeartbeats 1000000 in
theorem within_some (x : Mv) (lo hi : Nat) (z : Int) (hlo : lo ≤ 4294967296) (hhi : hi ≤ 4294967296) (h : withinM x lo hi = some z) (w : World) : Calls Tryz.prog 129 #[x.v, .int .i64 (-(lo : Int)), .int .i64 hi] w fun e w' => e = .returned (.int .i64 z) ∧ Fr No w w' := by
  cases x with
  | no => cases h
  | reg n => cases h
  | val m n =>
    have h1 := ta_val
    have f1 : IntKind.i64.wrap (lo : Int) = lo := IntWalk.i64_in _ (by omega)
    have f2 : IntKind.u64.wrap (lo : Int) = lo := IntWalk.u64_in _ (by omega)
    have f3 : IntKind.u64.wrap (hi : Int) = hi := IntWalk.u64_in _ (by omega)
    have f0 : -(-(lo : Int)) = lo := by omega
    cases m with
    | true =>
      have hn : n ≤ lo ∧ z = -(n : Int) := by
        unfold withinM at h
        simp only [] at h
        split at h
        · exact ⟨by assumption, (Option.some.inj h).symm⟩
        · cases h
      obtain ⟨hn, rfl⟩ := hn
      have q : decide ((n : Int) ≤ (lo : Int)) = true := by simp; omega
      have q2 : decide (n ≤ lo) = true := by simpa using q
      have g1 : IntKind.i64.wrap (n : Int) = n := IntWalk.i64_in _ (by omega)
      have g2 : IntKind.i64.wrap (-(n : Int)) = -(n : Int) := IntWalk.i64_in _ (by omega)
      clear h hlo hhi hn
      unfold Mv.v
      go_enter Tryz.func129, Tryz.ntmps129
      go_wp2_with fail
      go_ret
      exact ⟨rfl, (Fr.refl _ _).alloc _⟩
    | false =>
      have hn : n ≤ hi ∧ z = (n : Int) := by
        unfold withinM at h
        simp only [] at h
        split at h
        · exact ⟨by assumption, (Option.some.inj h).symm⟩
        · cases h
      obtain ⟨hn, rfl⟩ := hn
      have q : decide ((n : Int) ≤ (hi : Int)) = true := by simp; omega
      have q2 : decide (n ≤ hi) = true := by simpa using q
      have g1 : IntKind.i64.wrap (n : Int) = n := IntWalk.i64_in _ (by omega)
      clear h hlo hhi hn
      unfold Mv.v
      go_enter Tryz.func129, Tryz.ntmps129
      go_wp2_with fail
      go_ret
      exact ⟨rfl, (Fr.refl _ _).alloc _⟩
end Go.Proofs.YtakcdecljfmckaaGreatDoor

namespace Go.Proofs.YtakcdecljfmckaaGreatDoor
open Go.RowKit

def regM : Mv → Option Nat
  | .reg n => some n
  | _ => none
def longM : Mv → Option Nat
  | .val false n => some n
  | _ => none
/-- a panic that goes on -/
theorem Died.from {w w1 w2 : World} {e : Ending} (hf : Fr No w w1) (h : Died w1 e w2) : Died w e w2 := by
  obtain ⟨v, he, hv, hF⟩ := h
  exact ⟨v, he, hv, hf.trans hF⟩
theorem withinM_le {x : Mv} {lo hi : Nat} {z : Int} (h : withinM x lo hi = some z) : -(lo : Int) ≤ z ∧ z ≤ hi := by
  unfold withinM at h
  split at h
  · split at h
    · obtain rfl := Option.some.inj h; omega
    · cases h
  · split at h
    · obtain rfl := Option.some.inj h; omega
    · cases h
  · cases h

set_option maxRecDepth 100000 in
set_option maxHeartbeats 1000000 in
theorem small_some (x : Mv) (z : Int) (h : withinM x 0 255 = some z) (w : World) : Calls Tryz.prog 103 #[x.v] w fun e w' => e = .returned (.int .u8 z) ∧ Fr No w w' := by
  have hb := withinM_le h
  have HW : Hid (∀ W, Calls Tryz.prog 129 #[x.v, .int .i64 0, .int .i64 255] W fun e w' => e = .returned (.int .i64 z) ∧ Fr No W w') := fun W => within_some x 0 255 z (by decide) (by decide) h W
  have f1 : IntKind.u8.wrap z = z := IntWalk.u8_in _ (by omega)
  clear h hb
  generalize x.v = xv at *
  go_enter Tryz.func103, Tryz.ntmps103
  go_wp2_with (go_at_call 129; (with_reducible refine (HW.out _).mono ?_); rintro e w1 ⟨rfl, hf1⟩)
  go_ret
  exact ⟨rfl, hf1⟩
set_option maxRecDepth 100000 in
set_option maxHeartbeats 1000000 in
theorem small_none (x : Mv) (hx : x.ok) (h : withinM x 0 255 = none) (w : World) : Calls Tryz.prog 103 #[x.v] w (Died w) := by
  have HW : Hid (∀ W, Calls Tryz.prog 129 #[x.v, .int .i64 0, .int .i64 255] W (Died W)) := fun W => within_none x 0 255 (by decide) (by decide) hx h W
  clear h hx
  generalize x.v = xv at *
  go_enter Tryz.func103, Tryz.ntmps103
  go_wp2_with (go_at_call 129; (with_reducible refine (HW.out _).mono ?_); rintro e w1 ⟨v1, rfl, hv1⟩; have HV := Lib.hid hv1; clear hv1)
  exact ⟨rfl, _, rfl, HV.out.1, HV.out.2⟩
set_option maxRecDepth 100000 in
set_option maxHeartbeats 1000000 in
theorem short_some (x : Mv) (z : Int) (h : withinM x 32768 32767 = some z) (w : World) : Calls Tryz.prog 99 #[x.v] w fun e w' => e = .returned (.int .i16 z) ∧ Fr No w w' := by
  have hb := withinM_le h
  have HW : Hid (∀ W, Calls Tryz.prog 129 #[x.v, .int .i64 (-32768), .int .i64 32767] W fun e w' => e = .returned (.int .i64 z) ∧ Fr No W w') := fun W => within_some x 32768 32767 z (by decide) (by decide) h W
  have f1 : IntKind.i16.wrap z = z := IntWalk.i16_in _ (by omega)
  clear h hb
  generalize x.v = xv at *
  go_enter Tryz.func99, Tryz.ntmps99
  go_wp2_with (go_at_call 129; (with_reducible refine (HW.out _).mono ?_); rintro e w1 ⟨rfl, hf1⟩)
  go_ret
  exact ⟨rfl, hf1⟩
set_option maxRecDepth 100000 in
set_option maxHeartbeats 1000000 in
theorem short_none (x : Mv) (hx : x.ok) (h : withinM x 32768 32767 = none) (w : World) : Calls Tryz.prog 99 #[x.v] w (Died w) := by
  have HW : Hid (∀ W, Calls Tryz.prog 129 #[x.v, .int .i64 (-32768), .int .i64 32767] W (Died W)) := fun W => within_none x 32768 32767 (by decide) (by decide) hx h W
  clear h hx
  generalize x.v = xv at *
  go_enter Tryz.func99, Tryz.ntmps99
  go_wp2_with (go_at_call 129; (with_reducible refine (HW.out _).mono ?_); rintro e w1 ⟨v1, rfl, hv1⟩; have HV := Lib.hid hv1; clear hv1)
  exact ⟨rfl, _, rfl, HV.out.1, HV.out.2⟩
set_option maxRecDepth 100000 in
set_option maxHeartbeats 1000000 in
theorem whole_some (x : Mv) (z : Int) (h : withinM x 2147483648 2147483647 = some z) (w : World) : Calls Tryz.prog 98 #[x.v] w fun e w' => e = .returned (.int .i32 z) ∧ Fr No w w' := by
  have hb := withinM_le h
  have HW : Hid (∀ W, Calls Tryz.prog 129 #[x.v, .int .i64 (-2147483648), .int .i64 2147483647] W fun e w' => e = .returned (.int .i64 z) ∧ Fr No W w') := fun W => within_some x 2147483648 2147483647 z (by decide) (by decide) h W
  have f1 : IntKind.i32.wrap z = z := IntWalk.i32_in _ (by omega)
  clear h hb
  generalize x.v = xv at *
  go_enter Tryz.func98, Tryz.ntmps98
  go_wp2_with (go_at_call 129; (with_reducible refine (HW.out _).mono ?_); rintro e w1 ⟨rfl, hf1⟩)
  go_ret
  exact ⟨rfl, hf1⟩
set_option maxRecDepth 100000 in
set_option maxHeartbeats 1000000 in
theorem whole_none (x : Mv) (hx : x.ok) (h : withinM x 2147483648 2147483647 = none) (w : World) : Calls Tryz.prog 98 #[x.v] w (Died w) := by
  have HW : Hid (∀ W, Calls Tryz.prog 129 #[x.v, .int .i64 (-2147483648), .int .i64 2147483647] W (Died W)) := fun W => within_none x 2147483648 2147483647 (by decide) (by decide) hx h W
  clear h hx
  generalize x.v = xv at *
  go_enter Tryz.func98, Tryz.ntmps98
  go_wp2_with (go_at_call 129; (with_reducible refine (HW.out _).mono ?_); rintro e w1 ⟨v1, rfl, hv1⟩; have HV := Lib.hid hv1; clear hv1)
  exact ⟨rfl, _, rfl, HV.out.1, HV.out.2⟩
set_option maxRecDepth 100000 in
set_option maxHeartbeats 1000000 in
theorem dst_some (x : Mv) (n : Nat) (h : regM x = some n) (w : World) : Calls Tryz.prog 101 #[x.v] w fun e w' => e = .returned (.int .u8 n) ∧ Fr No w w' := by
  cases x with
  | no => cases h
  | val m k => cases h
  | reg k =>
    obtain rfl := Option.some.inj h
    clear h
    have h1 := ta_reg
    unfold Mv.v
    go_enter Tryz.func101, Tryz.ntmps101
    go_wp2_with fail
    go_ret
    exact ⟨rfl, Fr.refl _ _⟩
set_option maxRecDepth 100000 in
set_option maxHeartbeats 1000000 in
theorem dst_none (x : Mv) (h : regM x = none) (w : World) : Calls Tryz.prog 101 #[x.v] w (Died w) := by
  cases x with
  | reg k => cases h
  | no =>
    clear h
    have h1 := ta_reg_nil
    unfold Mv.v
    go_enter Tryz.func101, Tryz.ntmps101
    go_wp2_with fail
    exact ⟨rfl, _, rfl, .inl ⟨_, rfl⟩, (Fr.refl _ _).alloc _⟩
  | val m k =>
    clear h
    have h1 := ta_reg_val
    unfold Mv.v
    go_enter Tryz.func101, Tryz.ntmps101
    go_wp2_with fail
    exact ⟨rfl, _, rfl, .inl ⟨_, rfl⟩, (Fr.refl _ _).alloc _⟩
set_option maxRecDepth 100000 in
set_option maxHeartbeats 1000000 in
theorem long_some (x : Mv) (n : Nat) (h : longM x = some n) (w : World) : Calls Tryz.prog 100 #[x.v] w fun e w' => e = .returned (.int .u64 n) ∧ Fr No w w' := by
  cases x with
  | no => cases h
  | reg k => cases h
  | val m k =>
    cases m with
    | true => cases h
    | false =>
      obtain rfl := Option.some.inj h
      clear h
      have h1 := ta_val
      unfold Mv.v
      go_enter Tryz.func100, Tryz.ntmps100
      go_wp2_with fail
      go_ret
      exact ⟨rfl, (Fr.refl _ _).alloc _⟩
set_option maxRecDepth 100000 in
set_option maxHeartbeats 1000000 in
theorem long_none (x : Mv) (h : longM x = none) (w : World) : Calls Tryz.prog 100 #[x.v] w (Died w) := by
  cases x with
  | no =>
    clear h
    have h1 := ta_val_nil
    unfold Mv.v
    go_enter Tryz.func100, Tryz.ntmps100
    go_wp2_with fail
    exact ⟨rfl, _, rfl, .inl ⟨_, rfl⟩, (Fr.refl _ _).alloc _⟩
  | reg k =>
    clear h
    have h1 := ta_val_reg
    unfold Mv.v
    go_enter Tryz.func100, Tryz.ntmps100
    go_wp2_with fail
    exact ⟨rfl, _, rfl, .inl ⟨_, rfl⟩, (Fr.refl _ _).alloc _⟩
  | val m k =>
    cases m with
    | false => cases h
    | true =>
      clear h
      have h1 := ta_val
      have h2 := ta_u64_nil
      unfold Mv.v
      go_enter Tryz.func100, Tryz.ntmps100
      go_wp2_with fail
      exact ⟨rfl, _, rfl, .inl ⟨_, rfl⟩, ((Fr.refl _ _).alloc _).alloc _⟩
/-- a slot's own block, that may be written -/
structure InsBox (w : World) (b : Nat) (o d s f m : Int) : Prop where
  c0 : w.cell? ⟨b, 0, none⟩ = some (.int .u8 o)
  c1 : w.cell? ⟨b, 1, none⟩ = some (.int .u8 d)
  c2 : w.cell? ⟨b, 2, none⟩ = some (.int .u8 s)
  c3 : w.cell? ⟨b, 3, none⟩ = some (.int .i16 f)
  c4 : w.cell? ⟨b, 4, none⟩ = some (.int .i32 m)
  z0 : w.frozen? ⟨b, 0, none⟩ = false
  z2 : w.frozen? ⟨b, 2, none⟩ = false
  z4 : w.frozen? ⟨b, 4, none⟩ = false
  z3 : w.frozen? ⟨b, 3, none⟩ = false
theorem InsBox.fr {w w' : World} {b : Nat} {o d s f m : Int} (h : InsBox w b o d s f m) (hf : Fr No w w') : InsBox w' b o d s f m :=
  ⟨hf.cell h.c0 id, hf.cell h.c1 id, hf.cell h.c2 id, hf.cell h.c3 id, hf.cell h.c4 id, (hf.frozen h.c0 id).trans h.z0, (hf.frozen h.c2 id).trans h.z2, (hf.frozen h.c4 id).trans h.z4, (hf.frozen h.c3 id).trans h.z3⟩
theorem InsBox.op {w : World} {b : Nat} {o d s f m : Int} (h : InsBox w b o d s f m) (x : Int) : InsBox (w.setCell ⟨b, 0, none⟩ (.int .u8 x)) b x d s f m :=
  ⟨World.cell?_setCell_same _ _ _ h.c0, (World.cell?_setCell_other _ _ _ _ (by simp)).trans h.c1, (World.cell?_setCell_other _ _ _ _ (by simp)).trans h.c2, (World.cell?_setCell_other _ _ _ _ (by simp)).trans h.c3, (World.cell?_setCell_other _ _ _ _ (by simp)).trans h.c4, by simpa using h.z0, by simpa using h.z2, by simpa using h.z4, by simpa using h.z3⟩
theorem InsBox.src {w : World} {b : Nat} {o d s f m : Int} (h : InsBox w b o d s f m) (x : Int) : InsBox (w.setCell ⟨b, 2, none⟩ (.int .u8 x)) b o d x f m :=
  ⟨(World.cell?_setCell_other _ _ _ _ (by simp)).trans h.c0, (World.cell?_setCell_other _ _ _ _ (by simp)).trans h.c1, World.cell?_setCell_same _ _ _ h.c2, (World.cell?_setCell_other _ _ _ _ (by simp)).trans h.c3, (World.cell?_setCell_other _ _ _ _ (by simp)).trans h.c4, by simpa using h.z0, by simpa using h.z2, by simpa using h.z4, by simpa using h.z3⟩
theorem InsBox.imm {w : World} {b : Nat} {o d s f m : Int} (h : InsBox w b o d s f m) (x : Int) : InsBox (w.setCell ⟨b, 4, none⟩ (.int .i32 x)) b o d s f x :=
  ⟨(World.cell?_setCell_other _ _ _ _ (by simp)).trans h.c0, (World.cell?_setCell_other _ _ _ _ (by simp)).trans h.c1, (World.cell?_setCell_other _ _ _ _ (by simp)).trans h.c2, (World.cell?_setCell_other _ _ _ _ (by simp)).trans h.c3, World.cell?_setCell_same _ _ _ h.c4, by simpa using h.z0, by simpa using h.z2, by simpa using h.z4, by simpa using h.z3⟩
theorem InsBox.setOff {w : World} {b : Nat} {o d s f m : Int} (h : InsBox w b o d s f m) (x : Int) : InsBox (w.setCell ⟨b, 3, none⟩ (.int .i16 x)) b o d s x m :=
  ⟨(World.cell?_setCell_other _ _ _ _ (by simp)).trans h.c0, (World.cell?_setCell_other _ _ _ _ (by simp)).trans h.c1, (World.cell?_setCell_other _ _ _ _ (by simp)).trans h.c2, World.cell?_setCell_same _ _ _ h.c3, (World.cell?_setCell_other _ _ _ _ (by simp)).trans h.c4, by simpa using h.z0, by simpa using h.z2, by simpa using h.z4, by simpa using h.z3⟩
theorem insBox_new (w : World) (o d s f m : Int) (t : TypeId) : InsBox (w.alloc (.cells #[.int .u8 o, .int .u8 d, .int .u8 s, .int .i16 f, .int .i32 m] t)) w.heap.size o d s f m := by
  have hc := CellsAt.new w [.int .u8 o, .int .u8 d, .int .u8 s, .int .i16 f, .int .i32 m] t
  exact ⟨hc 0 _ rfl, hc 1 _ rfl, hc 2 _ rfl, hc 3 _ rfl, hc 4 _ rfl, by simp, by simp, by simp, by simp⟩
/-- one block -/
def Isb (b : Nat) : Nat → Prop := fun k => k = b
theorem Fr.setB {a w : World} {b : Nat} (h : Fr (Isb b) a w) (o : Nat) (v : Value) : Fr (Isb b) a (w.setCell ⟨b, o, none⟩ v) := h.setCell (p := ⟨b, o, none⟩) (.inr (rfl : b = b)) v
/-- behind either: the slot's block alone has turned -/
def EitherTo (b : Nat) (o d s f m : Int) (w : World) (e : Ending) (w' : World) : Prop := e = .returned (.tuple #[]) ∧ InsBox w' b o d s f m ∧ Fr (Isb b) w w'

set_option maxRecDepth 100000 in
set_option maxHeartbeats 1000000 in
theorem either_reg (b : Nat) (o d s f m : Int) (n : Nat) (hor : bits BinOp.or IntKind.u8 o 8 = o + 8) (w : World) (h : InsBox w b o d s f m) :
    Calls Tryz.prog 106 #[.pointer (some ⟨b, 0, none⟩), (Mv.reg n).v] w (EitherTo b (o + 8) d n f m w) := by
  have h1 := tc_reg
  obtain ⟨c0, c1, c2, c3, c4, z0, z2, z4, z3⟩ := h
  have HC := Lib.hid (InsBox.mk c0 c1 c2 c3 c4 z0 z2 z4 z3)
  unfold Mv.v
  go_enter Tryz.func106, Tryz.ntmps106
  go_wp2_with fail
  first | go_end0 | refine bodyPost_ret (results_none rfl _ _ _) rfl ?_
  exact ⟨rfl, (HC.out.op _).src _, ((Fr.refl _ _).setB _ _).setB _ _⟩
set_option maxRecDepth 100000 in
set_option maxHeartbeats 1000000 in
theorem either_no_some (b : Nat) (o d s f m : Int) (z : Int) (hw : withinM Mv.no 2147483648 2147483647 = some z) (w : World) (h : InsBox w b o d s f m) :
    Calls Tryz.prog 106 #[.pointer (some ⟨b, 0, none⟩), Mv.no.v] w (EitherTo b o d s f z w) := by
  have h1 := tc_reg_nil
  have HC := Lib.hid h
  have HW : Hid (∀ W, Calls Tryz.prog 98 #[Mv.no.v] W fun e w' => e = .returned (.int .i32 z) ∧ Fr No W w') := fun W => whole_some _ z hw W
  clear hw h
  unfold Mv.v at *
  go_enter Tryz.func106, Tryz.ntmps106
  go_wp2_with (go_at_call 98; (with_reducible refine (HW.out _).mono ?_); rintro e w1 ⟨rfl, hf1⟩; have HF1 := Lib.hid hf1; have HC1 := Lib.hid (HC.out.fr hf1); obtain ⟨c0, c1, c2, c3, c4, z0, z2, z4, z3⟩ := HC.out.fr hf1; clear hf1)
  first | go_end0 | refine bodyPost_ret (results_none rfl _ _ _) rfl ?_
  exact ⟨rfl, HC1.out.imm _, (HF1.out.mono fun _ _ h => absurd h id).setB _ _⟩
set_option maxRecDepth 100000 in
set_option maxHeartbeats 1000000 in
theorem either_no_none (b : Nat) (hx : Mv.ok Mv.no) (hw : withinM Mv.no 2147483648 2147483647 = none) (w : World) :
    Calls Tryz.prog 106 #[.pointer (some ⟨b, 0, none⟩), Mv.no.v] w (Died w) := by
  have h1 := tc_reg_nil
  have HW : Hid (∀ W, Calls Tryz.prog 98 #[Mv.no.v] W (Died W)) := fun W => whole_none _ hx hw W
  clear hw hx
  unfold Mv.v at *
  go_enter Tryz.func106, Tryz.ntmps106
  go_wp2_with (go_at_call 98; (with_reducible refine (HW.out _).mono ?_); rintro e w1 ⟨v1, rfl, hv1⟩; have HV := Lib.hid hv1; clear hv1)
  exact ⟨rfl, _, rfl, HV.out.1, HV.out.2⟩
set_option maxRecDepth 100000 in
set_option maxHeartbeats 1000000 in
theorem either_val_some (k : Bool) (n : Nat) (b : Nat) (o d s f m : Int) (z : Int) (hw : withinM (Mv.val k n) 2147483648 2147483647 = some z) (w : World) (h : InsBox w b o d s f m) :
    Calls Tryz.prog 106 #[.pointer (some ⟨b, 0, none⟩), (Mv.val k n).v] w (EitherTo b o d s f z w) := by
  have h1 := tc_reg_val
  have HC := Lib.hid h
  have HW : Hid (∀ W, Calls Tryz.prog 98 #[(Mv.val k n).v] W fun e w' => e = .returned (.int .i32 z) ∧ Fr No W w') := fun W => whole_some _ z hw W
  clear hw h
  unfold Mv.v at *
  go_enter Tryz.func106, Tryz.ntmps106
  go_wp2_with (go_at_call 98; (with_reducible refine (HW.out _).mono ?_); rintro e w1 ⟨rfl, hf1⟩; have HF1 := Lib.hid hf1; have HC1 := Lib.hid (HC.out.fr hf1); obtain ⟨c0, c1, c2, c3, c4, z0, z2, z4, z3⟩ := HC.out.fr hf1; clear hf1)
  first | go_end0 | refine bodyPost_ret (results_none rfl _ _ _) rfl ?_
  exact ⟨rfl, HC1.out.imm _, (HF1.out.mono fun _ _ h => absurd h id).setB _ _⟩
set_option maxRecDepth 100000 in
set_option maxHeartbeats 1000000 in
theorem either_val_none (k : Bool) (n : Nat) (b : Nat) (hx : Mv.ok (Mv.val k n)) (hw : withinM (Mv.val k n) 2147483648 2147483647 = none) (w : World) :
    Calls Tryz.prog 106 #[.pointer (some ⟨b, 0, none⟩), (Mv.val k n).v] w (Died w) := by
  have h1 := tc_reg_val
  have HW : Hid (∀ W, Calls Tryz.prog 98 #[(Mv.val k n).v] W (Died W)) := fun W => whole_none _ hx hw W
  clear hw hx
  unfold Mv.v at *
  go_enter Tryz.func106, Tryz.ntmps106
  go_wp2_with (go_at_call 98; (with_reducible refine (HW.out _).mono ?_); rintro e w1 ⟨v1, rfl, hv1⟩; have HV := Lib.hid hv1; clear hv1)
  exact ⟨rfl, _, rfl, HV.out.1, HV.out.2⟩
end Go.Proofs.YtakcdecljfmckaaGreatDoor

namespace Go.Proofs.YtakcdecljfmckaaGreatDoor
open Go.RowKit

def unseen (s : List Bool) : Nat := s.countP (fun b => !b)
theorem unseen_set : ∀ (s : List Bool) (k : Nat), s[k]? = some false → unseen (s.set k true) + 1 = unseen s
  | [], k, h => by simp at h
  | b :: s, 0, h => by
    simp only [List.getElem?_cons_zero, Option.some.injEq] at h
    subst h
    simp [unseen]
  | b :: s, k + 1, h => by
    have := unseen_set s k (by simpa using h)
    simp only [List.set_cons_succ]
    unfold unseen at *
    rw [List.countP_cons, List.countP_cons]
    omega
theorem unseen_set_le (s : List Bool) (k : Nat) : unseen (s.set k true) ≤ unseen s := by
  induction s generalizing k with
  | nil => simp
  | cons b s ih =>
    cases k with
    | zero =>
      rw [List.set_cons_zero]
      unfold unseen
      rw [List.countP_cons, List.countP_cons]
      simp
    | succ k =>
      rw [List.set_cons_succ]
      have := ih k
      unfold unseen at *
      rw [List.countP_cons, List.countP_cons]
      omega
theorem visitM_unseen {l : List Ins} : ∀ {fuel : Nat} {s : List Bool} {pc : Nat}, unseen (visitM l fuel s pc) ≤ unseen s
  | 0, _, _ => Nat.le_refl _
  | fuel + 1, s, pc => by
    rw [visitM]
    split
    · exact Nat.le_refl _
    · have key : ∀ (L : List Nat) (s : List Bool), unseen (L.foldl (visitM l fuel) s) ≤ unseen s := by
        intro L
        induction L with
        | nil => intro s; exact Nat.le_refl _
        | cons v L ih => intro s; rw [List.foldl_cons]; exact Nat.le_trans (ih _) visitM_unseen
      exact Nat.le_trans (key _ _) (unseen_set_le _ _)
theorem folds_unseen {l : List Ins} {fuel : Nat} : ∀ (L : List Nat) (s : List Bool), unseen (L.foldl (visitM l fuel) s) ≤ unseen s
  | [], s => Nat.le_refl _
  | v :: L, s => by rw [List.foldl_cons]; exact Nat.le_trans (folds_unseen L _) visitM_unseen
theorem folds_len {l : List Ins} {fuel : Nat} : ∀ (L : List Nat) (s : List Bool), (L.foldl (visitM l fuel) s).length = s.length
  | [], s => rfl
  | v :: L, s => by rw [List.foldl_cons, folds_len L _, visitM_len]
theorem folds_take {l : List Ins} {fuel : Nat} {L : List Nat} {s : List Bool} {k x : Nat} (h : L[k]? = some x) : (L.take (k + 1)).foldl (visitM l fuel) s = visitM l fuel ((L.take k).foldl (visitM l fuel) s) x := by
  rw [List.take_add_one, h]
  simp
/-- a row of bools that stands for a list of them -/
def SeenAt (w : World) (g : Nat) (s : List Bool) : Prop := BoolsAt w g s.length (fun k => s.getD k true)
theorem SeenAt.set {w : World} {g : Nat} {s : List Bool} (h : SeenAt w g s) {k : Nat} (hk : k < s.length) : SeenAt (w.setCell ⟨g, k, none⟩ (.bool true)) g (s.set k true) := by
  have := BoolsAt.set h hk true
  intro j hj
  rw [List.length_set] at hj
  obtain ⟨h1, h2⟩ := this j hj
  refine ⟨?_, h2⟩
  rw [h1]
  refine congrArg (fun b => some (Value.bool b)) ?_
  show (if j = k then true else s.getD j true) = (s.set k true).getD j true
  rw [List.getD_eq_getElem?_getD, List.getD_eq_getElem?_getD]
  by_cases e : j = k
  · subst e
    rw [if_pos rfl, List.getElem?_set_self hj]
    rfl
  · rw [if_neg e, List.getElem?_set_ne (Ne.symm e)]
theorem SeenAt.fr {w w' : World} {g : Nat} {s : List Bool} (h : SeenAt w g s) (hf : Fr No w w') : SeenAt w' g s := BoolsAt.fr h hf
/-- what the search finds in memory -/
structure SV (l : List Ins) (g off cap : Nat) (b1 b2 b3 gs : Nat) (fv : Value) (W : World) (s : List Bool) : Prop where
  len : s.length = l.length
  c1 : W.cell? ⟨b1, 0, none⟩ = some (.slice (some ⟨gs, 0, none⟩) l.length l.length)
  c2 : W.cell? ⟨b2, 0, none⟩ = some (.slice (some ⟨g, off, none⟩) l.length cap)
  c3 : W.cell? ⟨b3, 0, none⟩ = some fv
  ins : CellsAt W g off (iflat l)
  seen : SeenAt W gs s
  n1 : b1 ≠ gs
  n2 : b2 ≠ gs
  n3 : b3 ≠ gs
  ng : g ≠ gs
theorem SV.to {l : List Ins} {g off cap b1 b2 b3 gs : Nat} {fv : Value} {W W' : World} {s s' : List Bool} (h : SV l g off cap b1 b2 b3 gs fv W s) (hf : Fr (Isb gs) W W') (hl : s'.length = l.length) (hs : SeenAt W' gs s') : SV l g off cap b1 b2 b3 gs fv W' s' :=
  ⟨hl, hf.cell h.c1 (fun e => h.n1 e), hf.cell h.c2 (fun e => h.n2 e), hf.cell h.c3 (fun e => h.n3 e), hf.cells h.ins (fun e => h.ng e), hs, h.n1, h.n2, h.n3, h.ng⟩
theorem SV.fr {l : List Ins} {g off cap b1 b2 b3 gs : Nat} {fv : Value} {W W' : World} {s : List Bool} (h : SV l g off cap b1 b2 b3 gs fv W s) (hf : Fr No W W') : SV l g off cap b1 b2 b3 gs fv W' s := h.to hf.any h.len (h.seen.fr hf)
theorem NatsAt.form {w : World} {v : Value} {L : List Nat} (h : NatsAt w v L) : ∃ a c, v = .slice a L.length c := by
  rcases h with ⟨rfl, rfl⟩ | ⟨g, cap, rfl, -⟩
  · exact ⟨_, _, rfl⟩
  · exact ⟨_, _, rfl⟩
abbrev visitF (b1 b2 b3 : Nat) : Value := .func (.func 56) #[] #[.pointer (some ⟨b1, 0, none⟩), .pointer (some ⟨b2, 0, none⟩), .pointer (some ⟨b3, 0, none⟩)]
theorem enters_check3 : ∀ args w, (callFunc 56 args).run Tryz.prog w = .ok (.enter 56 args) w := enters_of Tryz.func56 (by kernel_rfl) rfl
/-- what the search leaves -/
def VisTo (l : List Ins) (g off cap b1 b2 b3 gs : Nat) (fv : Value) (W : World) (s' : List Bool) (e : Ending) (w' : World) : Prop := e = .returned (.tuple #[]) ∧ SV l g off cap b1 b2 b3 gs fv w' s' ∧ Fr (Isb gs) W w'

set_option maxRecDepth 100000 in
set_option maxHeartbeats 4000000 in
theorem visit_any (l : List Ins) (g off cap b1 b2 b3 gs : Nat) (hok : ∀ i ∈ l, i.ok) (hl : l.length ≤ 100000) (hw : ∀ p ∈ starts l, wayM l (fun k => (starts l).contains k) p = 0) :
    ∀ (fuel : Nat) (s : List Bool) (pc : Nat) (W : World), unseen s < fuel → pc ∈ starts l → SV l g off cap b1 b2 b3 gs (visitF b1 b2 b3) W s →
      Calls Tryz.prog 56 #[.int .i64 pc, .pointer (some ⟨b1, 0, none⟩), .pointer (some ⟨b2, 0, none⟩), .pointer (some ⟨b3, 0, none⟩)] W (VisTo l g off cap b1 b2 b3 gs (visitF b1 b2 b3) W (visitM l fuel s pc)) := by
  intro fuel
  induction fuel with
  | zero => intro s pc W h; omega
  | succ fuel ih =>
    intro s pc W hu hpc hS
    have HIH := Lib.hid ih
    have hlt := starts_lt hpc
    have HS := Lib.hid hS
    have c1 := hS.c1
    have c2 := hS.c2
    have hsl : pc < s.length := by rw [hS.len]; exact hlt
    have s1 : W.cell? ⟨gs, pc, none⟩ = some (.bool (s.getD pc true)) := (hS.seen pc hsl).1
    have s2 := (hS.seen pc hsl).2
    have HGS : Hid (gs < W.heap.size) := World.block_lt_of_cell? W _ s1
    have HSL := Lib.hid hsl
    have p1 : (pc : Int) < (l.length : Int) := by omega
    have p2 : (0 : Int) ≤ (pc : Int) := by omega
    have HU := Lib.hid hu
    have HPC := Lib.hid hpc
    obtain ⟨sb, hsb⟩ : ∃ sb, s.getD pc true = sb := ⟨_, rfl⟩
    have HN : Hid (∀ W, InsAt W (.slice (some ⟨g, off, none⟩) l.length cap) l → Calls Tryz.prog 18 #[.slice (some ⟨g, off, none⟩) l.length cap, .int .i64 pc] W fun e w' => ∃ v', e = .returned v' ∧ NatsAt w' v' (nextM l pc) ∧ (∀ k, v'.ownBlock = some k → W.heap.size ≤ k) ∧ Fr No W w') := fun W h =>
      next_any l _ pc W h hok hl hlt (fun hj => by have := way_to (hw pc hpc) hj; exact ⟨this.1, this.2.1⟩) (fun he ha => way_on (hw pc hpc) he ha)
    have HNX : Hid (∀ v ∈ nextM l pc, v ∈ starts l) := fun v hv => way_next hw hpc hv
    have HV := Lib.hid (show visitM l (fuel + 1) s pc = if s.getD pc true then s else (nextM l pc).foldl (visitM l fuel) (s.set pc true) from by rw [visitM])
    rw [hsb] at s1 HV
    obtain ⟨R, hR⟩ : ∃ R, visitM l (fuel + 1) s pc = R := ⟨_, rfl⟩
    rw [hR] at HV ⊢
    have HSB := Lib.hid hsb
    obtain ⟨n, hn⟩ : ∃ n, l.length = n := ⟨_, rfl⟩
    rw [hn] at p1 c1 c2 HN
    have HNN := Lib.hid hn
    clear hR hsb ih hS hu hpc hn hw hok hlt hsl hl
    cases sb with
    | true =>
      have e0 : Hid (R = s) := by rw [HV.out, if_pos rfl]; exact Lib.hid rfl
      go_enter Tryz.func56, Tryz.ntmps56
      go_wp2_with fail
      first | go_end0 | refine bodyPost_ret (results_none rfl _ _ _) rfl ?_
      exact ⟨rfl, by rw [e0.out]; exact HS.out, Fr.refl _ _⟩
    | false =>
      have e0 : Hid (R = (nextM l pc).foldl (visitM l fuel) (s.set pc true)) := by rw [HV.out, if_neg (by simp)]; exact Lib.hid rfl
      clear HV
      go_enter Tryz.func56, Tryz.ntmps56
      go_upto_region 2 with fail
      obtain ⟨W1, hW1⟩ : ∃ W1, W1 = W.setCell ⟨gs, pc, none⟩ (.bool true) := ⟨_, rfl⟩
      have HF1 : Hid (Fr (Isb gs) W W1) := by rw [hW1]; exact (Fr.refl _ _).setB _ _
      have HS1 : Hid (SV l g off cap b1 b2 b3 gs (visitF b1 b2 b3) W1 (s.set pc true)) := HS.out.to HF1.out (by rw [List.length_set]; exact HS.out.len) (by rw [hW1]; exact HS.out.seen.set HSL.out)
      have HU1 : Hid (unseen (s.set pc true) < fuel) := by
        have h1 := HU.out
        have h2 := unseen_set s pc (by
          have h3 := HSB.out
          rw [List.getD_eq_getElem?_getD, List.getElem?_eq_getElem HSL.out] at h3
          rw [List.getElem?_eq_getElem HSL.out]
          exact congrArg some h3)
        exact Lib.hid (by omega)
      have HG1 : Hid (gs < W1.heap.size) := by rw [hW1]; simpa using HGS
      rw [← hW1]
      clear hW1 s1 s2 c1 c2 HS HU HSB HSL HGS
      have HI1 : Hid (∀ W s, SV l g off cap b1 b2 b3 gs (visitF b1 b2 b3) W s → InsAt W (.slice (some ⟨g, off, none⟩) n cap) l) := fun W s h => .inr ⟨g, off, cap, by rw [HNN.out], h.ins⟩
      have c2 := HS1.out.c2
      rw [HNN.out] at c2
      obtain ⟨L, hL⟩ : ∃ L, nextM l pc = L := ⟨_, rfl⟩
      have hl2 := nextM_len l pc
      rw [hL] at HN HNX e0 hl2
      have HL2 := Lib.hid hl2
      clear hL
      go_upto_region 3 with (go_at_call 18; (with_reducible refine (HN.out _ (HI1.out _ _ HS1.out)).mono ?_); rintro e w2 ⟨v', rfl, nat, own, hf2⟩; obtain ⟨a2, q2, rfl⟩ := nat.form; have HNA := Lib.hid nat; have HOW := Lib.hid own; have HF2 := Lib.hid hf2; clear nat own hf2)
      have HS2 : Hid (SV l g off cap b1 b2 b3 gs (visitF b1 b2 b3) w2 (s.set pc true)) := HS1.out.fr HF2.out
      obtain ⟨m, hm⟩ : ∃ m, L.length = m := ⟨_, rfl⟩
      rw [hm]
      have HM := Lib.hid hm
      rw [hm] at HL2
      have hmle : m ≤ 2 := HL2.out
      clear hm c2
      go_loopw [18] (fun i wr => ∃ k : Nat, i = .int .i64 k ∧ k ≤ m ∧ Hid (SV l g off cap b1 b2 b3 gs (visitF b1 b2 b3) wr ((L.take k).foldl (visitM l fuel) (s.set pc true))) ∧ Hid (Fr (Isb gs) w2 wr)) (fun i _ => m - (intOf i).toNat)
      case atStart => exact ⟨0, rfl, Nat.zero_le _, HS2.out, Fr.refl _ _⟩
      case round =>
        obtain ⟨k, rfl, hk, HSk, HFk⟩ := hrel
        by_cases hlt : k < m
        · obtain ⟨x, hx⟩ : ∃ x, L[k]? = some x := ⟨L[k]'(by rw [HM.out]; exact hlt), List.getElem?_eq_getElem _⟩
          have HX := Lib.hid hx
          have hnat := HNA.out
          rcases hnat with ⟨h1, _⟩ | ⟨g2, c2, h2, hc2⟩
          · rw [h1] at hx; simp at hx
          injection h2 with h2 _ h4
          subst h2 h4
          have hg2 : g2 ≠ gs := by have := HOW.out g2 rfl; have := HG1.out; omega
          have k0 := i64_cell (HFk.out.cells hc2 hg2) hx
          have c3 : wr.cell? ⟨b3, 0, none⟩ = some (.func (.func 56) #[] #[.pointer (some ⟨b1, 0, none⟩), .pointer (some ⟨b2, 0, none⟩), .pointer (some ⟨b3, 0, none⟩)]) := HSk.out.c3
          have HC : Hid (∀ W, SV l g off cap b1 b2 b3 gs (visitF b1 b2 b3) W ((L.take k).foldl (visitM l fuel) (s.set pc true)) → Calls Tryz.prog 56 #[.int .i64 x, .pointer (some ⟨b1, 0, none⟩), .pointer (some ⟨b2, 0, none⟩), .pointer (some ⟨b3, 0, none⟩)] W (VisTo l g off cap b1 b2 b3 gs (visitF b1 b2 b3) W (visitM l fuel ((L.take k).foldl (visitM l fuel) (s.set pc true)) x))) := fun W h =>
            HIH.out _ x W (Nat.lt_of_le_of_lt (folds_unseen _ _) HU1.out) (HNX.out x (List.mem_of_getElem? hx)) h
          clear hx hc2 hg2
          go_wp2_with (go_at_call 56; (with_reducible refine (HC.out _ HSk.out).mono ?_); rintro e w3 ⟨rfl, hS3, hf3⟩; have HS3 := Lib.hid hS3; have HF3 := Lib.hid hf3; clear hS3 hf3)
          go_roundw
          case rel => exact ⟨k + 1, by go_num, by omega, by rw [folds_take HX.out]; exact HS3, HFk.out.trans HF3.out⟩
          case measure => simp [intOf] <;> omega
        · obtain rfl : k = m := by omega
          go_wp2_with fail
          first | go_end0 | refine bodyPost_ret (results_none rfl _ _ _) rfl ?_
          have e1 : L.take k = L := by rw [← HM.out]; exact List.take_length
          refine ⟨rfl, ?_, (HF1.out.trans (HF2.out.any)).trans HFk.out⟩
          rw [e0.out]
          have := HSk.out
          rw [e1] at this
          exact this
end Go.Proofs.YtakcdecljfmckaaGreatDoor
