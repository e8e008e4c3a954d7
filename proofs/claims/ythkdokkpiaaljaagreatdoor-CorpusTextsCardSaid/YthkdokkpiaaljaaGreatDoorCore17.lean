/- What a word behind the first one is: lines.within and the fields. lines: the fields of a word: small, short, whole, dst, long, either. -/
import Derived.Test.YthkdokkpiaaljaaGreatDoorCore8
import Derived.WalkLawsBesides
import Derived.Laws.BitsAllLaws
set_option linter.all false
set_option linter.unusedVariables false
set_option linter.unusedSimpArgs false
namespace Go.Proofs.YthkdokkpiaaljaaGreatDoor
open Go.RowKit

/-- what a word is: nothing, a register, a value -/
inductive Mv where
  | no
  | reg (n : Nat)
  | val (m : Bool) (n : Nat)
def Mv.v : Mv → Value
  | .no => .nilIface
  | .reg n => .iface 129 (.int .u8 n)
  | .val m n => .iface 135 (.agg #[.bool m, .int .u64 n])
def Mv.ok : Mv → Prop
  | .no => True
  | .reg n => n < 256
  | .val _ n => n < 18446744073709551616

/-- an error of the runtime -/
def IsErr (v : Value) : Prop := (∃ x, v = .iface 15 x) ∨ (∃ x, v = .iface 8 x)
/-- it panics, with an error of the runtime -/
def Died (w : World) (e : Ending) (w' : World) : Prop := ∃ v, e = .panicked [{ v := v, recovered := false }] ∧ IsErr v ∧ Fr No w w'

theorem ta_val (W : World) (v : Value) : (Instr.typeAssert (.iface 135 v) 20 135 false).run Tryz.prog W = .ok v W := by kernel_rfl
theorem ta_val_nil (W : World) : (Instr.typeAssert .nilIface 20 135 false).run Tryz.prog W = .halt (.panic (.iface 15 (.pointer (some ⟨W.heap.size, 0, none⟩)))) (W.alloc (.cells #[.pointer (some ⟨12, 20, none⟩), .pointer none, .pointer (some ⟨12, 135, none⟩), .string ⟨#[]⟩] 195)) := by kernel_rfl
theorem ta_val_reg (W : World) (v : Value) : (Instr.typeAssert (.iface 129 v) 20 135 false).run Tryz.prog W = .halt (.panic (.iface 15 (.pointer (some ⟨W.heap.size, 0, none⟩)))) (W.alloc (.cells #[.pointer (some ⟨12, 20, none⟩), .pointer (some ⟨12, 129, none⟩), .pointer (some ⟨12, 135, none⟩), .string ⟨#[]⟩] 195)) := by kernel_rfl
theorem ta_i64_nil (W : World) : (Instr.typeAssert .nilIface 20 2 false).run Tryz.prog W = .halt (.panic (.iface 15 (.pointer (some ⟨W.heap.size, 0, none⟩)))) (W.alloc (.cells #[.pointer (some ⟨12, 20, none⟩), .pointer none, .pointer (some ⟨12, 2, none⟩), .string ⟨#[]⟩] 195)) := by kernel_rfl
theorem ta_u64_nil (W : World) : (Instr.typeAssert .nilIface 20 40 false).run Tryz.prog W = .halt (.panic (.iface 15 (.pointer (some ⟨W.heap.size, 0, none⟩)))) (W.alloc (.cells #[.pointer (some ⟨12, 20, none⟩), .pointer none, .pointer (some ⟨12, 40, none⟩), .string ⟨#[]⟩] 195)) := by kernel_rfl
theorem ta_reg (W : World) (v : Value) : (Instr.typeAssert (.iface 129 v) 20 129 false).run Tryz.prog W = .ok v W := by kernel_rfl
theorem ta_reg_nil (W : World) : (Instr.typeAssert .nilIface 20 129 false).run Tryz.prog W = .halt (.panic (.iface 15 (.pointer (some ⟨W.heap.size, 0, none⟩)))) (W.alloc (.cells #[.pointer (some ⟨12, 20, none⟩), .pointer none, .pointer (some ⟨12, 129, none⟩), .string ⟨#[]⟩] 195)) := by kernel_rfl
theorem ta_reg_val (W : World) (v : Value) : (Instr.typeAssert (.iface 135 v) 20 129 false).run Tryz.prog W = .halt (.panic (.iface 15 (.pointer (some ⟨W.heap.size, 0, none⟩)))) (W.alloc (.cells #[.pointer (some ⟨12, 20, none⟩), .pointer (some ⟨12, 135, none⟩), .pointer (some ⟨12, 129, none⟩), .string ⟨#[]⟩] 195)) := by kernel_rfl
theorem tc_reg (W : World) (v : Value) : (Instr.typeAssert (.iface 129 v) 20 129 true).run Tryz.prog W = .ok (.tuple #[v, .bool true]) W := by kernel_rfl
theorem tc_reg_nil (W : World) : (Instr.typeAssert .nilIface 20 129 true).run Tryz.prog W = .ok (.tuple #[.int .u8 0, .bool false]) W := by kernel_rfl
theorem tc_reg_val (W : World) (v : Value) : (Instr.typeAssert (.iface 135 v) 20 129 true).run Tryz.prog W = .ok (.tuple #[.int .u8 0, .bool false]) W := by kernel_rfl

def withinM (x : Mv) (lo hi : Nat) : Option Int :=
  match x with
  | .val true n => if n ≤ lo then some (-(n : Int)) else none
  | .val false n => if n ≤ hi then some n else none
  | _ => none

set_option maxRecDepth 100000 in
set_option maxHeartbeats 1000000 in
theorem within_none (x : Mv) (lo hi : Nat) (hlo : lo ≤ 4294967296) (hhi : hi ≤ 4294967296) (hx : x.ok) (h : withinM x lo hi = none) (w : World) : Calls Tryz.prog 116 #[x.v, .int .i64 (-(lo : Int)), .int .i64 hi] w (Died w) := by
  cases x with
  | no =>
    have h1 := ta_val_nil
    clear hx h
    unfold Mv.v
    go_enter Tryz.func116, Tryz.ntmps116
    go_wp2_with fail
    exact ⟨rfl, _, rfl, .inl ⟨_, rfl⟩, (Fr.refl _ _).alloc _⟩
  | reg n =>
    have h1 := ta_val_reg
    clear hx h
    unfold Mv.v
    go_enter Tryz.func116, Tryz.ntmps116
    go_wp2_with fail
    exact ⟨rfl, _, rfl, .inl ⟨_, rfl⟩, (Fr.refl _ _).alloc _⟩
  | val m n =>
    unfold Mv.ok at hx
    have h1 := ta_val
    have h2 := ta_i64_nil
    have f1 : IntKind.i64.wrap (lo : Int) = lo := IntWalk.i64_in _ (by omega)
    have f2 : IntKind.u64.wrap (lo : Int) = lo := IntWalk.u64_in _ (by omega)
    have f3 : IntKind.u64.wrap (hi : Int) = hi := IntWalk.u64_in _ (by omega)
    have f0 : -(-(lo : Int)) = lo := by omega
    cases m with
    | true =>
      have q : decide ((n : Int) ≤ (lo : Int)) = false := by
        unfold withinM at h
        simp only [] at h
        split at h
        · cases h
        · simp; omega
      have q2 : decide (n ≤ lo) = false := by simpa using q
      clear hx h hlo hhi
      unfold Mv.v
      go_enter Tryz.func116, Tryz.ntmps116
      go_wp2_with fail
      exact ⟨rfl, _, rfl, .inl ⟨_, rfl⟩, ((Fr.refl _ _).alloc _).alloc _⟩
    | false =>
      have q : decide ((n : Int) ≤ (hi : Int)) = false := by
        unfold withinM at h
        simp only [] at h
        split at h
        · cases h
        · simp; omega
      have q2 : decide (n ≤ hi) = false := by simpa using q
      clear hx h hlo hhi
      unfold Mv.v
      go_enter Tryz.func116, Tryz.ntmps116
      go_wp2_with fail
      exact ⟨rfl, _, rfl, .inl ⟨_, rfl⟩, ((Fr.refl _ _).alloc _).alloc _⟩

set_option maxRecDepth 100000 in
set_option maxHeartbeats 1000000 in
theorem within_some (x : Mv) (lo hi : Nat) (z : Int) (hlo : lo ≤ 4294967296) (hhi : hi ≤ 4294967296) (h : withinM x lo hi = some z) (w : World) : Calls Tryz.prog 116 #[x.v, .int .i64 (-(lo : Int)), .int .i64 hi] w fun e w' => e = .returned (.int .i64 z) ∧ Fr No w w' := by
  cases x with
  | no => cases h
  | reg n => cases h
  | val m n =>
    have h1 := ta_val
    have f1 : IntKind.i64.wrap (lo : Int) = lo := IntWalk.i64_in _ (by omega)
    have f2 : IntKind.u64.wrap (lo : Int) = lo := IntWalk.u64_in _ (by omega)
    have f3 : IntKind.u64.wrap (hi : Int) = hi := IntWalk.u64_in _ (by omega)
    have f0 : -(-(lo : Int)) = lo := by omega
    cases m with
    | true =>
      have hn : n ≤ lo ∧ z = -(n : Int) := by
        unfold withinM at h
        simp only [] at h
        split at h
        · exact ⟨by assumption, (Option.some.inj h).symm⟩
        · cases h
      obtain ⟨hn, rfl⟩ := hn
      have q : decide ((n : Int) ≤ (lo : Int)) = true := by simp; omega
      have q2 : decide (n ≤ lo) = true := by simpa using q
      have g1 : IntKind.i64.wrap (n : Int) = n := IntWalk.i64_in _ (by omega)
      have g2 : IntKind.i64.wrap (-(n : Int)) = -(n : Int) := IntWalk.i64_in _ (by omega)
      clear h hlo hhi hn
      unfold Mv.v
      go_enter Tryz.func116, Tryz.ntmps116
      go_wp2_with fail
      go_ret
      exact ⟨rfl, (Fr.refl _ _).alloc _⟩
    | false =>
      have hn : n ≤ hi ∧ z = (n : Int) := by
        unfold withinM at h
        simp only [] at h
        split at h
        · exact ⟨by assumption, (Option.some.inj h).symm⟩
        · cases h
      obtain ⟨hn, rfl⟩ := hn
      have q : decide ((n : Int) ≤ (hi : Int)) = true := by simp; omega
      have q2 : decide (n ≤ hi) = true := by simpa using q
      have g1 : IntKind.i64.wrap (n : Int) = n := IntWalk.i64_in _ (by omega)
      clear h hlo hhi hn
      unfold Mv.v
      go_enter Tryz.func116, Tryz.ntmps116
      go_wp2_with fail
      go_ret
      exact ⟨rfl, (Fr.refl _ _).alloc _⟩
end Go.Proofs.YthkdokkpiaaljaaGreatDoor

namespace Go.Proofs.YthkdokkpiaaljaaGreatDoor
open Go.RowKit

def regM : Mv → Option Nat
  | .reg n => some n
  | _ => none
def longM : Mv → Option Nat
  | .val false n => some n
  | _ => none
/-- a panic that goes on -/
theorem Died.from {w w1 w2 : World} {e : Ending} (hf : Fr No w w1) (h : Died w1 e w2) : Died w e w2 := by
  obtain ⟨v, he, hv, hF⟩ := h
  exact ⟨v, he, hv, hf.trans hF⟩
theorem withinM_le {x : Mv} {lo hi : Nat} {z : Int} (h : withinM x lo hi = some z) : -(lo : Int) ≤ z ∧ z ≤ hi := by
  unfold withinM at h
  split at h
  · split at h
    · obtain rfl := Option.some.inj h; omega
    · cases h
  · split at h
    · obtain rfl := Option.some.inj h; omega
    · cases h
  · cases h

set_option maxRecDepth 100000 in
set_option maxHeartbeats 1000000 in
theorem small_some (x : Mv) (z : Int) (h : withinM x 0 255 = some z) (w : World) : Calls Tryz.prog 96 #[x.v] w fun e w' => e = .returned (.int .u8 z) ∧ Fr No w w' := by
  have hb := withinM_le h
  have HW : Hid (∀ W, Calls Tryz.prog 116 #[x.v, .int .i64 0, .int .i64 255] W fun e w' => e = .returned (.int .i64 z) ∧ Fr No W w') := fun W => within_some x 0 255 z (by decide) (by decide) h W
  have f1 : IntKind.u8.wrap z = z := IntWalk.u8_in _ (by omega)
  clear h hb
  generalize x.v = xv at *
  go_enter Tryz.func96, Tryz.ntmps96
  go_wp2_with (go_at_call 116; (with_reducible refine (HW.out _).mono ?_); rintro e w1 ⟨rfl, hf1⟩)
  go_ret
  exact ⟨rfl, hf1⟩
set_option maxRecDepth 100000 in
set_option maxHeartbeats 1000000 in
theorem small_none (x : Mv) (hx : x.ok) (h : withinM x 0 255 = none) (w : World) : Calls Tryz.prog 96 #[x.v] w (Died w) := by
  have HW : Hid (∀ W, Calls Tryz.prog 116 #[x.v, .int .i64 0, .int .i64 255] W (Died W)) := fun W => within_none x 0 255 (by decide) (by decide) hx h W
  clear h hx
  generalize x.v = xv at *
  go_enter Tryz.func96, Tryz.ntmps96
  go_wp2_with (go_at_call 116; (with_reducible refine (HW.out _).mono ?_); rintro e w1 ⟨v1, rfl, hv1⟩; have HV := Lib.hid hv1; clear hv1)
  exact ⟨rfl, _, rfl, HV.out.1, HV.out.2⟩
set_option maxRecDepth 100000 in
set_option maxHeartbeats 1000000 in
theorem short_some (x : Mv) (z : Int) (h : withinM x 32768 32767 = some z) (w : World) : Calls Tryz.prog 92 #[x.v] w fun e w' => e = .returned (.int .i16 z) ∧ Fr No w w' := by
  have hb := withinM_le h
  have HW : Hid (∀ W, Calls Tryz.prog 116 #[x.v, .int .i64 (-32768), .int .i64 32767] W fun e w' => e = .returned (.int .i64 z) ∧ Fr No W w') := fun W => within_some x 32768 32767 z (by decide) (by decide) h W
  have f1 : IntKind.i16.wrap z = z := IntWalk.i16_in _ (by omega)
  clear h hb
  generalize x.v = xv at *
  go_enter Tryz.func92, Tryz.ntmps92
  go_wp2_with (go_at_call 116; (with_reducible refine (HW.out _).mono ?_); rintro e w1 ⟨rfl, hf1⟩)
  go_ret
  exact ⟨rfl, hf1⟩
set_option maxRecDepth 100000 in
set_option maxHeartbeats 1000000 in
theorem short_none (x : Mv) (hx : x.ok) (h : withinM x 32768 32767 = none) (w : World) : Calls Tryz.prog 92 #[x.v] w (Died w) := by
  have HW : Hid (∀ W, Calls Tryz.prog 116 #[x.v, .int .i64 (-32768), .int .i64 32767] W (Died W)) := fun W => within_none x 32768 32767 (by decide) (by decide) hx h W
  clear h hx
  generalize x.v = xv at *
  go_enter Tryz.func92, Tryz.ntmps92
  go_wp2_with (go_at_call 116; (with_reducible refine (HW.out _).mono ?_); rintro e w1 ⟨v1, rfl, hv1⟩; have HV := Lib.hid hv1; clear hv1)
  exact ⟨rfl, _, rfl, HV.out.1, HV.out.2⟩
set_option maxRecDepth 100000 in
set_option maxHeartbeats 1000000 in
theorem whole_some (x : Mv) (z : Int) (h : withinM x 2147483648 2147483647 = some z) (w : World) : Calls Tryz.prog 91 #[x.v] w fun e w' => e = .returned (.int .i32 z) ∧ Fr No w w' := by
  have hb := withinM_le h
  have HW : Hid (∀ W, Calls Tryz.prog 116 #[x.v, .int .i64 (-2147483648), .int .i64 2147483647] W fun e w' => e = .returned (.int .i64 z) ∧ Fr No W w') := fun W => within_some x 2147483648 2147483647 z (by decide) (by decide) h W
  have f1 : IntKind.i32.wrap z = z := IntWalk.i32_in _ (by omega)
  clear h hb
  generalize x.v = xv at *
  go_enter Tryz.func91, Tryz.ntmps91
  go_wp2_with (go_at_call 116; (with_reducible refine (HW.out _).mono ?_); rintro e w1 ⟨rfl, hf1⟩)
  go_ret
  exact ⟨rfl, hf1⟩
set_option maxRecDepth 100000 in
set_option maxHeartbeats 1000000 in
theorem whole_none (x : Mv) (hx : x.ok) (h : withinM x 2147483648 2147483647 = none) (w : World) : Calls Tryz.prog 91 #[x.v] w (Died w) := by
  have HW : Hid (∀ W, Calls Tryz.prog 116 #[x.v, .int .i64 (-2147483648), .int .i64 2147483647] W (Died W)) := fun W => within_none x 2147483648 2147483647 (by decide) (by decide) hx h W
  clear h hx
  generalize x.v = xv at *
  go_enter Tryz.func91, Tryz.ntmps91
  go_wp2_with (go_at_call 116; (with_reducible refine (HW.out _).mono ?_); rintro e w1 ⟨v1, rfl, hv1⟩; have HV := Lib.hid hv1; clear hv1)
  exact ⟨rfl, _, rfl, HV.out.1, HV.out.2⟩
set_option maxRecDepth 100000 in
set_option maxHeartbeats 1000000 in
theorem dst_some (x : Mv) (n : Nat) (h : regM x = some n) (w : World) : Calls Tryz.prog 94 #[x.v] w fun e w' => e = .returned (.int .u8 n) ∧ Fr No w w' := by
  cases x with
  | no => cases h
  | val m k => cases h
  | reg k =>
    obtain rfl := Option.some.inj h
    clear h
    have h1 := ta_reg
    unfold Mv.v
    go_enter Tryz.func94, Tryz.ntmps94
    go_wp2_with fail
    go_ret
    exact ⟨rfl, Fr.refl _ _⟩
set_option maxRecDepth 100000 in
set_option maxHeartbeats 1000000 in
theorem dst_none (x : Mv) (h : regM x = none) (w : World) : Calls Tryz.prog 94 #[x.v] w (Died w) := by
  cases x with
  | reg k => cases h
  | no =>
    clear h
    have h1 := ta_reg_nil
    unfold Mv.v
    go_enter Tryz.func94, Tryz.ntmps94
    go_wp2_with fail
    exact ⟨rfl, _, rfl, .inl ⟨_, rfl⟩, (Fr.refl _ _).alloc _⟩
  | val m k =>
    clear h
    have h1 := ta_reg_val
    unfold Mv.v
    go_enter Tryz.func94, Tryz.ntmps94
    go_wp2_with fail
    exact ⟨rfl, _, rfl, .inl ⟨_, rfl⟩, (Fr.refl _ _).alloc _⟩
set_option maxRecDepth 100000 in
set_option maxHeartbeats 1000000 in
theorem long_some (x : Mv) (n : Nat) (h : longM x = some n) (w : World) : Calls Tryz.prog 93 #[x.v] w fun e w' => e = .returned (.int .u64 n) ∧ Fr No w w' := by
  cases x with
  | no => cases h
  | reg k => cases h
  | val m k =>
    cases m with
    | true => cases h
    | false =>
      obtain rfl := Option.some.inj h
      clear h
      have h1 := ta_val
      unfold Mv.v
      go_enter Tryz.func93, Tryz.ntmps93
      go_wp2_with fail
      go_ret
      exact ⟨rfl, (Fr.refl _ _).alloc _⟩
set_option maxRecDepth 100000 in
set_option maxHeartbeats 1000000 in
theorem long_none (x : Mv) (h : longM x = none) (w : World) : Calls Tryz.prog 93 #[x.v] w (Died w) := by
  cases x with
  | no =>
    clear h
    have h1 := ta_val_nil
    unfold Mv.v
    go_enter Tryz.func93, Tryz.ntmps93
    go_wp2_with fail
    exact ⟨rfl, _, rfl, .inl ⟨_, rfl⟩, (Fr.refl _ _).alloc _⟩
  | reg k =>
    clear h
    have h1 := ta_val_reg
    unfold Mv.v
    go_enter Tryz.func93, Tryz.ntmps93
    go_wp2_with fail
    exact ⟨rfl, _, rfl, .inl ⟨_, rfl⟩, (Fr.refl _ _).alloc _⟩
  | val m k =>
    cases m with
    | false => cases h
    | true =>
      clear h
      have h1 := ta_val
      have h2 := ta_u64_nil
      unfold Mv.v
      go_enter Tryz.func93, Tryz.ntmps93
      go_wp2_with fail
      exact ⟨rfl, _, rfl, .inl ⟨_, rfl⟩, ((Fr.refl _ _).alloc _).alloc _⟩
/-- a slot's own block, that may be written -/
structure InsBox (w : World) (b : Nat) (o d s f m : Int) : Prop where
  c0 : w.cell? ⟨b, 0, none⟩ = some (.int .u8 o)
  c1 : w.cell? ⟨b, 1, none⟩ = some (.int .u8 d)
  c2 : w.cell? ⟨b, 2, none⟩ = some (.int .u8 s)
  c3 : w.cell? ⟨b, 3, none⟩ = some (.int .i16 f)
  c4 : w.cell? ⟨b, 4, none⟩ = some (.int .i32 m)
  z0 : w.frozen? ⟨b, 0, none⟩ = false
  z2 : w.frozen? ⟨b, 2, none⟩ = false
  z4 : w.frozen? ⟨b, 4, none⟩ = false
  z3 : w.frozen? ⟨b, 3, none⟩ = false
theorem InsBox.fr {w w' : World} {b : Nat} {o d s f m : Int} (h : InsBox w b o d s f m) (hf : Fr No w w') : InsBox w' b o d s f m :=
  ⟨hf.cell h.c0 id, hf.cell h.c1 id, hf.cell h.c2 id, hf.cell h.c3 id, hf.cell h.c4 id, (hf.frozen h.c0 id).trans h.z0, (hf.frozen h.c2 id).trans h.z2, (hf.frozen h.c4 id).trans h.z4, (hf.frozen h.c3 id).trans h.z3⟩
theorem InsBox.op {w : World} {b : Nat} {o d s f m : Int} (h : InsBox w b o d s f m) (x : Int) : InsBox (w.setCell ⟨b, 0, none⟩ (.int .u8 x)) b x d s f m :=
  ⟨World.cell?_setCell_same _ _ _ h.c0, (World.cell?_setCell_other _ _ _ _ (by simp)).trans h.c1, (World.cell?_setCell_other _ _ _ _ (by simp)).trans h.c2, (World.cell?_setCell_other _ _ _ _ (by simp)).trans h.c3, (World.cell?_setCell_other _ _ _ _ (by simp)).trans h.c4, by simpa using h.z0, by simpa using h.z2, by simpa using h.z4, by simpa using h.z3⟩
theorem InsBox.src {w : World} {b : Nat} {o d s f m : Int} (h : InsBox w b o d s f m) (x : Int) : InsBox (w.setCell ⟨b, 2, none⟩ (.int .u8 x)) b o d x f m :=
  ⟨(World.cell?_setCell_other _ _ _ _ (by simp)).trans h.c0, (World.cell?_setCell_other _ _ _ _ (by simp)).trans h.c1, World.cell?_setCell_same _ _ _ h.c2, (World.cell?_setCell_other _ _ _ _ (by simp)).trans h.c3, (World.cell?_setCell_other _ _ _ _ (by simp)).trans h.c4, by simpa using h.z0, by simpa using h.z2, by simpa using h.z4, by simpa using h.z3⟩
theorem InsBox.imm {w : World} {b : Nat} {o d s f m : Int} (h : InsBox w b o d s f m) (x : Int) : InsBox (w.setCell ⟨b, 4, none⟩ (.int .i32 x)) b o d s f x :=
  ⟨(World.cell?_setCell_other _ _ _ _ (by simp)).trans h.c0, (World.cell?_setCell_other _ _ _ _ (by simp)).trans h.c1, (World.cell?_setCell_other _ _ _ _ (by simp)).trans h.c2, (World.cell?_setCell_other _ _ _ _ (by simp)).trans h.c3, World.cell?_setCell_same _ _ _ h.c4, by simpa using h.z0, by simpa using h.z2, by simpa using h.z4, by simpa using h.z3⟩
theorem InsBox.setOff {w : World} {b : Nat} {o d s f m : Int} (h : InsBox w b o d s f m) (x : Int) : InsBox (w.setCell ⟨b, 3, none⟩ (.int .i16 x)) b o d s x m :=
  ⟨(World.cell?_setCell_other _ _ _ _ (by simp)).trans h.c0, (World.cell?_setCell_other _ _ _ _ (by simp)).trans h.c1, (World.cell?_setCell_other _ _ _ _ (by simp)).trans h.c2, World.cell?_setCell_same _ _ _ h.c3, (World.cell?_setCell_other _ _ _ _ (by simp)).trans h.c4, by simpa using h.z0, by simpa using h.z2, by simpa using h.z4, by simpa using h.z3⟩
theorem insBox_new (w : World) (o d s f m : Int) (t : TypeId) : InsBox (w.alloc (.cells #[.int .u8 o, .int .u8 d, .int .u8 s, .int .i16 f, .int .i32 m] t)) w.heap.size o d s f m := by
  have hc := CellsAt.new w [.int .u8 o, .int .u8 d, .int .u8 s, .int .i16 f, .int .i32 m] t
  exact ⟨hc 0 _ rfl, hc 1 _ rfl, hc 2 _ rfl, hc 3 _ rfl, hc 4 _ rfl, by simp, by simp, by simp, by simp⟩
/-- one block -/
def Isb (b : Nat) : Nat → Prop := fun k => k = b
theorem Fr.setB {a w : World} {b : Nat} (h : Fr (Isb b) a w) (o : Nat) (v : Value) : Fr (Isb b) a (w.setCell ⟨b, o, none⟩ v) := h.setCell (p := ⟨b, o, none⟩) (.inr (rfl : b = b)) v
/-- behind either: the slot's block alone has turned -/
def EitherTo (b : Nat) (o d s f m : Int) (w : World) (e : Ending) (w' : World) : Prop := e = .returned (.tuple #[]) ∧ InsBox w' b o d s f m ∧ Fr (Isb b) w w'

set_option maxRecDepth 100000 in
set_option maxHeartbeats 1000000 in
theorem either_reg (b : Nat) (o d s f m : Int) (n : Nat) (hor : bits BinOp.or IntKind.u8 o 8 = o + 8) (w : World) (h : InsBox w b o d s f m) :
    Calls Tryz.prog 99 #[.pointer (some ⟨b, 0, none⟩), (Mv.reg n).v] w (EitherTo b (o + 8) d n f m w) := by
  have h1 := tc_reg
  obtain ⟨c0, c1, c2, c3, c4, z0, z2, z4, z3⟩ := h
  have HC := Lib.hid (InsBox.mk c0 c1 c2 c3 c4 z0 z2 z4 z3)
  unfold Mv.v
  go_enter Tryz.func99, Tryz.ntmps99
  go_wp2_with fail
  first | go_end0 | refine bodyPost_ret (results_none rfl _ _ _) rfl ?_
  exact ⟨rfl, (HC.out.op _).src _, ((Fr.refl _ _).setB _ _).setB _ _⟩
set_option maxRecDepth 100000 in
set_option maxHeartbeats 1000000 in
theorem either_no_some (b : Nat) (o d s f m : Int) (z : Int) (hw : withinM Mv.no 2147483648 2147483647 = some z) (w : World) (h : InsBox w b o d s f m) :
    Calls Tryz.prog 99 #[.pointer (some ⟨b, 0, none⟩), Mv.no.v] w (EitherTo b o d s f z w) := by
  have h1 := tc_reg_nil
  have HC := Lib.hid h
  have HW : Hid (∀ W, Calls Tryz.prog 91 #[Mv.no.v] W fun e w' => e = .returned (.int .i32 z) ∧ Fr No W w') := fun W => whole_some _ z hw W
  clear hw h
  unfold Mv.v at *
  go_enter Tryz.func99, Tryz.ntmps99
  go_wp2_with (go_at_call 91; (with_reducible refine (HW.out _).mono ?_); rintro e w1 ⟨rfl, hf1⟩; have HF1 := Lib.hid hf1; have HC1 := Lib.hid (HC.out.fr hf1); obtain ⟨c0, c1, c2, c3, c4, z0, z2, z4, z3⟩ := HC.out.fr hf1; clear hf1)
  first | go_end0 | refine bodyPost_ret (results_none rfl _ _ _) rfl ?_
  exact ⟨rfl, HC1.out.imm _, (HF1.out.mono fun _ _ h => absurd h id).setB _ _⟩
set_option maxRecDepth 100000 in
set_option maxHeartbeats 1000000 in
theorem either_no_none (b : Nat) (hx : Mv.ok Mv.no) (hw : withinM Mv.no 2147483648 2147483647 = none) (w : World) :
    Calls Tryz.prog 99 #[.pointer (some ⟨b, 0, none⟩), Mv.no.v] w (Died w) := by
  have h1 := tc_reg_nil
  have HW : Hid (∀ W, Calls Tryz.prog 91 #[Mv.no.v] W (Died W)) := fun W => whole_none _ hx hw W
  clear hw hx
  unfold Mv.v at *
  go_enter Tryz.func99, Tryz.ntmps99
  go_wp2_with (go_at_call 91; (with_reducible refine (HW.out _).mono ?_); rintro e w1 ⟨v1, rfl, hv1⟩; have HV := Lib.hid hv1; clear hv1)
  exact ⟨rfl, _, rfl, HV.out.1, HV.out.2⟩
set_option maxRecDepth 100000 in
set_option maxHeartbeats 1000000 in
theorem either_val_some (k : Bool) (n : Nat) (b : Nat) (o d s f m : Int) (z : Int) (hw : withinM (Mv.val k n) 2147483648 2147483647 = some z) (w : World) (h : InsBox w b o d s f m) :
    Calls Tryz.prog 99 #[.pointer (some ⟨b, 0, none⟩), (Mv.val k n).v] w (EitherTo b o d s f z w) := by
  have h1 := tc_reg_val
  have HC := Lib.hid h
  have HW : Hid (∀ W, Calls Tryz.prog 91 #[(Mv.val k n).v] W fun e w' => e = .returned (.int .i32 z) ∧ Fr No W w') := fun W => whole_some _ z hw W
  clear hw h
  unfold Mv.v at *
  go_enter Tryz.func99, Tryz.ntmps99
  go_wp2_with (go_at_call 91; (with_reducible refine (HW.out _).mono ?_); rintro e w1 ⟨rfl, hf1⟩; have HF1 := Lib.hid hf1; have HC1 := Lib.hid (HC.out.fr hf1); obtain ⟨c0, c1, c2, c3, c4, z0, z2, z4, z3⟩ := HC.out.fr hf1; clear hf1)
  first | go_end0 | refine bodyPost_ret (results_none rfl _ _ _) rfl ?_
  exact ⟨rfl, HC1.out.imm _, (HF1.out.mono fun _ _ h => absurd h id).setB _ _⟩
set_option maxRecDepth 100000 in
set_option maxHeartbeats 1000000 in
theorem either_val_none (k : Bool) (n : Nat) (b : Nat) (hx : Mv.ok (Mv.val k n)) (hw : withinM (Mv.val k n) 2147483648 2147483647 = none) (w : World) :
    Calls Tryz.prog 99 #[.pointer (some ⟨b, 0, none⟩), (Mv.val k n).v] w (Died w) := by
  have h1 := tc_reg_val
  have HW : Hid (∀ W, Calls Tryz.prog 91 #[(Mv.val k n).v] W (Died W)) := fun W => whole_none _ hx hw W
  clear hw hx
  unfold Mv.v at *
  go_enter Tryz.func99, Tryz.ntmps99
  go_wp2_with (go_at_call 91; (with_reducible refine (HW.out _).mono ?_); rintro e w1 ⟨v1, rfl, hv1⟩; have HV := Lib.hid hv1; clear hv1)
  exact ⟨rfl, _, rfl, HV.out.1, HV.out.2⟩
end Go.Proofs.YthkdokkpiaaljaaGreatDoor
