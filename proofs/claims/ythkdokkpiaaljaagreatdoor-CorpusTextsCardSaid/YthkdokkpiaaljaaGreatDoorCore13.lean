/- lines.double. -/
import Derived.Test.YthkdokkpiaaljaaGreatDoorCore10
import Derived.Test.YthkdokkpiaaljaaGreatDoorCore12
import Derived.Deep.CutBlock
import Derived.Laws.BitsAllLaws
set_option linter.all false
set_option linter.unusedVariables false
set_option linter.unusedSimpArgs false
namespace Go.Proofs.YthkdokkpiaaljaaGreatDoor
open Go.RowKit

theorem neq_ins (o1 d1 s1 f1 m1 o2 d2 s2 f2 m2 : Int) (w : World) : (binOp .neq 51 (.agg #[.int .u8 o1, .int .u8 d1, .int .u8 s1, .int .i16 f1, .int .i32 m1]) (.agg #[.int .u8 o2, .int .u8 d2, .int .u8 s2, .int .i16 f2, .int .i32 m2])).run Tryz.prog w = .ok (.bool (!(o1 == o2 && (d1 == d2 && (s1 == s2 && (f1 == f2 && m1 == m2)))))) w := by
  have u5 := Tryz.underlying5
  have a5 := Tryz.isAgg5
  have z5 := Tryz.sizeOf5
  have u9 := Tryz.underlying49
  have a9 := Tryz.isAgg49
  have z9 := Tryz.sizeOf49
  have u4 := Tryz.underlying21
  have a4 := Tryz.isAgg21
  have z4 := Tryz.sizeOf21
  have hS : Tryz.prog.underlying 51 = some (.struct (Tryz.prog.fieldsOf 51)) := by kernel_rfl
  have hp : Tryz.prog.stoodInHeld 51 = false := by kernel_rfl
  rw [run_neq_struct, show (10000 : Nat) = 9999 + 1 from rfl, run_equalIn_agg w 9999 _ _ _ hS hp]
  simp only [Program.fieldsOf, Tryz.underlying51]
  go_simp
  by_cases h1 : o1 = o2 <;> by_cases h2 : d1 = d2 <;> by_cases h3 : s1 = s2 <;> by_cases h4 : f1 = f2 <;> by_cases h5 : m1 = m2 <;> simp [h1, h2, h3, h4, h5]
theorem guard_ins (xs ys : Array Value) (op : BinOp) (x y : Operand) (w : World) : (eqGuard op 51 x y (.agg xs) (.agg ys)).run Tryz.prog w = .ok () w := run_eqGuard_agg w op _ x y xs ys (by kernel_rfl)

set_option maxRecDepth 100000 in
set_option maxHeartbeats 2000000 in
theorem double_not24 (o d s jo jd js : Nat) (f m jf jm ck : Int) (hi : Ins.ok ⟨o, d, s, f, m⟩) (hck : checkI ⟨o, d, s, f, m⟩ true = ck) (h24 : ((o : Int) != 24) = true) (w : World) :
    Calls Tryz.prog 24 #[.agg #[.int .u8 o, .int .u8 d, .int .u8 s, .int .i16 f, .int .i32 m], .agg #[.int .u8 jo, .int .u8 jd, .int .u8 js, .int .i16 jf, .int .i32 jm]] w fun e w' => e = .returned (.tuple #[.slice none 0 0, .bool false]) ∧ Fr No w w' := by
  clear hck hi
  go_enter Tryz.func24, Tryz.ntmps24
  go_wp2_with fail
  go_ret2
  exact ⟨rfl, ((Fr.refl _ _).alloc _).alloc _⟩
set_option maxRecDepth 100000 in
set_option maxHeartbeats 2000000 in
theorem double_bad (o d s jo jd js : Nat) (f m jf jm ck : Int) (hi : Ins.ok ⟨o, d, s, f, m⟩) (hck : checkI ⟨o, d, s, f, m⟩ true = ck) (h24 : ((o : Int) != 24) = false) (h0 : (ck != 0) = true) (w : World) :
    Calls Tryz.prog 24 #[.agg #[.int .u8 o, .int .u8 d, .int .u8 s, .int .i16 f, .int .i32 m], .agg #[.int .u8 jo, .int .u8 jd, .int .u8 js, .int .i16 jf, .int .i32 jm]] w fun e w' => e = .returned (.tuple #[.slice none 0 0, .bool false]) ∧ Fr No w w' := by
  have hg := guard_ins
  have HCK : Hid (∀ W, Calls Tryz.prog 22 #[.agg #[.int .u8 o, .int .u8 d, .int .u8 s, .int .i16 f, .int .i32 m], .bool true] W fun e w' => e = .returned (.int .i64 ck) ∧ Fr No W w') := fun W => by rw [← hck]; exact icheck_any ⟨o, d, s, f, m⟩ true hi W
  clear hck hi
  go_enter Tryz.func24, Tryz.ntmps24
  go_upto_region 1 with fail
  obtain ⟨W0, hW0⟩ : ∃ W0, W0 = (w.alloc (.cells #[.int .u8 o, .int .u8 d, .int .u8 s, .int .i16 f, .int .i32 m] 51)).alloc (.cells #[.int .u8 jo, .int .u8 jd, .int .u8 js, .int .i16 jf, .int .i32 jm] 51) := ⟨_, rfl⟩
  have H0 : Hid (∀ W, Fr No W0 W → (W.cell? ⟨w.heap.size, 0, none⟩ = some (.int .u8 o) ∧ W.cell? ⟨w.heap.size, 1, none⟩ = some (.int .u8 d) ∧ W.cell? ⟨w.heap.size, 2, none⟩ = some (.int .u8 s) ∧ W.cell? ⟨w.heap.size, 3, none⟩ = some (.int .i16 f) ∧ W.cell? ⟨w.heap.size, 4, none⟩ = some (.int .i32 m)) ∧ (W.cell? ⟨w.heap.size + 1, 0, none⟩ = some (.int .u8 jo) ∧ W.cell? ⟨w.heap.size + 1, 1, none⟩ = some (.int .u8 jd) ∧ W.cell? ⟨w.heap.size + 1, 2, none⟩ = some (.int .u8 js) ∧ W.cell? ⟨w.heap.size + 1, 3, none⟩ = some (.int .i16 jf) ∧ W.cell? ⟨w.heap.size + 1, 4, none⟩ = some (.int .i32 jm))) := fun W hW => by
    subst hW0
    refine ⟨⟨hW.cell ?_ id, hW.cell ?_ id, hW.cell ?_ id, hW.cell ?_ id, hW.cell ?_ id⟩, ⟨hW.cell ?_ id, hW.cell ?_ id, hW.cell ?_ id, hW.cell ?_ id, hW.cell ?_ id⟩⟩ <;> go_simp
  have HF0 : Hid (Fr No w W0) := by rw [hW0]; exact ((Fr.refl _ _).alloc _).alloc _
  rw [← hW0]
  clear hW0
  obtain ⟨⟨g0, g1, g2, g3, g4⟩, ⟨l0, l1, l2, l3, l4⟩⟩ := H0.out W0 (Fr.refl _ _)
  go_wp2_with (go_at_call 22; (with_reducible refine (HCK.out _).mono ?_); rintro e w1 ⟨rfl, hf1⟩; have HF1 := Lib.hid (HF0.out.trans hf1); have HX1 := Lib.hid hf1; obtain ⟨⟨k0, k1, k2, k3, k4⟩, ⟨n0, n1, n2, n3, n4⟩⟩ := H0.out _ hf1; clear hf1 g0 g1 g2 g3 g4 l0 l1 l2 l3 l4)
  go_ret2
  exact ⟨rfl, HF1.out⟩
set_option maxRecDepth 100000 in
set_option maxHeartbeats 2000000 in
theorem double_no (o d s jo jd js : Nat) (f m jf jm ck : Int) (hi : Ins.ok ⟨o, d, s, f, m⟩) (hck : checkI ⟨o, d, s, f, m⟩ true = ck) (h24 : ((o : Int) != 24) = false) (h0 : (ck != 0) = false) (hj : (!((jo : Int) == 0 && ((jd : Int) == 0 && ((js : Int) == 0 && (jf == 0 && jm == jm))))) = true) (w : World) :
    Calls Tryz.prog 24 #[.agg #[.int .u8 o, .int .u8 d, .int .u8 s, .int .i16 f, .int .i32 m], .agg #[.int .u8 jo, .int .u8 jd, .int .u8 js, .int .i16 jf, .int .i32 jm]] w fun e w' => e = .returned (.tuple #[.slice none 0 0, .bool false]) ∧ Fr No w w' := by
  have hg := guard_ins
  have HCK : Hid (∀ W, Calls Tryz.prog 22 #[.agg #[.int .u8 o, .int .u8 d, .int .u8 s, .int .i16 f, .int .i32 m], .bool true] W fun e w' => e = .returned (.int .i64 ck) ∧ Fr No W w') := fun W => by rw [← hck]; exact icheck_any ⟨o, d, s, f, m⟩ true hi W
  have hn : ∀ W, (binOp .neq 51 (.agg #[.int .u8 jo, .int .u8 jd, .int .u8 js, .int .i16 jf, .int .i32 jm]) (.agg #[.int .u8 0, .int .u8 0, .int .u8 0, .int .i16 0, .int .i32 jm])).run Tryz.prog W = .ok (.bool true) W := fun W => by rw [neq_ins, hj]
  clear hck hi hj
  go_enter Tryz.func24, Tryz.ntmps24
  go_upto_region 1 with fail
  obtain ⟨W0, hW0⟩ : ∃ W0, W0 = (w.alloc (.cells #[.int .u8 o, .int .u8 d, .int .u8 s, .int .i16 f, .int .i32 m] 51)).alloc (.cells #[.int .u8 jo, .int .u8 jd, .int .u8 js, .int .i16 jf, .int .i32 jm] 51) := ⟨_, rfl⟩
  have H0 : Hid (∀ W, Fr No W0 W → (W.cell? ⟨w.heap.size, 0, none⟩ = some (.int .u8 o) ∧ W.cell? ⟨w.heap.size, 1, none⟩ = some (.int .u8 d) ∧ W.cell? ⟨w.heap.size, 2, none⟩ = some (.int .u8 s) ∧ W.cell? ⟨w.heap.size, 3, none⟩ = some (.int .i16 f) ∧ W.cell? ⟨w.heap.size, 4, none⟩ = some (.int .i32 m)) ∧ (W.cell? ⟨w.heap.size + 1, 0, none⟩ = some (.int .u8 jo) ∧ W.cell? ⟨w.heap.size + 1, 1, none⟩ = some (.int .u8 jd) ∧ W.cell? ⟨w.heap.size + 1, 2, none⟩ = some (.int .u8 js) ∧ W.cell? ⟨w.heap.size + 1, 3, none⟩ = some (.int .i16 jf) ∧ W.cell? ⟨w.heap.size + 1, 4, none⟩ = some (.int .i32 jm))) := fun W hW => by
    subst hW0
    refine ⟨⟨hW.cell ?_ id, hW.cell ?_ id, hW.cell ?_ id, hW.cell ?_ id, hW.cell ?_ id⟩, ⟨hW.cell ?_ id, hW.cell ?_ id, hW.cell ?_ id, hW.cell ?_ id, hW.cell ?_ id⟩⟩ <;> go_simp
  have HF0 : Hid (Fr No w W0) := by rw [hW0]; exact ((Fr.refl _ _).alloc _).alloc _
  rw [← hW0]
  clear hW0
  obtain ⟨⟨g0, g1, g2, g3, g4⟩, ⟨l0, l1, l2, l3, l4⟩⟩ := H0.out W0 (Fr.refl _ _)
  go_wp2_with (go_at_call 22; (with_reducible refine (HCK.out _).mono ?_); rintro e w1 ⟨rfl, hf1⟩; have HF1 := Lib.hid (HF0.out.trans hf1); have HX1 := Lib.hid hf1; obtain ⟨⟨k0, k1, k2, k3, k4⟩, ⟨n0, n1, n2, n3, n4⟩⟩ := H0.out _ hf1; clear hf1 g0 g1 g2 g3 g4 l0 l1 l2 l3 l4)
  go_ret2
  exact ⟨rfl, HF1.out⟩
theorem or_wide {x y : Nat} (hy : y < 4294967296) (hx : x < 4294967296) : bits BinOp.or IntKind.u64 ((x : Int) * 4294967296) (y : Int) = (x : Int) * 4294967296 + (y : Int) := by
  have e : ((x : Int) * 4294967296) = ((x * 4294967296 : Nat) : Int) := by omega
  rw [e, u64_or_nat _ _ (by omega) (by omega)]
  have := Nat.two_pow_add_eq_or_of_lt (i := 32) (b := y) (by omega) x
  rw [show 2 ^ 32 * x = x * 4294967296 by omega] at this
  rw [← this]
  omega
/-- words and whether they are any -/
def SlOk (l : List (List UInt8)) (z : Bool) (w : World) (e : Ending) (w' : World) : Prop := ∃ v, e = .returned (.tuple #[v, .bool z]) ∧ StrsAt w' v l ∧ Fr No w w'
set_option maxRecDepth 100000 in
set_option maxHeartbeats 2000000 in
theorem double_map (o d s jo jd js : Nat) (f m jf jm ck : Int) (hi : Ins.ok ⟨o, d, s, f, m⟩) (hck : checkI ⟨o, d, s, f, m⟩ true = ck) (h24 : ((o : Int) != 24) = false) (h0 : (ck != 0) = false) (hj : (!((jo : Int) == 0 && ((jd : Int) == 0 && ((js : Int) == 0 && (jf == 0 && jm == jm))))) = false) (hs : ((s : Int) == 1) = true) (w : World) (hT : LT w) :
    Calls Tryz.prog 24 #[.agg #[.int .u8 o, .int .u8 d, .int .u8 s, .int .i16 f, .int .i32 m], .agg #[.int .u8 jo, .int .u8 jd, .int .u8 js, .int .i16 jf, .int .i32 jm]] w (SlOk [[108, 100, 109, 97, 112], regN d, itoaN m] (jm == 0) w) := by
  have hg := guard_ins
  have HCK : Hid (∀ W, Calls Tryz.prog 22 #[.agg #[.int .u8 o, .int .u8 d, .int .u8 s, .int .i16 f, .int .i32 m], .bool true] W fun e w' => e = .returned (.int .i64 ck) ∧ Fr No W w') := fun W => by rw [← hck]; exact icheck_any ⟨o, d, s, f, m⟩ true hi W
  have hn : ∀ W, (binOp .neq 51 (.agg #[.int .u8 jo, .int .u8 jd, .int .u8 js, .int .i16 jf, .int .i32 jm]) (.agg #[.int .u8 0, .int .u8 0, .int .u8 0, .int .i16 0, .int .i32 jm])).run Tryz.prog W = .ok (.bool false) W := fun W => by rw [neq_ins, hj]
  have HT : Hid (∀ W, Fr No w W → LT W) := fun W h => hT.fr h
  have HR : Hid (∀ (n : Nat) W, n < 256 → LT W → Calls Tryz.prog 50 #[.int .u8 n] W fun e w' => e = .returned (.string (bA (regN n))) ∧ Fr No W w') := fun n W h h2 => lreg_any n h W h2
  have HN2 : Hid (∀ W, LT W → Calls Tryz.prog 21 #[.int .i32 m] W fun e w' => e = .returned (.string (bA (itoaN m))) ∧ Fr No W w') := fun W h2 => num_i32 m hi.imm W h2
  have hd := hi.dst
  simp only at hd
  clear hck hi hj hT
  go_enter Tryz.func24, Tryz.ntmps24
  go_upto_region 1 with fail
  obtain ⟨W0, hW0⟩ : ∃ W0, W0 = (w.alloc (.cells #[.int .u8 o, .int .u8 d, .int .u8 s, .int .i16 f, .int .i32 m] 51)).alloc (.cells #[.int .u8 jo, .int .u8 jd, .int .u8 js, .int .i16 jf, .int .i32 jm] 51) := ⟨_, rfl⟩
  have H0 : Hid (∀ W, Fr No W0 W → (W.cell? ⟨w.heap.size, 0, none⟩ = some (.int .u8 o) ∧ W.cell? ⟨w.heap.size, 1, none⟩ = some (.int .u8 d) ∧ W.cell? ⟨w.heap.size, 2, none⟩ = some (.int .u8 s) ∧ W.cell? ⟨w.heap.size, 3, none⟩ = some (.int .i16 f) ∧ W.cell? ⟨w.heap.size, 4, none⟩ = some (.int .i32 m)) ∧ (W.cell? ⟨w.heap.size + 1, 0, none⟩ = some (.int .u8 jo) ∧ W.cell? ⟨w.heap.size + 1, 1, none⟩ = some (.int .u8 jd) ∧ W.cell? ⟨w.heap.size + 1, 2, none⟩ = some (.int .u8 js) ∧ W.cell? ⟨w.heap.size + 1, 3, none⟩ = some (.int .i16 jf) ∧ W.cell? ⟨w.heap.size + 1, 4, none⟩ = some (.int .i32 jm))) := fun W hW => by
    subst hW0
    refine ⟨⟨hW.cell ?_ id, hW.cell ?_ id, hW.cell ?_ id, hW.cell ?_ id, hW.cell ?_ id⟩, ⟨hW.cell ?_ id, hW.cell ?_ id, hW.cell ?_ id, hW.cell ?_ id, hW.cell ?_ id⟩⟩ <;> go_simp
  have HF0 : Hid (Fr No w W0) := by rw [hW0]; exact ((Fr.refl _ _).alloc _).alloc _
  rw [← hW0]
  clear hW0
  obtain ⟨⟨g0, g1, g2, g3, g4⟩, ⟨l0, l1, l2, l3, l4⟩⟩ := H0.out W0 (Fr.refl _ _)
  go_wp2_with (go_at_call 22; (with_reducible refine (HCK.out _).mono ?_); rintro e w1 ⟨rfl, hf1⟩; have HF1 := Lib.hid (HF0.out.trans hf1); have HX1 := Lib.hid hf1; obtain ⟨⟨k0, k1, k2, k3, k4⟩, ⟨n0, n1, n2, n3, n4⟩⟩ := H0.out _ hf1; clear hf1 g0 g1 g2 g3 g4 l0 l1 l2 l3 l4)
  have HB : Hid (∀ W, Fr No w1 W → (W.cell? ⟨w.heap.size, 0, none⟩ = some (.int .u8 o) ∧ W.cell? ⟨w.heap.size, 1, none⟩ = some (.int .u8 d) ∧ W.cell? ⟨w.heap.size, 2, none⟩ = some (.int .u8 s) ∧ W.cell? ⟨w.heap.size, 3, none⟩ = some (.int .i16 f) ∧ W.cell? ⟨w.heap.size, 4, none⟩ = some (.int .i32 m)) ∧ (W.cell? ⟨w.heap.size + 1, 0, none⟩ = some (.int .u8 jo) ∧ W.cell? ⟨w.heap.size + 1, 1, none⟩ = some (.int .u8 jd) ∧ W.cell? ⟨w.heap.size + 1, 2, none⟩ = some (.int .u8 js) ∧ W.cell? ⟨w.heap.size + 1, 3, none⟩ = some (.int .i16 jf) ∧ W.cell? ⟨w.heap.size + 1, 4, none⟩ = some (.int .i32 jm)) ∧ Hid (Fr No w W)) := fun W h => by
    obtain ⟨a, b⟩ := H0.out _ (HX1.out.trans h)
    exact ⟨a, b, HF1.out.trans h⟩
  have HK : Hid (∀ W W', Fr No W W' → ((W.cell? ⟨w.heap.size, 0, none⟩ = some (.int .u8 o) ∧ W.cell? ⟨w.heap.size, 1, none⟩ = some (.int .u8 d) ∧ W.cell? ⟨w.heap.size, 2, none⟩ = some (.int .u8 s) ∧ W.cell? ⟨w.heap.size, 3, none⟩ = some (.int .i16 f) ∧ W.cell? ⟨w.heap.size, 4, none⟩ = some (.int .i32 m)) ∧ (W.cell? ⟨w.heap.size + 1, 0, none⟩ = some (.int .u8 jo) ∧ W.cell? ⟨w.heap.size + 1, 1, none⟩ = some (.int .u8 jd) ∧ W.cell? ⟨w.heap.size + 1, 2, none⟩ = some (.int .u8 js) ∧ W.cell? ⟨w.heap.size + 1, 3, none⟩ = some (.int .i16 jf) ∧ W.cell? ⟨w.heap.size + 1, 4, none⟩ = some (.int .i32 jm)) ∧ Hid (Fr No w W)) → ((W'.cell? ⟨w.heap.size, 0, none⟩ = some (.int .u8 o) ∧ W'.cell? ⟨w.heap.size, 1, none⟩ = some (.int .u8 d) ∧ W'.cell? ⟨w.heap.size, 2, none⟩ = some (.int .u8 s) ∧ W'.cell? ⟨w.heap.size, 3, none⟩ = some (.int .i16 f) ∧ W'.cell? ⟨w.heap.size, 4, none⟩ = some (.int .i32 m)) ∧ (W'.cell? ⟨w.heap.size + 1, 0, none⟩ = some (.int .u8 jo) ∧ W'.cell? ⟨w.heap.size + 1, 1, none⟩ = some (.int .u8 jd) ∧ W'.cell? ⟨w.heap.size + 1, 2, none⟩ = some (.int .u8 js) ∧ W'.cell? ⟨w.heap.size + 1, 3, none⟩ = some (.int .i16 jf) ∧ W'.cell? ⟨w.heap.size + 1, 4, none⟩ = some (.int .i32 jm)) ∧ Hid (Fr No w W'))) := fun W W' hf h =>
    ⟨⟨hf.cell h.1.1 id, hf.cell h.1.2.1 id, hf.cell h.1.2.2.1 id, hf.cell h.1.2.2.2.1 id, hf.cell h.1.2.2.2.2 id⟩, ⟨hf.cell h.2.1.1 id, hf.cell h.2.1.2.1 id, hf.cell h.2.1.2.2.1 id, hf.cell h.2.1.2.2.2.1 id, hf.cell h.2.1.2.2.2.2 id⟩, h.2.2.out.trans hf⟩
  have HL : Hid (∀ W, ((W.cell? ⟨w.heap.size, 0, none⟩ = some (.int .u8 o) ∧ W.cell? ⟨w.heap.size, 1, none⟩ = some (.int .u8 d) ∧ W.cell? ⟨w.heap.size, 2, none⟩ = some (.int .u8 s) ∧ W.cell? ⟨w.heap.size, 3, none⟩ = some (.int .i16 f) ∧ W.cell? ⟨w.heap.size, 4, none⟩ = some (.int .i32 m)) ∧ (W.cell? ⟨w.heap.size + 1, 0, none⟩ = some (.int .u8 jo) ∧ W.cell? ⟨w.heap.size + 1, 1, none⟩ = some (.int .u8 jd) ∧ W.cell? ⟨w.heap.size + 1, 2, none⟩ = some (.int .u8 js) ∧ W.cell? ⟨w.heap.size + 1, 3, none⟩ = some (.int .i16 jf) ∧ W.cell? ⟨w.heap.size + 1, 4, none⟩ = some (.int .i32 jm)) ∧ Hid (Fr No w W)) → LT W) := fun W h => HT.out _ h.2.2.out
  have HL2 : Hid (∀ W, ((W.cell? ⟨w.heap.size, 0, none⟩ = some (.int .u8 o) ∧ W.cell? ⟨w.heap.size, 1, none⟩ = some (.int .u8 d) ∧ W.cell? ⟨w.heap.size, 2, none⟩ = some (.int .u8 s) ∧ W.cell? ⟨w.heap.size, 3, none⟩ = some (.int .i16 f) ∧ W.cell? ⟨w.heap.size, 4, none⟩ = some (.int .i32 m)) ∧ (W.cell? ⟨w.heap.size + 1, 0, none⟩ = some (.int .u8 jo) ∧ W.cell? ⟨w.heap.size + 1, 1, none⟩ = some (.int .u8 jd) ∧ W.cell? ⟨w.heap.size + 1, 2, none⟩ = some (.int .u8 js) ∧ W.cell? ⟨w.heap.size + 1, 3, none⟩ = some (.int .i16 jf) ∧ W.cell? ⟨w.heap.size + 1, 4, none⟩ = some (.int .i32 jm)) ∧ Hid (Fr No w W)) → Fr No w W) := fun W h => h.2.2.out
  have hst : (w1.drew.cell? ⟨w.heap.size, 0, none⟩ = some (.int .u8 o) ∧ w1.drew.cell? ⟨w.heap.size, 1, none⟩ = some (.int .u8 d) ∧ w1.drew.cell? ⟨w.heap.size, 2, none⟩ = some (.int .u8 s) ∧ w1.drew.cell? ⟨w.heap.size, 3, none⟩ = some (.int .i16 f) ∧ w1.drew.cell? ⟨w.heap.size, 4, none⟩ = some (.int .i32 m)) ∧ (w1.drew.cell? ⟨w.heap.size + 1, 0, none⟩ = some (.int .u8 jo) ∧ w1.drew.cell? ⟨w.heap.size + 1, 1, none⟩ = some (.int .u8 jd) ∧ w1.drew.cell? ⟨w.heap.size + 1, 2, none⟩ = some (.int .u8 js) ∧ w1.drew.cell? ⟨w.heap.size + 1, 3, none⟩ = some (.int .i16 jf) ∧ w1.drew.cell? ⟨w.heap.size + 1, 4, none⟩ = some (.int .i32 jm)) ∧ Hid (Fr No w w1.drew) := HB.out _ (Fr.refl _ _).drew
  clear k0 k1 k2 k3 k4 n0 n1 n2 n3 n4
  go_region_held3 (fun W => (W.cell? ⟨w.heap.size, 0, none⟩ = some (.int .u8 o) ∧ W.cell? ⟨w.heap.size, 1, none⟩ = some (.int .u8 d) ∧ W.cell? ⟨w.heap.size, 2, none⟩ = some (.int .u8 s) ∧ W.cell? ⟨w.heap.size, 3, none⟩ = some (.int .i16 f) ∧ W.cell? ⟨w.heap.size, 4, none⟩ = some (.int .i32 m)) ∧ (W.cell? ⟨w.heap.size + 1, 0, none⟩ = some (.int .u8 jo) ∧ W.cell? ⟨w.heap.size + 1, 1, none⟩ = some (.int .u8 jd) ∧ W.cell? ⟨w.heap.size + 1, 2, none⟩ = some (.int .u8 js) ∧ W.cell? ⟨w.heap.size + 1, 3, none⟩ = some (.int .i16 jf) ∧ W.cell? ⟨w.heap.size + 1, 4, none⟩ = some (.int .i32 jm)) ∧ Hid (Fr No w W)) (first | assumption | exact HK.out _ _ (by assumption) (by assumption) | exact HK.out _ _ ((Fr.refl _ _).alloc _) (by assumption))
    (first
      | (go_at_call 50; (with_reducible refine (HR.out _ _ (by omega) (HL.out _ (by assumption))).mono ?_); rintro e w4 ⟨rfl, hf4⟩)
      | (go_at_call 21; (with_reducible refine (HN2.out _ (HL.out _ (by assumption))).mono ?_); rintro e w6 ⟨rfl, hf6⟩))
  all_goals go_wp2_with fail
  all_goals go_ret2
  all_goals exact ⟨_, rfl, StrsAt.new _ [[108, 100, 109, 97, 112], regN d, itoaN m] _ _ rfl, HL2.out _ (by assumption)⟩
set_option maxRecDepth 100000 in
set_option maxHeartbeats 2000000 in
theorem double_imm (o d s jo jd js : Nat) (f m jf jm ck : Int) (hi : Ins.ok ⟨o, d, s, f, m⟩) (hck : checkI ⟨o, d, s, f, m⟩ true = ck) (h24 : ((o : Int) != 24) = false) (h0 : (ck != 0) = false) (hj : (!((jo : Int) == 0 && ((jd : Int) == 0 && ((js : Int) == 0 && (jf == 0 && jm == jm))))) = false) (hs : ((s : Int) == 1) = false) (hjm : -2147483648 ≤ jm ∧ jm < 2147483648) (w : World) (hT : LT w) :
    Calls Tryz.prog 24 #[.agg #[.int .u8 o, .int .u8 d, .int .u8 s, .int .i16 f, .int .i32 m], .agg #[.int .u8 jo, .int .u8 jd, .int .u8 js, .int .i16 jf, .int .i32 jm]] w (SlOk [[108, 100, 105, 109, 109], regN d, decN (u32 jm * 4294967296 + u32 m)] true w) := by
  have hg := guard_ins
  have HCK : Hid (∀ W, Calls Tryz.prog 22 #[.agg #[.int .u8 o, .int .u8 d, .int .u8 s, .int .i16 f, .int .i32 m], .bool true] W fun e w' => e = .returned (.int .i64 ck) ∧ Fr No W w') := fun W => by rw [← hck]; exact icheck_any ⟨o, d, s, f, m⟩ true hi W
  have hn : ∀ W, (binOp .neq 51 (.agg #[.int .u8 jo, .int .u8 jd, .int .u8 js, .int .i16 jf, .int .i32 jm]) (.agg #[.int .u8 0, .int .u8 0, .int .u8 0, .int .i16 0, .int .i32 jm])).run Tryz.prog W = .ok (.bool false) W := fun W => by rw [neq_ins, hj]
  have HT : Hid (∀ W, Fr No w W → LT W) := fun W h => hT.fr h
  have HR : Hid (∀ (n : Nat) W, n < 256 → LT W → Calls Tryz.prog 50 #[.int .u8 n] W fun e w' => e = .returned (.string (bA (regN n))) ∧ Fr No W w') := fun n W h h2 => lreg_any n h W h2
  have HN2 : Hid (∀ W, LT W → Calls Tryz.prog 21 #[.int .i32 m] W fun e w' => e = .returned (.string (bA (itoaN m))) ∧ Fr No W w') := fun W h2 => num_i32 m hi.imm W h2
  have hd := hi.dst
  simp only at hd
  have x1 : IntKind.u32.wrap m = (u32 m : Int) := by rw [IntKind.wrap_u32]; unfold u32; omega
  have x2 : IntKind.u32.wrap jm = (u32 jm : Int) := by rw [IntKind.wrap_u32]; unfold u32; omega
  have y1 := u32_lt m
  have y2 := u32_lt jm
  have x3 : IntKind.u64.wrap (u32 m : Int) = u32 m := IntWalk.u64_in _ (by omega)
  have x4 : IntKind.u64.wrap (u32 jm : Int) = u32 jm := IntWalk.u64_in _ (by omega)
  have hwl : u32 jm * 4294967296 + u32 m < 18446744073709551616 := by omega
  have HFU : Hid (∀ W, LT W → Calls Tryz.prog 53 #[.int .u64 ((u32 jm : Int) * 4294967296 + (u32 m : Int)), .int .i64 10] W fun e w' => e = .returned (.string (bA (decN (u32 jm * 4294967296 + u32 m)))) ∧ Fr No W w') := fun W h2 => by have := fuint_any _ hwl W h2; rw [show ((u32 jm * 4294967296 + u32 m : Nat) : Int) = (u32 jm : Int) * 4294967296 + (u32 m : Int) by omega] at this; exact this
  have z1 : IntKind.u64.wrap ((u32 jm : Int) * 4294967296) = (u32 jm : Int) * 4294967296 := IntWalk.u64_in _ (by omega)
  have z2 := or_wide y1 y2
  generalize u32 m = um at *
  generalize u32 jm = uj at *
  clear hck hi hj hT hwl
  go_enter Tryz.func24, Tryz.ntmps24
  go_upto_region 1 with fail
  obtain ⟨W0, hW0⟩ : ∃ W0, W0 = (w.alloc (.cells #[.int .u8 o, .int .u8 d, .int .u8 s, .int .i16 f, .int .i32 m] 51)).alloc (.cells #[.int .u8 jo, .int .u8 jd, .int .u8 js, .int .i16 jf, .int .i32 jm] 51) := ⟨_, rfl⟩
  have H0 : Hid (∀ W, Fr No W0 W → (W.cell? ⟨w.heap.size, 0, none⟩ = some (.int .u8 o) ∧ W.cell? ⟨w.heap.size, 1, none⟩ = some (.int .u8 d) ∧ W.cell? ⟨w.heap.size, 2, none⟩ = some (.int .u8 s) ∧ W.cell? ⟨w.heap.size, 3, none⟩ = some (.int .i16 f) ∧ W.cell? ⟨w.heap.size, 4, none⟩ = some (.int .i32 m)) ∧ (W.cell? ⟨w.heap.size + 1, 0, none⟩ = some (.int .u8 jo) ∧ W.cell? ⟨w.heap.size + 1, 1, none⟩ = some (.int .u8 jd) ∧ W.cell? ⟨w.heap.size + 1, 2, none⟩ = some (.int .u8 js) ∧ W.cell? ⟨w.heap.size + 1, 3, none⟩ = some (.int .i16 jf) ∧ W.cell? ⟨w.heap.size + 1, 4, none⟩ = some (.int .i32 jm))) := fun W hW => by
    subst hW0
    refine ⟨⟨hW.cell ?_ id, hW.cell ?_ id, hW.cell ?_ id, hW.cell ?_ id, hW.cell ?_ id⟩, ⟨hW.cell ?_ id, hW.cell ?_ id, hW.cell ?_ id, hW.cell ?_ id, hW.cell ?_ id⟩⟩ <;> go_simp
  have HF0 : Hid (Fr No w W0) := by rw [hW0]; exact ((Fr.refl _ _).alloc _).alloc _
  rw [← hW0]
  clear hW0
  obtain ⟨⟨g0, g1, g2, g3, g4⟩, ⟨l0, l1, l2, l3, l4⟩⟩ := H0.out W0 (Fr.refl _ _)
  go_wp2_with (go_at_call 22; (with_reducible refine (HCK.out _).mono ?_); rintro e w1 ⟨rfl, hf1⟩; have HF1 := Lib.hid (HF0.out.trans hf1); have HX1 := Lib.hid hf1; obtain ⟨⟨k0, k1, k2, k3, k4⟩, ⟨n0, n1, n2, n3, n4⟩⟩ := H0.out _ hf1; clear hf1 g0 g1 g2 g3 g4 l0 l1 l2 l3 l4)
  have HB : Hid (∀ W, Fr No w1 W → (W.cell? ⟨w.heap.size, 0, none⟩ = some (.int .u8 o) ∧ W.cell? ⟨w.heap.size, 1, none⟩ = some (.int .u8 d) ∧ W.cell? ⟨w.heap.size, 2, none⟩ = some (.int .u8 s) ∧ W.cell? ⟨w.heap.size, 3, none⟩ = some (.int .i16 f) ∧ W.cell? ⟨w.heap.size, 4, none⟩ = some (.int .i32 m)) ∧ (W.cell? ⟨w.heap.size + 1, 0, none⟩ = some (.int .u8 jo) ∧ W.cell? ⟨w.heap.size + 1, 1, none⟩ = some (.int .u8 jd) ∧ W.cell? ⟨w.heap.size + 1, 2, none⟩ = some (.int .u8 js) ∧ W.cell? ⟨w.heap.size + 1, 3, none⟩ = some (.int .i16 jf) ∧ W.cell? ⟨w.heap.size + 1, 4, none⟩ = some (.int .i32 jm)) ∧ Hid (Fr No w W)) := fun W h => by
    obtain ⟨a, b⟩ := H0.out _ (HX1.out.trans h)
    exact ⟨a, b, HF1.out.trans h⟩
  have HK : Hid (∀ W W', Fr No W W' → ((W.cell? ⟨w.heap.size, 0, none⟩ = some (.int .u8 o) ∧ W.cell? ⟨w.heap.size, 1, none⟩ = some (.int .u8 d) ∧ W.cell? ⟨w.heap.size, 2, none⟩ = some (.int .u8 s) ∧ W.cell? ⟨w.heap.size, 3, none⟩ = some (.int .i16 f) ∧ W.cell? ⟨w.heap.size, 4, none⟩ = some (.int .i32 m)) ∧ (W.cell? ⟨w.heap.size + 1, 0, none⟩ = some (.int .u8 jo) ∧ W.cell? ⟨w.heap.size + 1, 1, none⟩ = some (.int .u8 jd) ∧ W.cell? ⟨w.heap.size + 1, 2, none⟩ = some (.int .u8 js) ∧ W.cell? ⟨w.heap.size + 1, 3, none⟩ = some (.int .i16 jf) ∧ W.cell? ⟨w.heap.size + 1, 4, none⟩ = some (.int .i32 jm)) ∧ Hid (Fr No w W)) → ((W'.cell? ⟨w.heap.size, 0, none⟩ = some (.int .u8 o) ∧ W'.cell? ⟨w.heap.size, 1, none⟩ = some (.int .u8 d) ∧ W'.cell? ⟨w.heap.size, 2, none⟩ = some (.int .u8 s) ∧ W'.cell? ⟨w.heap.size, 3, none⟩ = some (.int .i16 f) ∧ W'.cell? ⟨w.heap.size, 4, none⟩ = some (.int .i32 m)) ∧ (W'.cell? ⟨w.heap.size + 1, 0, none⟩ = some (.int .u8 jo) ∧ W'.cell? ⟨w.heap.size + 1, 1, none⟩ = some (.int .u8 jd) ∧ W'.cell? ⟨w.heap.size + 1, 2, none⟩ = some (.int .u8 js) ∧ W'.cell? ⟨w.heap.size + 1, 3, none⟩ = some (.int .i16 jf) ∧ W'.cell? ⟨w.heap.size + 1, 4, none⟩ = some (.int .i32 jm)) ∧ Hid (Fr No w W'))) := fun W W' hf h =>
    ⟨⟨hf.cell h.1.1 id, hf.cell h.1.2.1 id, hf.cell h.1.2.2.1 id, hf.cell h.1.2.2.2.1 id, hf.cell h.1.2.2.2.2 id⟩, ⟨hf.cell h.2.1.1 id, hf.cell h.2.1.2.1 id, hf.cell h.2.1.2.2.1 id, hf.cell h.2.1.2.2.2.1 id, hf.cell h.2.1.2.2.2.2 id⟩, h.2.2.out.trans hf⟩
  have HL : Hid (∀ W, ((W.cell? ⟨w.heap.size, 0, none⟩ = some (.int .u8 o) ∧ W.cell? ⟨w.heap.size, 1, none⟩ = some (.int .u8 d) ∧ W.cell? ⟨w.heap.size, 2, none⟩ = some (.int .u8 s) ∧ W.cell? ⟨w.heap.size, 3, none⟩ = some (.int .i16 f) ∧ W.cell? ⟨w.heap.size, 4, none⟩ = some (.int .i32 m)) ∧ (W.cell? ⟨w.heap.size + 1, 0, none⟩ = some (.int .u8 jo) ∧ W.cell? ⟨w.heap.size + 1, 1, none⟩ = some (.int .u8 jd) ∧ W.cell? ⟨w.heap.size + 1, 2, none⟩ = some (.int .u8 js) ∧ W.cell? ⟨w.heap.size + 1, 3, none⟩ = some (.int .i16 jf) ∧ W.cell? ⟨w.heap.size + 1, 4, none⟩ = some (.int .i32 jm)) ∧ Hid (Fr No w W)) → LT W) := fun W h => HT.out _ h.2.2.out
  have HL2 : Hid (∀ W, ((W.cell? ⟨w.heap.size, 0, none⟩ = some (.int .u8 o) ∧ W.cell? ⟨w.heap.size, 1, none⟩ = some (.int .u8 d) ∧ W.cell? ⟨w.heap.size, 2, none⟩ = some (.int .u8 s) ∧ W.cell? ⟨w.heap.size, 3, none⟩ = some (.int .i16 f) ∧ W.cell? ⟨w.heap.size, 4, none⟩ = some (.int .i32 m)) ∧ (W.cell? ⟨w.heap.size + 1, 0, none⟩ = some (.int .u8 jo) ∧ W.cell? ⟨w.heap.size + 1, 1, none⟩ = some (.int .u8 jd) ∧ W.cell? ⟨w.heap.size + 1, 2, none⟩ = some (.int .u8 js) ∧ W.cell? ⟨w.heap.size + 1, 3, none⟩ = some (.int .i16 jf) ∧ W.cell? ⟨w.heap.size + 1, 4, none⟩ = some (.int .i32 jm)) ∧ Hid (Fr No w W)) → Fr No w W) := fun W h => h.2.2.out
  have hst : (w1.drew.cell? ⟨w.heap.size, 0, none⟩ = some (.int .u8 o) ∧ w1.drew.cell? ⟨w.heap.size, 1, none⟩ = some (.int .u8 d) ∧ w1.drew.cell? ⟨w.heap.size, 2, none⟩ = some (.int .u8 s) ∧ w1.drew.cell? ⟨w.heap.size, 3, none⟩ = some (.int .i16 f) ∧ w1.drew.cell? ⟨w.heap.size, 4, none⟩ = some (.int .i32 m)) ∧ (w1.drew.cell? ⟨w.heap.size + 1, 0, none⟩ = some (.int .u8 jo) ∧ w1.drew.cell? ⟨w.heap.size + 1, 1, none⟩ = some (.int .u8 jd) ∧ w1.drew.cell? ⟨w.heap.size + 1, 2, none⟩ = some (.int .u8 js) ∧ w1.drew.cell? ⟨w.heap.size + 1, 3, none⟩ = some (.int .i16 jf) ∧ w1.drew.cell? ⟨w.heap.size + 1, 4, none⟩ = some (.int .i32 jm)) ∧ Hid (Fr No w w1.drew) := HB.out _ (Fr.refl _ _).drew
  clear k0 k1 k2 k3 k4 n0 n1 n2 n3 n4
  go_region_held3 (fun W => (W.cell? ⟨w.heap.size, 0, none⟩ = some (.int .u8 o) ∧ W.cell? ⟨w.heap.size, 1, none⟩ = some (.int .u8 d) ∧ W.cell? ⟨w.heap.size, 2, none⟩ = some (.int .u8 s) ∧ W.cell? ⟨w.heap.size, 3, none⟩ = some (.int .i16 f) ∧ W.cell? ⟨w.heap.size, 4, none⟩ = some (.int .i32 m)) ∧ (W.cell? ⟨w.heap.size + 1, 0, none⟩ = some (.int .u8 jo) ∧ W.cell? ⟨w.heap.size + 1, 1, none⟩ = some (.int .u8 jd) ∧ W.cell? ⟨w.heap.size + 1, 2, none⟩ = some (.int .u8 js) ∧ W.cell? ⟨w.heap.size + 1, 3, none⟩ = some (.int .i16 jf) ∧ W.cell? ⟨w.heap.size + 1, 4, none⟩ = some (.int .i32 jm)) ∧ Hid (Fr No w W)) (first | assumption | exact HK.out _ _ (by assumption) (by assumption) | exact HK.out _ _ ((Fr.refl _ _).alloc _) (by assumption))
    (first
      | (go_at_call 50; (with_reducible refine (HR.out _ _ (by omega) (HL.out _ (by assumption))).mono ?_); rintro e w4 ⟨rfl, hf4⟩)
      | (go_at_call 21; (with_reducible refine (HN2.out _ (HL.out _ (by assumption))).mono ?_); rintro e w6 ⟨rfl, hf6⟩)
      | (go_at_call 53; (with_reducible refine (HFU.out _ (HL.out _ (by assumption))).mono ?_); rintro e w7 ⟨rfl, hf7⟩))
  all_goals go_wp2_with fail
  all_goals go_ret2
  all_goals exact ⟨_, rfl, StrsAt.new _ [[108, 100, 105, 109, 109], regN d, decN (uj * 4294967296 + um)] _ _ rfl, HL2.out _ (by assumption)⟩
end Go.Proofs.YthkdokkpiaaljaaGreatDoor
