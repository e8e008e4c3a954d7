/- Words in memory; strings.Join; lines.operand. lines.words, walked: a class of opcodes each. lines.double. progs.field: what is wrong with an instruction by itself. -/
import Derived.Test.YtakcdecljfmckaaGreatDoorCore15
import Derived.Test.YtakcdecljfmckaaGreatDoorCore12
import Derived.Deep.RegionHeld3
import Derived.Deep.QuietTactic
import Derived.BigQuiet
import Derived.Test.YtakcdecljfmckaaGreatDoorCore14
import Derived.Deep.CutBlock
import Derived.Laws.BitsAllLaws
import Derived.Test.YtakcdecljfmckaaGreatDoorCore5
set_option linter.all false
set_option linter.unusedVariables false
set_option linter.unusedSimpArgs false
namespace Go.Proofs.YtakcdecljfmckaaGreatDoor
open Go.RowKit

theorem strs_length (l : List (List UInt8)) : (strs l).length = l.length := by simp [strs]
/-- words at a slice's value -/
def StrsAt (w : World) (v : Value) (l : List (List UInt8)) : Prop := (l = [] ∧ ∃ a c, v = .slice a 0 c) ∨ ∃ g off cap, v = .slice (some ⟨g, off, none⟩) l.length cap ∧ g < w.heap.size ∧ l.length ≤ cap ∧ CellsAt w g off (strs l)
theorem StrsAt.fr {w w' : World} {v : Value} {l : List (List UInt8)} (h : StrsAt w v l) (hf : Fr No w w') : StrsAt w' v l := by
  rcases h with h | ⟨g, off, cap, rfl, hlt, hcap, hc⟩
  · exact .inl h
  · exact .inr ⟨g, off, cap, rfl, by have := hf.size; omega, hcap, hf.cells hc id⟩
theorem StrsAt.form {w : World} {v : Value} {l : List (List UInt8)} (h : StrsAt w v l) : ∃ a c, v = .slice a l.length c := by
  rcases h with ⟨rfl, a, c, rfl⟩ | ⟨g, off, cap, rfl, _⟩
  · exact ⟨a, c, rfl⟩
  · exact ⟨_, _, rfl⟩
/-- words that were just built -/
theorem StrsAt.new (w : World) (l : List (List UInt8)) (t : TypeId) (vs : Array Value) (h : vs = (strs l).toArray) : StrsAt (w.alloc (.cells vs t)) (.slice (some ⟨w.heap.size, 0, none⟩) l.length l.length) l := by
  subst h
  exact .inr ⟨w.heap.size, 0, l.length, rfl, by simp, Nat.le_refl _, CellsAt.new w _ t⟩

theorem join_w : ∀ l : List (List UInt8), Lib.join l [32] = joinW l
  | [] => rfl
  | [a] => by simp [Lib.join, joinW]
  | a :: b :: l => by
    have := join_w (b :: l)
    simp [Lib.join, joinW] at this ⊢
    exact this
theorem join_any (v : Value) (l : List (List UInt8)) (w : World) (h : StrsAt w v l) (hl : l.length ≤ 100000) (hn : (joinW l).length ≤ 10000000) : Calls Tryz.prog 68 #[v, .string ⟨#[32]⟩] w fun e w' => e = .returned (.string (bA (joinW l))) ∧ Fr No w w' := by
  rcases h with ⟨rfl, a, c, rfl⟩ | ⟨g, off, cap, rfl, hlt, hcap, hc⟩
  · refine (Tryz.strings_Join_none a c ⟨#[32]⟩ w).mono ?_
    rintro e w' ⟨rfl, rfl⟩
    exact ⟨rfl, Fr.refl _ _⟩
  · have hm : (l.map bA).map (·.data.toList) = l := by
      rw [List.map_map]
      conv => rhs; rw [← List.map_id l]
      apply List.map_congr_left
      intro a _
      simp [bA]
    have := Tryz.strings_Join g off cap (l.map bA) ⟨#[32]⟩ w (fun j x hx => by
      have : (strs l)[j]? = some (.string x) := by
        simp only [strs, List.getElem?_map, Option.map_eq_some_iff] at hx ⊢
        obtain ⟨a, ha, rfl⟩ := hx
        exact ⟨a, ha, rfl⟩
      exact hc j _ this) hlt (by rw [List.length_map]; omega) (by rw [List.length_map]; exact hcap) (by
        rw [hm]
        show (Lib.join l [32]).length ≤ _
        rw [join_w]
        omega)
    rw [List.length_map] at this
    refine this.mono ?_
    rintro e w' ⟨rfl, hb⟩
    rw [hm]
    exact ⟨by show Ending.returned (.string ⟨(Lib.join l [32]).toArray⟩) = _; rw [join_w]; rfl, Fr.of_below hb⟩

theorem jumps_len (k : Nat) : ((jumpN[k]?).getD []).length ≤ 1000 := by
  rcases Nat.lt_or_ge k 14 with h | h
  · have : ∀ k, k < 14 → ((jumpN[k]?).getD []).length ≤ 1000 := by decide
    exact this k h
  · rw [List.getElem?_eq_none (by simp [jumpN]; omega)]; simp
theorem ariths_len (k : Nat) : ((arithN[k]?).getD []).length ≤ 1000 := by
  rcases Nat.lt_or_ge k 13 with h | h
  · have : ∀ k, k < 13 → ((arithN[k]?).getD []).length ≤ 1000 := by decide
    exact this k h
  · rw [List.getElem?_eq_none (by simp [arithN]; omega)]; simp
end Go.Proofs.YtakcdecljfmckaaGreatDoor

namespace Go.Proofs.YtakcdecljfmckaaGreatDoor
open Go.RowKit

/-- a slice of words comes back -/
def SlStrs (l : List (List UInt8)) (w : World) (e : Ending) (w' : World) : Prop := ∃ v, e = .returned v ∧ StrsAt w' v l ∧ Fr No w w'

end Go.Proofs.YtakcdecljfmckaaGreatDoor

namespace Go.Proofs.YtakcdecljfmckaaGreatDoor
open Go.RowKit

theorem neq_ins (o1 d1 s1 f1 m1 o2 d2 s2 f2 m2 : Int) (w : World) : (binOp .neq 51 (.agg #[.int .u8 o1, .int .u8 d1, .int .u8 s1, .int .i16 f1, .int .i32 m1]) (.agg #[.int .u8 o2, .int .u8 d2, .int .u8 s2, .int .i16 f2, .int .i32 m2])).run Tryz.prog w = .ok (.bool (!(o1 == o2 && (d1 == d2 && (s1 == s2 && (f1 == f2 && m1 == m2)))))) w := by
  have u5 := Tryz.underlying5
  have a5 := Tryz.isAgg5
  have z5 := Tryz.sizeOf5
  have u9 := Tryz.underlying49
  have a9 := Tryz.isAgg49
  have z9 := Tryz.sizeOf49
  have u4 := Tryz.underlying21
  have a4 := Tryz.isAgg21
  have z4 := Tryz.sizeOf21
  have hS : Tryz.prog.underlying 51 = some (.struct (Tryz.prog.fieldsOf 51)) := by kernel_rfl
  have hp : Tryz.prog.stoodInHeld 51 = false := by kernel_rfl
  rw [run_neq_struct, show (10000 : Nat) = 9999 + 1 from rfl, run_equalIn_agg w 9999 _ _ _ hS hp]
  simp only [Program.fieldsOf, Tryz.underlying51]
  go_simp
  by_cases h1 : o1 = o2 <;> by_cases h2 : d1 = d2 <;> by_cases h3 : s1 = s2 <;> by_cases h4 : f1 = f2 <;> by_cases h5 : m1 = m2 <;> simp [h1, h2, h3, h4, h5]
theorem guard_ins (xs ys : Array Value) (op : BinOp) (x y : Operand) (w : World) : (eqGuard op 51 x y (.agg xs) (.agg ys)).run Tryz.prog w = .ok () w := run_eqGuard_agg w op _ x y xs ys (by kernel_rfl)

theorem or_wide {x y : Nat} (hy : y < 4294967296) (hx : x < 4294967296) : bits BinOp.or IntKind.u64 ((x : Int) * 4294967296) (y : Int) = (x : Int) * 4294967296 + (y : Int) := by
  have e : ((x : Int) * 4294967296) = ((x * 4294967296 : Nat) : Int) := by omega
  rw [e, u64_or_nat _ _ (by omega) (by omega)]
  have := Nat.two_pow_add_eq_or_of_lt (i := 32) (b := y) (by omega) x
  rw [show 2 ^ 32 * x = x * 4294967296 by omega] at this
  rw [← this]
  omega
/-- words and whether they are any -/
def SlOk (l : List (List UInt8)) (z : Bool) (w : World) (e : Ending) (w' : World) : Prop := ∃ v, e = .returned (.tuple #[v, .bool z]) ∧ StrsAt w' v l ∧ Fr No w w'
end Go.Proofs.YtakcdecljfmckaaGreatDoor

namespace Go.Proofs.YtakcdecljfmckaaGreatDoor
open Go.RowKit

def heIdx (x : Int) : Int := if x = 1 then 0 else if x = 2 then 1 else if x = 3 then 2 else if x = 7 then 3 else -1
set_option maxHeartbeats 1000000 in
theorem index32 (g : Nat) (x : Int) (w : World) (hc : CellsAt w g 0 [.int .i32 1, .int .i32 2, .int .i32 3, .int .i32 7]) :
    Calls Tryz.prog 109 #[.slice (some ⟨g, 0, none⟩) 4 4, .int .i32 x] w fun e w' => e = .returned (.int .i64 (heIdx x)) ∧ Fr No w w' := by
  have k0 : w.cell? ⟨g, 0, none⟩ = some (.int .i32 1) := hc 0 _ rfl
  have k1 : w.cell? ⟨g, 1, none⟩ = some (.int .i32 2) := hc 1 _ rfl
  have k2 : w.cell? ⟨g, 2, none⟩ = some (.int .i32 3) := hc 2 _ rfl
  have k3 : w.cell? ⟨g, 3, none⟩ = some (.int .i32 7) := hc 3 _ rfl
  clear hc
  unfold heIdx
  by_cases h1 : x = 1
  · rw [if_pos h1]
    subst h1
    go_enter Tryz.func109, Tryz.ntmps109
    go_wp2_with fail
    refine wp_loop_rounds 5 ?_
    iterate 1 (rw [rounds_succ]; go_wp2_with fail)
    go_ret
    exact ⟨rfl, Fr.refl _ _⟩
  rw [if_neg h1]
  by_cases h2 : x = 2
  · rw [if_pos h2]
    subst h2
    clear h1
    go_enter Tryz.func109, Tryz.ntmps109
    go_wp2_with fail
    refine wp_loop_rounds 5 ?_
    iterate 2 (rw [rounds_succ]; go_wp2_with fail)
    go_ret
    exact ⟨rfl, Fr.refl _ _⟩
  rw [if_neg h2]
  by_cases h3 : x = 3
  · rw [if_pos h3]
    subst h3
    clear h1 h2
    go_enter Tryz.func109, Tryz.ntmps109
    go_wp2_with fail
    refine wp_loop_rounds 5 ?_
    iterate 3 (rw [rounds_succ]; go_wp2_with fail)
    go_ret
    exact ⟨rfl, Fr.refl _ _⟩
  rw [if_neg h3]
  by_cases h7 : x = 7
  · rw [if_pos h7]
    subst h7
    clear h1 h2 h3
    go_enter Tryz.func109, Tryz.ntmps109
    go_wp2_with fail
    refine wp_loop_rounds 5 ?_
    iterate 4 (rw [rounds_succ]; go_wp2_with fail)
    go_ret
    exact ⟨rfl, Fr.refl _ _⟩
  rw [if_neg h7]
  have e1 : (x == 1) = false := by simpa using h1
  have e2 : (x == 2) = false := by simpa using h2
  have e3 : (x == 3) = false := by simpa using h3
  have e7 : (x == 7) = false := by simpa using h7
  clear h1 h2 h3 h7
  go_enter Tryz.func109, Tryz.ntmps109
  go_wp2_with fail
  refine wp_loop_rounds 5 ?_
  iterate 5 (rw [rounds_succ]; go_wp2_with fail)
  go_ret
  exact ⟨rfl, Fr.refl _ _⟩

set_option maxHeartbeats 400000 in
theorem contains32 (g : Nat) (x : Int) (w : World) (hc : CellsAt w g 0 [.int .i32 1, .int .i32 2, .int .i32 3, .int .i32 7]) :
    Calls Tryz.prog 77 #[.slice (some ⟨g, 0, none⟩) 4 4, .int .i32 x] w fun e w' => e = .returned (.bool (decide (x = 1 ∨ x = 2 ∨ x = 3 ∨ x = 7))) ∧ Fr No w w' := by
  have H := Lib.hid (index32 g x w hc)
  clear hc
  by_cases hx : x = 1 ∨ x = 2 ∨ x = 3 ∨ x = 7
  · rw [decide_eq_true hx]
    have h0 : 0 ≤ heIdx x := by unfold heIdx; rcases hx with rfl | rfl | rfl | rfl <;> decide
    generalize heIdx x = r at *
    clear hx
    go_enter Tryz.func77, Tryz.ntmps77
    go_wp2_with (go_at_call 109; (with_reducible refine (H.out).mono ?_); rintro e w' ⟨rfl, hf⟩)
    go_ret
    exact ⟨rfl, hf⟩
  · rw [decide_eq_false hx]
    have h0 : ¬ 0 ≤ heIdx x := by
      unfold heIdx
      rw [if_neg (fun h => hx (.inl h)), if_neg (fun h => hx (.inr (.inl h))), if_neg (fun h => hx (.inr (.inr (.inl h)))), if_neg (fun h => hx (.inr (.inr (.inr h))))]
      decide
    generalize heIdx x = r at *
    clear hx
    go_enter Tryz.func77, Tryz.ntmps77
    go_wp2_with (go_at_call 109; (with_reducible refine (H.out).mono ?_); rintro e w' ⟨rfl, hf⟩)
    go_ret
    exact ⟨by show Ending.returned (Value.bool (decide (0 ≤ r))) = _; rw [decide_eq_false (by omega)], hf⟩

/-- two instructions, as their cells are held against each other -/
def insNe (x y : Ins) : Bool := !((x.op : Int) == y.op && ((x.dst : Int) == y.dst && ((x.src : Int) == y.src && (x.off == y.off && x.imm == y.imm))))
theorem insNe_iff (x y : Ins) : insNe x y = true ↔ x ≠ y := by
  cases x; cases y
  simp [insNe]
  omega
theorem fr_src {w : World} {l : List Ins} {g off : Nat} (hc : CellsAt w g off (iflat l)) {W : World} (hf : Fr No w W) {pc : Nat} (h : pc < l.length) :
    W.cell? ⟨g, off + pc * 5, none⟩ = some (.int .u8 (insAt l pc).op) ∧ W.cell? ⟨g, off + pc * 5 + 1, none⟩ = some (.int .u8 (insAt l pc).dst) ∧ W.cell? ⟨g, off + pc * 5 + 2, none⟩ = some (.int .u8 (insAt l pc).src) ∧ W.cell? ⟨g, off + pc * 5 + 3, none⟩ = some (.int .i16 (insAt l pc).off) ∧ W.cell? ⟨g, off + pc * 5 + 4, none⟩ = some (.int .i32 (insAt l pc).imm) := ins_cells (hf.cells hc id) h

set_option maxRecDepth 100000 in
set_option maxHeartbeats 4000000 in
theorem pfield_any (l : List Ins) (v : Value) (pc : Nat) (maps : Int) (inner : Bool) (w : World) (hv : InsAt w v l) (hok : ∀ i ∈ l, i.ok) (hl : l.length ≤ 100000) (hpc : pc < l.length) :
    Calls Tryz.prog 53 #[v, .int .i64 pc, .int .i64 maps, .bool inner] w fun e w' => e = .returned (.int .i64 (fieldM l pc maps inner)) ∧ Fr No w w' := by
  rcases hv with ⟨rfl, _⟩ | ⟨g, off, cap, rfl, hc⟩
  · exact absurd hpc (Nat.not_lt_zero _)
  have hi : (insAt l pc).ok := by rw [insAt_ok hpc]; exact hok _ (List.getElem_mem hpc)
  have HIC : Hid (∀ W, Fr No w W → _) := fun W hf => fr_src hc hf hpc
  have HIN : Hid (∀ W, Fr No w W → pc + 1 < l.length → _) := fun W hf h => fr_src hc hf h
  obtain ⟨k0, k1, k2, k3, k4⟩ := HIC.out w (Fr.refl _ _)
  have HCK : Hid (∀ W, Calls Tryz.prog 76 #[.agg #[.int .u8 (insAt l pc).op, .int .u8 (insAt l pc).dst, .int .u8 (insAt l pc).src, .int .i16 (insAt l pc).off, .int .i32 (insAt l pc).imm], .bool inner] W fun e w' => e = .returned (.int .i64 (checkI (insAt l pc) inner)) ∧ Fr No W w') := fun W => icheck_any _ inner hi W
  have w0 : IntKind.i64.wrap (insAt l pc).imm = (insAt l pc).imm := IntWalk.i64_in _ (by have := hi.imm; omega)
  have w1 : wrap64 ((pc : Int) + 1) = ((pc + 1 : Nat) : Int) := by rw [IntWalk.wrap64_in _ (by omega)]; omega
  have w1q : IntKind.i64.wrap ((pc : Int) + 1) = ((pc + 1 : Nat) : Int) := by rw [IntWalk.i64_in _ (by omega)]; omega
  have p1 : (pc : Int) < (l.length : Int) := by omega
  have p2 : (0 : Int) ≤ (pc : Int) := by omega
  obtain ⟨R, hR⟩ : ∃ R, fieldM l pc maps inner = R := ⟨_, rfl⟩
  rw [hR]
  have HR : Hid (R = if checkI (insAt l pc) inner ≠ 0 then checkI (insAt l pc) inner
    else if (insAt l pc).op = 133 then (if (insAt l pc).imm = 1 ∨ (insAt l pc).imm = 2 ∨ (insAt l pc).imm = 3 ∨ (insAt l pc).imm = 7 then 0 else 45)
    else if (insAt l pc).op = 24 then
      if l.length ≤ pc + 1 ∨ insAt l (pc + 1) ≠ ⟨0, 0, 0, 0, (insAt l (pc + 1)).imm⟩ then 41
      else if (insAt l pc).src = 1 ∧ ((insAt l pc).imm < 0 ∨ maps ≤ (insAt l pc).imm ∨ (insAt l (pc + 1)).imm ≠ 0) then 44 else 0
    else 0) := hR.symm
  clear hR
  have HF1 : Hid (Fr No w (w.alloc (.cells #[.int .u8 (insAt l pc).op, .int .u8 (insAt l pc).dst, .int .u8 (insAt l pc).src, .int .i16 (insAt l pc).off, .int .i32 (insAt l pc).imm] 51))) := (Fr.refl _ _).alloc _
  have HCN : Hid (CellsAt (w.alloc (.cells #[.int .u8 (insAt l pc).op, .int .u8 (insAt l pc).dst, .int .u8 (insAt l pc).src, .int .i16 (insAt l pc).off, .int .i32 (insAt l pc).imm] 51)) w.heap.size 0 [.int .u8 (insAt l pc).op, .int .u8 (insAt l pc).dst, .int .u8 (insAt l pc).src, .int .i16 (insAt l pc).off, .int .i32 (insAt l pc).imm]) := CellsAt.new w _ _
  obtain ⟨n, hn⟩ : ∃ n, l.length = n := ⟨_, rfl⟩
  rw [hn] at HR p1 hl hpc HIN ⊢
  clear hn hc hi hok HIC
  obtain ⟨J, hJ⟩ : ∃ J, insAt l (pc + 1) = J := ⟨_, rfl⟩
  rw [hJ] at HR HIN
  obtain ⟨ck, hck⟩ : ∃ ck, checkI (insAt l pc) inner = ck := ⟨_, rfl⟩
  rw [hck] at HR HCK
  clear hJ hck
  generalize (insAt l pc).op = o0 at *
  generalize (insAt l pc).dst = o1 at *
  generalize (insAt l pc).src = o2 at *
  generalize (insAt l pc).off = o3 at *
  generalize (insAt l pc).imm = o4 at *
  have q0 : ((o0 : Int) == 133) = (o0 == 133) := beq_nat _ 133
  have q1 : ((o0 : Int) == 24) = (o0 == 24) := beq_nat _ 24
  have q2 : ((o2 : Int) == 1) = (o2 == 1) := beq_nat _ 1
  go_enter Tryz.func53, Tryz.ntmps53
  go_upto_region 2 with fail
  generalize w.alloc (.cells #[.int .u8 o0, .int .u8 o1, .int .u8 o2, .int .i16 o3, .int .i32 o4] 51) = W1 at *
  generalize w.heap.size = b at *
  have HCC : Hid (∀ W, Fr No W1 W → W.cell? ⟨b, 0, none⟩ = some (.int .u8 o0) ∧ W.cell? ⟨b, 1, none⟩ = some (.int .u8 o1) ∧ W.cell? ⟨b, 2, none⟩ = some (.int .u8 o2) ∧ W.cell? ⟨b, 3, none⟩ = some (.int .i16 o3) ∧ W.cell? ⟨b, 4, none⟩ = some (.int .i32 o4) ∧ True) := fun W hf => by
    have h := hf.cells HCN.out id
    exact ⟨h 0 _ rfl, h 1 _ rfl, h 2 _ rfl, h 3 _ rfl, h 4 _ rfl, trivial⟩
  obtain ⟨c0, c1, c2, c3, c4, c5⟩ := HCC.out W1 (Fr.refl _ _)
  clear k0 k1 k2 k3 k4
  have HFa : Hid (Fr No W1 W1) := Fr.refl _ _
  have HB : Hid (pc < n ∧ n ≤ 100000) := ⟨hpc, hl⟩
  clear HCN hpc hl
  have fin : Hid (∀ W (x : Int), Fr No W1 W → x = R → (Ending.returned (Value.int .i64 x) = Ending.returned (Value.int .i64 R) ∧ Fr No w W)) := fun W x hf hx => ⟨by rw [hx], HF1.out.trans hf⟩
  by_cases hck : ck = 0
  case neg =>
    have e0 : Hid (ck = R) := by rw [HR.out, if_pos hck]; exact Lib.hid rfl
    have e1 : (ck != 0) = true := by simpa using hck
    clear HR hck q0 q1 q2
    go_wp2_with (go_at_call 76; (with_reducible refine (HCK.out _).mono ?_); rintro e w9 ⟨rfl, hf1⟩; have HFa := Lib.hid (HFa.out.trans hf1); obtain ⟨c0, c1, c2, c3, c4, c5⟩ := HCC.out _ HFa.out)
    go_ret
    exact fin.out _ _ HFa.out e0.out
  subst hck
  go_upto_region 5 with (go_at_call 76; (with_reducible refine (HCK.out _).mono ?_); rintro e w9 ⟨rfl, hf1⟩; have HFa := Lib.hid (HFa.out.trans hf1); obtain ⟨c0, c1, c2, c3, c4, c5⟩ := HCC.out _ HFa.out)
  by_cases h133 : o0 = 133
  · have HR2 : Hid (R = if o4 = 1 ∨ o4 = 2 ∨ o4 = 3 ∨ o4 = 7 then 0 else 45) := by rw [HR.out, if_neg (by simp), if_pos h133]; exact Lib.hid rfl
    subst h133
    clear HR q0 q1 q2
    have c4' := (HCC.out (w9.alloc (.cells #[.int .i32 1, .int .i32 2, .int .i32 3, .int .i32 7] 21)) (HFa.out.alloc _)).2.2.2.2.1
    obtain ⟨x, hx⟩ : ∃ x : Bool, decide (o4 = 1 ∨ o4 = 2 ∨ o4 = 3 ∨ o4 = 7) = x := ⟨_, rfl⟩
    have HC32 : Hid (∀ g W, CellsAt W g 0 [.int .i32 1, .int .i32 2, .int .i32 3, .int .i32 7] → Calls Tryz.prog 77 #[.slice (some ⟨g, 0, none⟩) 4 4, .int .i32 o4] W fun e w' => e = .returned (.bool x) ∧ Fr No W w') := fun g W h => hx ▸ contains32 g o4 W h
    have HX := Lib.hid hx
    clear hx
    cases x
    · have e0 : Hid (R = 45) := by rw [HR2.out, if_neg (of_decide_eq_false HX.out)]; exact Lib.hid rfl
      go_wp2_with (go_at_call 77; (refine (HC32.out _ _ (CellsAt.new _ [.int .i32 1, .int .i32 2, .int .i32 3, .int .i32 7] _)).mono ?_); rintro e w9 ⟨rfl, hf1⟩; have HFa := Lib.hid ((HFa.out.alloc _).trans hf1))
      go_ret
      exact fin.out _ _ (by first | exact HFa.out | exact HFa.out.drewN _) e0.out.symm
    · have e0 : Hid (R = 0) := by rw [HR2.out, if_pos (of_decide_eq_true HX.out)]; exact Lib.hid rfl
      go_wp2_with (go_at_call 77; (refine (HC32.out _ _ (CellsAt.new _ [.int .i32 1, .int .i32 2, .int .i32 3, .int .i32 7] _)).mono ?_); rintro e w9 ⟨rfl, hf1⟩; have HFa := Lib.hid ((HFa.out.alloc _).trans hf1))
      go_ret
      exact fin.out _ _ (by first | exact HFa.out | exact HFa.out.drewN _) e0.out.symm
  rw [show (o0 == 133) = false from by simpa using h133] at q0
  by_cases h24 : o0 = 24
  · rw [show (o0 == 24) = true from by simpa using h24] at q1
    have HR2 : Hid (R = if n ≤ pc + 1 ∨ J ≠ ⟨0, 0, 0, 0, J.imm⟩ then 41 else if o2 = 1 ∧ (o4 < 0 ∨ maps ≤ o4 ∨ J.imm ≠ 0) then 44 else 0) := by rw [HR.out, if_neg (by simp), if_neg h133, if_pos h24]; exact Lib.hid rfl
    clear HR h133
    subst h24
    rcases Nat.lt_or_ge (pc + 1) n with hn | hn
    case inr =>
      have e0 : Hid (R = 41) := by rw [HR2.out, if_pos (.inl hn)]; exact Lib.hid rfl
      have p3 : (n : Int) ≤ ((pc + 1 : Nat) : Int) := by omega
      have p3q : decide ((n : Int) ≤ (pc : Int) + 1) = true := decide_eq_true (by omega)
      clear hn HR2 q2
      go_upto_region 10 with fail
      go_quiet (fail)
      go_wp2_with fail
      go_ret
      exact fin.out _ _ (by first | exact HFa.out | exact HFa.out.drewN _) e0.out.symm
    have hnn := Lib.hid hn
    obtain ⟨j0, j1, j2, j3, j4⟩ := HIN.out _ (HF1.out.trans HFa.out) hn
    have p3 : ¬ (n : Int) ≤ ((pc + 1 : Nat) : Int) := by omega
    have p3q : decide ((n : Int) ≤ (pc : Int) + 1) = false := decide_eq_false (by omega)
    have p4q : (pc : Int) + 1 < (n : Int) := by omega
    have p5q : (0 : Int) ≤ (pc : Int) + 1 := by omega
    have p4 : ((pc + 1 : Nat) : Int) < (n : Int) := by omega
    have p5 : (0 : Int) ≤ ((pc + 1 : Nat) : Int) := by omega
    obtain ⟨r, qn, hr⟩ : ∃ r : Bool, (∀ w, (binOp .neq 51 (.agg #[.int .u8 J.op, .int .u8 J.dst, .int .u8 J.src, .int .i16 J.off, .int .i32 J.imm]) (.agg #[.int .u8 0, .int .u8 0, .int .u8 0, .int .i16 0, .int .i32 J.imm])).run Tryz.prog w = .ok (.bool r) w) ∧ (r = true ↔ J ≠ ⟨0, 0, 0, 0, J.imm⟩) :=
      ⟨insNe J ⟨0, 0, 0, 0, J.imm⟩, fun w => neq_ins _ _ _ _ _ _ _ _ _ _ w, insNe_iff _ _⟩
    have HRR := Lib.hid hr
    clear hr HIN HCC hn
    cases r
    case true =>
      have e0 : Hid (R = 41) := by rw [HR2.out, if_pos (.inr (HRR.out.1 rfl))]; exact Lib.hid rfl
      clear HR2 q2
      generalize J.op = y0 at *
      generalize J.dst = y1 at *
      generalize J.src = y2 at *
      generalize J.off = y3 at *
      generalize J.imm = y4 at *
      go_upto_region 10 with fail
      go_quiet (fail)
      go_wp2_with fail
      go_ret
      exact fin.out _ _ (by first | exact HFa.out | exact HFa.out.drewN _) e0.out.symm
    have HR3 : Hid (R = if o2 = 1 ∧ (o4 < 0 ∨ maps ≤ o4 ∨ J.imm ≠ 0) then 44 else 0) := by rw [HR2.out, if_neg (fun h => by rcases h with h | h; exact absurd h (by have := hnn.out; omega); exact absurd (HRR.out.2 h) (by simp))]; exact Lib.hid rfl
    clear HR2 HRR
    generalize J.op = y0 at *
    generalize J.dst = y1 at *
    generalize J.src = y2 at *
    generalize J.off = y3 at *
    generalize J.imm = y4 at *
    go_upto_region 10 with fail
    go_quiet (fail)
    go_upto_region 12 with fail
    by_cases h1 : o2 = 1
    case neg =>
      rw [show (o2 == 1) = false from by simpa using h1] at q2
      have e0 : Hid (R = 0) := by rw [HR3.out, if_neg (fun h => h1 h.1)]; exact Lib.hid rfl
      clear HR3 h1
      go_wp2_with fail
      go_ret
      exact fin.out _ _ (by first | exact HFa.out | exact HFa.out.drewN _) e0.out.symm
    rw [show (o2 == 1) = true from by simpa using h1] at q2
    by_cases h2 : o4 < 0
    case pos =>
      have e0 : Hid (R = 44) := by rw [HR3.out, if_pos ⟨h1, .inl h2⟩]; exact Lib.hid rfl
      clear HR3 h1
      go_wp2_with fail
      go_ret
      exact fin.out _ _ (by first | exact HFa.out | exact HFa.out.drewN _) e0.out.symm
    by_cases h3 : maps ≤ o4
    case pos =>
      have e0 : Hid (R = 44) := by rw [HR3.out, if_pos ⟨h1, .inr (.inl h3)⟩]; exact Lib.hid rfl
      clear HR3 h1
      go_wp2_with fail
      go_ret
      exact fin.out _ _ (by first | exact HFa.out | exact HFa.out.drewN _) e0.out.symm
    by_cases h4 : y4 = 0
    case pos =>
      have e0 : Hid (R = 0) := by rw [HR3.out, if_neg (fun h => by rcases h.2 with h | h | h; exact h2 h; exact h3 h; exact h h4)]; exact Lib.hid rfl
      have q4 : (y4 != 0) = false := by simpa using h4
      clear HR3 h1 h4
      go_wp2_with fail
      go_ret
      exact fin.out _ _ (by first | exact HFa.out | exact HFa.out.drewN _) e0.out.symm
    · have e0 : Hid (R = 44) := by rw [HR3.out, if_pos ⟨h1, .inr (.inr h4)⟩]; exact Lib.hid rfl
      have q4 : (y4 != 0) = true := by simpa using h4
      clear HR3 h1 h4
      go_wp2_with fail
      go_ret
      exact fin.out _ _ (by first | exact HFa.out | exact HFa.out.drewN _) e0.out.symm
  · rw [show (o0 == 24) = false from by simpa using h24] at q1
    have e0 : Hid (R = 0) := by rw [HR.out, if_neg (by simp), if_neg h133, if_neg h24]; exact Lib.hid rfl
    clear HR h133 h24 q2
    go_wp2_with fail
    go_ret
    exact fin.out _ _ (by first | exact HFa.out | exact HFa.out.drewN _) e0.out.symm
end Go.Proofs.YtakcdecljfmckaaGreatDoor
