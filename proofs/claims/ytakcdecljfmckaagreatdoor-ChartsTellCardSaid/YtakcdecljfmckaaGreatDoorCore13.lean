/- progs.way: where an instruction leads. The layings of the builder's copyCheck and WriteString. package lines: what its walks ask of the world; numerals. strconv.FormatUint at base 10. Words in memory; strings.Join; lines.operand. lines.words, walked: a class of opcodes each. lines.double. -/
import Derived.Test.YtakcdecljfmckaaGreatDoorCore12
import Derived.Test.YtakcdecljfmckaaGreatDoorShelf
import Derived.Shelf.Strings.Builder1
import Derived.Lib.Hide
import Derived.Lib.AppendIntMem
import Derived.Maps.OwnSet
import Derived.Shelf.Unicode.DecodeSlow
import Derived.Shelf.Strconv.Itoa3
import Derived.Test.YtakcdecljfmckaaGreatDoorCore10
import Derived.Deep.RegionHeld3
import Derived.Deep.QuietTactic
import Derived.BigQuiet
import Derived.Deep.CutBlock
import Derived.Laws.BitsAllLaws
set_option linter.all false
set_option linter.unusedVariables false
set_option linter.unusedSimpArgs false
namespace Go.Proofs.YtakcdecljfmckaaGreatDoor
open Go.RowKit

set_option maxRecDepth 100000 in
set_option maxHeartbeats 4000000 in
theorem way_any (l : List Ins) (v : Value) (gf : Nat) (F : List Nat) (pc : Nat) (w : World) (hv : InsAt w v l) (hm : MarksAt w gf l.length F) (hok : ∀ i ∈ l, i.ok) (hl : l.length ≤ 100000) (hpc : pc < l.length) :
    Calls Tryz.prog 55 #[v, .slice (some ⟨gf, 0, none⟩) l.length l.length, .int .i64 pc] w fun e w' => e = .returned (.int .i64 (wayM l (fun k => F.contains k) pc)) ∧ Fr No w w' := by
  rcases hv with ⟨rfl, _⟩ | ⟨g, off, cap, rfl, hc⟩
  · exact absurd hpc (Nat.not_lt_zero _)
  have hi : (insAt l pc).ok := by rw [insAt_ok hpc]; exact hok _ (List.getElem_mem hpc)
  obtain ⟨k0, k1, k2, k3, k4⟩ := ins_cells hc hpc
  have HM := Lib.hid hm
  have HJ : Hid (∀ W, Calls Tryz.prog 40 #[.agg #[.int .u8 (insAt l pc).op, .int .u8 (insAt l pc).dst, .int .u8 (insAt l pc).src, .int .i16 (insAt l pc).off, .int .i32 (insAt l pc).imm]] W fun e w' => e = .returned (.bool (jumpsM (insAt l pc))) ∧ Fr No W w') := fun W => pjumps_any _ hi.op W
  have HE : Hid (∀ W, Calls Tryz.prog 37 #[.agg #[.int .u8 (insAt l pc).op, .int .u8 (insAt l pc).dst, .int .u8 (insAt l pc).src, .int .i16 (insAt l pc).off, .int .i32 (insAt l pc).imm]] W fun e w' => e = .returned (.bool (endsM (insAt l pc))) ∧ Fr No W w') := fun W => pends_any _ hi.op W
  have HA : Hid (∀ W, Calls Tryz.prog 38 #[.agg #[.int .u8 (insAt l pc).op, .int .u8 (insAt l pc).dst, .int .u8 (insAt l pc).src, .int .i16 (insAt l pc).off, .int .i32 (insAt l pc).imm]] W fun e w' => e = .returned (.bool (alwaysM (insAt l pc))) ∧ Fr No W w') := fun W => palways_any _ hi.op W
  have HS : Hid (∀ W, Calls Tryz.prog 39 #[.agg #[.int .u8 (insAt l pc).op, .int .u8 (insAt l pc).dst, .int .u8 (insAt l pc).src, .int .i16 (insAt l pc).off, .int .i32 (insAt l pc).imm]] W fun e w' => e = .returned (.int .i64 (sizeM (insAt l pc))) ∧ Fr No W w') := fun W => psize_any _ W
  have HOF := Lib.hid hi.off
  have w1 : wrap64 ((pc : Int) + 1) = (pc : Int) + 1 := IntWalk.wrap64_in _ (by omega)
  have w0 : IntKind.i64.wrap (insAt l pc).off = (insAt l pc).off := IntWalk.i64_in _ (by have := hi.off; omega)
  have w2 : wrap64 ((pc : Int) + 1 + (insAt l pc).off) = (pc : Int) + 1 + (insAt l pc).off := IntWalk.wrap64_in _ (by have := hi.off; omega)
  have hz := sizeM_pos (insAt l pc)
  have w3 : wrap64 ((pc : Int) + (sizeM (insAt l pc) : Int)) = (pc : Int) + (sizeM (insAt l pc) : Int) := IntWalk.wrap64_in _ (by omega)
  have p1 : (pc : Int) < (l.length : Int) := by omega
  have p2 : (0 : Int) ≤ (pc : Int) := by omega
  obtain ⟨R, hR⟩ : ∃ R, wayM l (fun k => F.contains k) pc = R := ⟨_, rfl⟩
  rw [hR]
  have HR : Hid (R = if jumpsM (insAt l pc) = true ∧ ((pc : Int) + 1 + (insAt l pc).off < 0 ∨ (l.length : Int) ≤ (pc : Int) + 1 + (insAt l pc).off) then 40
      else if jumpsM (insAt l pc) = true ∧ F.contains ((pc : Int) + 1 + (insAt l pc).off).toNat = false then 41
      else if endsM (insAt l pc) = false ∧ alwaysM (insAt l pc) = false ∧ l.length ≤ pc + sizeM (insAt l pc) then 43 else 0) := hR.symm
  clear hR
  have HF1 : Hid (Fr No w (w.alloc (.cells #[.int .u8 (insAt l pc).op, .int .u8 (insAt l pc).dst, .int .u8 (insAt l pc).src, .int .i16 (insAt l pc).off, .int .i32 (insAt l pc).imm] 51))) := (Fr.refl _ _).alloc _
  have HCN : Hid (CellsAt (w.alloc (.cells #[.int .u8 (insAt l pc).op, .int .u8 (insAt l pc).dst, .int .u8 (insAt l pc).src, .int .i16 (insAt l pc).off, .int .i32 (insAt l pc).imm] 51)) w.heap.size 0 [.int .u8 (insAt l pc).op, .int .u8 (insAt l pc).dst, .int .u8 (insAt l pc).src, .int .i16 (insAt l pc).off, .int .i32 (insAt l pc).imm]) := CellsAt.new w _ _
  obtain ⟨n, hn⟩ : ∃ n, l.length = n := ⟨_, rfl⟩
  rw [hn] at HR HM p1 hl hpc ⊢
  obtain ⟨q, hto⟩ : ∃ q, (pc : Int) + 1 + (insAt l pc).off = q := ⟨_, rfl⟩
  rw [hto] at HR
  replace w2 := w2.trans hto
  clear hn hc hm hi hok HOF hto
  generalize jumpsM (insAt l pc) = J at *
  generalize endsM (insAt l pc) = E at *
  generalize alwaysM (insAt l pc) = A at *
  generalize sizeM (insAt l pc) = z at *
  generalize (insAt l pc).op = o0 at *
  generalize (insAt l pc).dst = o1 at *
  generalize (insAt l pc).src = o2 at *
  generalize (insAt l pc).off = o3 at *
  generalize (insAt l pc).imm = o4 at *
  go_enter Tryz.func55, Tryz.ntmps55
  go_upto_region 2 with fail
  generalize w.alloc (.cells #[.int .u8 o0, .int .u8 o1, .int .u8 o2, .int .i16 o3, .int .i32 o4] 51) = W1 at *
  generalize w.heap.size = b at *
  have HCC : Hid (∀ W, Fr No W1 W → W.cell? ⟨b, 0, none⟩ = some (.int .u8 o0) ∧ W.cell? ⟨b, 1, none⟩ = some (.int .u8 o1) ∧ W.cell? ⟨b, 2, none⟩ = some (.int .u8 o2) ∧ W.cell? ⟨b, 3, none⟩ = some (.int .i16 o3) ∧ W.cell? ⟨b, 4, none⟩ = some (.int .i32 o4) ∧ (0 ≤ q → q < (n : Int) → W.cell? ⟨gf, q.toNat, none⟩ = some (.bool (F.contains q.toNat)))) := fun W hf => by
    have h := hf.cells HCN.out id
    exact ⟨h 0 _ rfl, h 1 _ rfl, h 2 _ rfl, h 3 _ rfl, h 4 _ rfl, fun h1 h2 => ((BoolsAt.fr HM.out (HF1.out.trans hf)) q.toNat (by omega)).1⟩
  obtain ⟨c0, c1, c2, c3, c4, mk⟩ := HCC.out W1 (Fr.refl _ _)
  clear k0 k1 k2 k3 k4
  have HFa : Hid (Fr No W1 W1) := Fr.refl _ _
  have HZ : Hid (1 ≤ z ∧ z ≤ 2) := hz
  have HB : Hid (pc < n ∧ n ≤ 100000) := ⟨hpc, hl⟩
  clear HCN hz hpc hl HM
  have fin : Hid (∀ W (x : Int), Fr No W1 W → x = R → (Ending.returned (Value.int .i64 x) = Ending.returned (Value.int .i64 R) ∧ Fr No w W)) := fun W x hf hx => ⟨by rw [hx], HF1.out.trans hf⟩
  have last : Hid (∀ (b1 b2 : Bool), b1 = true ∨ b1 = false) := fun b1 _ => by cases b1 <;> simp
  clear last
  have tail : Hid ((J = false ∨ (0 ≤ q ∧ q < (n : Int) ∧ F.contains q.toNat = true)) → R = if E = false ∧ A = false ∧ n ≤ pc + z then 43 else 0) := fun h => by
    rw [HR.out]
    rcases h with h | ⟨h1, h2, h3⟩
    · rw [if_neg (by rw [h]; simp), if_neg (by rw [h]; simp)]
    · rw [if_neg (fun hh => by rcases hh.2 with h4 | h4 <;> omega), if_neg (fun hh => by rw [h3] at hh; cases hh.2)]
  cases J
  case false =>
    have ht := Lib.hid (tail.out (.inl rfl))
    clear tail HR mk w2
    cases E <;> cases A <;> rcases Nat.lt_or_ge (pc + z) n with hzz | hzz
    all_goals have HZZ := Lib.hid hzz
    all_goals first | (have g1 : ¬ (n : Int) ≤ (pc : Int) + (z : Int) := by omega) | (have g1 : (n : Int) ≤ (pc : Int) + (z : Int) := by omega)
    all_goals clear hzz
    all_goals go_wp2_with (first | (go_at_call 40; (with_reducible refine (HJ.out _).mono ?_); rintro e w9 ⟨rfl, hf1⟩; have HFa := Lib.hid (HFa.out.trans hf1); obtain ⟨c0, c1, c2, c3, c4, mk⟩ := HCC.out _ HFa.out) | (go_at_call 37; (with_reducible refine (HE.out _).mono ?_); rintro e w9 ⟨rfl, hf1⟩; have HFa := Lib.hid (HFa.out.trans hf1); obtain ⟨c0, c1, c2, c3, c4, mk⟩ := HCC.out _ HFa.out) | (go_at_call 38; (with_reducible refine (HA.out _).mono ?_); rintro e w9 ⟨rfl, hf1⟩; have HFa := Lib.hid (HFa.out.trans hf1); obtain ⟨c0, c1, c2, c3, c4, mk⟩ := HCC.out _ HFa.out) | (go_at_call 39; (with_reducible refine (HS.out _).mono ?_); rintro e w9 ⟨rfl, hf1⟩; have HFa := Lib.hid (HFa.out.trans hf1); obtain ⟨c0, c1, c2, c3, c4, mk⟩ := HCC.out _ HFa.out))
    all_goals go_ret
    all_goals refine fin.out _ _ HFa.out ?_
    all_goals rw [ht.out]
    all_goals have hz9 := HZZ.out
    all_goals first
      | (rw [if_pos (by simp; try omega)]; done)
      | (rw [if_neg (by simp; try omega)]; done)
  case true =>
    rcases Int.lt_or_le q 0 with hq | hq
    · have e0 : Hid (R = 40) := by rw [HR.out, if_pos ⟨rfl, .inl hq⟩]; exact Lib.hid rfl
      clear tail HR mk
      go_wp2_with (first | (go_at_call 40; (with_reducible refine (HJ.out _).mono ?_); rintro e w9 ⟨rfl, hf1⟩; have HFa := Lib.hid (HFa.out.trans hf1); obtain ⟨c0, c1, c2, c3, c4, mk⟩ := HCC.out _ HFa.out) | (go_at_call 37; (with_reducible refine (HE.out _).mono ?_); rintro e w9 ⟨rfl, hf1⟩; have HFa := Lib.hid (HFa.out.trans hf1); obtain ⟨c0, c1, c2, c3, c4, mk⟩ := HCC.out _ HFa.out) | (go_at_call 38; (with_reducible refine (HA.out _).mono ?_); rintro e w9 ⟨rfl, hf1⟩; have HFa := Lib.hid (HFa.out.trans hf1); obtain ⟨c0, c1, c2, c3, c4, mk⟩ := HCC.out _ HFa.out) | (go_at_call 39; (with_reducible refine (HS.out _).mono ?_); rintro e w9 ⟨rfl, hf1⟩; have HFa := Lib.hid (HFa.out.trans hf1); obtain ⟨c0, c1, c2, c3, c4, mk⟩ := HCC.out _ HFa.out))
      go_ret
      exact fin.out _ _ HFa.out e0.out.symm
    rcases Int.lt_or_le q (n : Int) with hq2 | hq2
    · obtain ⟨k, rfl⟩ : ∃ k : Nat, q = (k : Int) := ⟨q.toNat, by omega⟩
      have HCC2 : Hid (∀ W, Fr No W1 W → W.cell? ⟨b, 0, none⟩ = some (.int .u8 o0) ∧ W.cell? ⟨b, 1, none⟩ = some (.int .u8 o1) ∧ W.cell? ⟨b, 2, none⟩ = some (.int .u8 o2) ∧ W.cell? ⟨b, 3, none⟩ = some (.int .i16 o3) ∧ W.cell? ⟨b, 4, none⟩ = some (.int .i32 o4) ∧ W.cell? ⟨gf, k, none⟩ = some (.bool (F.contains k))) := fun W hf => by
        obtain ⟨a0, a1, a2, a3, a4, a5⟩ := HCC.out W hf
        exact ⟨a0, a1, a2, a3, a4, a5 hq hq2⟩
      have HR2 : Hid (R = if F.contains k = false then 41 else if E = false ∧ A = false ∧ n ≤ pc + z then 43 else 0) := by
        rw [HR.out, Int.toNat_natCast, if_neg (fun hh => by rcases hh.2 with h4 | h4 <;> omega)]
        cases F.contains k <;> exact Lib.hid (by simp)
      clear HCC HR tail mk c0 c1 c2 c3 c4
      have HCC := HCC2
      clear HCC2
      obtain ⟨c0, c1, c2, c3, c4, mk⟩ := HCC.out W1 (Fr.refl _ _)
      have g2 : ¬ (k : Int) < 0 := by omega
      have g3 : ¬ (n : Int) ≤ (k : Int) := by omega
      generalize F.contains k = fk at *
      cases fk
      · have e0 : Hid (R = 41) := by rw [HR2.out, if_pos rfl]; exact Lib.hid rfl
        clear HR2
        go_wp2_with (first | (go_at_call 40; (with_reducible refine (HJ.out _).mono ?_); rintro e w9 ⟨rfl, hf1⟩; have HFa := Lib.hid (HFa.out.trans hf1); obtain ⟨c0, c1, c2, c3, c4, mk⟩ := HCC.out _ HFa.out) | (go_at_call 37; (with_reducible refine (HE.out _).mono ?_); rintro e w9 ⟨rfl, hf1⟩; have HFa := Lib.hid (HFa.out.trans hf1); obtain ⟨c0, c1, c2, c3, c4, mk⟩ := HCC.out _ HFa.out) | (go_at_call 38; (with_reducible refine (HA.out _).mono ?_); rintro e w9 ⟨rfl, hf1⟩; have HFa := Lib.hid (HFa.out.trans hf1); obtain ⟨c0, c1, c2, c3, c4, mk⟩ := HCC.out _ HFa.out) | (go_at_call 39; (with_reducible refine (HS.out _).mono ?_); rintro e w9 ⟨rfl, hf1⟩; have HFa := Lib.hid (HFa.out.trans hf1); obtain ⟨c0, c1, c2, c3, c4, mk⟩ := HCC.out _ HFa.out))
        go_ret
        exact fin.out _ _ HFa.out e0.out.symm
      · have ht : Hid (R = if E = false ∧ A = false ∧ n ≤ pc + z then 43 else 0) := by rw [HR2.out, if_neg (by simp)]; exact Lib.hid rfl
        clear HR2
        cases E <;> cases A <;> rcases Nat.lt_or_ge (pc + z) n with hzz | hzz
        all_goals have HZZ := Lib.hid hzz
        all_goals first | (have g1 : ¬ (n : Int) ≤ (pc : Int) + (z : Int) := by omega) | (have g1 : (n : Int) ≤ (pc : Int) + (z : Int) := by omega)
        all_goals clear hzz
        all_goals go_wp2_with (first | (go_at_call 40; (with_reducible refine (HJ.out _).mono ?_); rintro e w9 ⟨rfl, hf1⟩; have HFa := Lib.hid (HFa.out.trans hf1); obtain ⟨c0, c1, c2, c3, c4, mk⟩ := HCC.out _ HFa.out) | (go_at_call 37; (with_reducible refine (HE.out _).mono ?_); rintro e w9 ⟨rfl, hf1⟩; have HFa := Lib.hid (HFa.out.trans hf1); obtain ⟨c0, c1, c2, c3, c4, mk⟩ := HCC.out _ HFa.out) | (go_at_call 38; (with_reducible refine (HA.out _).mono ?_); rintro e w9 ⟨rfl, hf1⟩; have HFa := Lib.hid (HFa.out.trans hf1); obtain ⟨c0, c1, c2, c3, c4, mk⟩ := HCC.out _ HFa.out) | (go_at_call 39; (with_reducible refine (HS.out _).mono ?_); rintro e w9 ⟨rfl, hf1⟩; have HFa := Lib.hid (HFa.out.trans hf1); obtain ⟨c0, c1, c2, c3, c4, mk⟩ := HCC.out _ HFa.out))
        all_goals go_ret
        all_goals refine fin.out _ _ HFa.out ?_
        all_goals rw [ht.out]
        all_goals have hz9 := HZZ.out
        all_goals first
          | (rw [if_pos (by simp; try omega)]; done)
          | (rw [if_neg (by simp; try omega)]; done)
    · have e0 : Hid (R = 40) := by rw [HR.out, if_pos ⟨rfl, .inr hq2⟩]; exact Lib.hid rfl
      clear tail HR mk
      have g2 : ¬ q < 0 := by omega
      go_wp2_with (first | (go_at_call 40; (with_reducible refine (HJ.out _).mono ?_); rintro e w9 ⟨rfl, hf1⟩; have HFa := Lib.hid (HFa.out.trans hf1); obtain ⟨c0, c1, c2, c3, c4, mk⟩ := HCC.out _ HFa.out) | (go_at_call 37; (with_reducible refine (HE.out _).mono ?_); rintro e w9 ⟨rfl, hf1⟩; have HFa := Lib.hid (HFa.out.trans hf1); obtain ⟨c0, c1, c2, c3, c4, mk⟩ := HCC.out _ HFa.out) | (go_at_call 38; (with_reducible refine (HA.out _).mono ?_); rintro e w9 ⟨rfl, hf1⟩; have HFa := Lib.hid (HFa.out.trans hf1); obtain ⟨c0, c1, c2, c3, c4, mk⟩ := HCC.out _ HFa.out) | (go_at_call 39; (with_reducible refine (HS.out _).mono ?_); rintro e w9 ⟨rfl, hf1⟩; have HFa := Lib.hid (HFa.out.trans hf1); obtain ⟨c0, c1, c2, c3, c4, mk⟩ := HCC.out _ HFa.out))
      go_ret
      exact fin.out _ _ HFa.out e0.out.symm
end Go.Proofs.YtakcdecljfmckaaGreatDoor

namespace Go.Proofs
open Go.Shelf Go.RowKit
def Tryz.lays240_ren : Go.Shelf.Ren := ⟨fun | 240 => 118 | 276 => 137 | n => n, fun | 0 => 0 | 4 => 4 | 9 => 9 | 20 => 20 | 70 => 135 | 72 => 138 | 164 => 192 | 5 => 5 | 37 => 136 | n => n, fun | n => n⟩
theorem Tryz.lays240 : Go.Proofs.Lays.n240 Tryz.prog Tryz.lays240_ren := {
  mixed := by kernel_rfl
  f240 := Tryz.func118.trans (congrArg some (by kernel_rfl))
  f276 := Tryz.func137.trans (congrArg some (by kernel_rfl))
  t0 := Tryz.underlying0
  a0 := Tryz.isAgg0
  z0 := Tryz.sizeOf0
  v0 := Tryz.zeroValue0
  t4 := Tryz.underlying4
  a4 := Tryz.isAgg4
  z4 := Tryz.sizeOf4
  v4 := Tryz.zeroValue4
  t9 := Tryz.underlying9
  a9 := Tryz.isAgg9
  z9 := Tryz.sizeOf9
  v9 := Tryz.zeroValue9
  t20 := Tryz.underlying20
  a20 := Tryz.isAgg20
  z20 := Tryz.sizeOf20
  v20 := Tryz.zeroValue20
  t70 := Tryz.underlying135
  a70 := Tryz.isAgg135
  z70 := Tryz.sizeOf135
  v70 := Tryz.zeroValue135
  t72 := Tryz.underlying138
  a72 := Tryz.isAgg138
  z72 := Tryz.sizeOf138
  v72 := Tryz.zeroValue138
  t164 := Tryz.underlying192
  a164 := Tryz.isAgg192
  z164 := Tryz.sizeOf192
  v164 := Tryz.zeroValue192 }
def Tryz.lays166_ren : Go.Shelf.Ren := ⟨fun | 166 => 88 | 240 => 118 | 276 => 137 | n => n, fun | 0 => 0 | 3 => 3 | 4 => 4 | 9 => 9 | 20 => 20 | 37 => 136 | 70 => 135 | 72 => 138 | 75 => 124 | 164 => 192 | 5 => 5 | 80 => 141 | n => n, fun | n => n⟩
theorem Tryz.lays166 : Go.Proofs.Lays.n166 Tryz.prog Tryz.lays166_ren := {
  mixed := by kernel_rfl
  f166 := Tryz.func88.trans (congrArg some (by kernel_rfl))
  f240 := Tryz.func118.trans (congrArg some (by kernel_rfl))
  f276 := Tryz.func137.trans (congrArg some (by kernel_rfl))
  t0 := Tryz.underlying0
  a0 := Tryz.isAgg0
  z0 := Tryz.sizeOf0
  v0 := Tryz.zeroValue0
  t3 := Tryz.underlying3
  a3 := Tryz.isAgg3
  z3 := Tryz.sizeOf3
  v3 := Tryz.zeroValue3
  t4 := Tryz.underlying4
  a4 := Tryz.isAgg4
  z4 := Tryz.sizeOf4
  v4 := Tryz.zeroValue4
  t9 := Tryz.underlying9
  a9 := Tryz.isAgg9
  z9 := Tryz.sizeOf9
  v9 := Tryz.zeroValue9
  t20 := Tryz.underlying20
  a20 := Tryz.isAgg20
  z20 := Tryz.sizeOf20
  v20 := Tryz.zeroValue20
  t37 := Tryz.underlying136
  a37 := Tryz.isAgg136
  z37 := Tryz.sizeOf136
  v37 := Tryz.zeroValue136
  t70 := Tryz.underlying135
  a70 := Tryz.isAgg135
  z70 := Tryz.sizeOf135
  v70 := Tryz.zeroValue135
  t72 := Tryz.underlying138
  a72 := Tryz.isAgg138
  z72 := Tryz.sizeOf138
  v72 := Tryz.zeroValue138
  t75 := Tryz.underlying124
  a75 := Tryz.isAgg124
  z75 := Tryz.sizeOf124
  v75 := Tryz.zeroValue124
  t164 := Tryz.underlying192
  a164 := Tryz.isAgg192
  z164 := Tryz.sizeOf192
  v164 := Tryz.zeroValue192 }
theorem Tryz.Builder_Extra_166 : Builder.Extra Tryz.prog Tryz.lays166_ren := {
  sizeBuilder := by kernel_rfl
  liesBuilder := by kernel_rfl
  t5 := Tryz.underlying5
  a5 := Tryz.isAgg5
  z5 := Tryz.sizeOf5
  v5 := Tryz.zeroValue5
  infoByte := by kernel_rfl
  cellsByte := by kernel_rfl
  sizeByte := by kernel_rfl
  neB5 := by decide }
theorem Tryz.Builder_WriteString (B b : Nat) (bs : List Value) (s : ByteArray) (w : World) (h : Lib.IsBuilder 138 5 B b bs w) (hlen : bs.length + s.size ≤ 140737488355328) (hBw : B ≤ w.heap.size) :
    Calls Tryz.prog 88 #[.pointer (some ⟨b, 0, none⟩), .string s] w fun e w' => e = .returned (.tuple #[.int .i64 s.size, .nilIface]) ∧ (Lib.BuilderAt 138 5 B b (.pointer (some ⟨b, 0, none⟩)) (bs ++ Lib.strCells s) w' ∧ Below B w w') := Any.Builder_WriteString Tryz.lays166 Tryz.Builder_Extra_166 B b bs s w h hlen hBw
end Go.Proofs

namespace Go.Proofs.YtakcdecljfmckaaGreatDoor
open Go.RowKit
open Go.Maps (Keyed int_keyed)

def isizeD : DataW Unit := .map [(.int .u8 97, .lit (.int .i64 4)), (.int .u8 98, .lit (.int .i64 4)), (.int .u8 99, .lit (.int .i64 4)), (.int .u8 105, .lit (.int .i64 2)), (.int .u8 106, .lit (.int .i64 2)), (.int .u8 107, .lit (.int .i64 2)), (.int .u8 113, .lit (.int .i64 1)), (.int .u8 114, .lit (.int .i64 1)), (.int .u8 115, .lit (.int .i64 1)), (.int .u8 121, .lit (.int .i64 8)), (.int .u8 122, .lit (.int .i64 8)), (.int .u8 123, .lit (.int .i64 8))]

/-- strings' cells -/
def strs (l : List (List UInt8)) : List Value := l.map fun s => .string (bA s)

def lsizeD : DataW Unit := .map [(.int .i64 1, .agg [.lit (.int .u8 113), .lit (.int .u8 114), .lit (.int .u8 115)]), (.int .i64 2, .agg [.lit (.int .u8 105), .lit (.int .u8 106), .lit (.int .u8 107)]), (.int .i64 4, .agg [.lit (.int .u8 97), .lit (.int .u8 98), .lit (.int .u8 99)]), (.int .i64 8, .agg [.lit (.int .u8 121), .lit (.int .u8 122), .lit (.int .u8 123)])]
/-- how a row of bytes reads -/
def u8L : List Value → Option (List (DataW Unit))
  | [] => some []
  | .int .u8 a :: t => (u8L t).map (.lit (.int .u8 a) :: ·)
  | _ => none
def arr3 (v : Value) : Option (DataW Unit × List MemPlace) :=
  match v with
  | .agg xs => (u8L xs.toList).map fun l => (.agg l, [])
  | _ => none
/-- the program's variables, as they are laid -/
structure LT (w : World) : Prop where
  jumps : CellsAt w 4 0 (strs jumpN)
  ariths : CellsAt w 3 0 (strs arithN)
  pow : Lib.TabIs Tryz.prog w "internal/strconv.uint64pow10" .u64 Lib.pow10Tab
  max : ∃ m, w.cell? ⟨5, 0, none⟩ = some (.int .i64 m)
  errS : ∃ tp p, w.var? Tryz.prog "strconv.ErrSyntax" = some #[.iface tp p]
  errR : ∃ tp p, w.var? Tryz.prog "strconv.ErrRange" = some #[.iface tp p]
  utf : Lib.Utf8Tabs 0 1 w
  lsize : ∃ bm n, w.cell? ⟨2, 0, none⟩ = some (.map (some bm)) ∧ w.ownsMap Tryz.prog 3 arr3 bm n lsizeD

theorem owns_fr {w w' : World} {t : TypeId} {f : Value → Option (DataW Unit × List MemPlace)} {bm n : Nat} {D : DataW Unit} (h : w.ownsMap Tryz.prog t f bm n D) (hf : Fr No w w') : w'.ownsMap Tryz.prog t f bm n D := by
  obtain ⟨es, clock, hb, hF, hn, hD⟩ := h
  refine ⟨es, clock, ?_, hF, hn, hD⟩
  have hlt : bm < w.heap.size := (Array.getElem?_eq_some_iff.1 hb).1
  rw [hf.block bm hlt id]
  exact hb
theorem var_fr {w w' : World} {s : String} {cs : Array Value} (h : w.var? Tryz.prog s = some cs) (hf : Fr No w w') : w'.var? Tryz.prog s = some cs := by
  unfold World.var? at h ⊢
  obtain ⟨g, hg, hm⟩ := Option.bind_eq_some_iff.1 h
  rw [hg, Option.bind_some]
  have hlt : g < w.heap.size := by
    rcases Nat.lt_or_ge g w.heap.size with h | h
    · exact h
    · rw [Array.getElem?_eq_none h] at hm; cases hm
  rw [hf.block g hlt id]
  exact hm
theorem LT.fr {w w' : World} (h : LT w) (hf : Fr No w w') : LT w' where
  jumps := hf.cells h.jumps id
  ariths := hf.cells h.ariths id
  pow := var_fr h.pow hf
  max := by obtain ⟨m, hm⟩ := h.max; exact ⟨m, hf.cell hm id⟩
  errS := by obtain ⟨t, p, hm⟩ := h.errS; exact ⟨t, p, var_fr hm hf⟩
  errR := by obtain ⟨t, p, hm⟩ := h.errR; exact ⟨t, p, var_fr hm hf⟩
  utf := ⟨fun c hc => hf.cell (h.utf.1 c hc) id, fun i hi => ⟨hf.cell (h.utf.2 i hi).1 id, hf.cell (h.utf.2 i hi).2 id⟩⟩
  lsize := by
    obtain ⟨bm, n, hc, ho⟩ := h.lsize
    exact ⟨bm, n, hf.cell hc id, owns_fr ho hf⟩
theorem itoa_any (n : Int) (h0 : -9223372036854775808 < n) (h1 : n ≤ 9223372036854775807) (w : World) (ht : LT w) : Calls Tryz.prog 67 #[.int .i64 n] w fun e w' => e = .returned (.string (bA (itoaN n))) ∧ Fr No w w' := by
  refine (Tryz.strconv_Itoa n (by omega) h1 w ht.pow).mono ?_
  rintro e w' ⟨rfl, k, os, rfl⟩
  refine ⟨?_, Fr.of_below (Go.Lib.below_grow w.heap.size w (Nat.le_refl _) k os)⟩
  rw [itoaN_itoa (by omega)]
  rfl
theorem isize_at (op : Nat) : isizeD.atKey (.int .u8 op) (.lit (.int .i64 0)) = .lit (.int .i64 (sizeN op)) := by
  by_cases h : op ∈ ([97, 98, 99, 105, 106, 107, 113, 114, 115, 121, 122, 123] : List Nat)
  · simp only [List.mem_cons, List.not_mem_nil, or_false] at h
    rcases h with rfl | rfl | rfl | rfl | rfl | rfl | rfl | rfl | rfl | rfl | rfl | rfl <;> rfl
  · simp only [List.mem_cons, List.not_mem_nil, or_false, not_or] at h
    have s1 : ∀ (x : Int) (y : DataW Unit), ¬ x = (op : Int) → ((Lit.int .u8 x, y).1.sameKey (.int .u8 op)) = false := fun x y hx => by simp [Lit.sameKey, hx]
    have e1 := s1 97 (.lit (.int .i64 4)) (by omega)
    have e2 := s1 98 (.lit (.int .i64 4)) (by omega)
    have e3 := s1 99 (.lit (.int .i64 4)) (by omega)
    have e4 := s1 105 (.lit (.int .i64 2)) (by omega)
    have e5 := s1 106 (.lit (.int .i64 2)) (by omega)
    have e6 := s1 107 (.lit (.int .i64 2)) (by omega)
    have e7 := s1 113 (.lit (.int .i64 1)) (by omega)
    have e8 := s1 114 (.lit (.int .i64 1)) (by omega)
    have e9 := s1 115 (.lit (.int .i64 1)) (by omega)
    have e10 := s1 121 (.lit (.int .i64 8)) (by omega)
    have e11 := s1 122 (.lit (.int .i64 8)) (by omega)
    have e12 := s1 123 (.lit (.int .i64 8)) (by omega)
    have e : sizeN op = 0 := by unfold sizeN; simp [h]
    rw [e]
    unfold isizeD
    simp only [DataW.atKey, List.find?_cons, e1, e2, e3, e4, e5, e6, e7, e8, e9, e10, e11, e12, List.find?_nil]
    rfl
theorem wf_u8 {n : Nat} (h : n < 256) : (Lit.int .u8 (n : Int)).wf = true := by
  have e1 : IntKind.min .u8 = 0 := by decide
  have e2 : IntKind.max .u8 = 255 := by decide
  simp only [Lit.wf, e1, e2, Bool.and_eq_true, decide_eq_true_eq]
  omega
end Go.Proofs.YtakcdecljfmckaaGreatDoor

namespace Go.Proofs.YtakcdecljfmckaaGreatDoor
open Go.RowKit Go.Lib Go.Sort

end Go.Proofs.YtakcdecljfmckaaGreatDoor

namespace Go.Proofs.YtakcdecljfmckaaGreatDoor
open Go.RowKit

theorem strs_length (l : List (List UInt8)) : (strs l).length = l.length := by simp [strs]
/-- words at a slice's value -/
def StrsAt (w : World) (v : Value) (l : List (List UInt8)) : Prop := (l = [] ∧ ∃ a c, v = .slice a 0 c) ∨ ∃ g off cap, v = .slice (some ⟨g, off, none⟩) l.length cap ∧ g < w.heap.size ∧ l.length ≤ cap ∧ CellsAt w g off (strs l)
theorem StrsAt.fr {w w' : World} {v : Value} {l : List (List UInt8)} (h : StrsAt w v l) (hf : Fr No w w') : StrsAt w' v l := by
  rcases h with h | ⟨g, off, cap, rfl, hlt, hcap, hc⟩
  · exact .inl h
  · exact .inr ⟨g, off, cap, rfl, by have := hf.size; omega, hcap, hf.cells hc id⟩
theorem StrsAt.form {w : World} {v : Value} {l : List (List UInt8)} (h : StrsAt w v l) : ∃ a c, v = .slice a l.length c := by
  rcases h with ⟨rfl, a, c, rfl⟩ | ⟨g, off, cap, rfl, _⟩
  · exact ⟨a, c, rfl⟩
  · exact ⟨_, _, rfl⟩
/-- words that were just built -/
theorem StrsAt.new (w : World) (l : List (List UInt8)) (t : TypeId) (vs : Array Value) (h : vs = (strs l).toArray) : StrsAt (w.alloc (.cells vs t)) (.slice (some ⟨w.heap.size, 0, none⟩) l.length l.length) l := by
  subst h
  exact .inr ⟨w.heap.size, 0, l.length, rfl, by simp, Nat.le_refl _, CellsAt.new w _ t⟩

theorem join_w : ∀ l : List (List UInt8), Lib.join l [32] = joinW l
  | [] => rfl
  | [a] => by simp [Lib.join, joinW]
  | a :: b :: l => by
    have := join_w (b :: l)
    simp [Lib.join, joinW] at this ⊢
    exact this
theorem join_any (v : Value) (l : List (List UInt8)) (w : World) (h : StrsAt w v l) (hl : l.length ≤ 100000) (hn : (joinW l).length ≤ 10000000) : Calls Tryz.prog 68 #[v, .string ⟨#[32]⟩] w fun e w' => e = .returned (.string (bA (joinW l))) ∧ Fr No w w' := by
  rcases h with ⟨rfl, a, c, rfl⟩ | ⟨g, off, cap, rfl, hlt, hcap, hc⟩
  · refine (Tryz.strings_Join_none a c ⟨#[32]⟩ w).mono ?_
    rintro e w' ⟨rfl, rfl⟩
    exact ⟨rfl, Fr.refl _ _⟩
  · have hm : (l.map bA).map (·.data.toList) = l := by
      rw [List.map_map]
      conv => rhs; rw [← List.map_id l]
      apply List.map_congr_left
      intro a _
      simp [bA]
    have := Tryz.strings_Join g off cap (l.map bA) ⟨#[32]⟩ w (fun j x hx => by
      have : (strs l)[j]? = some (.string x) := by
        simp only [strs, List.getElem?_map, Option.map_eq_some_iff] at hx ⊢
        obtain ⟨a, ha, rfl⟩ := hx
        exact ⟨a, ha, rfl⟩
      exact hc j _ this) hlt (by rw [List.length_map]; omega) (by rw [List.length_map]; exact hcap) (by
        rw [hm]
        show (Lib.join l [32]).length ≤ _
        rw [join_w]
        omega)
    rw [List.length_map] at this
    refine this.mono ?_
    rintro e w' ⟨rfl, hb⟩
    rw [hm]
    exact ⟨by show Ending.returned (.string ⟨(Lib.join l [32]).toArray⟩) = _; rw [join_w]; rfl, Fr.of_below hb⟩

theorem jumps_len (k : Nat) : ((jumpN[k]?).getD []).length ≤ 1000 := by
  rcases Nat.lt_or_ge k 14 with h | h
  · have : ∀ k, k < 14 → ((jumpN[k]?).getD []).length ≤ 1000 := by decide
    exact this k h
  · rw [List.getElem?_eq_none (by simp [jumpN]; omega)]; simp
theorem ariths_len (k : Nat) : ((arithN[k]?).getD []).length ≤ 1000 := by
  rcases Nat.lt_or_ge k 13 with h | h
  · have : ∀ k, k < 13 → ((arithN[k]?).getD []).length ≤ 1000 := by decide
    exact this k h
  · rw [List.getElem?_eq_none (by simp [arithN]; omega)]; simp
end Go.Proofs.YtakcdecljfmckaaGreatDoor

namespace Go.Proofs.YtakcdecljfmckaaGreatDoor
open Go.RowKit

/-- a slice of words comes back -/
def SlStrs (l : List (List UInt8)) (w : World) (e : Ending) (w' : World) : Prop := ∃ v, e = .returned v ∧ StrsAt w' v l ∧ Fr No w w'

end Go.Proofs.YtakcdecljfmckaaGreatDoor

namespace Go.Proofs.YtakcdecljfmckaaGreatDoor
open Go.RowKit

theorem neq_ins (o1 d1 s1 f1 m1 o2 d2 s2 f2 m2 : Int) (w : World) : (binOp .neq 51 (.agg #[.int .u8 o1, .int .u8 d1, .int .u8 s1, .int .i16 f1, .int .i32 m1]) (.agg #[.int .u8 o2, .int .u8 d2, .int .u8 s2, .int .i16 f2, .int .i32 m2])).run Tryz.prog w = .ok (.bool (!(o1 == o2 && (d1 == d2 && (s1 == s2 && (f1 == f2 && m1 == m2)))))) w := by
  have u5 := Tryz.underlying5
  have a5 := Tryz.isAgg5
  have z5 := Tryz.sizeOf5
  have u9 := Tryz.underlying49
  have a9 := Tryz.isAgg49
  have z9 := Tryz.sizeOf49
  have u4 := Tryz.underlying21
  have a4 := Tryz.isAgg21
  have z4 := Tryz.sizeOf21
  have hS : Tryz.prog.underlying 51 = some (.struct (Tryz.prog.fieldsOf 51)) := by kernel_rfl
  have hp : Tryz.prog.stoodInHeld 51 = false := by kernel_rfl
  rw [run_neq_struct, show (10000 : Nat) = 9999 + 1 from rfl, run_equalIn_agg w 9999 _ _ _ hS hp]
  simp only [Program.fieldsOf, Tryz.underlying51]
  go_simp
  by_cases h1 : o1 = o2 <;> by_cases h2 : d1 = d2 <;> by_cases h3 : s1 = s2 <;> by_cases h4 : f1 = f2 <;> by_cases h5 : m1 = m2 <;> simp [h1, h2, h3, h4, h5]
theorem guard_ins (xs ys : Array Value) (op : BinOp) (x y : Operand) (w : World) : (eqGuard op 51 x y (.agg xs) (.agg ys)).run Tryz.prog w = .ok () w := run_eqGuard_agg w op _ x y xs ys (by kernel_rfl)

theorem or_wide {x y : Nat} (hy : y < 4294967296) (hx : x < 4294967296) : bits BinOp.or IntKind.u64 ((x : Int) * 4294967296) (y : Int) = (x : Int) * 4294967296 + (y : Int) := by
  have e : ((x : Int) * 4294967296) = ((x * 4294967296 : Nat) : Int) := by omega
  rw [e, u64_or_nat _ _ (by omega) (by omega)]
  have := Nat.two_pow_add_eq_or_of_lt (i := 32) (b := y) (by omega) x
  rw [show 2 ^ 32 * x = x * 4294967296 by omega] at this
  rw [← this]
  omega
/-- words and whether they are any -/
def SlOk (l : List (List UInt8)) (z : Bool) (w : World) (e : Ending) (w' : World) : Prop := ∃ v, e = .returned (.tuple #[v, .bool z]) ∧ StrsAt w' v l ∧ Fr No w w'
end Go.Proofs.YtakcdecljfmckaaGreatDoor
