/- progs.firsts: the slots at which instructions begin. progs.way: where an instruction leads. The layings of the builder's copyCheck and WriteString. package lines: what its walks ask of the world; numerals. strconv.FormatUint at base 10. -/
import Derived.Test.YtakcdecljfmckaaGreatDoorCore14
import Derived.Test.YtakcdecljfmckaaGreatDoorShelf
import Derived.Shelf.Strings.Builder1
import Derived.Lib.Hide
import Derived.Lib.AppendIntMem
import Derived.Maps.OwnSet
import Derived.Shelf.Unicode.DecodeSlow
import Derived.Shelf.Strconv.Itoa3
set_option linter.all false
set_option linter.unusedVariables false
set_option linter.unusedSimpArgs false
namespace Go.Proofs.YtakcdecljfmckaaGreatDoor
open Go.RowKit

theorem firsts_in {l : List Ins} {fuel pc : Nat} (h : pc < l.length) : firstsM l (fuel + 1) pc = pc :: firstsM l fuel (pc + sizeM (insAt l pc)) := by
  rw [firstsM, if_pos h]
theorem firsts_out {l : List Ins} {pc : Nat} (h : l.length ≤ pc) : ∀ fuel, firstsM l fuel pc = []
  | 0 => rfl
  | fuel + 1 => by rw [firstsM, if_neg (by omega)]
theorem sizeM_pos (i : Ins) : 1 ≤ sizeM i ∧ sizeM i ≤ 2 := by unfold sizeM; split <;> omega
/-- a row of bools that stands for a list of numbers -/
def MarksAt (w : World) (g n : Nat) (L : List Nat) : Prop := BoolsAt w g n (fun k => L.contains k)
theorem MarksAt.add {w : World} {g n : Nat} {L : List Nat} (h : MarksAt w g n L) {k : Nat} (hk : k < n) : MarksAt (w.setCell ⟨g, k, none⟩ (.bool true)) g n (L ++ [k]) := by
  have := BoolsAt.set h hk true
  refine fun j hj => ?_
  obtain ⟨h1, h2⟩ := this j hj
  refine ⟨?_, h2⟩
  rw [h1]
  have e : (if j = k then true else L.contains j) = (L ++ [k]).contains j := by
    by_cases e : j = k
    · subst e; simp
    · rw [if_neg e]; simp [e]
  exact congrArg (fun b => some (Value.bool b)) e

set_option maxRecDepth 100000 in
set_option maxHeartbeats 1000000 in
theorem firsts_any (l : List Ins) (v : Value) (w : World) (hv : InsAt w v l) (hok : ∀ i ∈ l, i.ok) (hl : l.length ≤ 100000) (h0 : 0 < l.length) :
    Calls Tryz.prog 51 #[v] w fun e w' => ∃ g, e = .returned (.slice (some ⟨g, 0, none⟩) l.length l.length) ∧ w.heap.size ≤ g ∧ g < w'.heap.size ∧ MarksAt w' g l.length (starts l) ∧ Fr No w w' := by
  rcases hv with ⟨rfl, _⟩ | ⟨g, off, cap, rfl, hc⟩
  · exact absurd h0 (Nat.not_lt_zero _)
  have HC := Lib.hid hc
  have HS : Hid (∀ (i : Ins) W, Calls Tryz.prog 39 #[i.agg] W fun e w' => e = .returned (.int .i64 (sizeM i)) ∧ Fr No W w') := fun i W => psize_any i W
  have hmk := make_bools l.length (by omega)
  obtain ⟨n, hn⟩ : ∃ n, l.length = n := ⟨_, rfl⟩
  have HN := Lib.hid hn
  have HZ0 : Hid (0 < n) := hn ▸ h0
  rw [hn] at hmk hl h0 ⊢
  clear hc hn hok
  go_enter Tryz.func51, Tryz.ntmps51
  go_wp2_with fail
  have eR : (Array.replicate n (Value.bool false)) = (List.replicate n (Value.bool false)).toArray := by simp
  have HF0 : Hid (Fr No w (w.alloc (.cells (Array.replicate n (.bool false)) 4))) := (Fr.refl _ _).alloc _
  have HB0 : Hid (MarksAt (w.alloc (.cells (Array.replicate n (.bool false)) 4)) w.heap.size n []) := by rw [eR]; exact BoolsAt.new w n _
  have HG0 : Hid (w.heap.size < (w.alloc (.cells (Array.replicate n (.bool false)) 4)).heap.size) := by show _ < (w.heap.push _).size; rw [Array.size_push]; exact Lib.hid (Nat.lt_succ_self _)
  have HLO : Hid (∀ W b, w.heap.size ≤ b → Fr No w W → ∀ o x, Fr No w (W.setCell ⟨b, o, none⟩ x)) := fun W b hb hf o x => (hf.any.setCell (p := ⟨b, o, none⟩) (.inr hb) x : Fr (From w) w _).ours
  clear hmk eR
  generalize w.alloc (.cells (Array.replicate n (.bool false)) 4) = W0 at *
  obtain ⟨g0, hg0⟩ : ∃ g0, w.heap.size = g0 := ⟨_, rfl⟩
  have HGE : Hid (w.heap.size ≤ g0) := Nat.le_of_eq hg0
  rw [hg0] at HB0 HG0 ⊢
  clear hg0
  go_loopw [4] (fun i wr => ∃ pc fuel : Nat, ∃ done : List Nat, i = .int .i64 pc ∧ pc ≤ n + 1 ∧ Hid (n ≤ pc + fuel) ∧ Hid (starts l = done ++ firstsM l fuel pc) ∧ Hid (MarksAt wr g0 n done) ∧ Hid (Fr No w wr)) (fun i _ => n + 1 - (intOf i).toNat)
  case atStart => exact ⟨0, n, [], rfl, by omega, Lib.hid (by omega), Lib.hid (by unfold starts; rw [HN.out]; rfl), HB0.out, HF0.out⟩
  case round =>
    obtain ⟨pc, fuel, done, rfl, hpc, HFU, HST, HM, HF⟩ := hrel
    by_cases hlt : pc < n
    · have p1 : (pc : Int) < (n : Int) := by omega
      have p2 : (0 : Int) ≤ (pc : Int) := by omega
      have HLT := Lib.hid hlt
      obtain ⟨b1, fz⟩ := HM.out pc hlt
      go_upto_region 4 with fail
      obtain ⟨W1, hW1⟩ : ∃ W1, W1 = wr.setCell ⟨g0, pc, none⟩ (.bool true) := ⟨_, rfl⟩
      have HM1 : Hid (MarksAt W1 g0 n (done ++ [pc])) := by rw [hW1]; exact HM.out.add hlt
      have HF1 : Hid (Fr No w W1) := by rw [hW1]; exact HLO.out _ _ HGE.out HF.out _ _
      rw [← hW1]
      clear hW1 b1 fz HM HF hlt
      obtain ⟨c0, c1, c2, c3, c4⟩ := ins_cells (HF1.out.cells HC.out id) (pc := pc) (by rw [HN.out]; exact HLT.out)
      have HSZ : Hid (∀ W, Calls Tryz.prog 39 #[.agg #[.int .u8 (insAt l pc).op, .int .u8 (insAt l pc).dst, .int .u8 (insAt l pc).src, .int .i16 (insAt l pc).off, .int .i32 (insAt l pc).imm]] W fun e w' => e = .returned (.int .i64 (sizeM (insAt l pc))) ∧ Fr No W w') := fun W => HS.out (insAt l pc) W
      obtain ⟨z, hz⟩ : ∃ z, sizeM (insAt l pc) = z := ⟨_, rfl⟩
      have z1 : 1 ≤ z ∧ z ≤ 2 := hz ▸ sizeM_pos _
      rw [hz] at HSZ
      have HZ := Lib.hid hz
      have w1 : wrap64 ((pc : Int) + (z : Int)) = ((pc + z : Nat) : Int) := by rw [IntWalk.wrap64_in _ (by omega)]; omega
      clear hz
      generalize (insAt l pc).op = o0 at *
      generalize (insAt l pc).dst = o1 at *
      generalize (insAt l pc).src = o2 at *
      generalize (insAt l pc).off = o3 at *
      generalize (insAt l pc).imm = o4 at *
      go_wp2_with (go_at_call 39; (with_reducible refine (HSZ.out _).mono ?_); rintro e w2 ⟨rfl, hf2⟩)
      go_roundw
      case rel =>
        refine ⟨pc + z, fuel - 1, done ++ [pc], by rw [Int.natCast_add], by have := HLT.out; omega, Lib.hid (by have := HFU.out; omega), ?_, BoolsAt.fr HM1.out hf2, HF1.out.trans hf2⟩
        have hf : ∃ f, fuel = f + 1 := ⟨fuel - 1, by have := HFU.out; have := HLT.out; omega⟩
        obtain ⟨f, rfl⟩ := hf
        have := HST.out
        rw [firsts_in (by rw [HN.out]; exact HLT.out), HZ.out] at this
        rw [this, List.append_assoc]
        exact Lib.hid rfl
      case measure =>
        have := HLT.out
        simp [intOf]
        omega
    · have hge : ¬ (pc : Int) < (n : Int) := by omega
      have HNL := Lib.hid hlt
      clear hlt
      go_wp2_with fail
      go_ret
      have e : starts l = done := by rw [HST.out, firsts_out (by rw [HN.out]; have := HNL.out; omega), List.append_nil]
      exact ⟨g0, rfl, HGE.out, World.block_lt_of_cell? wr _ (HM.out 0 (by have := HZ0.out; omega)).1, e ▸ HM.out, HF.out⟩
end Go.Proofs.YtakcdecljfmckaaGreatDoor

namespace Go.Proofs.YtakcdecljfmckaaGreatDoor
open Go.RowKit

set_option maxRecDepth 100000 in
set_option maxHeartbeats 4000000 in
theorem way_any (l : List Ins) (v : Value) (gf : Nat) (F : List Nat) (pc : Nat) (w : World) (hv : InsAt w v l) (hm : MarksAt w gf l.length F) (hok : ∀ i ∈ l, i.ok) (hl : l.length ≤ 100000) (hpc : pc < l.length) :
    Calls Tryz.prog 55 #[v, .slice (some ⟨gf, 0, none⟩) l.length l.length, .int .i64 pc] w fun e w' => e = .returned (.int .i64 (wayM l (fun k => F.contains k) pc)) ∧ Fr No w w' := by
  rcases hv with ⟨rfl, _⟩ | ⟨g, off, cap, rfl, hc⟩
  · exact absurd hpc (Nat.not_lt_zero _)
  have hi : (insAt l pc).ok := by rw [insAt_ok hpc]; exact hok _ (List.getElem_mem hpc)
  obtain ⟨k0, k1, k2, k3, k4⟩ := ins_cells hc hpc
  have HM := Lib.hid hm
  have HJ : Hid (∀ W, Calls Tryz.prog 40 #[.agg #[.int .u8 (insAt l pc).op, .int .u8 (insAt l pc).dst, .int .u8 (insAt l pc).src, .int .i16 (insAt l pc).off, .int .i32 (insAt l pc).imm]] W fun e w' => e = .returned (.bool (jumpsM (insAt l pc))) ∧ Fr No W w') := fun W => pjumps_any _ hi.op W
  have HE : Hid (∀ W, Calls Tryz.prog 37 #[.agg #[.int .u8 (insAt l pc).op, .int .u8 (insAt l pc).dst, .int .u8 (insAt l pc).src, .int .i16 (insAt l pc).off, .int .i32 (insAt l pc).imm]] W fun e w' => e = .returned (.bool (endsM (insAt l pc))) ∧ Fr No W w') := fun W => pends_any _ hi.op W
  have HA : Hid (∀ W, Calls Tryz.prog 38 #[.agg #[.int .u8 (insAt l pc).op, .int .u8 (insAt l pc).dst, .int .u8 (insAt l pc).src, .int .i16 (insAt l pc).off, .int .i32 (insAt l pc).imm]] W fun e w' => e = .returned (.bool (alwaysM (insAt l pc))) ∧ Fr No W w') := fun W => palways_any _ hi.op W
  have HS : Hid (∀ W, Calls Tryz.prog 39 #[.agg #[.int .u8 (insAt l pc).op, .int .u8 (insAt l pc).dst, .int .u8 (insAt l pc).src, .int .i16 (insAt l pc).off, .int .i32 (insAt l pc).imm]] W fun e w' => e = .returned (.int .i64 (sizeM (insAt l pc))) ∧ Fr No W w') := fun W => psize_any _ W
  have HOF := Lib.hid hi.off
  have w1 : wrap64 ((pc : Int) + 1) = (pc : Int) + 1 := IntWalk.wrap64_in _ (by omega)
  have w0 : IntKind.i64.wrap (insAt l pc).off = (insAt l pc).off := IntWalk.i64_in _ (by have := hi.off; omega)
  have w2 : wrap64 ((pc : Int) + 1 + (insAt l pc).off) = (pc : Int) + 1 + (insAt l pc).off := IntWalk.wrap64_in _ (by have := hi.off; omega)
  have hz := sizeM_pos (insAt l pc)
  have w3 : wrap64 ((pc : Int) + (sizeM (insAt l pc) : Int)) = (pc : Int) + (sizeM (insAt l pc) : Int) := IntWalk.wrap64_in _ (by omega)
  have p1 : (pc : Int) < (l.length : Int) := by omega
  have p2 : (0 : Int) ≤ (pc : Int) := by omega
  obtain ⟨R, hR⟩ : ∃ R, wayM l (fun k => F.contains k) pc = R := ⟨_, rfl⟩
  rw [hR]
  have HR : Hid (R = if jumpsM (insAt l pc) = true ∧ ((pc : Int) + 1 + (insAt l pc).off < 0 ∨ (l.length : Int) ≤ (pc : Int) + 1 + (insAt l pc).off) then 40
      else if jumpsM (insAt l pc) = true ∧ F.contains ((pc : Int) + 1 + (insAt l pc).off).toNat = false then 41
      else if endsM (insAt l pc) = false ∧ alwaysM (insAt l pc) = false ∧ l.length ≤ pc + sizeM (insAt l pc) then 43 else 0) := hR.symm
  clear hR
  have HF1 : Hid (Fr No w (w.alloc (.cells #[.int .u8 (insAt l pc).op, .int .u8 (insAt l pc).dst, .int .u8 (insAt l pc).src, .int .i16 (insAt l pc).off, .int .i32 (insAt l pc).imm] 51))) := (Fr.refl _ _).alloc _
  have HCN : Hid (CellsAt (w.alloc (.cells #[.int .u8 (insAt l pc).op, .int .u8 (insAt l pc).dst, .int .u8 (insAt l pc).src, .int .i16 (insAt l pc).off, .int .i32 (insAt l pc).imm] 51)) w.heap.size 0 [.int .u8 (insAt l pc).op, .int .u8 (insAt l pc).dst, .int .u8 (insAt l pc).src, .int .i16 (insAt l pc).off, .int .i32 (insAt l pc).imm]) := CellsAt.new w _ _
  obtain ⟨n, hn⟩ : ∃ n, l.length = n := ⟨_, rfl⟩
  rw [hn] at HR HM p1 hl hpc ⊢
  obtain ⟨q, hto⟩ : ∃ q, (pc : Int) + 1 + (insAt l pc).off = q := ⟨_, rfl⟩
  rw [hto] at HR
  replace w2 := w2.trans hto
  clear hn hc hm hi hok HOF hto
  generalize jumpsM (insAt l pc) = J at *
  generalize endsM (insAt l pc) = E at *
  generalize alwaysM (insAt l pc) = A at *
  generalize sizeM (insAt l pc) = z at *
  generalize (insAt l pc).op = o0 at *
  generalize (insAt l pc).dst = o1 at *
  generalize (insAt l pc).src = o2 at *
  generalize (insAt l pc).off = o3 at *
  generalize (insAt l pc).imm = o4 at *
  go_enter Tryz.func55, Tryz.ntmps55
  go_upto_region 2 with fail
  generalize w.alloc (.cells #[.int .u8 o0, .int .u8 o1, .int .u8 o2, .int .i16 o3, .int .i32 o4] 51) = W1 at *
  generalize w.heap.size = b at *
  have HCC : Hid (∀ W, Fr No W1 W → W.cell? ⟨b, 0, none⟩ = some (.int .u8 o0) ∧ W.cell? ⟨b, 1, none⟩ = some (.int .u8 o1) ∧ W.cell? ⟨b, 2, none⟩ = some (.int .u8 o2) ∧ W.cell? ⟨b, 3, none⟩ = some (.int .i16 o3) ∧ W.cell? ⟨b, 4, none⟩ = some (.int .i32 o4) ∧ (0 ≤ q → q < (n : Int) → W.cell? ⟨gf, q.toNat, none⟩ = some (.bool (F.contains q.toNat)))) := fun W hf => by
    have h := hf.cells HCN.out id
    exact ⟨h 0 _ rfl, h 1 _ rfl, h 2 _ rfl, h 3 _ rfl, h 4 _ rfl, fun h1 h2 => ((BoolsAt.fr HM.out (HF1.out.trans hf)) q.toNat (by omega)).1⟩
  obtain ⟨c0, c1, c2, c3, c4, mk⟩ := HCC.out W1 (Fr.refl _ _)
  clear k0 k1 k2 k3 k4
  have HFa : Hid (Fr No W1 W1) := Fr.refl _ _
  have HZ : Hid (1 ≤ z ∧ z ≤ 2) := hz
  have HB : Hid (pc < n ∧ n ≤ 100000) := ⟨hpc, hl⟩
  clear HCN hz hpc hl HM
  have fin : Hid (∀ W (x : Int), Fr No W1 W → x = R → (Ending.returned (Value.int .i64 x) = Ending.returned (Value.int .i64 R) ∧ Fr No w W)) := fun W x hf hx => ⟨by rw [hx], HF1.out.trans hf⟩
  have last : Hid (∀ (b1 b2 : Bool), b1 = true ∨ b1 = false) := fun b1 _ => by cases b1 <;> simp
  clear last
  have tail : Hid ((J = false ∨ (0 ≤ q ∧ q < (n : Int) ∧ F.contains q.toNat = true)) → R = if E = false ∧ A = false ∧ n ≤ pc + z then 43 else 0) := fun h => by
    rw [HR.out]
    rcases h with h | ⟨h1, h2, h3⟩
    · rw [if_neg (by rw [h]; simp), if_neg (by rw [h]; simp)]
    · rw [if_neg (fun hh => by rcases hh.2 with h4 | h4 <;> omega), if_neg (fun hh => by rw [h3] at hh; cases hh.2)]
  cases J
  case false =>
    have ht := Lib.hid (tail.out (.inl rfl))
    clear tail HR mk w2
    cases E <;> cases A <;> rcases Nat.lt_or_ge (pc + z) n with hzz | hzz
    all_goals have HZZ := Lib.hid hzz
    all_goals first | (have g1 : ¬ (n : Int) ≤ (pc : Int) + (z : Int) := by omega) | (have g1 : (n : Int) ≤ (pc : Int) + (z : Int) := by omega)
    all_goals clear hzz
    all_goals go_wp2_with (first | (go_at_call 40; (with_reducible refine (HJ.out _).mono ?_); rintro e w9 ⟨rfl, hf1⟩; have HFa := Lib.hid (HFa.out.trans hf1); obtain ⟨c0, c1, c2, c3, c4, mk⟩ := HCC.out _ HFa.out) | (go_at_call 37; (with_reducible refine (HE.out _).mono ?_); rintro e w9 ⟨rfl, hf1⟩; have HFa := Lib.hid (HFa.out.trans hf1); obtain ⟨c0, c1, c2, c3, c4, mk⟩ := HCC.out _ HFa.out) | (go_at_call 38; (with_reducible refine (HA.out _).mono ?_); rintro e w9 ⟨rfl, hf1⟩; have HFa := Lib.hid (HFa.out.trans hf1); obtain ⟨c0, c1, c2, c3, c4, mk⟩ := HCC.out _ HFa.out) | (go_at_call 39; (with_reducible refine (HS.out _).mono ?_); rintro e w9 ⟨rfl, hf1⟩; have HFa := Lib.hid (HFa.out.trans hf1); obtain ⟨c0, c1, c2, c3, c4, mk⟩ := HCC.out _ HFa.out))
    all_goals go_ret
    all_goals refine fin.out _ _ HFa.out ?_
    all_goals rw [ht.out]
    all_goals have hz9 := HZZ.out
    all_goals first
      | (rw [if_pos (by simp; try omega)]; done)
      | (rw [if_neg (by simp; try omega)]; done)
  case true =>
    rcases Int.lt_or_le q 0 with hq | hq
    · have e0 : Hid (R = 40) := by rw [HR.out, if_pos ⟨rfl, .inl hq⟩]; exact Lib.hid rfl
      clear tail HR mk
      go_wp2_with (first | (go_at_call 40; (with_reducible refine (HJ.out _).mono ?_); rintro e w9 ⟨rfl, hf1⟩; have HFa := Lib.hid (HFa.out.trans hf1); obtain ⟨c0, c1, c2, c3, c4, mk⟩ := HCC.out _ HFa.out) | (go_at_call 37; (with_reducible refine (HE.out _).mono ?_); rintro e w9 ⟨rfl, hf1⟩; have HFa := Lib.hid (HFa.out.trans hf1); obtain ⟨c0, c1, c2, c3, c4, mk⟩ := HCC.out _ HFa.out) | (go_at_call 38; (with_reducible refine (HA.out _).mono ?_); rintro e w9 ⟨rfl, hf1⟩; have HFa := Lib.hid (HFa.out.trans hf1); obtain ⟨c0, c1, c2, c3, c4, mk⟩ := HCC.out _ HFa.out) | (go_at_call 39; (with_reducible refine (HS.out _).mono ?_); rintro e w9 ⟨rfl, hf1⟩; have HFa := Lib.hid (HFa.out.trans hf1); obtain ⟨c0, c1, c2, c3, c4, mk⟩ := HCC.out _ HFa.out))
      go_ret
      exact fin.out _ _ HFa.out e0.out.symm
    rcases Int.lt_or_le q (n : Int) with hq2 | hq2
    · obtain ⟨k, rfl⟩ : ∃ k : Nat, q = (k : Int) := ⟨q.toNat, by omega⟩
      have HCC2 : Hid (∀ W, Fr No W1 W → W.cell? ⟨b, 0, none⟩ = some (.int .u8 o0) ∧ W.cell? ⟨b, 1, none⟩ = some (.int .u8 o1) ∧ W.cell? ⟨b, 2, none⟩ = some (.int .u8 o2) ∧ W.cell? ⟨b, 3, none⟩ = some (.int .i16 o3) ∧ W.cell? ⟨b, 4, none⟩ = some (.int .i32 o4) ∧ W.cell? ⟨gf, k, none⟩ = some (.bool (F.contains k))) := fun W hf => by
        obtain ⟨a0, a1, a2, a3, a4, a5⟩ := HCC.out W hf
        exact ⟨a0, a1, a2, a3, a4, a5 hq hq2⟩
      have HR2 : Hid (R = if F.contains k = false then 41 else if E = false ∧ A = false ∧ n ≤ pc + z then 43 else 0) := by
        rw [HR.out, Int.toNat_natCast, if_neg (fun hh => by rcases hh.2 with h4 | h4 <;> omega)]
        cases F.contains k <;> exact Lib.hid (by simp)
      clear HCC HR tail mk c0 c1 c2 c3 c4
      have HCC := HCC2
      clear HCC2
      obtain ⟨c0, c1, c2, c3, c4, mk⟩ := HCC.out W1 (Fr.refl _ _)
      have g2 : ¬ (k : Int) < 0 := by omega
      have g3 : ¬ (n : Int) ≤ (k : Int) := by omega
      generalize F.contains k = fk at *
      cases fk
      · have e0 : Hid (R = 41) := by rw [HR2.out, if_pos rfl]; exact Lib.hid rfl
        clear HR2
        go_wp2_with (first | (go_at_call 40; (with_reducible refine (HJ.out _).mono ?_); rintro e w9 ⟨rfl, hf1⟩; have HFa := Lib.hid (HFa.out.trans hf1); obtain ⟨c0, c1, c2, c3, c4, mk⟩ := HCC.out _ HFa.out) | (go_at_call 37; (with_reducible refine (HE.out _).mono ?_); rintro e w9 ⟨rfl, hf1⟩; have HFa := Lib.hid (HFa.out.trans hf1); obtain ⟨c0, c1, c2, c3, c4, mk⟩ := HCC.out _ HFa.out) | (go_at_call 38; (with_reducible refine (HA.out _).mono ?_); rintro e w9 ⟨rfl, hf1⟩; have HFa := Lib.hid (HFa.out.trans hf1); obtain ⟨c0, c1, c2, c3, c4, mk⟩ := HCC.out _ HFa.out) | (go_at_call 39; (with_reducible refine (HS.out _).mono ?_); rintro e w9 ⟨rfl, hf1⟩; have HFa := Lib.hid (HFa.out.trans hf1); obtain ⟨c0, c1, c2, c3, c4, mk⟩ := HCC.out _ HFa.out))
        go_ret
        exact fin.out _ _ HFa.out e0.out.symm
      · have ht : Hid (R = if E = false ∧ A = false ∧ n ≤ pc + z then 43 else 0) := by rw [HR2.out, if_neg (by simp)]; exact Lib.hid rfl
        clear HR2
        cases E <;> cases A <;> rcases Nat.lt_or_ge (pc + z) n with hzz | hzz
        all_goals have HZZ := Lib.hid hzz
        all_goals first | (have g1 : ¬ (n : Int) ≤ (pc : Int) + (z : Int) := by omega) | (have g1 : (n : Int) ≤ (pc : Int) + (z : Int) := by omega)
        all_goals clear hzz
        all_goals go_wp2_with (first | (go_at_call 40; (with_reducible refine (HJ.out _).mono ?_); rintro e w9 ⟨rfl, hf1⟩; have HFa := Lib.hid (HFa.out.trans hf1); obtain ⟨c0, c1, c2, c3, c4, mk⟩ := HCC.out _ HFa.out) | (go_at_call 37; (with_reducible refine (HE.out _).mono ?_); rintro e w9 ⟨rfl, hf1⟩; have HFa := Lib.hid (HFa.out.trans hf1); obtain ⟨c0, c1, c2, c3, c4, mk⟩ := HCC.out _ HFa.out) | (go_at_call 38; (with_reducible refine (HA.out _).mono ?_); rintro e w9 ⟨rfl, hf1⟩; have HFa := Lib.hid (HFa.out.trans hf1); obtain ⟨c0, c1, c2, c3, c4, mk⟩ := HCC.out _ HFa.out) | (go_at_call 39; (with_reducible refine (HS.out _).mono ?_); rintro e w9 ⟨rfl, hf1⟩; have HFa := Lib.hid (HFa.out.trans hf1); obtain ⟨c0, c1, c2, c3, c4, mk⟩ := HCC.out _ HFa.out))
        all_goals go_ret
        all_goals refine fin.out _ _ HFa.out ?_
        all_goals rw [ht.out]
        all_goals have hz9 := HZZ.out
        all_goals first
          | (rw [if_pos (by simp; try omega)]; done)
          | (rw [if_neg (by simp; try omega)]; done)
    · have e0 : Hid (R = 40) := by rw [HR.out, if_pos ⟨rfl, .inr hq2⟩]; exact Lib.hid rfl
      clear tail HR mk
      have g2 : ¬ q < 0 := by omega
      go_wp2_with (first | (go_at_call 40; (with_reducible refine (HJ.out _).mono ?_); rintro e w9 ⟨rfl, hf1⟩; have HFa := Lib.hid (HFa.out.trans hf1); obtain ⟨c0, c1, c2, c3, c4, mk⟩ := HCC.out _ HFa.out) | (go_at_call 37; (with_reducible refine (HE.out _).mono ?_); rintro e w9 ⟨rfl, hf1⟩; have HFa := Lib.hid (HFa.out.trans hf1); obtain ⟨c0, c1, c2, c3, c4, mk⟩ := HCC.out _ HFa.out) | (go_at_call 38; (with_reducible refine (HA.out _).mono ?_); rintro e w9 ⟨rfl, hf1⟩; have HFa := Lib.hid (HFa.out.trans hf1); obtain ⟨c0, c1, c2, c3, c4, mk⟩ := HCC.out _ HFa.out) | (go_at_call 39; (with_reducible refine (HS.out _).mono ?_); rintro e w9 ⟨rfl, hf1⟩; have HFa := Lib.hid (HFa.out.trans hf1); obtain ⟨c0, c1, c2, c3, c4, mk⟩ := HCC.out _ HFa.out))
      go_ret
      exact fin.out _ _ HFa.out e0.out.symm
end Go.Proofs.YtakcdecljfmckaaGreatDoor

namespace Go.Proofs
open Go.Shelf Go.RowKit
def Tryz.lays240_ren : Go.Shelf.Ren := ⟨fun | 240 => 118 | 276 => 137 | n => n, fun | 0 => 0 | 4 => 4 | 9 => 9 | 20 => 20 | 70 => 135 | 72 => 138 | 164 => 192 | 5 => 5 | 37 => 136 | n => n, fun | n => n⟩
theorem Tryz.lays240 : Go.Proofs.Lays.n240 Tryz.prog Tryz.lays240_ren := {
  mixed := by kernel_rfl
  f240 := Tryz.func118.trans (congrArg some (by kernel_rfl))
  f276 := Tryz.func137.trans (congrArg some (by kernel_rfl))
  t0 := Tryz.underlying0
  a0 := Tryz.isAgg0
  z0 := Tryz.sizeOf0
  v0 := Tryz.zeroValue0
  t4 := Tryz.underlying4
  a4 := Tryz.isAgg4
  z4 := Tryz.sizeOf4
  v4 := Tryz.zeroValue4
  t9 := Tryz.underlying9
  a9 := Tryz.isAgg9
  z9 := Tryz.sizeOf9
  v9 := Tryz.zeroValue9
  t20 := Tryz.underlying20
  a20 := Tryz.isAgg20
  z20 := Tryz.sizeOf20
  v20 := Tryz.zeroValue20
  t70 := Tryz.underlying135
  a70 := Tryz.isAgg135
  z70 := Tryz.sizeOf135
  v70 := Tryz.zeroValue135
  t72 := Tryz.underlying138
  a72 := Tryz.isAgg138
  z72 := Tryz.sizeOf138
  v72 := Tryz.zeroValue138
  t164 := Tryz.underlying192
  a164 := Tryz.isAgg192
  z164 := Tryz.sizeOf192
  v164 := Tryz.zeroValue192 }
def Tryz.lays166_ren : Go.Shelf.Ren := ⟨fun | 166 => 88 | 240 => 118 | 276 => 137 | n => n, fun | 0 => 0 | 3 => 3 | 4 => 4 | 9 => 9 | 20 => 20 | 37 => 136 | 70 => 135 | 72 => 138 | 75 => 124 | 164 => 192 | 5 => 5 | 80 => 141 | n => n, fun | n => n⟩
theorem Tryz.lays166 : Go.Proofs.Lays.n166 Tryz.prog Tryz.lays166_ren := {
  mixed := by kernel_rfl
  f166 := Tryz.func88.trans (congrArg some (by kernel_rfl))
  f240 := Tryz.func118.trans (congrArg some (by kernel_rfl))
  f276 := Tryz.func137.trans (congrArg some (by kernel_rfl))
  t0 := Tryz.underlying0
  a0 := Tryz.isAgg0
  z0 := Tryz.sizeOf0
  v0 := Tryz.zeroValue0
  t3 := Tryz.underlying3
  a3 := Tryz.isAgg3
  z3 := Tryz.sizeOf3
  v3 := Tryz.zeroValue3
  t4 := Tryz.underlying4
  a4 := Tryz.isAgg4
  z4 := Tryz.sizeOf4
  v4 := Tryz.zeroValue4
  t9 := Tryz.underlying9
  a9 := Tryz.isAgg9
  z9 := Tryz.sizeOf9
  v9 := Tryz.zeroValue9
  t20 := Tryz.underlying20
  a20 := Tryz.isAgg20
  z20 := Tryz.sizeOf20
  v20 := Tryz.zeroValue20
  t37 := Tryz.underlying136
  a37 := Tryz.isAgg136
  z37 := Tryz.sizeOf136
  v37 := Tryz.zeroValue136
  t70 := Tryz.underlying135
  a70 := Tryz.isAgg135
  z70 := Tryz.sizeOf135
  v70 := Tryz.zeroValue135
  t72 := Tryz.underlying138
  a72 := Tryz.isAgg138
  z72 := Tryz.sizeOf138
  v72 := Tryz.zeroValue138
  t75 := Tryz.underlying124
  a75 := Tryz.isAgg124
  z75 := Tryz.sizeOf124
  v75 := Tryz.zeroValue124
  t164 := Tryz.underlying192
  a164 := Tryz.isAgg192
  z164 := Tryz.sizeOf192
  v164 := Tryz.zeroValue192 }
theorem Tryz.Builder_Extra_166 : Builder.Extra Tryz.prog Tryz.lays166_ren := {
  sizeBuilder := by kernel_rfl
  liesBuilder := by kernel_rfl
  t5 := Tryz.underlying5
  a5 := Tryz.isAgg5
  z5 := Tryz.sizeOf5
  v5 := Tryz.zeroValue5
  infoByte := by kernel_rfl
  cellsByte := by kernel_rfl
  sizeByte := by kernel_rfl
  neB5 := by decide }
theorem Tryz.Builder_WriteString (B b : Nat) (bs : List Value) (s : ByteArray) (w : World) (h : Lib.IsBuilder 138 5 B b bs w) (hlen : bs.length + s.size ≤ 140737488355328) (hBw : B ≤ w.heap.size) :
    Calls Tryz.prog 88 #[.pointer (some ⟨b, 0, none⟩), .string s] w fun e w' => e = .returned (.tuple #[.int .i64 s.size, .nilIface]) ∧ (Lib.BuilderAt 138 5 B b (.pointer (some ⟨b, 0, none⟩)) (bs ++ Lib.strCells s) w' ∧ Below B w w') := Any.Builder_WriteString Tryz.lays166 Tryz.Builder_Extra_166 B b bs s w h hlen hBw
end Go.Proofs

namespace Go.Proofs.YtakcdecljfmckaaGreatDoor
open Go.RowKit
open Go.Maps (Keyed int_keyed)

def isizeD : DataW Unit := .map [(.int .u8 97, .lit (.int .i64 4)), (.int .u8 98, .lit (.int .i64 4)), (.int .u8 99, .lit (.int .i64 4)), (.int .u8 105, .lit (.int .i64 2)), (.int .u8 106, .lit (.int .i64 2)), (.int .u8 107, .lit (.int .i64 2)), (.int .u8 113, .lit (.int .i64 1)), (.int .u8 114, .lit (.int .i64 1)), (.int .u8 115, .lit (.int .i64 1)), (.int .u8 121, .lit (.int .i64 8)), (.int .u8 122, .lit (.int .i64 8)), (.int .u8 123, .lit (.int .i64 8))]

/-- strings' cells -/
def strs (l : List (List UInt8)) : List Value := l.map fun s => .string (bA s)

def lsizeD : DataW Unit := .map [(.int .i64 1, .agg [.lit (.int .u8 113), .lit (.int .u8 114), .lit (.int .u8 115)]), (.int .i64 2, .agg [.lit (.int .u8 105), .lit (.int .u8 106), .lit (.int .u8 107)]), (.int .i64 4, .agg [.lit (.int .u8 97), .lit (.int .u8 98), .lit (.int .u8 99)]), (.int .i64 8, .agg [.lit (.int .u8 121), .lit (.int .u8 122), .lit (.int .u8 123)])]
/-- how a row of bytes reads -/
def u8L : List Value → Option (List (DataW Unit))
  | [] => some []
  | .int .u8 a :: t => (u8L t).map (.lit (.int .u8 a) :: ·)
  | _ => none
def arr3 (v : Value) : Option (DataW Unit × List MemPlace) :=
  match v with
  | .agg xs => (u8L xs.toList).map fun l => (.agg l, [])
  | _ => none
/-- the program's variables, as they are laid -/
structure LT (w : World) : Prop where
  jumps : CellsAt w 4 0 (strs jumpN)
  ariths : CellsAt w 3 0 (strs arithN)
  pow : Lib.TabIs Tryz.prog w "internal/strconv.uint64pow10" .u64 Lib.pow10Tab
  max : ∃ m, w.cell? ⟨5, 0, none⟩ = some (.int .i64 m)
  errS : ∃ tp p, w.var? Tryz.prog "strconv.ErrSyntax" = some #[.iface tp p]
  errR : ∃ tp p, w.var? Tryz.prog "strconv.ErrRange" = some #[.iface tp p]
  utf : Lib.Utf8Tabs 0 1 w
  lsize : ∃ bm n, w.cell? ⟨2, 0, none⟩ = some (.map (some bm)) ∧ w.ownsMap Tryz.prog 3 arr3 bm n lsizeD

theorem owns_fr {w w' : World} {t : TypeId} {f : Value → Option (DataW Unit × List MemPlace)} {bm n : Nat} {D : DataW Unit} (h : w.ownsMap Tryz.prog t f bm n D) (hf : Fr No w w') : w'.ownsMap Tryz.prog t f bm n D := by
  obtain ⟨es, clock, hb, hF, hn, hD⟩ := h
  refine ⟨es, clock, ?_, hF, hn, hD⟩
  have hlt : bm < w.heap.size := (Array.getElem?_eq_some_iff.1 hb).1
  rw [hf.block bm hlt id]
  exact hb
theorem var_fr {w w' : World} {s : String} {cs : Array Value} (h : w.var? Tryz.prog s = some cs) (hf : Fr No w w') : w'.var? Tryz.prog s = some cs := by
  unfold World.var? at h ⊢
  obtain ⟨g, hg, hm⟩ := Option.bind_eq_some_iff.1 h
  rw [hg, Option.bind_some]
  have hlt : g < w.heap.size := by
    rcases Nat.lt_or_ge g w.heap.size with h | h
    · exact h
    · rw [Array.getElem?_eq_none h] at hm; cases hm
  rw [hf.block g hlt id]
  exact hm
theorem LT.fr {w w' : World} (h : LT w) (hf : Fr No w w') : LT w' where
  jumps := hf.cells h.jumps id
  ariths := hf.cells h.ariths id
  pow := var_fr h.pow hf
  max := by obtain ⟨m, hm⟩ := h.max; exact ⟨m, hf.cell hm id⟩
  errS := by obtain ⟨t, p, hm⟩ := h.errS; exact ⟨t, p, var_fr hm hf⟩
  errR := by obtain ⟨t, p, hm⟩ := h.errR; exact ⟨t, p, var_fr hm hf⟩
  utf := ⟨fun c hc => hf.cell (h.utf.1 c hc) id, fun i hi => ⟨hf.cell (h.utf.2 i hi).1 id, hf.cell (h.utf.2 i hi).2 id⟩⟩
  lsize := by
    obtain ⟨bm, n, hc, ho⟩ := h.lsize
    exact ⟨bm, n, hf.cell hc id, owns_fr ho hf⟩
theorem itoa_any (n : Int) (h0 : -9223372036854775808 < n) (h1 : n ≤ 9223372036854775807) (w : World) (ht : LT w) : Calls Tryz.prog 67 #[.int .i64 n] w fun e w' => e = .returned (.string (bA (itoaN n))) ∧ Fr No w w' := by
  refine (Tryz.strconv_Itoa n (by omega) h1 w ht.pow).mono ?_
  rintro e w' ⟨rfl, k, os, rfl⟩
  refine ⟨?_, Fr.of_below (Go.Lib.below_grow w.heap.size w (Nat.le_refl _) k os)⟩
  rw [itoaN_itoa (by omega)]
  rfl
theorem isize_at (op : Nat) : isizeD.atKey (.int .u8 op) (.lit (.int .i64 0)) = .lit (.int .i64 (sizeN op)) := by
  by_cases h : op ∈ ([97, 98, 99, 105, 106, 107, 113, 114, 115, 121, 122, 123] : List Nat)
  · simp only [List.mem_cons, List.not_mem_nil, or_false] at h
    rcases h with rfl | rfl | rfl | rfl | rfl | rfl | rfl | rfl | rfl | rfl | rfl | rfl <;> rfl
  · simp only [List.mem_cons, List.not_mem_nil, or_false, not_or] at h
    have s1 : ∀ (x : Int) (y : DataW Unit), ¬ x = (op : Int) → ((Lit.int .u8 x, y).1.sameKey (.int .u8 op)) = false := fun x y hx => by simp [Lit.sameKey, hx]
    have e1 := s1 97 (.lit (.int .i64 4)) (by omega)
    have e2 := s1 98 (.lit (.int .i64 4)) (by omega)
    have e3 := s1 99 (.lit (.int .i64 4)) (by omega)
    have e4 := s1 105 (.lit (.int .i64 2)) (by omega)
    have e5 := s1 106 (.lit (.int .i64 2)) (by omega)
    have e6 := s1 107 (.lit (.int .i64 2)) (by omega)
    have e7 := s1 113 (.lit (.int .i64 1)) (by omega)
    have e8 := s1 114 (.lit (.int .i64 1)) (by omega)
    have e9 := s1 115 (.lit (.int .i64 1)) (by omega)
    have e10 := s1 121 (.lit (.int .i64 8)) (by omega)
    have e11 := s1 122 (.lit (.int .i64 8)) (by omega)
    have e12 := s1 123 (.lit (.int .i64 8)) (by omega)
    have e : sizeN op = 0 := by unfold sizeN; simp [h]
    rw [e]
    unfold isizeD
    simp only [DataW.atKey, List.find?_cons, e1, e2, e3, e4, e5, e6, e7, e8, e9, e10, e11, e12, List.find?_nil]
    rfl
theorem wf_u8 {n : Nat} (h : n < 256) : (Lit.int .u8 (n : Int)).wf = true := by
  have e1 : IntKind.min .u8 = 0 := by decide
  have e2 : IntKind.max .u8 = 255 := by decide
  simp only [Lit.wf, e1, e2, Bool.and_eq_true, decide_eq_true_eq]
  omega
end Go.Proofs.YtakcdecljfmckaaGreatDoor

namespace Go.Proofs.YtakcdecljfmckaaGreatDoor
open Go.RowKit Go.Lib Go.Sort

end Go.Proofs.YtakcdecljfmckaaGreatDoor
