/- firewalllaw03.Same: are two programs the same. lines.words: the words of a slot that may be. lines.double at slots; what a round of lines.Show lays. -/
import Derived.Test.YthkdokkpiaaljaaGreatDoorCore13
import Derived.BigQuiet
import Derived.Test.YthkdokkpiaaljaaGreatDoorCore10
set_option linter.all false
set_option linter.unusedVariables false
set_option linter.unusedSimpArgs false
namespace Go.Proofs.YthkdokkpiaaljaaGreatDoor
open Go.RowKit

def insEqB (x y : Ins) : Bool := (x.op : Int) == y.op && ((x.dst : Int) == y.dst && ((x.src : Int) == y.src && (x.off == y.off && x.imm == y.imm)))
theorem insEqB_iff (x y : Ins) : insEqB x y = true ↔ x = y := by
  cases x; cases y
  simp [insEqB]
  omega
theorem neq_insL (x y : Ins) (w : World) : (binOp .neq 51 (.agg #[.int .u8 x.op, .int .u8 x.dst, .int .u8 x.src, .int .i16 x.off, .int .i32 x.imm]) (.agg #[.int .u8 y.op, .int .u8 y.dst, .int .u8 y.src, .int .i16 y.off, .int .i32 y.imm])).run Tryz.prog w = .ok (.bool (!insEqB x y)) w := neq_ins _ _ _ _ _ _ _ _ _ _ w

set_option maxRecDepth 100000 in
set_option maxHeartbeats 1000000 in
theorem isame_walk (g1 o1 c1 g2 o2 c2 n : Nat) (l1 l2 : List Ins) (w : World) (h1 : l1.length = n) (h2 : l2.length = n) (hc1 : CellsAt w g1 o1 (iflat l1)) (hc2 : CellsAt w g2 o2 (iflat l2)) (hn : 1 ≤ n) (hm : n ≤ 4294967296) :
    Calls Tryz.prog 13 #[.slice (some ⟨g1, o1, none⟩) n c1, .slice (some ⟨g2, o2, none⟩) n c2] w fun e w' => (∃ r : Bool, e = .returned (.bool r) ∧ (r = true ↔ l1 = l2)) ∧ Fr No w w' := by
  have HC1 := Lib.hid hc1
  have HC2 := Lib.hid hc2
  have HL1 := Lib.hid h1
  have HL2 := Lib.hid h2
  have hb1 : g1 < w.heap.size := World.block_lt_of_cell? w _ (hc1 (0 * 5 + 0) _ (iflat_get l1 0 0 (by omega) (by omega)))
  have hb2 : g2 < w.heap.size := World.block_lt_of_cell? w _ (hc2 (0 * 5 + 0) _ (iflat_get l2 0 0 (by omega) (by omega)))
  clear hc1 hc2 h1 h2
  go_enter Tryz.func13, Tryz.ntmps13
  go_wp2_with fail
  go_loopw [5] (fun i wr => ∃ (k : Nat), k ≤ n ∧ i = .int .i64 k ∧ Hid (l1.take k = l2.take k) ∧ Hid (Fr No w wr)) (fun i _ => n - (intOf i).toNat)
  case atStart => exact ⟨0, Nat.zero_le _, rfl, Lib.hid (by simp), Fr.refl _ _⟩
  case round =>
    obtain ⟨k, hk, rfl, HI, HF⟩ := hrel
    by_cases hlt : k < n
    · obtain ⟨x, hx⟩ : ∃ x, l1[k]? = some x := ⟨l1[k]'(by rw [HL1.out]; exact hlt), List.getElem?_eq_getElem _⟩
      obtain ⟨y, hy⟩ : ∃ y, l2[k]? = some y := ⟨l2[k]'(by rw [HL2.out]; exact hlt), List.getElem?_eq_getElem _⟩
      obtain ⟨k0, k1, k2, k3, k4⟩ := ins_cell (HF.out.cells HC1.out id) hx
      obtain ⟨m0, m1, m2, m3, m4⟩ := ins_cell (HF.out.cells HC2.out id) hy
      obtain ⟨r, q1, hr⟩ : ∃ r : Bool, (∀ w, (binOp .neq 51 (.agg #[.int .u8 x.op, .int .u8 x.dst, .int .u8 x.src, .int .i16 x.off, .int .i32 x.imm]) (.agg #[.int .u8 y.op, .int .u8 y.dst, .int .u8 y.src, .int .i16 y.off, .int .i32 y.imm])).run Tryz.prog w = .ok (.bool r) w) ∧ (r = false ↔ x = y) := by
        refine ⟨_, neq_insL _ _, ?_⟩
        rw [← insEqB_iff]
        cases insEqB x y <;> simp
      have HS : Hid ((x = y → l1.take (k + 1) = l2.take (k + 1)) ∧ (x ≠ y → l1 ≠ l2)) := by
        refine ⟨fun e => ?_, fun e h => e ?_⟩
        · rw [List.take_add_one, List.take_add_one, HI.out, hx, hy, e]
        · rw [h, hy] at hx; exact (Option.some.inj hx).symm
      have HR := Lib.hid hr
      obtain ⟨xo, hxo⟩ : ∃ z : Int, (x.op : Int) = z := ⟨_, rfl⟩
      obtain ⟨xd, hxd⟩ : ∃ z : Int, (x.dst : Int) = z := ⟨_, rfl⟩
      obtain ⟨xs, hxs⟩ : ∃ z : Int, (x.src : Int) = z := ⟨_, rfl⟩
      obtain ⟨xf, hxf⟩ : ∃ z : Int, x.off = z := ⟨_, rfl⟩
      obtain ⟨xm, hxm⟩ : ∃ z : Int, x.imm = z := ⟨_, rfl⟩
      obtain ⟨yo, hyo⟩ : ∃ z : Int, (y.op : Int) = z := ⟨_, rfl⟩
      obtain ⟨yd, hyd⟩ : ∃ z : Int, (y.dst : Int) = z := ⟨_, rfl⟩
      obtain ⟨ys, hys⟩ : ∃ z : Int, (y.src : Int) = z := ⟨_, rfl⟩
      obtain ⟨yf, hyf⟩ : ∃ z : Int, y.off = z := ⟨_, rfl⟩
      obtain ⟨ym, hym⟩ : ∃ z : Int, y.imm = z := ⟨_, rfl⟩
      rw [hxo] at k0 q1
      rw [hxd] at k1 q1
      rw [hxs] at k2 q1
      rw [hxf] at k3 q1
      rw [hxm] at k4 q1
      rw [hyo] at m0 q1
      rw [hyd] at m1 q1
      rw [hys] at m2 q1
      rw [hyf] at m3 q1
      rw [hym] at m4 q1
      have hz := HF.out.size
      have hb1' : g1 < wr.heap.size := by omega
      have hb2' : g2 < wr.heap.size := by omega
      clear hx hy hr hz hb1 hb2 hxo hxd hxs hxf hxm hyo hyd hys hyf hym
      have q2 := guard_ins
      go_wp2_with fail
      go_quiet (fail)
      cases r with
      | false =>
        go_wp2_with fail
        go_roundw
        case rel => exact ⟨k + 1, by omega, by go_num, Lib.hid (HS.out.1 (HR.out.1 rfl)), HF.out.drewN _⟩
        case measure => simp [intOf] <;> omega
      | true =>
        go_wp2_with fail
        go_ret
        exact ⟨⟨_, rfl, ⟨fun e => (Bool.noConfusion e), fun e => absurd e (HS.out.2 fun e2 => Bool.noConfusion (HR.out.2 e2))⟩⟩, HF.out.drewN _⟩
    · obtain rfl : k = n := by omega
      go_wp2_with fail
      go_ret
      exact ⟨⟨_, rfl, ⟨fun _ => by
        have := HI.out
        rwa [List.take_of_length_le (by rw [HL1.out]; exact Nat.le_refl _), List.take_of_length_le (by rw [HL2.out]; exact Nat.le_refl _)] at this, fun _ => rfl⟩⟩, HF.out⟩

set_option maxHeartbeats 400000 in
theorem isame_unlike (a1 a2 : Option Addr) (c1 c2 n1 n2 : Nat) (w : World) (h : n1 ≠ n2) :
    Calls Tryz.prog 13 #[.slice a1 n1 c1, .slice a2 n2 c2] w fun e w' => e = .returned (.bool false) ∧ w = w' := by
  have h' : ((n1 : Int) == (n2 : Int)) = false := by rw [beq_eq_false_iff_ne]; omega
  go_enter Tryz.func13, Tryz.ntmps13
  go_wp2_with fail
  go_ret
  exact ⟨rfl, rfl⟩

set_option maxHeartbeats 400000 in
theorem isame_zero (a1 a2 : Option Addr) (c1 c2 : Nat) (w : World) :
    Calls Tryz.prog 13 #[.slice a1 0 c1, .slice a2 0 c2] w fun e w' => e = .returned (.bool true) ∧ w = w' := by
  go_enter Tryz.func13, Tryz.ntmps13
  go_wp2_with fail
  refine wp_loop_rounds 1 ?_
  rw [rounds_succ]
  go_wp2_with fail
  go_ret
  exact ⟨rfl, rfl⟩

theorem isame_any (v1 v2 : Value) (l1 l2 : List Ins) (w : World) (h1 : InsAt w v1 l1) (h2 : InsAt w v2 l2) (hm : l1.length ≤ 4294967296) :
    Calls Tryz.prog 13 #[v1, v2] w fun e w' => (∃ r : Bool, e = .returned (.bool r) ∧ (r = true ↔ l1 = l2)) ∧ Fr No w w' := by
  by_cases hl : l1.length = l2.length
  · rcases Nat.eq_zero_or_pos l1.length with h0 | h0
    · have e1 := List.eq_nil_of_length_eq_zero h0
      have e2 := List.eq_nil_of_length_eq_zero (hl ▸ h0)
      subst e1 e2
      obtain ⟨a1, c1, rfl⟩ := h1.form
      obtain ⟨a2, c2, rfl⟩ := h2.form
      exact (isame_zero a1 a2 c1 c2 w).mono fun e w' ⟨he, hw⟩ => ⟨⟨_, he, ⟨fun _ => rfl, fun _ => rfl⟩⟩, hw ▸ Fr.refl _ _⟩
    · rcases h1 with ⟨rfl, _⟩ | ⟨g1, o1, c1, rfl, hc1⟩
      · exact absurd h0 (by decide)
      rcases h2 with ⟨rfl, _⟩ | ⟨g2, o2, c2, rfl, hc2⟩
      · simp at hl; subst hl; exact absurd h0 (by decide)
      rw [← hl]
      exact isame_walk g1 o1 c1 g2 o2 c2 l1.length l1 l2 w rfl hl.symm hc1 hc2 h0 hm
  · obtain ⟨a1, c1, rfl⟩ := h1.form
    obtain ⟨a2, c2, rfl⟩ := h2.form
    exact (isame_unlike a1 a2 c1 c2 _ _ w hl).mono fun e w' ⟨he, hw⟩ => ⟨⟨_, he, ⟨fun e => Bool.noConfusion e, fun e => absurd (congrArg _ e) hl⟩⟩, hw ▸ Fr.refl _ _⟩
/-- of a program against itself -/
theorem isame_true (v1 v2 : Value) (l : List Ins) (w : World) (h1 : InsAt w v1 l) (h2 : InsAt w v2 l) (hm : l.length ≤ 4294967296) :
    Calls Tryz.prog 13 #[v1, v2] w fun e w' => e = .returned (.bool true) ∧ Fr No w w' :=
  (isame_any v1 v2 l l w h1 h2 hm).mono fun e w' ⟨⟨r, he, hr⟩, hf⟩ => ⟨by rw [he, hr.2 rfl], hf⟩
end Go.Proofs.YthkdokkpiaaljaaGreatDoor

namespace Go.Proofs.YthkdokkpiaaljaaGreatDoor
open Go.RowKit

def wcls (op : Nat) : Bool :=
  !knownB op true || (op == 24 || op == 194 || op == 133 || op == 149 || op == 5 ||
    (op % 8 == 1 && !arithB op && !specB op && !jumpB op && loadB op) ||
    (op % 8 == 2 && !arithB op && !specB op && !jumpB op && !loadB op && storeB op) ||
    (op % 8 == 3 && !arithB op && !specB op && !jumpB op && !loadB op && !storeB op) ||
    ((op % 8 == 5 || op % 8 == 6) && !arithB op && !specB op && jumpB op && decide (op / 16 < 14)) ||
    ((op % 8 == 4 || op % 8 == 7) && arithB op && codeN op == 128) ||
    ((op % 8 == 4 || op % 8 == 7) && arithB op && codeN op != 128 && decide (op / 16 < 13)))
theorem wcls_all : (List.range 256).all wcls = true := by decide +kernel

theorem words_any (i : Ins) (hi : i.ok) (hk : knownB i.op true = true) (h24 : i.op ≠ 24) (w : World) (hT : LT w) : Calls Tryz.prog 23 #[i.agg] w (SlStrs ((toks i.op).map (Tok.show i)) w) := by
  have hc := List.all_eq_true.1 wcls_all i.op (List.mem_range.2 hi.op)
  obtain ⟨op, dst, src, off, imm⟩ := i
  obtain ⟨h1, h2, h3, h4, h5⟩ := hi
  simp only at h1 h2 h3 h4 h5 hk h24 hc ⊢
  show Calls Tryz.prog 23 #[.agg #[.int .u8 op, .int .u8 dst, .int .u8 src, .int .i16 off, .int .i32 imm]] w _
  unfold wcls at hc
  rw [hk] at hc
  have hz : itoaN (sizeN op : Int) = decN (sizeN op) := by unfold itoaN; rw [if_neg (by omega)]; simp
  have nb : ∀ {a b : Nat}, a ≠ b → ((a : Int) == (b : Int)) = false := fun h => by rw [beq_nat]; simpa using h
  have yb : ∀ {a b : Nat}, a = b → ((a : Int) == (b : Int)) = true := fun h => by rw [beq_nat]; simpa using h
  by_cases e194 : op = 194
  · subst e194
    exact words_nospec 194 dst src _ _ _ _ off imm _ [] h1 h2 h3 h4 h5 rfl rfl rfl rfl rfl rfl w hT
  by_cases e133 : op = 133
  · subst e133
    exact words_call 133 dst src _ _ _ _ off imm _ [] h1 h2 h3 h4 h5 rfl rfl rfl rfl rfl rfl rfl w hT
  by_cases e149 : op = 149
  · subst e149
    exact words_exit 149 dst src _ _ _ _ off imm _ [] h1 h2 h3 h4 h5 rfl rfl rfl rfl rfl rfl rfl rfl w hT
  by_cases e5 : op = 5
  · subst e5
    exact words_ja 5 dst src _ _ _ _ off imm _ [] h1 h2 h3 h4 h5 rfl rfl rfl rfl rfl rfl rfl rfl rfl w hT
  simp only [Bool.not_true, Bool.false_or, Bool.or_eq_true, Bool.and_eq_true, beq_iff_eq, Bool.not_eq_true', bne_iff_ne, ne_eq, decide_eq_true_eq, h24, e194, e133, e149, e5, false_or] at hc
  rcases hc with ((((hc | hc) | hc) | hc) | hc) | hc
  · obtain ⟨⟨⟨⟨ht, ha⟩, hs⟩, hj⟩, hl⟩ := hc
    have hw := words_ldx op dst src _ _ _ _ off imm _ [] h1 h2 h3 h4 h5 ht rfl rfl rfl rfl (nb e194) (nb e133) (nb e149) (nb e5) rfl w hT
    rw [hz] at hw
    have e : (toks op).map (Tok.show ⟨op, dst, src, off, imm⟩) = [[108, 100, 120] ++ decN (sizeN op), regN dst, regN src, itoaN off] := by
      unfold toks
      rw [if_neg e194]
      simp [ha, hs, hj, hl, Tok.show]
    rw [e]
    exact hw
  · obtain ⟨⟨⟨⟨⟨ht, ha⟩, hs⟩, hj⟩, hl⟩, hst⟩ := hc
    have hw := words_st op dst src _ _ _ _ off imm _ [] h1 h2 h3 h4 h5 ht rfl rfl rfl rfl (nb e194) (nb e133) (nb e149) (nb e5) rfl rfl w hT
    rw [hz] at hw
    have e : (toks op).map (Tok.show ⟨op, dst, src, off, imm⟩) = [[115, 116] ++ decN (sizeN op), regN dst, itoaN off, itoaN imm] := by
      unfold toks
      rw [if_neg e194]
      simp [ha, hs, hj, hl, hst, Tok.show]
    rw [e]
    exact hw
  · obtain ⟨⟨⟨⟨⟨ht, ha⟩, hs⟩, hj⟩, hl⟩, hst⟩ := hc
    have hw := words_stx op dst src _ _ _ _ off imm _ [] h1 h2 h3 h4 h5 ht rfl rfl rfl rfl (nb e194) (nb e133) (nb e149) (nb e5) rfl rfl rfl w hT
    rw [hz] at hw
    have e : (toks op).map (Tok.show ⟨op, dst, src, off, imm⟩) = [[115, 116, 120] ++ decN (sizeN op), regN dst, itoaN off, regN src] := by
      unfold toks
      rw [if_neg e194]
      simp [ha, hs, hj, hl, hst, Tok.show]
    rw [e]
    exact hw
  · obtain ⟨⟨⟨⟨ht, ha⟩, hs⟩, hj⟩, h14⟩ := hc
    have e : (toks op).map (Tok.show ⟨op, dst, src, off, imm⟩) = [(jumpN[op / 16]?).getD [] ++ (if op % 8 = 7 ∨ op % 8 = 5 then [54, 52] else [51, 50]), regN dst, (if regB op then regN src else itoaN imm), signN off] := by
      unfold toks
      rw [if_neg e194]
      simp only [ha, hs, hj, Bool.false_and, Bool.false_eq_true, if_false, if_true, List.map_cons, List.map_nil]
      unfold nameN widthN
      rw [ha]
      cases regB op <;> rfl
    rw [e]
    rcases ht with ht | ht
    · have hw := words_jmp5 op dst src _ _ _ _ off imm _ _ h1 h2 h3 h4 h5 ht rfl rfl rfl rfl h14 rfl (nb e194) (nb e133) (nb e149) (nb e5) rfl rfl rfl rfl w hT
      rw [ht]
      exact hw
    · have hw := words_jmp6 op dst src _ _ _ _ off imm _ _ h1 h2 h3 h4 h5 ht rfl rfl rfl rfl h14 rfl (nb e194) (nb e133) (nb e149) (nb e5) rfl rfl rfl rfl rfl w hT
      rw [ht]
      exact hw
  · obtain ⟨⟨ht, ha⟩, hcn⟩ := hc
    have e : (toks op).map (Tok.show ⟨op, dst, src, off, imm⟩) = [[110, 101, 103] ++ (if op % 8 = 7 ∨ op % 8 = 5 then [54, 52] else [51, 50]), regN dst] := by
      unfold toks
      rw [if_neg e194]
      simp [ha, hcn, Tok.show, widthN]
    rw [e]
    have e1 : ((op % 8 : Nat) : Int) ≠ 1 ∧ ((op % 8 : Nat) : Int) ≠ 2 ∧ ((op % 8 : Nat) : Int) ≠ 3 ∧ ((op % 8 : Nat) : Int) ≠ 5 ∧ ((op % 8 : Nat) : Int) ≠ 6 := by omega
    exact words_neg op dst src _ _ _ _ off imm _ [] h1 h2 h3 h4 h5 rfl hcn rfl rfl rfl (nb e194) (nb e133) (nb e149) (nb e5) (by simpa using e1.1) (by simpa using e1.2.1) (by simpa using e1.2.2.1) (by simpa using e1.2.2.2.1) (by simpa using e1.2.2.2.2) rfl w hT
  · obtain ⟨⟨⟨ht, ha⟩, hcn⟩, h13⟩ := hc
    have e : (toks op).map (Tok.show ⟨op, dst, src, off, imm⟩) = [(arithN[op / 16]?).getD [] ++ (if op % 8 = 7 ∨ op % 8 = 5 then [54, 52] else [51, 50]), regN dst, (if regB op then regN src else itoaN imm)] := by
      unfold toks
      rw [if_neg e194]
      have hb : (codeN op == 128) = false := by simpa using hcn
      simp only [ha, hb, Bool.and_false, Bool.false_eq_true, if_false, if_true, List.map_cons, List.map_nil]
      unfold nameN widthN
      rw [ha]
      cases regB op <;> rfl
    rw [e]
    have e1 : ((op % 8 : Nat) : Int) ≠ 1 ∧ ((op % 8 : Nat) : Int) ≠ 2 ∧ ((op % 8 : Nat) : Int) ≠ 3 ∧ ((op % 8 : Nat) : Int) ≠ 5 ∧ ((op % 8 : Nat) : Int) ≠ 6 := by omega
    exact words_arith op dst src _ _ _ _ off imm _ _ h1 h2 h3 h4 h5 rfl rfl rfl rfl rfl h13 rfl (nb e194) (nb e133) (nb e149) (nb e5) (by simpa using e1.1) (by simpa using e1.2.1) (by simpa using e1.2.2.1) (by simpa using e1.2.2.2.1) (by simpa using e1.2.2.2.2) (nb hcn) w hT
end Go.Proofs.YthkdokkpiaaljaaGreatDoor

namespace Go.Proofs.YthkdokkpiaaljaaGreatDoor
open Go.RowKit

def dblB (x y : Ins) : Bool := x.op == 24 && checkI x true == 0 && halfB y (x.src == 1)
def pairW (x y : Ins) : List (List UInt8) := if x.src = 1 then [[108, 100, 109, 97, 112], regN x.dst, itoaN x.imm] else [[108, 100, 105, 109, 109], regN x.dst, decN (wideN x y)]
theorem pairW_join (x y : Ins) : joinW (pairW x y) = pairI x y := by unfold pairW pairI; split <;> rfl
def rawW (x : Ins) : List (List UInt8) := [[114, 97, 119], itoaN x.op, itoaN x.dst, itoaN x.src, itoaN x.off, itoaN x.imm]
/-- a slice, and not -/
def SlNo (w : World) (e : Ending) (w' : World) : Prop := ∃ a n c, e = .returned (.tuple #[.slice a n c, .bool false]) ∧ Fr No w w'

theorem nb {a b : Nat} (h : a ≠ b) : ((a : Int) == (b : Int)) = false := by rw [beq_nat]; simpa using h
theorem yb {a b : Nat} (h : a = b) : ((a : Int) == (b : Int)) = true := by rw [beq_nat]; simpa using h

theorem double_yes (x y : Ins) (hx : x.ok) (hy : y.ok) (h : dblB x y = true) (w : World) (hT : LT w) : Calls Tryz.prog 24 #[x.agg, y.agg] w (SlOk (pairW x y) true w) := by
  obtain ⟨o, d, s, f, m⟩ := x
  obtain ⟨jo, jd, js, jf, jm⟩ := y
  unfold dblB halfB at h
  simp only [Bool.and_eq_true, Bool.or_eq_true, beq_iff_eq, Bool.not_eq_true', beq_eq_false_iff_ne, ne_eq] at h
  obtain ⟨⟨h24, hck⟩, ⟨⟨⟨h0, h1⟩, h2⟩, h3⟩, h4⟩ := h
  subst h24 h0 h1 h2 h3
  have hj : (!(((0 : Nat) : Int) == 0 && (((0 : Nat) : Int) == 0 && (((0 : Nat) : Int) == 0 && ((0 : Int) == 0 && jm == jm))))) = false := by simp
  by_cases hs : s = 1
  · subst hs
    have hjm : jm = 0 := by rcases h4 with h | h; exact h; exact absurd rfl h
    subst hjm
    have := double_map 24 d 1 0 0 0 f m 0 0 0 hx hck rfl rfl hj rfl w hT
    have e : pairW ⟨24, d, 1, f, m⟩ ⟨0, 0, 0, 0, 0⟩ = [[108, 100, 109, 97, 112], regN d, itoaN m] := rfl
    rw [e]
    exact this
  · have := double_imm 24 d s 0 0 0 f m 0 jm 0 hx hck rfl rfl hj (nb hs) hy.imm w hT
    have e : pairW ⟨24, d, s, f, m⟩ ⟨0, 0, 0, 0, jm⟩ = [[108, 100, 105, 109, 109], regN d, decN (u32 jm * 4294967296 + u32 m)] := by
      unfold pairW
      rw [if_neg hs]
      rfl
    rw [e]
    exact this
theorem double_else (x y : Ins) (hx : x.ok) (hy : y.ok) (h : dblB x y = false) (w : World) (hT : LT w) : Calls Tryz.prog 24 #[x.agg, y.agg] w (SlNo w) := by
  obtain ⟨o, d, s, f, m⟩ := x
  obtain ⟨jo, jd, js, jf, jm⟩ := y
  have no : ∀ {P : Value}, (Calls Tryz.prog 24 #[Ins.agg ⟨o, d, s, f, m⟩, Ins.agg ⟨jo, jd, js, jf, jm⟩] w fun e w' => e = .returned (.tuple #[.slice none 0 0, .bool false]) ∧ Fr No w w') → Calls Tryz.prog 24 #[Ins.agg ⟨o, d, s, f, m⟩, Ins.agg ⟨jo, jd, js, jf, jm⟩] w (SlNo w) := fun h => h.mono fun e w' ⟨he, hf⟩ => ⟨none, 0, 0, he, hf⟩
  by_cases h24 : o = 24
  · subst h24
    cases hck : (checkI ⟨24, d, s, f, m⟩ true == 0) with
    | false => exact no (P := .nilIface) (double_bad 24 d s jo jd js f m jf jm _ hx rfl rfl (by rw [bne, hck]; rfl) w)
    | true =>
      have hc0 : (checkI ⟨24, d, s, f, m⟩ true != 0) = false := by rw [bne, hck]; rfl
      cases hj : (!((jo : Int) == 0 && ((jd : Int) == 0 && ((js : Int) == 0 && (jf == 0 && jm == jm))))) with
      | true => exact no (P := .nilIface) (double_no 24 d s jo jd js f m jf jm _ hx rfl rfl hc0 hj w)
      | false =>
        have hz : jo = 0 ∧ jd = 0 ∧ js = 0 ∧ jf = 0 := by
          simp only [Bool.not_eq_false', Bool.and_eq_true, beq_iff_eq] at hj
          omega
        obtain ⟨rfl, rfl, rfl, rfl⟩ := hz
        have h5 : s = 1 ∧ jm ≠ 0 := by
          unfold dblB halfB at h
          rw [hck] at h
          simp only [beq_self_eq_true, Bool.true_and, Bool.or_eq_false_iff, beq_eq_false_iff_ne, ne_eq, Bool.not_eq_false', beq_iff_eq] at h
          exact ⟨h.2, h.1⟩
        obtain ⟨rfl, hjm⟩ := h5
        have := double_map 24 d 1 0 0 0 f m 0 jm _ hx rfl rfl hc0 hj rfl w hT
        have hb : (jm == 0) = false := by simpa using hjm
        rw [hb] at this
        refine this.mono ?_
        rintro e w' ⟨v, rfl, hS, hF⟩
        obtain ⟨a, c, rfl⟩ := hS.form
        exact ⟨a, _, c, rfl, hF⟩
  · exact no (P := .nilIface) (double_not24 o d s jo jd js f m jf jm _ hx rfl (by have := nb h24; rw [bne]; exact congrArg _ this) w)
end Go.Proofs.YthkdokkpiaaljaaGreatDoor
