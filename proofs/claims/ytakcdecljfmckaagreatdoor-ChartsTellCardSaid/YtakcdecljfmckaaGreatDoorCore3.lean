/- What is shown of a program is read as that program: a slot's line. No condition. What is shown of a program is read as that program: its lines. No condition. firewallref03: numerals. firewallref02.Size; firewallref03: name, Half, Wide. firewallref03: name. firewallref03: Half, Wide. progs.Check and progs.Next, plain. -/
import Derived.Test.YtakcdecljfmckaaGreatDoorCore2
import Derived.Test.YtakcdecljfmckaaGreatDoorCore1
import Derived.Lib.Strings
import Derived.Laws.Concat
import Derived.Handy
import Derived.BigGuardPart
set_option linter.all false
set_option linter.unusedVariables false
set_option linter.unusedSimpArgs false
namespace Go.Proofs.YtakcdecljfmckaaGreatDoor
open Go.RowKit

structure Fits (i : Ins) : Prop where
  known : knownB i.op true = true
  dst : i.dst ≤ 10
  src : i.src ≤ 10
  nd : dstB i.op = false → i.dst = 0
  ns : srcB i.op = false → i.src = 0
  no : offB i.op = false → i.off = 0
  ni : immB i.op = false → i.imm = 0
  ref : i.op = 24 → i.src ≤ 1

theorem check_fits {i : Ins} (h : (checkI i true == 0) = true) : Fits i := by
  unfold checkI at h
  split at h
  · cases h
  · rename_i h1
    split at h
    · cases h
    · rename_i h2
      split at h
      · cases h
      · rename_i h3
        simp at h1 h2 h3
        obtain ⟨⟨⟨⟨a, b⟩, c⟩, d⟩, e⟩ := h3
        exact ⟨h1, by omega, by omega, a, b, c, d, e⟩

def codeT : Tok → Nat
  | .lit _ => 0
  | .rd => 1
  | .rs => 2
  | .imm => 3
  | .off => 4
  | .joff => 5
def codeK : Kd → Nat
  | .d => 1
  | .s => 2
  | .o => 3
  | .v => 4
  | .e => 5
theorem codeT_1 {t : Tok} (h : codeT t = 1) : t = .rd := by cases t <;> simp [codeT] at h ⊢
theorem codeT_2 {t : Tok} (h : codeT t = 2) : t = .rs := by cases t <;> simp [codeT] at h ⊢
theorem codeT_3 {t : Tok} (h : codeT t = 3) : t = .imm := by cases t <;> simp [codeT] at h ⊢
theorem codeT_4 {t : Tok} (h : codeT t = 4) : t = .off := by cases t <;> simp [codeT] at h ⊢
theorem codeT_5 {t : Tok} (h : codeT t = 5) : t = .joff := by cases t <;> simp [codeT] at h ⊢
theorem codeK_1 {t : Kd} (h : codeK t = 1) : t = .d := by cases t <;> simp [codeK] at h ⊢
theorem codeK_2 {t : Kd} (h : codeK t = 2) : t = .s := by cases t <;> simp [codeK] at h ⊢
theorem codeK_3 {t : Kd} (h : codeK t = 3) : t = .o := by cases t <;> simp [codeK] at h ⊢
theorem codeK_4 {t : Kd} (h : codeK t = 4) : t = .v := by cases t <;> simp [codeK] at h ⊢
theorem codeK_5 {t : Kd} (h : codeK t = 5) : t = .e := by cases t <;> simp [codeK] at h ⊢

/-- the opcode without FromReg, where it is one of two -/
def baseOp (op : Nat) : Nat := if (arithB op || condB op) && regB op then op - 8 else op

def shapes : List (List Nat × List Nat × Bool × Bool × Bool × Bool × Bool) :=
  [([], [], false, false, false, false, false), ([5], [3], false, false, true, false, false), ([3], [4], false, false, false, true, false), ([1, 2, 4], [1, 2, 3], true, true, true, false, false), ([1, 4, 3], [1, 3, 4], true, false, true, true, false), ([1, 4, 2], [1, 3, 2], true, true, true, false, false),
   ([1], [1], true, false, false, false, false), ([1, 2], [1, 5], true, true, false, false, true), ([1, 3], [1, 5], true, false, false, true, false), ([1, 2, 5], [1, 5, 3], true, true, true, false, true), ([1, 3, 5], [1, 5, 3], true, false, true, true, false)]

def opFacts (op : Nat) : Bool :=
  match toks op with
  | .lit w :: ts =>
    cleanW w && !(w == [114, 97, 119]) && !(w == [108, 100, 105, 109, 109]) && !(w == [108, 100, 109, 97, 112]) && ((List.range 256).find? (hitB w) == some (baseOp op)) &&
      (match table (baseOp op) with
        | some x => shapes.contains (ts.map codeT, x.2.map codeK, dstB op, srcB op, offB op, immB op, ((arithB op || condB op) && regB op))
        | none => false)
  | _ => false

theorem op_facts : ∀ op, op < 256 → knownB op true = true → op ≠ 24 → opFacts op = true := by decide +kernel

theorem map1 {f : Tok → Nat} {l : List Tok} {a : Nat} (h : l.map f = [a]) : ∃ x, l = [x] ∧ f x = a := by
  match l, h with
  | [x], h => exact ⟨x, rfl, by simpa using h⟩
theorem map2 {f : Tok → Nat} {l : List Tok} {a b : Nat} (h : l.map f = [a, b]) : ∃ x y, l = [x, y] ∧ f x = a ∧ f y = b := by
  match l, h with
  | [x, y], h => exact ⟨x, y, rfl, by simpa using h⟩
theorem map3 {f : Tok → Nat} {l : List Tok} {a b c : Nat} (h : l.map f = [a, b, c]) : ∃ x y z, l = [x, y, z] ∧ f x = a ∧ f y = b ∧ f z = c := by
  match l, h with
  | [x, y, z], h => exact ⟨x, y, z, rfl, by simpa using h⟩
theorem kmap1 {f : Kd → Nat} {l : List Kd} {a : Nat} (h : l.map f = [a]) : ∃ x, l = [x] ∧ f x = a := by
  match l, h with
  | [x], h => exact ⟨x, rfl, by simpa using h⟩
theorem kmap2 {f : Kd → Nat} {l : List Kd} {a b : Nat} (h : l.map f = [a, b]) : ∃ x y, l = [x, y] ∧ f x = a ∧ f y = b := by
  match l, h with
  | [x, y], h => exact ⟨x, y, rfl, by simpa using h⟩
theorem kmap3 {f : Kd → Nat} {l : List Kd} {a b c : Nat} (h : l.map f = [a, b, c]) : ∃ x y z, l = [x, y, z] ∧ f x = a ∧ f y = b ∧ f z = c := by
  match l, h with
  | [x, y, z], h => exact ⟨x, y, z, rfl, by simpa using h⟩

theorem regW_num {n : Int} : regW (itoaN n) = none := by
  unfold regW
  rw [List.find?_eq_none]
  intro r _
  have : (itoaN n).head? ≠ some 114 := by
    unfold itoaN
    split
    · simp
    · intro h; have := dec_head h; revert this; decide
  intro he
  have he : itoaN n = regN r := by simpa using he
  rw [he] at this
  exact this rfl

theorem clean_dig {c : UInt8} (h : 48 ≤ c ∧ c ≤ 57) : cleanB c = true := by
  rw [cleanB_iff]
  obtain ⟨h1, h2⟩ := h
  rw [UInt8.le_iff_toNat_le] at h1 h2
  refine ⟨?_, ?_, ?_⟩
  · rw [UInt8.lt_iff_toNat_lt]; exact Nat.lt_of_lt_of_le (by decide) h1
  · rw [UInt8.lt_iff_toNat_lt]; exact Nat.lt_of_le_of_lt h2 (by decide)
  · rintro rfl; revert h2; decide
theorem clean_dec (n : Nat) : cleanW (decN n) = true := (cleanW_iff _).2 ⟨fun c hc => clean_dig (digF_digits 20 n c hc), decN_ne n⟩
theorem clean_cons {c : UInt8} {w : List UInt8} (hc : cleanB c = true) (h : cleanW w = true) : cleanW (c :: w) = true :=
  (cleanW_iff _).2 ⟨fun x hx => by rcases List.mem_cons.1 hx with rfl | hx; exact hc; exact ((cleanW_iff _).1 h).1 x hx, by simp⟩
theorem clean_itoa (n : Int) : cleanW (itoaN n) = true := by
  unfold itoaN
  split
  · exact clean_cons (by decide) (clean_dec _)
  · exact clean_dec _
theorem clean_sign (n : Int) : cleanW (signN n) = true := by
  unfold signN
  split
  · exact clean_itoa _
  · exact clean_cons (by decide) (clean_itoa _)
theorem clean_reg (n : Nat) : cleanW (regN n) = true := clean_cons (by decide) (clean_dec _)

theorem base_neg {op : Nat} (h : ((arithB op || condB op) && regB op) = false) : baseOp op = op := by unfold baseOp; simp [h]
theorem base_pos {op : Nat} (h : ((arithB op || condB op) && regB op) = true) : baseOp op + 8 = op := by
  unfold baseOp
  rw [if_pos h]
  simp only [Bool.and_eq_true] at h
  have := h.2
  unfold regB at this
  simp at this
  omega

theorem fields_back (i : Ins) (hi : i.ok) (hf : Fits i) (h24 : i.op ≠ 24) : ∃ w ts ks, toks i.op = .lit w :: ts ∧ cleanW w = true ∧ w ≠ [114, 97, 119] ∧ w ≠ [108, 100, 105, 109, 109] ∧ w ≠ [108, 100, 109, 97, 112] ∧ (List.range 256).find? (hitB w) = some (baseOp i.op) ∧ kindsOf (baseOp i.op) = ks ∧
    fieldsI ⟨baseOp i.op, 0, 0, 0, 0⟩ ks (ts.map (Tok.show i)) = some i ∧ ∀ t ∈ ts, cleanW (Tok.show i t) = true := by
  have hfa := op_facts i.op hi.op hf.known h24
  unfold opFacts at hfa
  split at hfa
  · rename_i w ts htk
    simp only [Bool.and_eq_true, Bool.not_eq_true', beq_eq_false_iff_ne, beq_iff_eq] at hfa
    obtain ⟨⟨⟨⟨⟨h1, h2⟩, h3⟩, h4⟩, h5⟩, h6⟩ := hfa
    split at h6
    · rename_i x hx
      rw [List.contains_iff_mem] at h6
      have pd := regW_reg hf.dst
      have ps := regW_reg hf.src
      have po : parseI (itoaN i.off) 32768 32767 = some i.off := parseI_itoa hi.off.1 (by have := hi.off.2; omega) (by decide) (by decide)
      have pj : parseI (signN i.off) 32768 32767 = some i.off := parseI_sign hi.off.1 (by have := hi.off.2; omega) (by decide) (by decide)
      have pv : parseI (itoaN i.imm) 2147483648 2147483647 = some i.imm := parseI_itoa hi.imm.1 (by have := hi.imm.2; omega) (by decide) (by decide)
      have pe := regW_num (n := i.imm)
      refine ⟨w, ts, x.2, htk, h1, h2, h3, h4, h5, by unfold kindsOf; rw [hx], ?_⟩
      clear htk hx h1 h2 h3 h4 h5
      simp only [shapes, List.mem_cons, List.not_mem_nil, or_false, Prod.mk.injEq] at h6
      rcases h6 with h | h | h | h | h | h | h | h | h | h | h
      all_goals obtain ⟨g1, g2, g3, g4, g5, g6, g7⟩ := h
      · simp only [List.map_eq_nil_iff] at g1 g2
        subst g1
        rw [g2]
        have z1 := hf.nd g3; have z2 := hf.ns g4; have z3 := hf.no g5; have z4 := hf.ni g6; have z5 := base_neg g7
        refine ⟨?_, by simp⟩
        cases i
        simp_all [fieldsI]
      · obtain ⟨x1, rfl, y1⟩ := map1 g1
        obtain ⟨k1, hk, y2⟩ := kmap1 g2
        rw [hk]
        obtain rfl := codeT_5 y1
        obtain rfl := codeK_3 y2
        have z1 := hf.nd g3; have z2 := hf.ns g4; have z4 := hf.ni g6; have z5 := base_neg g7
        refine ⟨?_, by simp [Tok.show, clean_sign]⟩
        cases i
        simp_all [fieldsI, fieldI, Tok.show]
      · obtain ⟨x1, rfl, y1⟩ := map1 g1
        obtain ⟨k1, hk, y2⟩ := kmap1 g2
        rw [hk]
        obtain rfl := codeT_3 y1
        obtain rfl := codeK_4 y2
        have z1 := hf.nd g3; have z2 := hf.ns g4; have z3 := hf.no g5; have z5 := base_neg g7
        refine ⟨?_, by simp [Tok.show, clean_itoa]⟩
        cases i
        simp_all [fieldsI, fieldI, Tok.show]
      · obtain ⟨x1, x2, x3, rfl, y1, y2, y3⟩ := map3 g1
        obtain ⟨k1, k2, k3, hk, u1, u2, u3⟩ := kmap3 g2
        rw [hk]
        obtain rfl := codeT_1 y1; obtain rfl := codeT_2 y2; obtain rfl := codeT_4 y3
        obtain rfl := codeK_1 u1; obtain rfl := codeK_2 u2; obtain rfl := codeK_3 u3
        have z4 := hf.ni g6; have z5 := base_neg g7
        refine ⟨?_, by simp [Tok.show, clean_itoa, clean_reg]⟩
        cases i
        simp_all [fieldsI, fieldI, Tok.show]
      · obtain ⟨x1, x2, x3, rfl, y1, y2, y3⟩ := map3 g1
        obtain ⟨k1, k2, k3, hk, u1, u2, u3⟩ := kmap3 g2
        rw [hk]
        obtain rfl := codeT_1 y1; obtain rfl := codeT_4 y2; obtain rfl := codeT_3 y3
        obtain rfl := codeK_1 u1; obtain rfl := codeK_3 u2; obtain rfl := codeK_4 u3
        have z2 := hf.ns g4; have z5 := base_neg g7
        refine ⟨?_, by simp [Tok.show, clean_itoa, clean_reg]⟩
        cases i
        simp_all [fieldsI, fieldI, Tok.show]
      · obtain ⟨x1, x2, x3, rfl, y1, y2, y3⟩ := map3 g1
        obtain ⟨k1, k2, k3, hk, u1, u2, u3⟩ := kmap3 g2
        rw [hk]
        obtain rfl := codeT_1 y1; obtain rfl := codeT_4 y2; obtain rfl := codeT_2 y3
        obtain rfl := codeK_1 u1; obtain rfl := codeK_3 u2; obtain rfl := codeK_2 u3
        have z4 := hf.ni g6; have z5 := base_neg g7
        refine ⟨?_, by simp [Tok.show, clean_itoa, clean_reg]⟩
        cases i
        simp_all [fieldsI, fieldI, Tok.show]
      · obtain ⟨x1, rfl, y1⟩ := map1 g1
        obtain ⟨k1, hk, y2⟩ := kmap1 g2
        rw [hk]
        obtain rfl := codeT_1 y1
        obtain rfl := codeK_1 y2
        have z2 := hf.ns g4; have z3 := hf.no g5; have z4 := hf.ni g6; have z5 := base_neg g7
        refine ⟨?_, by simp [Tok.show, clean_reg]⟩
        cases i
        simp_all [fieldsI, fieldI, Tok.show]
      · obtain ⟨x1, x2, rfl, y1, y2⟩ := map2 g1
        obtain ⟨k1, k2, hk, u1, u2⟩ := kmap2 g2
        rw [hk]
        obtain rfl := codeT_1 y1; obtain rfl := codeT_2 y2
        obtain rfl := codeK_1 u1; obtain rfl := codeK_5 u2
        have z3 := hf.no g5; have z4 := hf.ni g6; have z5 := base_pos g7
        refine ⟨?_, by simp [Tok.show, clean_reg]⟩
        cases i
        simp_all [fieldsI, fieldI, Tok.show]
      · obtain ⟨x1, x2, rfl, y1, y2⟩ := map2 g1
        obtain ⟨k1, k2, hk, u1, u2⟩ := kmap2 g2
        rw [hk]
        obtain rfl := codeT_1 y1; obtain rfl := codeT_3 y2
        obtain rfl := codeK_1 u1; obtain rfl := codeK_5 u2
        have z2 := hf.ns g4; have z3 := hf.no g5; have z5 := base_neg g7
        refine ⟨?_, by simp [Tok.show, clean_reg, clean_itoa]⟩
        cases i
        simp_all [fieldsI, fieldI, Tok.show]
      · obtain ⟨x1, x2, x3, rfl, y1, y2, y3⟩ := map3 g1
        obtain ⟨k1, k2, k3, hk, u1, u2, u3⟩ := kmap3 g2
        rw [hk]
        obtain rfl := codeT_1 y1; obtain rfl := codeT_2 y2; obtain rfl := codeT_5 y3
        obtain rfl := codeK_1 u1; obtain rfl := codeK_5 u2; obtain rfl := codeK_3 u3
        have z4 := hf.ni g6; have z5 := base_pos g7
        refine ⟨?_, by simp [Tok.show, clean_sign, clean_reg]⟩
        cases i
        simp_all [fieldsI, fieldI, Tok.show]
      · obtain ⟨x1, x2, x3, rfl, y1, y2, y3⟩ := map3 g1
        obtain ⟨k1, k2, k3, hk, u1, u2, u3⟩ := kmap3 g2
        rw [hk]
        obtain rfl := codeT_1 y1; obtain rfl := codeT_3 y2; obtain rfl := codeT_5 y3
        obtain rfl := codeK_1 u1; obtain rfl := codeK_5 u2; obtain rfl := codeK_3 u3
        have z2 := hf.ns g4; have z5 := base_neg g7
        refine ⟨?_, by simp [Tok.show, clean_sign, clean_reg, clean_itoa]⟩
        cases i
        simp_all [fieldsI, fieldI, Tok.show]
    · cases h6
  · cases hfa

theorem line_back (i : Ins) (hi : i.ok) (hf : Fits i) (h24 : i.op ≠ 24) : slotsL (lineI i) = some [i] := by
  obtain ⟨w, ts, ks, e, c1, n1, n2, n3, hfind, hks, hfl, hcl⟩ := fields_back i hi hf h24
  unfold slotsL lineI
  rw [wordsL_join (ws := (toks i.op).map (Tok.show i)) (by
    intro x hx
    rw [e] at hx
    simp only [List.map_cons, List.mem_cons, List.mem_map] at hx
    rcases hx with rfl | ⟨t, ht, rfl⟩
    · exact c1
    · exact hcl t ht) (by rw [e]; simp)]
  rw [e]
  show (if (w :: ts.map (Tok.show i)) = [] then some [] else lineW (w :: ts.map (Tok.show i))) = _
  rw [if_neg (by simp)]
  simp only [lineW]
  rw [if_neg n1, if_neg n2, if_neg n3, hfind]
  simp only
  rw [hks, hfl]
  rfl
end Go.Proofs.YtakcdecljfmckaaGreatDoor

namespace Go.Proofs.YtakcdecljfmckaaGreatDoor
open Go.RowKit

theorem slots_words {ws : List (List UInt8)} (h : ∀ w ∈ ws, cleanW w = true) (h0 : ws ≠ []) : slotsL (joinW ws) = lineW ws := by
  unfold slotsL
  rw [wordsL_join h h0]
  show (if ws = [] then some [] else lineW ws) = _
  rw [if_neg h0]

theorem parse_byte {n : Nat} (h : n < 256) : parseI (itoaN n) 0 255 = some (n : Int) := parseI_itoa (by omega) (by omega) (by decide) (by decide)

theorem raw_back (i : Ins) (hi : i.ok) : slotsL (rawI i) = some [i] := by
  unfold rawI
  rw [slots_words (by simp [clean_itoa, show cleanW [114, 97, 119] = true by decide]) (by simp)]
  have po : parseI (itoaN i.off) 32768 32767 = some i.off := parseI_itoa hi.off.1 (by have := hi.off.2; omega) (by decide) (by decide)
  have pv : parseI (itoaN i.imm) 2147483648 2147483647 = some i.imm := parseI_itoa hi.imm.1 (by have := hi.imm.2; omega) (by decide) (by decide)
  simp [lineW, parse_byte hi.op, parse_byte hi.dst, parse_byte hi.src, fieldsI, fieldI, po, pv]

theorem s32_u32 {n : Int} (h : -2147483648 ≤ n ∧ n < 2147483648) : s32 (u32 n) = n := by
  unfold s32 u32
  split <;> omega
theorem u32_lt (n : Int) : u32 n < 4294967296 := by unfold u32; omega

theorem pair_back (i j : Ins) (hi : i.ok) (hj : j.ok) (hf : Fits i) (h24 : i.op = 24) (hh : halfB j (i.src == 1) = true) : slotsL (pairI i j) = some [i, j] := by
  have hoff : i.off = 0 := hf.no (by rw [h24]; decide)
  have hsrc := hf.ref h24
  have pd := regW_reg hf.dst
  have pv : parseI (itoaN i.imm) 2147483648 2147483647 = some i.imm := parseI_itoa hi.imm.1 (by have := hi.imm.2; omega) (by decide) (by decide)
  unfold halfB at hh
  simp only [Bool.and_eq_true, beq_iff_eq, Bool.or_eq_true, Bool.not_eq_true', beq_eq_false_iff_ne] at hh
  obtain ⟨⟨⟨⟨j0, j1⟩, j2⟩, j3⟩, j4⟩ := hh
  unfold pairI
  by_cases h1 : i.src = 1
  · rw [if_pos h1, slots_words (by simp [clean_itoa, clean_reg, show cleanW [108, 100, 109, 97, 112] = true by decide]) (by simp)]
    have j4 : j.imm = 0 := j4.resolve_right (fun h => h h1)
    cases i; cases j
    simp_all [lineW, fieldsI, fieldI]
  · rw [if_neg h1, slots_words (by simp [clean_dec, clean_reg, show cleanW [108, 100, 105, 109, 109] = true by decide]) (by simp)]
    have a1 := u32_lt i.imm
    have a2 := u32_lt j.imm
    have e1 : wideN i j % 4294967296 = u32 i.imm := by unfold wideN; omega
    have e2 : wideN i j / 4294967296 = u32 j.imm := by unfold wideN; omega
    have pn := parseI_dec (n := wideN i j) (by unfold wideN; omega)
    have b1 := s32_u32 hi.imm
    have b2 := s32_u32 hj.imm
    have hs0 : i.src = 0 := by omega
    simp only [lineW]
    rw [if_neg (by simp), if_pos trivial]
    simp only [pd, pn, Option.bind_some, Option.map_some, Int.toNat_natCast, e1, e2, b1, b2]
    cases i; cases j
    simp_all

/-- a program's lines, each with its slots -/
def chunkL : List Ins → List (List UInt8 × List Ins)
  | [] => []
  | i :: l =>
    if checkI i true == 0 && i.op != 24 then (lineI i, [i]) :: chunkL l
    else match l with
      | [] => [(rawI i, [i])]
      | j :: l' => if checkI i true == 0 && halfB j (i.src == 1) then (pairI i j, [i, j]) :: chunkL l' else (rawI i, [i]) :: chunkL (j :: l')

structure Chunk (c : List UInt8 × List Ins) : Prop where
  back : slotsL c.1 = some c.2
  some : 1 ≤ c.2.length
  no10 : (10 : UInt8) ∉ c.1
  len : c.1.length ≤ 40 * c.2.length

theorem clean_no10 {w : List UInt8} (h : cleanW w = true) : (10 : UInt8) ∉ w := fun hm => by
  have := ((cleanW_iff w).1 h).1 10 hm
  revert this; decide
theorem join_no10 : ∀ (ws : List (List UInt8)), (∀ w ∈ ws, cleanW w = true) → (10 : UInt8) ∉ joinW ws
  | [], _ => by simp [joinW]
  | [w], h => by simpa [joinW] using clean_no10 (h w (by simp))
  | w :: v :: ws, h => by
    have ih := join_no10 (v :: ws) (fun x hx => h x (List.mem_cons_of_mem _ hx))
    have := clean_no10 (h w (by simp))
    simp only [joinW, List.mem_append, List.mem_cons, not_or]
    exact ⟨this, by decide, ih⟩
theorem join_len : ∀ (ws : List (List UInt8)), (joinW ws).length ≤ (ws.map (fun w => w.length + 1)).sum
  | [] => by simp [joinW]
  | [w] => by simp [joinW]
  | w :: v :: ws => by
    have ih := join_len (v :: ws)
    simp only [joinW, List.map_cons, List.sum_cons, List.length_append, List.length_cons] at ih ⊢
    omega
theorem digF_len : ∀ (k n : Nat) (m : Nat), n < 10 ^ m → 1 ≤ m → (digF k n).length ≤ m
  | 0, _, m, _, h => by simp [digF]
  | k + 1, n, m, h, h1 => by
    simp only [digF, List.length_append, List.length_singleton]
    split
    · simp; omega
    · rename_i h10
      obtain ⟨m', rfl⟩ : ∃ m', m = m' + 1 := ⟨m - 1, by omega⟩
      have h2 : n / 10 < 10 ^ m' := by rw [Nat.pow_succ] at h; omega
      have : 1 ≤ m' := by
        rcases Nat.eq_zero_or_pos m' with rfl | hm
        · simp at h2; omega
        · exact hm
      have := digF_len k (n / 10) m' h2 this
      omega
theorem dec_len_le {n m : Nat} (h : n < 10 ^ m) (h1 : 1 ≤ m) : (decN n).length ≤ m := digF_len 20 n m h h1
theorem itoa_len_le {n : Int} {m : Nat} (h : n.natAbs < 10 ^ m) (h1 : 1 ≤ m) : (itoaN n).length ≤ m + 1 := by
  unfold itoaN
  split
  · have := dec_len_le h h1
    simp; omega
  · have := dec_len_le (n := n.toNat) (m := m) (by omega) h1
    omega
theorem sign_len_le {n : Int} {m : Nat} (h : n.natAbs < 10 ^ m) (h1 : 1 ≤ m) : (signN n).length ≤ m + 2 := by
  have := itoa_len_le h h1
  unfold signN
  split
  · omega
  · simp; omega

theorem raw_len (i : Ins) (hi : i.ok) : (rawI i).length ≤ 40 := by
  have h := join_len [[114, 97, 119], itoaN i.op, itoaN i.dst, itoaN i.src, itoaN i.off, itoaN i.imm]
  have a1 := itoa_len_le (n := (i.op : Int)) (m := 3) (by have := hi.op; omega) (by decide)
  have a2 := itoa_len_le (n := (i.dst : Int)) (m := 3) (by have := hi.dst; omega) (by decide)
  have a3 := itoa_len_le (n := (i.src : Int)) (m := 3) (by have := hi.src; omega) (by decide)
  have a4 := itoa_len_le (n := i.off) (m := 5) (by have := hi.off; omega) (by decide)
  have a5 := itoa_len_le (n := i.imm) (m := 10) (by have := hi.imm; omega) (by decide)
  simp only [List.map_cons, List.map_nil, List.sum_cons, List.sum_nil, List.length_cons, List.length_nil] at h
  unfold rawI
  omega

theorem wide_lt (i j : Ins) : wideN i j < 18446744073709551616 := by
  have := u32_lt i.imm
  have := u32_lt j.imm
  unfold wideN
  omega
theorem dec_len20 {n : Nat} (h : n < 18446744073709551616) : (decN n).length ≤ 20 := digF_len 20 n 20 (Nat.lt_of_lt_of_le h (by decide)) (by decide)
theorem join3 (x y z : List UInt8) : (joinW [x, y, z]).length ≤ x.length + y.length + z.length + 3 := by
  have h := join_len [x, y, z]
  simp only [List.map_cons, List.map_nil, List.sum_cons, List.sum_nil] at h
  omega
theorem reg_len {n : Nat} (h : n ≤ 10) : (regN n).length ≤ 3 := by
  have := dec_len_le (n := n) (m := 2) (by omega) (by decide)
  unfold regN
  generalize decN n = D at *
  rw [List.length_cons]
  omega
theorem pair_len (i j : Ins) (hi : i.ok) (hf : Fits i) : (pairI i j).length ≤ 40 := by
  have a2 := reg_len hf.dst
  have a5 := itoa_len_le (n := i.imm) (m := 10) (by have := hi.imm; omega) (by decide)
  have a6 := dec_len20 (wide_lt i j)
  unfold pairI
  generalize regN i.dst = R at *
  generalize itoaN i.imm = M at *
  generalize decN (wideN i j) = D at *
  split
  · have h := join3 [108, 100, 109, 97, 112] R M
    rw [show ([108, 100, 109, 97, 112] : List UInt8).length = 5 from rfl] at h
    omega
  · have h := join3 [108, 100, 105, 109, 109] R D
    rw [show ([108, 100, 105, 109, 109] : List UInt8).length = 5 from rfl] at h
    omega

def tokLen : Tok → Nat
  | .lit s => s.length
  | .rd => 3
  | .rs => 3
  | .imm => 11
  | .off => 6
  | .joff => 7
def sumT : List Tok → Nat
  | [] => 0
  | t :: l => tokLen t + 1 + sumT l
theorem sumT_eq : ∀ l : List Tok, (l.map (fun t => tokLen t + 1)).sum = sumT l
  | [] => rfl
  | t :: l => by simp [sumT, sumT_eq l]
def smallB (op : Nat) : Bool := !knownB op true || decide (sumT (toks op) ≤ 40)
theorem toks_all : (List.range 256).all smallB = true := by decide +kernel
theorem toks_len (op : Nat) (h : op < 256) (hk : knownB op true = true) : ((toks op).map (fun t => tokLen t + 1)).sum ≤ 40 := by
  have := List.all_eq_true.1 toks_all op (List.mem_range.2 h)
  rw [sumT_eq]
  unfold smallB at this
  rw [hk] at this
  exact of_decide_eq_true (by simpa using this)
theorem show_len (i : Ins) (hi : i.ok) (hf : Fits i) (t : Tok) : (Tok.show i t).length ≤ tokLen t := by
  have hd := hf.dst
  have hs := hf.src
  cases t with
  | lit s => exact Nat.le_refl _
  | rd => exact reg_len hd
  | rs => exact reg_len hs
  | imm => exact itoa_len_le (n := i.imm) (m := 10) (by have := hi.imm; omega) (by decide)
  | off => exact itoa_len_le (n := i.off) (m := 5) (by have := hi.off; omega) (by decide)
  | joff => exact sign_len_le (n := i.off) (m := 5) (by have := hi.off; omega) (by decide)
theorem sum_map_le {α : Type} {f g : α → Nat} : ∀ (l : List α), (∀ x, f x ≤ g x) → (l.map f).sum ≤ (l.map g).sum
  | [], _ => Nat.le_refl _
  | x :: l, h => by
    have := sum_map_le l h
    have := h x
    simp only [List.map_cons, List.sum_cons]
    omega
theorem line_len (i : Ins) (hi : i.ok) (hf : Fits i) : (lineI i).length ≤ 40 := by
  have h := join_len ((toks i.op).map (Tok.show i))
  rw [List.map_map] at h
  have h2 := sum_map_le (f := (fun w => w.length + 1) ∘ Tok.show i) (g := fun t => tokLen t + 1) (toks i.op) (fun t => by have := show_len i hi hf t; show (Tok.show i t).length + 1 ≤ _; omega)
  have h3 := toks_len i.op hi.op hf.known
  unfold lineI
  omega

theorem line_clean (i : Ins) (hi : i.ok) (hf : Fits i) (h24 : i.op ≠ 24) : ∀ w ∈ (toks i.op).map (Tok.show i), cleanW w = true := by
  obtain ⟨w, ts, ks, e, c1, n1, n2, n3, hfind, hks, hfl, hcl⟩ := fields_back i hi hf h24
  intro x hx
  rw [e] at hx
  simp only [List.map_cons, List.mem_cons, List.mem_map] at hx
  rcases hx with rfl | ⟨t, ht, rfl⟩
  · exact c1
  · exact hcl t ht

theorem chunk_raw (i : Ins) (hi : i.ok) : Chunk (rawI i, [i]) :=
  ⟨raw_back i hi, by simp, join_no10 _ (by simp [clean_itoa, show cleanW [114, 97, 119] = true by decide]), by have := raw_len i hi; simpa using this⟩
theorem chunk_line (i : Ins) (hi : i.ok) (hf : Fits i) (h24 : i.op ≠ 24) : Chunk (lineI i, [i]) :=
  ⟨line_back i hi hf h24, by simp, join_no10 _ (line_clean i hi hf h24), by have := line_len i hi hf; simpa using this⟩
theorem chunk_pair (i j : Ins) (hi : i.ok) (hj : j.ok) (hf : Fits i) (h24 : i.op = 24) (hh : halfB j (i.src == 1) = true) : Chunk (pairI i j, [i, j]) := by
  refine ⟨pair_back i j hi hj hf h24 hh, by simp, ?_, by have := pair_len i j hi hf; show (pairI i j).length ≤ 40 * 2; omega⟩
  show (10 : UInt8) ∉ pairI i j
  unfold pairI
  split
  · exact join_no10 _ (by simp [clean_itoa, clean_reg, show cleanW [108, 100, 109, 97, 112] = true by decide])
  · exact join_no10 _ (by simp [clean_dec, clean_reg, show cleanW [108, 100, 105, 109, 109] = true by decide])

theorem chunkL_cons (i : Ins) (l : List Ins) : chunkL (i :: l) = (if checkI i true == 0 && i.op != 24 then (lineI i, [i]) :: chunkL l
    else match l with
      | [] => [(rawI i, [i])]
      | j :: l' => if checkI i true == 0 && halfB j (i.src == 1) then (pairI i j, [i, j]) :: chunkL l' else (rawI i, [i]) :: chunkL (j :: l')) := by
  rw [chunkL.eq_def]
theorem showL_cons (i : Ins) (l : List Ins) : showL (i :: l) = (if checkI i true == 0 && i.op != 24 then lineI i ++ 10 :: showL l
    else match l with
      | [] => rawI i ++ [10]
      | j :: l' => if checkI i true == 0 && halfB j (i.src == 1) then pairI i j ++ 10 :: showL l' else rawI i ++ 10 :: showL (j :: l')) := by
  rw [showL.eq_def]
  rfl

theorem chunks : ∀ (n : Nat) (l : List Ins), l.length ≤ n → (∀ i ∈ l, i.ok) → (∀ c ∈ chunkL l, Chunk c) ∧ showL l = (chunkL l).flatMap (fun c => c.1 ++ [10]) ∧ (chunkL l).flatMap (·.2) = l
  | _, [], _, _ => by simp [chunkL, showL]
  | 0, i :: l, h, _ => by simp at h
  | n + 1, i :: l, h, hok => by
    have hi := hok i (by simp)
    have hl : ∀ x ∈ l, x.ok := fun x hx => hok x (List.mem_cons_of_mem _ hx)
    by_cases c1 : (checkI i true == 0 && i.op != 24) = true
    · have hc := c1
      simp only [Bool.and_eq_true, bne_iff_ne] at hc
      obtain ⟨q1, q2, q3⟩ := chunks n l (by simpa using h) hl
      rw [chunkL_cons, showL_cons, if_pos c1, if_pos c1]
      refine ⟨fun c hx => ?_, by rw [q2]; simp, by simp [q3]⟩
      rcases List.mem_cons.1 hx with rfl | hx
      · exact chunk_line i hi (check_fits hc.1) hc.2
      · exact q1 c hx
    · rw [chunkL_cons, showL_cons, if_neg c1, if_neg c1]
      match l, h, hl with
      | [], _, _ => exact ⟨by simpa using chunk_raw i hi, by simp, by simp⟩
      | j :: l', h, hl =>
        simp only
        have hj := hl j (by simp)
        by_cases c2 : (checkI i true == 0 && halfB j (i.src == 1)) = true
        · have hc := c2
          simp only [Bool.and_eq_true] at hc
          have h24 : i.op = 24 := by
            have : ¬ (checkI i true == 0 && i.op != 24) = true := c1
            rw [hc.1] at this
            simpa using this
          obtain ⟨q1, q2, q3⟩ := chunks n l' (by simp at h; omega) (fun x hx => hl x (List.mem_cons_of_mem _ hx))
          rw [if_pos c2, if_pos c2]
          refine ⟨fun c hx => ?_, by rw [q2]; simp, by simp [q3]⟩
          rcases List.mem_cons.1 hx with rfl | hx
          · exact chunk_pair i j hi hj (check_fits hc.1) h24 hc.2
          · exact q1 c hx
        · obtain ⟨q1, q2, q3⟩ := chunks n (j :: l') (by simpa using h) hl
          rw [if_neg c2, if_neg c2]
          refine ⟨fun c hx => ?_, by rw [q2]; simp, by simp [q3]⟩
          rcases List.mem_cons.1 hx with rfl | hx
          · exact chunk_raw i hi
          · exact q1 c hx
end Go.Proofs.YtakcdecljfmckaaGreatDoor

namespace Go.Proofs.YtakcdecljfmckaaGreatDoor
open Go.RowKit

theorem str_nil (l : List UInt8) : ((⟨l.toArray⟩ : ByteArray).toList == ([] : List UInt8)) = decide (l = []) := by
  rw [Lib.toList_data]
  cases l <;> simp

theorem one_str (W : World) (n : Nat) (h : n < 256) : (convert 136 9 (.slice (some ⟨W.heap.size, 0, none⟩) 1 1)).run Tryz.prog (W.alloc (.cells #[.int .u8 (n : Int)] 5)) = .ok (.string ⟨#[UInt8.ofNat n]⟩) (W.alloc (.cells #[.int .u8 (n : Int)] 5)) := by
  have e : ((n : Nat) : Int) = ((UInt8.ofNat n).toNat : Int) := by simp; omega
  have hc : CellsAt (W.alloc (.cells #[.int .u8 (n : Int)] 5)) W.heap.size 0 (u8s [UInt8.ofNat n]) := by
    have := CellsAt.new W [.int .u8 (n : Int)] 5
    rw [e] at this ⊢
    exact this
  exact run_str_of_bytes _ 136 9 5 Tryz.underlying136 Tryz.underlying5 Tryz.underlying9 W.heap.size 0 1 [UInt8.ofNat n] 1 rfl hc

theorem add_str (a b : List UInt8) (ha : a.length ≤ 100000) (hb : b.length ≤ 100000) (W : World) : (Op.stringOp .add ⟨a.toArray⟩ ⟨b.toArray⟩).run Tryz.prog W = .ok (.string ⟨(a ++ b).toArray⟩) W := by
  have e : ((⟨a.toArray⟩ : ByteArray) ++ ⟨b.toArray⟩) = ⟨(a ++ b).toArray⟩ := by apply ByteArray.ext; simp [ByteArray.data_append]
  rw [← e]
  have sa : (⟨a.toArray⟩ : ByteArray).size = a.length := by simp [ByteArray.size]
  have sb : (⟨b.toArray⟩ : ByteArray).size = b.length := by simp [ByteArray.size]
  apply run_string_add
  · rw [sa]; omega
  · rw [sb]; omega

/-- where the loop of digits stands: m is left, S is what was laid -/
def DigIs (N m : Nat) (S : List UInt8) : Prop := (m = 0 ∧ S ≠ [] ∧ S = Lib.decDigits N) ∨ (Lib.decDigits m ++ S = Lib.decDigits N ∧ (0 < m ∨ S = []))
theorem DigIs.step {N m : Nat} {S : List UInt8} (h : DigIs N m S) (hgo : 0 < m ∨ S = []) : DigIs N (m / 10) (UInt8.ofNat (48 + m % 10) :: S) := by
  have h2 : Lib.decDigits m ++ S = Lib.decDigits N := by
    rcases h with ⟨h0, h1, _⟩ | ⟨h1, _⟩
    · rcases hgo with h | h
      · omega
      · exact absurd h h1
    · exact h1
  rw [Lib.decDigits] at h2
  by_cases h10 : m < 10
  · rw [dif_pos h10] at h2
    refine .inl ⟨by omega, by simp, ?_⟩
    rw [← h2, Nat.mod_eq_of_lt h10]
    rfl
  · rw [dif_neg h10] at h2
    refine .inr ⟨?_, .inl (by omega)⟩
    rw [← h2]
    simp
theorem DigIs.len {N m : Nat} {S : List UInt8} (h : DigIs N m S) : S.length ≤ (Lib.decDigits N).length := by
  rcases h with ⟨_, _, h⟩ | ⟨h, _⟩
  · rw [h]; exact Nat.le_refl _
  · rw [← h, List.length_append]; omega
/-- how long a string's value is -/
def strLen : Value → Nat
  | .string b => b.size
  | _ => 0
theorem DigIs.done {N m : Nat} {S : List UInt8} (h : DigIs N m S) (h0 : ¬ (0 < m ∨ S = [])) : S = Lib.decDigits N := by
  rcases h with ⟨_, _, h⟩ | ⟨_, h⟩
  · exact h
  · exact absurd h h0

end Go.Proofs.YtakcdecljfmckaaGreatDoor

namespace Go.Proofs.YtakcdecljfmckaaGreatDoor
open Go.RowKit

def sizeOps : List Nat := [113, 105, 97, 121, 114, 106, 98, 122, 115, 107, 99, 123]
theorem size_none {op : Nat} (h : op ∉ sizeOps) : sizeN op = 0 := by
  simp only [sizeOps, List.mem_cons, List.not_mem_nil, or_false, not_or] at h
  unfold sizeN
  simp [h]

end Go.Proofs.YtakcdecljfmckaaGreatDoor

namespace Go.Proofs.YtakcdecljfmckaaGreatDoor
open Go.RowKit

end Go.Proofs.YtakcdecljfmckaaGreatDoor

namespace Go.Proofs.YtakcdecljfmckaaGreatDoor
open Go.RowKit

set_option maxRecDepth 100000 in
set_option maxHeartbeats 1000000 in
theorem half_any (j : Ins) (ref : Bool) (w : World) : Calls Tryz.prog 80 #[j.agg, .bool ref] w fun e w' => e = .returned (.bool (halfB j ref)) ∧ Fr No w w' := by
  obtain ⟨R, hR⟩ : ∃ R, halfB j ref = R := ⟨_, rfl⟩
  have q0 : ((j.op : Int) == 0) = (j.op == 0) := beq_nat j.op 0
  have q1 : ((j.dst : Int) == 0) = (j.dst == 0) := beq_nat j.dst 0
  have q2 : ((j.src : Int) == 0) = (j.src == 0) := beq_nat j.src 0
  obtain ⟨b3, q3⟩ : ∃ b, (j.off == 0) = b := ⟨_, rfl⟩
  obtain ⟨b4, q4⟩ : ∃ b, (j.imm == 0) = b := ⟨_, rfl⟩
  have HX : Hid ((j.op == 0 && j.dst == 0 && j.src == 0 && b3 && (b4 || !ref)) = R) := by rw [← q3, ← q4]; exact hR
  rw [hR]
  clear hR
  generalize (j.op == 0) = b0 at *
  generalize (j.dst == 0) = b1 at *
  generalize (j.src == 0) = b2 at *
  unfold Ins.agg
  go_enter Tryz.func80, Tryz.ntmps80
  go_wp2_with fail
  all_goals clear q0 q1 q2 q3 q4
  all_goals subst_vars
  all_goals go_ret
  all_goals exact ⟨by first | rfl | (rw [← HX.out]; rfl) | (rw [← HX.out]; simp [*]) | simp [*], (Fr.refl _ _).alloc _⟩
end Go.Proofs.YtakcdecljfmckaaGreatDoor

namespace Go.Proofs.YtakcdecljfmckaaGreatDoor

def jumpsM (i : Ins) : Bool := jumpB i.op && codeN i.op != 128 && codeN i.op != 144
def alwaysM (i : Ins) : Bool := jumpsM i && codeN i.op == 0
def endsM (i : Ins) : Bool := jumpB i.op && codeN i.op == 144
def sizeM (i : Ins) : Nat := if i.op = 24 then 2 else 1
def insAt (l : List Ins) (pc : Nat) : Ins := l.getD pc ⟨0, 0, 0, 0, 0⟩
/-- the slots at which instructions begin, from one on -/
def firstsM (l : List Ins) : Nat → Nat → List Nat
  | 0, _ => []
  | fuel + 1, pc => if pc < l.length then pc :: firstsM l fuel (pc + sizeM (insAt l pc)) else []
def starts (l : List Ins) : List Nat := firstsM l l.length 0
def fieldM (l : List Ins) (pc : Nat) (maps : Int) (inner : Bool) : Int :=
  let i := insAt l pc
  if checkI i inner ≠ 0 then checkI i inner
  else if i.op = 133 then (if i.imm = 1 ∨ i.imm = 2 ∨ i.imm = 3 ∨ i.imm = 7 then 0 else 45)
  else if i.op = 24 then
    if l.length ≤ pc + 1 ∨ insAt l (pc + 1) ≠ ⟨0, 0, 0, 0, (insAt l (pc + 1)).imm⟩ then 41
    else if i.src = 1 ∧ (i.imm < 0 ∨ maps ≤ i.imm ∨ (insAt l (pc + 1)).imm ≠ 0) then 44 else 0
  else 0
/-- where a jump goes -/
def toM (l : List Ins) (pc : Nat) : Int := pc + 1 + (insAt l pc).off
def wayM (l : List Ins) (F : Nat → Bool) (pc : Nat) : Int :=
  let i := insAt l pc
  if jumpsM i = true ∧ (toM l pc < 0 ∨ (l.length : Int) ≤ toM l pc) then 40
  else if jumpsM i = true ∧ F (toM l pc).toNat = false then 41
  else if endsM i = false ∧ alwaysM i = false ∧ l.length ≤ pc + sizeM i then 43
  else 0
def nextM (l : List Ins) (pc : Nat) : List Nat :=
  let i := insAt l pc
  if l.length ≤ pc ∨ endsM i = true then []
  else (if alwaysM i = false ∧ pc + sizeM i < l.length then [pc + sizeM i] else []) ++
    (if jumpsM i = true ∧ 0 ≤ toM l pc ∧ toM l pc < l.length then [(toM l pc).toNat] else [])
/-- what is seen when all has been gone to that a slot leads to -/
def visitM (l : List Ins) : Nat → List Bool → Nat → List Bool
  | 0, seen, _ => seen
  | fuel + 1, seen, pc => if seen.getD pc true then seen else (nextM l pc).foldl (visitM l fuel) (seen.set pc true)
def seenM (l : List Ins) : List Bool := visitM l (l.length + 1) (List.replicate l.length false) 0
/-- the first of these slots at which something is wrong -/
def firstBad (f : Nat → Int) (F : List Nat) : Option (Nat × Int) := match F.find? (fun pc => f pc != 0) with
  | some pc => some (pc, f pc)
  | none => none
def checkM (l : List Ins) (maps : Int) (inner : Bool) : Nat × Int :=
  if l.length = 0 ∨ (if inner then 192 else 64) < l.length then (0, 3)
  else match firstBad (fun pc => fieldM l pc maps inner) (starts l) with
  | some q => q
  | none => match firstBad (wayM l (fun k => (starts l).contains k)) (starts l) with
    | some q => q
    | none => match firstBad (fun pc => if (seenM l).getD pc true then 0 else 42) (starts l) with
      | some q => q
      | none => (0, 0)
end Go.Proofs.YtakcdecljfmckaaGreatDoor
