/- firewallref03.one: the line of a slot. A program's text is read as the program: whole. No condition. Slots in memory; a program's text, step by step. The layings of the builder's copyCheck and WriteString. -/
import Derived.Test.YthkdokkpiaaljaaGreatDoorCore6
import Derived.Deep.RegionHeld3
import Derived.Deep.CutBlock
import Derived.Laws.NewBlocks
import Derived.Test.YthkdokkpiaaljaaGreatDoorCore5
import Derived.Test.YthkdokkpiaaljaaGreatDoorShelf
import Derived.Shelf.Strings.Builder1
import Derived.Lib.Hide
set_option linter.all false
set_option linter.unusedVariables false
set_option linter.unusedSimpArgs false
namespace Go.Proofs.YthkdokkpiaaljaaGreatDoor
open Go.RowKit

theorem addB (X Y : ByteArray) (hx : X.size ≤ 200000) (hy : Y.size ≤ 200000) (W : World) : (Op.stringOp .add X Y).run Tryz.prog W = .ok (.string (X ++ Y)) W := by
  apply run_string_add
  · omega
  · omega

theorem szA {X Y : ByteArray} {m n : Nat} (hx : X.size ≤ m) (hy : Y.size ≤ n) : (X ++ Y).size ≤ m + n := by rw [ByteArray.size_append]; omega

/-- a list's bytes as a string -/
def bA (l : List UInt8) : ByteArray := ⟨l.toArray⟩
theorem bA_size (l : List UInt8) : (bA l).size = l.length := by simp [bA, ByteArray.size]
theorem bA_app (a b : List UInt8) : bA a ++ bA b = bA (a ++ b) := by apply ByteArray.ext; simp [bA, ByteArray.data_append]

/-- the line by what the opcode is -/
def oneB (n194 aB nB sB c0 c8 jB lB stB : Bool) (N W M Z D S O J I : List UInt8) : List UInt8 :=
  if n194 then [110, 111, 115, 112, 101, 99]
  else if aB && nB then [110, 101, 103] ++ W ++ D
  else if aB then N ++ W ++ D ++ [32] ++ M
  else if sB then (if c0 then [106, 97, 32] ++ J else if c8 then [99, 97, 108, 108, 32] ++ I else [101, 120, 105, 116])
  else if jB then N ++ W ++ D ++ [32] ++ M ++ [32] ++ J
  else if lB then [108, 100, 120] ++ Z ++ S ++ [32] ++ O
  else if stB then [115, 116] ++ Z ++ O ++ [32] ++ I
  else [115, 116, 120] ++ Z ++ O ++ [32] ++ S

theorem one_line (i : Ins) : lineI i = oneB (i.op == 194) (arithB i.op) (codeN i.op == 128) (specB i.op) (codeN i.op == 0) (codeN i.op == 128) (jumpB i.op) (loadB i.op) (storeB i.op)
    (nameN i.op) (widthN i.op ++ [32]) (if regB i.op then regN i.src else itoaN i.imm) (decN (sizeN i.op) ++ [32] ++ regN i.dst ++ [32]) (regN i.dst) (regN i.src) (itoaN i.off) (signN i.off) (itoaN i.imm) := by
  unfold lineI oneB toks
  have e0 : (i.op == 194) = decide (i.op = 194) := rfl
  have e1 : (codeN i.op == 128) = decide (codeN i.op = 128) := rfl
  have e2 : (codeN i.op == 0) = decide (codeN i.op = 0) := rfl
  rw [e0, e1, e2]
  simp only [decide_eq_true_eq]
  split
  · rfl
  split
  · simp [joinW, Tok.show]
  split
  · split <;> simp [joinW, Tok.show]
  split
  · split
    · simp [joinW, Tok.show]
    · split <;> simp [joinW, Tok.show]
  split
  · split <;> simp [joinW, Tok.show]
  split
  · simp [joinW, Tok.show]
  split
  · simp [joinW, Tok.show]
  · simp [joinW, Tok.show]
theorem name_len (op : Nat) : (nameN op).length ≤ 1000 := by
  unfold nameN
  have h1 : ∀ k, ((arithN[k]?).getD []).length ≤ 1000 := fun k => by
    rcases Nat.lt_or_ge k 13 with h | h
    · have : ∀ k, k < 13 → ((arithN[k]?).getD []).length ≤ 1000 := by decide
      exact this k h
    · rw [List.getElem?_eq_none (by simp [arithN]; omega)]; simp
  have h2 : ∀ k, ((jumpN[k]?).getD []).length ≤ 1000 := fun k => by
    rcases Nat.lt_or_ge k 14 with h | h
    · have : ∀ k, k < 14 → ((jumpN[k]?).getD []).length ≤ 1000 := by decide
      exact this k h
    · rw [List.getElem?_eq_none (by simp [jumpN]; omega)]; simp
  split
  · exact h1 _
  · exact h2 _
theorem reg_len1 {n : Nat} (h : n < 256) : (regN n).length ≤ 1000 := by
  have := dec_len20 (n := n) (by omega)
  unfold regN
  simp only [List.length_cons]
  omega
theorem itoa_len1 {n : Int} (h : -10000000000 < n) (h2 : n < 10000000000) : (itoaN n).length ≤ 1000 := by
  have := itoa_len_le (n := n) (m := 19) (by omega) (by omega)
  omega
theorem sign_len1 {n : Int} (h : -10000000000 < n) (h2 : n < 10000000000) : (signN n).length ≤ 1000 := by
  have := sign_len_le (n := n) (m := 19) (by omega) (by omega)
  omega
theorem size_le (op : Nat) : sizeN op ≤ 8 := by
  unfold sizeN
  split
  · omega
  split
  · omega
  split
  · omega
  split <;> omega
end Go.Proofs.YthkdokkpiaaljaaGreatDoor

namespace Go.Proofs.YthkdokkpiaaljaaGreatDoor
open Go.RowKit

theorem splitF_app : ∀ (a s cur : List UInt8), (10 : UInt8) ∉ a → splitF (a ++ 10 :: s) cur = (cur ++ a) :: splitF s []
  | [], s, cur, _ => by simp [splitF]
  | c :: a, s, cur, h => by
    have hc : c ≠ 10 := fun e => h (by simp [e])
    show (if c = 10 then cur :: splitF (a ++ 10 :: s) [] else splitF (a ++ 10 :: s) (cur ++ [c])) = _
    rw [if_neg hc, splitF_app a s (cur ++ [c]) (fun hm => h (List.mem_cons_of_mem _ hm))]
    simp
theorem splitF_none : ∀ (a cur : List UInt8), (10 : UInt8) ∉ a → splitF a cur = [cur ++ a]
  | [], cur, _ => by simp [splitF]
  | c :: a, cur, h => by
    have hc : c ≠ 10 := fun e => h (by simp [e])
    show (if c = 10 then cur :: splitF a [] else splitF a (cur ++ [c])) = _
    rw [if_neg hc, splitF_none a (cur ++ [c]) (fun hm => h (List.mem_cons_of_mem _ hm))]
    simp

/-- lines, each with a byte 10 behind it -/
def linesT (ls : List (List UInt8)) : List UInt8 := ls.flatMap (fun l => l ++ [10])
theorem split_lines : ∀ (ls : List (List UInt8)) (s : List UInt8), (∀ l ∈ ls, (10 : UInt8) ∉ l) → splitF (linesT ls ++ s) [] = ls ++ splitF s []
  | [], s, _ => by simp [linesT]
  | l :: ls, s, h => by
    have ih := split_lines ls s (fun x hx => h x (List.mem_cons_of_mem _ hx))
    have : linesT (l :: ls) ++ s = l ++ 10 :: (linesT ls ++ s) := by simp [linesT]
    rw [this, splitF_app l _ [] (h l (by simp)), ih]
    rfl

theorem slots_nil : slotsL [] = some [] := by rfl

theorem readF_cons (t : List UInt8) (r : List (List UInt8)) (a : Nat) (acc : List Ins) : readF (t :: r) a acc = (match slotsL t with | none => ([], a, 10) | some more => if 64 < (acc ++ more).length then ([], a, 3) else readF r (a + 1) (acc ++ more)) := rfl

/-- lines that are good, then others -/
theorem readF_good : ∀ (cs : List (List UInt8 × List Ins)) (r : List (List UInt8)) (a : Nat) (acc : List Ins), (∀ c ∈ cs, slotsL c.1 = some c.2) → (acc ++ cs.flatMap (·.2)).length ≤ 64 →
    readF (cs.map (·.1) ++ r) a acc = readF r (a + cs.length) (acc ++ cs.flatMap (·.2))
  | [], r, a, acc, _, _ => by simp
  | c :: cs, r, a, acc, h, hl => by
    have hc := h c (by simp)
    simp only [List.flatMap_cons, List.length_append] at hl
    rw [List.map_cons, List.cons_append, readF_cons, hc]
    simp only
    rw [if_neg (by simp only [List.length_append]; omega), readF_good cs r (a + 1) (acc ++ c.2) (fun x hx => h x (List.mem_cons_of_mem _ hx)) (by simp only [List.length_append]; omega)]
    simp only [List.flatMap_cons, List.length_cons, List.append_assoc]
    rw [show a + 1 + cs.length = a + (cs.length + 1) by omega]

theorem readF_end (a : Nat) (acc : List Ins) (h : acc.length ≤ 64) : readF [[]] a acc = (acc, 0, 0) := by
  rw [readF_cons, slots_nil]
  simp only [List.append_nil]
  rw [if_neg (by omega)]
  rfl

/-- more slots than may be -/
theorem readF_long : ∀ (cs : List (List UInt8 × List Ins)) (r : List (List UInt8)) (a : Nat) (acc : List Ins), (∀ c ∈ cs, slotsL c.1 = some c.2 ∧ 1 ≤ c.2.length) → acc.length ≤ 64 → 64 < (acc ++ cs.flatMap (·.2)).length →
    ∃ k, readF (cs.map (·.1) ++ r) a acc = ([], k, 3) ∧ a ≤ k ∧ k + acc.length ≤ a + 64
  | [], r, a, acc, _, h0, hl => by simp at hl; omega
  | c :: cs, r, a, acc, h, h0, hl => by
    obtain ⟨hc, h1⟩ := h c (by simp)
    simp only [List.flatMap_cons, List.length_append] at hl
    have e : readF ((c :: cs).map (·.1) ++ r) a acc = (if 64 < (acc ++ c.2).length then ([], a, 3) else readF (cs.map (·.1) ++ r) (a + 1) (acc ++ c.2)) := by
      rw [List.map_cons, List.cons_append, readF_cons, hc]
    rw [e]
    by_cases hb : 64 < (acc ++ c.2).length
    · rw [if_pos hb]
      exact ⟨a, rfl, Nat.le_refl _, by omega⟩
    · rw [if_neg hb]
      obtain ⟨k, q1, q2, q3⟩ := readF_long cs r (a + 1) (acc ++ c.2) (fun x hx => h x (List.mem_cons_of_mem _ hx)) (by omega) (by simp only [List.length_append]; omega)
      refine ⟨k, q1, by omega, ?_⟩
      simp only [List.length_append] at q3
      omega

theorem chunks_len : ∀ (cs : List (List UInt8 × List Ins)), (∀ c ∈ cs, Chunk c) → (cs.flatMap (fun c => c.1 ++ [10])).length ≤ 41 * (cs.flatMap (·.2)).length
  | [], _ => by simp
  | c :: cs, h => by
    have ih := chunks_len cs (fun x hx => h x (List.mem_cons_of_mem _ hx))
    have h1 := (h c (by simp)).len
    have h2 := (h c (by simp)).some
    simp only [List.flatMap_cons, List.length_append, List.length_singleton]
    omega
theorem show_lines (l : List Ins) (h : ∀ i ∈ l, i.ok) : showL l = linesT ((chunkL l).map (·.1)) := by
  rw [(chunks l.length l (Nat.le_refl _) h).2.1]
  unfold linesT
  rw [List.flatMap_map]
theorem show_size (l : List Ins) (h : ∀ i ∈ l, i.ok) : (showL l).length ≤ 41 * l.length := by
  obtain ⟨c1, c2, c3⟩ := chunks l.length l (Nat.le_refl _) h
  have := chunks_len _ c1
  rw [c3] at this
  rwa [c2]
theorem chunk_no10 (l : List Ins) (h : ∀ i ∈ l, i.ok) : ∀ x ∈ (chunkL l).map (·.1), (10 : UInt8) ∉ x := by
  intro x hx
  obtain ⟨c, hc, rfl⟩ := List.mem_map.1 hx
  exact ((chunks l.length l (Nat.le_refl _) h).1 c hc).no10

theorem show_read (l : List Ins) (h : ∀ i ∈ l, i.ok) (hl : l.length ≤ 64) : readS (showL l) = (l, 0, 0) := by
  obtain ⟨c1, c2, c3⟩ := chunks l.length l (Nat.le_refl _) h
  have hs := show_size l h
  unfold readS splitL
  rw [if_neg (by omega)]
  have := split_lines ((chunkL l).map (·.1)) [] (chunk_no10 l h)
  rw [List.append_nil] at this
  rw [show_lines l h, this]
  show readF ((chunkL l).map (·.1) ++ [[]]) 1 [] = _
  rw [readF_good (chunkL l) [[]] 1 [] (fun c hc => (c1 c hc).back) (by rw [c3]; simpa using hl), c3]
  exact readF_end _ _ (by simpa using hl)

theorem show_long (l : List Ins) (h : ∀ i ∈ l, i.ok) (h1 : 64 < l.length) (h2 : l.length ≤ 70) : ∃ k, readS (showL l) = ([], k, 3) ∧ 1 ≤ k ∧ k ≤ 65 := by
  obtain ⟨c1, c2, c3⟩ := chunks l.length l (Nat.le_refl _) h
  have hs := show_size l h
  have := split_lines ((chunkL l).map (·.1)) [] (chunk_no10 l h)
  rw [List.append_nil] at this
  obtain ⟨k, q1, q2, q3⟩ := readF_long (chunkL l) [[]] 1 [] (fun c hc => ⟨(c1 c hc).back, (c1 c hc).some⟩) (by simp) (by rw [c3]; simpa using h1)
  refine ⟨k, ?_, q2, by simp at q3; omega⟩
  unfold readS splitL
  rw [if_neg (by omega), show_lines l h, this]
  exact q1

/-! ### a byte that is no UTF-8 -/
theorem charN_high (x : UInt8) (h : 128 ≤ x) : charN [x] = 0 := by
  unfold charN
  have h1 : ¬ x < 128 := by rw [UInt8.lt_iff_toNat_lt]; rw [UInt8.le_iff_toNat_le] at h; omega
  simp only
  unfold lead
  rw [if_neg h1]
  split
  · simp
  · split
    · simp
    · split <;> simp
theorem slots_high (x : UInt8) (h : 128 ≤ x) : slotsL [x] = none := by
  have h1 := charN_high x h
  unfold slotsL wordsL
  simp [wordsF, h1]
theorem slots_high2 (x : UInt8) (h : 128 ≤ x) : slotsL [59, x] = none := by
  have h1 := charN_high x h
  have h0 : charN [59, x] = 1 := charN_clean (by decide)
  unfold slotsL wordsL
  show (wordsF 2 [59, x] false [] []).bind _ = none
  rw [wordsF_succ _ _ _ _ _ (by simp) (by rw [h0]; decide), h0]
  simp [wordsF, h1]

theorem count_lines : ∀ (ls : List (List UInt8)), (∀ l ∈ ls, (10 : UInt8) ∉ l) → (linesT ls).count 10 = ls.length
  | [], _ => rfl
  | l :: ls, h => by
    have ih := count_lines ls (fun x hx => h x (List.mem_cons_of_mem _ hx))
    have h0 : l.count 10 = 0 := List.count_eq_zero.2 (h l (by simp))
    have : linesT (l :: ls) = l ++ 10 :: linesT ls := by simp [linesT]
    rw [this, List.count_append, h0, List.count_cons_self, ih]
    simp

theorem broken (l : List Ins) (h : ∀ i ∈ l, i.ok) (hl : l.length ≤ 20) (bad tail : List UInt8) (hb : slotsL bad = none) (h10 : (10 : UInt8) ∉ bad) (hs : bad.length + tail.length ≤ 100) :
    readS (showL l ++ (bad ++ 10 :: tail)) = ([], (showL l).count 10 + 1, 10) := by
  obtain ⟨c1, c2, c3⟩ := chunks l.length l (Nat.le_refl _) h
  have hsz := show_size l h
  unfold readS splitL
  rw [if_neg (by simp only [List.length_append, List.length_cons]; omega), show_lines l h, split_lines _ _ (chunk_no10 l h), splitF_app _ _ _ h10, count_lines _ (chunk_no10 l h)]
  rw [readF_good (chunkL l) _ 1 [] (fun c hc => (c1 c hc).back) (by rw [c3]; simp; omega)]
  rw [List.nil_append, readF_cons, hb]
  simp only [List.length_map]
  rw [Nat.add_comm]
end Go.Proofs.YthkdokkpiaaljaaGreatDoor

namespace Go.Proofs.YthkdokkpiaaljaaGreatDoor
open Go.RowKit

theorem iflat_length (l : List Ins) : (iflat l).length = l.length * 5 := by
  induction l with
  | nil => rfl
  | cons x l ih => simp only [iflat, List.flatMap_cons, List.length_append, Ins.cells, List.length_cons, List.length_nil] at *; omega
theorem iflat_get (l : List Ins) (i c : Nat) (hi : i < l.length) (hc : c < 5) : (iflat l)[i * 5 + c]? = some (l[i].cells[c]'(by simpa [Ins.cells] using hc)) := by
  induction l generalizing i with
  | nil => simp at hi
  | cons x l ih =>
    simp only [iflat, List.flatMap_cons]
    cases i with
    | zero =>
      rw [List.getElem?_append_left (by simp [Ins.cells]; omega)]
      simp only [Nat.zero_mul, Nat.zero_add, List.getElem_cons_zero]
      exact List.getElem?_eq_getElem _
    | succ i =>
      rw [List.getElem?_append_right (by simp [Ins.cells]; omega)]
      have := ih i (by simpa using hi)
      simp only [iflat] at this
      rw [show (i + 1) * 5 + c - x.cells.length = i * 5 + c by simp [Ins.cells]; omega, this]
      simp
/-- a program at a slice's value -/
def InsAt (w : World) (v : Value) (l : List Ins) : Prop := (l = [] ∧ ∃ a c, v = .slice a 0 c) ∨ ∃ g off cap, v = .slice (some ⟨g, off, none⟩) l.length cap ∧ CellsAt w g off (iflat l)
theorem InsAt.fr {w w' : World} {v : Value} {l : List Ins} (h : InsAt w v l) (hf : Fr No w w') : InsAt w' v l := by
  rcases h with h | ⟨g, off, cap, rfl, hc⟩
  · exact .inl h
  · exact .inr ⟨g, off, cap, rfl, hf.cells hc id⟩
theorem InsAt.form {w : World} {v : Value} {l : List Ins} (h : InsAt w v l) : ∃ a c, v = .slice a l.length c := by
  rcases h with ⟨rfl, a, c, rfl⟩ | ⟨g, off, cap, rfl, hc⟩
  · exact ⟨a, c, rfl⟩
  · exact ⟨_, _, rfl⟩
theorem ins_cell {w : World} {g off : Nat} {l : List Ins} (h : CellsAt w g off (iflat l)) {k : Nat} {x : Ins} (hx : l[k]? = some x) :
    w.cell? ⟨g, off + k * 5, none⟩ = some (.int .u8 x.op) ∧ w.cell? ⟨g, off + k * 5 + 1, none⟩ = some (.int .u8 x.dst) ∧ w.cell? ⟨g, off + k * 5 + 2, none⟩ = some (.int .u8 x.src) ∧ w.cell? ⟨g, off + k * 5 + 3, none⟩ = some (.int .i16 x.off) ∧ w.cell? ⟨g, off + k * 5 + 4, none⟩ = some (.int .i32 x.imm) := by
  obtain ⟨hk, rfl⟩ := List.getElem?_eq_some_iff.1 hx
  have c0 := h (k * 5 + 0) _ (iflat_get l k 0 hk (by omega))
  have c1 := h (k * 5 + 1) _ (iflat_get l k 1 hk (by omega))
  have c2 := h (k * 5 + 2) _ (iflat_get l k 2 hk (by omega))
  have c3 := h (k * 5 + 3) _ (iflat_get l k 3 hk (by omega))
  have c4 := h (k * 5 + 4) _ (iflat_get l k 4 hk (by omega))
  refine ⟨by simpa [Ins.cells] using c0, ?_, ?_, ?_, ?_⟩
  · rw [show off + k * 5 + 1 = off + (k * 5 + 1) by omega]; simpa [Ins.cells] using c1
  · rw [show off + k * 5 + 2 = off + (k * 5 + 2) by omega]; simpa [Ins.cells] using c2
  · rw [show off + k * 5 + 3 = off + (k * 5 + 3) by omega]; simpa [Ins.cells] using c3
  · rw [show off + k * 5 + 4 = off + (k * 5 + 4) by omega]; simpa [Ins.cells] using c4

/-! ### a text, step by step -/
theorem show_A {l : List Ins} {k : Nat} {i : Ins} {S T : List UInt8} (hT : S ++ showL (l.drop k) = T) (hi : l[k]? = some i) (h1 : (checkI i true == 0) = true) (h2 : (i.op == 24) = false) : (S ++ lineI i ++ [10]) ++ showL (l.drop (k + 1)) = T := by
  obtain ⟨hk, rfl⟩ := List.getElem?_eq_some_iff.1 hi
  rw [← hT, List.drop_eq_getElem_cons hk, showL_cons, h1]
  have : (l[k].op != 24) = true := by rw [bne, h2]; rfl
  rw [this]
  simp
theorem show_B {l : List Ins} {k : Nat} {i j : Ins} {S T : List UInt8} (hT : S ++ showL (l.drop k) = T) (hi : l[k]? = some i) (hj : l[k + 1]? = some j) (h1 : (checkI i true == 0) = true) (h2 : (i.op == 24) = true) (h3 : halfB j (i.src == 1) = true) : (S ++ pairI i j ++ [10]) ++ showL (l.drop (k + 1 + 1)) = T := by
  obtain ⟨hk, rfl⟩ := List.getElem?_eq_some_iff.1 hi
  obtain ⟨hk2, rfl⟩ := List.getElem?_eq_some_iff.1 hj
  rw [← hT, List.drop_eq_getElem_cons hk, showL_cons, List.drop_eq_getElem_cons hk2, h1]
  have : (l[k].op != 24) = false := by rw [bne, h2]; rfl
  rw [this]
  simp [h3]
theorem show_C {l : List Ins} {k : Nat} {i : Ins} {S T : List UInt8} (hT : S ++ showL (l.drop k) = T) (hi : l[k]? = some i) (h : (checkI i true == 0) = false ∨ ((i.op == 24) = true ∧ ∀ j, l[k + 1]? = some j → halfB j (i.src == 1) = false)) : (S ++ rawI i ++ [10]) ++ showL (l.drop (k + 1)) = T := by
  obtain ⟨hk, rfl⟩ := List.getElem?_eq_some_iff.1 hi
  have hne : (checkI l[k] true == 0 && l[k].op != 24) = false := by
    rcases h with h | ⟨h, _⟩
    · rw [h]; rfl
    · rw [bne, h]; simp
  rw [← hT, List.drop_eq_getElem_cons hk, showL_cons, hne]
  cases hd : l.drop (k + 1) with
  | nil => simp [showL]
  | cons j t =>
    have hj : l[k + 1]? = some j := by
      have := List.getElem?_drop (xs := l) (i := k + 1) (j := 0)
      rw [hd] at this
      simpa using this.symm
    have h2 : (checkI l[k] true == 0 && halfB j (l[k].src == 1)) = false := by
      rcases h with h | ⟨_, h⟩
      · rw [h]; rfl
      · rw [h j hj]; simp
    simp [h2]
theorem show_room {l : List Ins} (hok : ∀ i ∈ l, i.ok) (hn : l.length ≤ 300) {S U : List UInt8} (h : S ++ U = showL l) : (bA S).size ≤ 20000 := by
  have h2 := show_size l hok
  rw [← h, List.length_append] at h2
  rw [bA_size]
  omega
theorem one_room (i : Ins) (hi : i.ok) : ∀ t ∈ toks i.op, (Tok.show i t).length ≤ 40 := by
  have hd := dec_len20 (n := i.dst) (by have := hi.dst; omega)
  have hs := dec_len20 (n := i.src) (by have := hi.src; omega)
  have hm := itoa_len_le (n := i.imm) (m := 19) (by have := hi.imm; omega) (by omega)
  have ho := itoa_len_le (n := i.off) (m := 19) (by have := hi.off; omega) (by omega)
  have hj := sign_len_le (n := i.off) (m := 19) (by have := hi.off; omega) (by omega)
  have hl : ∀ s, Tok.lit s ∈ toks i.op → s.length ≤ 40 := by
    have : ∀ op, op < 256 → (toks op).all (fun t => match t with | .lit s => decide (s.length ≤ 40) | _ => true) = true := by decide +kernel
    intro s h
    have := List.all_eq_true.1 (this i.op hi.op) _ h
    simpa using this
  intro t ht
  cases t with
  | lit s => exact hl s ht
  | rd => show (regN i.dst).length ≤ 40; unfold regN; simp only [List.length_cons]; omega
  | rs => show (regN i.src).length ≤ 40; unfold regN; simp only [List.length_cons]; omega
  | imm => show (itoaN i.imm).length ≤ 40; omega
  | off => show (itoaN i.off).length ≤ 40; omega
  | joff => show (signN i.off).length ≤ 40; omega
theorem toks_few (op : Nat) (h : op < 256) : (toks op).length ≤ 4 := by
  have : ∀ op, op < 256 → decide ((toks op).length ≤ 4) = true := by decide +kernel
  simpa using this op h
theorem sum_le {l : List (List UInt8)} {m : Nat} (h : ∀ w ∈ l, w.length ≤ m) : (l.map (fun w => w.length + 1)).sum ≤ l.length * (m + 1) := by
  induction l with
  | nil => simp
  | cons x l ih =>
    have h1 := h x (by simp)
    have h2 := ih (fun w hw => h w (List.mem_cons_of_mem _ hw))
    simp only [List.map_cons, List.sum_cons, List.length_cons]
    rw [Nat.add_mul]
    omega
theorem line_room (i : Ins) (hi : i.ok) : (bA (lineI i)).size ≤ 1000 := by
  rw [bA_size]
  have h1 := join_len ((toks i.op).map (Tok.show i))
  have h2 := sum_le (l := (toks i.op).map (Tok.show i)) (m := 40) (by
    intro w hw
    obtain ⟨t, ht, rfl⟩ := List.mem_map.1 hw
    exact one_room i hi t ht)
  have h3 := toks_few i.op hi.op
  rw [List.length_map] at h2
  have : (toks i.op).length * (40 + 1) ≤ 4 * 41 := Nat.mul_le_mul_right _ h3
  unfold lineI
  omega
end Go.Proofs.YthkdokkpiaaljaaGreatDoor

namespace Go.Proofs
open Go.Shelf Go.RowKit
def Tryz.lays240_ren : Go.Shelf.Ren := ⟨fun | 240 => 54 | 276 => 81 | n => n, fun | 0 => 0 | 4 => 4 | 9 => 9 | 20 => 20 | 70 => 52 | 72 => 54 | 164 => 121 | 5 => 5 | 37 => 31 | n => n, fun | n => n⟩
theorem Tryz.lays240 : Go.Proofs.Lays.n240 Tryz.prog Tryz.lays240_ren := {
  mixed := by kernel_rfl
  f240 := Tryz.func54.trans (congrArg some (by kernel_rfl))
  f276 := Tryz.func81.trans (congrArg some (by kernel_rfl))
  t0 := Tryz.underlying0
  a0 := Tryz.isAgg0
  z0 := Tryz.sizeOf0
  v0 := Tryz.zeroValue0
  t4 := Tryz.underlying4
  a4 := Tryz.isAgg4
  z4 := Tryz.sizeOf4
  v4 := Tryz.zeroValue4
  t9 := Tryz.underlying9
  a9 := Tryz.isAgg9
  z9 := Tryz.sizeOf9
  v9 := Tryz.zeroValue9
  t20 := Tryz.underlying20
  a20 := Tryz.isAgg20
  z20 := Tryz.sizeOf20
  v20 := Tryz.zeroValue20
  t70 := Tryz.underlying52
  a70 := Tryz.isAgg52
  z70 := Tryz.sizeOf52
  v70 := Tryz.zeroValue52
  t72 := Tryz.underlying54
  a72 := Tryz.isAgg54
  z72 := Tryz.sizeOf54
  v72 := Tryz.zeroValue54
  t164 := Tryz.underlying121
  a164 := Tryz.isAgg121
  z164 := Tryz.sizeOf121
  v164 := Tryz.zeroValue121 }
def Tryz.lays166_ren : Go.Shelf.Ren := ⟨fun | 166 => 25 | 240 => 54 | 276 => 81 | n => n, fun | 0 => 0 | 3 => 3 | 4 => 4 | 9 => 9 | 20 => 20 | 37 => 31 | 70 => 52 | 72 => 54 | 75 => 64 | 164 => 121 | 5 => 5 | 80 => 68 | n => n, fun | n => n⟩
theorem Tryz.lays166 : Go.Proofs.Lays.n166 Tryz.prog Tryz.lays166_ren := {
  mixed := by kernel_rfl
  f166 := Tryz.func25.trans (congrArg some (by kernel_rfl))
  f240 := Tryz.func54.trans (congrArg some (by kernel_rfl))
  f276 := Tryz.func81.trans (congrArg some (by kernel_rfl))
  t0 := Tryz.underlying0
  a0 := Tryz.isAgg0
  z0 := Tryz.sizeOf0
  v0 := Tryz.zeroValue0
  t3 := Tryz.underlying3
  a3 := Tryz.isAgg3
  z3 := Tryz.sizeOf3
  v3 := Tryz.zeroValue3
  t4 := Tryz.underlying4
  a4 := Tryz.isAgg4
  z4 := Tryz.sizeOf4
  v4 := Tryz.zeroValue4
  t9 := Tryz.underlying9
  a9 := Tryz.isAgg9
  z9 := Tryz.sizeOf9
  v9 := Tryz.zeroValue9
  t20 := Tryz.underlying20
  a20 := Tryz.isAgg20
  z20 := Tryz.sizeOf20
  v20 := Tryz.zeroValue20
  t37 := Tryz.underlying31
  a37 := Tryz.isAgg31
  z37 := Tryz.sizeOf31
  v37 := Tryz.zeroValue31
  t70 := Tryz.underlying52
  a70 := Tryz.isAgg52
  z70 := Tryz.sizeOf52
  v70 := Tryz.zeroValue52
  t72 := Tryz.underlying54
  a72 := Tryz.isAgg54
  z72 := Tryz.sizeOf54
  v72 := Tryz.zeroValue54
  t75 := Tryz.underlying64
  a75 := Tryz.isAgg64
  z75 := Tryz.sizeOf64
  v75 := Tryz.zeroValue64
  t164 := Tryz.underlying121
  a164 := Tryz.isAgg121
  z164 := Tryz.sizeOf121
  v164 := Tryz.zeroValue121 }
theorem Tryz.Builder_Extra_166 : Builder.Extra Tryz.prog Tryz.lays166_ren := {
  sizeBuilder := by kernel_rfl
  liesBuilder := by kernel_rfl
  t5 := Tryz.underlying5
  a5 := Tryz.isAgg5
  z5 := Tryz.sizeOf5
  v5 := Tryz.zeroValue5
  infoByte := by kernel_rfl
  cellsByte := by kernel_rfl
  sizeByte := by kernel_rfl
  neB5 := by decide }
theorem Tryz.Builder_WriteString (B b : Nat) (bs : List Value) (s : ByteArray) (w : World) (h : Lib.IsBuilder 54 5 B b bs w) (hlen : bs.length + s.size ≤ 140737488355328) (hBw : B ≤ w.heap.size) :
    Calls Tryz.prog 25 #[.pointer (some ⟨b, 0, none⟩), .string s] w fun e w' => e = .returned (.tuple #[.int .i64 s.size, .nilIface]) ∧ (Lib.BuilderAt 54 5 B b (.pointer (some ⟨b, 0, none⟩)) (bs ++ Lib.strCells s) w' ∧ Below B w w') := Any.Builder_WriteString Tryz.lays166 Tryz.Builder_Extra_166 B b bs s w h hlen hBw
end Go.Proofs
