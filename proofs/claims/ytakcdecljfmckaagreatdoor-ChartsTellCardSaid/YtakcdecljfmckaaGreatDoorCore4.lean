/- A program's text is read as the program: whole. No condition. What nums.Num, Bytes and Low compute. Rows of ints; the library's functions over them: IndexFunc, DeleteFunc where nothing is to be deleted, Contains. append onto a row of the call's own, of whatever source (nil, or none of its elements, too): what it comes to, in a region that draws its order and in one that does not. A slice that a call gathers, element by element. No condition. -/
import Derived.Test.YtakcdecljfmckaaGreatDoorCore3
import Derived.Test.YtakcdecljfmckaaGreatDoorCore1
import Derived.Test.YtakcdecljfmckaaGreatDoorCore2
import Derived.Deep.AppendLies
import Derived.Laws.OwnMore
import Derived.Laws.AppendOwnNone
import Derived.RegionTactic
set_option linter.all false
set_option linter.unusedVariables false
set_option linter.unusedSimpArgs false
namespace Go.Proofs.YtakcdecljfmckaaGreatDoor
open Go.RowKit

theorem splitF_app : ∀ (a s cur : List UInt8), (10 : UInt8) ∉ a → splitF (a ++ 10 :: s) cur = (cur ++ a) :: splitF s []
  | [], s, cur, _ => by simp [splitF]
  | c :: a, s, cur, h => by
    have hc : c ≠ 10 := fun e => h (by simp [e])
    show (if c = 10 then cur :: splitF (a ++ 10 :: s) [] else splitF (a ++ 10 :: s) (cur ++ [c])) = _
    rw [if_neg hc, splitF_app a s (cur ++ [c]) (fun hm => h (List.mem_cons_of_mem _ hm))]
    simp
theorem splitF_none : ∀ (a cur : List UInt8), (10 : UInt8) ∉ a → splitF a cur = [cur ++ a]
  | [], cur, _ => by simp [splitF]
  | c :: a, cur, h => by
    have hc : c ≠ 10 := fun e => h (by simp [e])
    show (if c = 10 then cur :: splitF a [] else splitF a (cur ++ [c])) = _
    rw [if_neg hc, splitF_none a (cur ++ [c]) (fun hm => h (List.mem_cons_of_mem _ hm))]
    simp

/-- lines, each with a byte 10 behind it -/
def linesT (ls : List (List UInt8)) : List UInt8 := ls.flatMap (fun l => l ++ [10])
theorem split_lines : ∀ (ls : List (List UInt8)) (s : List UInt8), (∀ l ∈ ls, (10 : UInt8) ∉ l) → splitF (linesT ls ++ s) [] = ls ++ splitF s []
  | [], s, _ => by simp [linesT]
  | l :: ls, s, h => by
    have ih := split_lines ls s (fun x hx => h x (List.mem_cons_of_mem _ hx))
    have : linesT (l :: ls) ++ s = l ++ 10 :: (linesT ls ++ s) := by simp [linesT]
    rw [this, splitF_app l _ [] (h l (by simp)), ih]
    rfl

theorem slots_nil : slotsL [] = some [] := by rfl

theorem readF_cons (t : List UInt8) (r : List (List UInt8)) (a : Nat) (acc : List Ins) : readF (t :: r) a acc = (match slotsL t with | none => ([], a, 10) | some more => if 64 < (acc ++ more).length then ([], a, 3) else readF r (a + 1) (acc ++ more)) := rfl

/-- lines that are good, then others -/
theorem readF_good : ∀ (cs : List (List UInt8 × List Ins)) (r : List (List UInt8)) (a : Nat) (acc : List Ins), (∀ c ∈ cs, slotsL c.1 = some c.2) → (acc ++ cs.flatMap (·.2)).length ≤ 64 →
    readF (cs.map (·.1) ++ r) a acc = readF r (a + cs.length) (acc ++ cs.flatMap (·.2))
  | [], r, a, acc, _, _ => by simp
  | c :: cs, r, a, acc, h, hl => by
    have hc := h c (by simp)
    simp only [List.flatMap_cons, List.length_append] at hl
    rw [List.map_cons, List.cons_append, readF_cons, hc]
    simp only
    rw [if_neg (by simp only [List.length_append]; omega), readF_good cs r (a + 1) (acc ++ c.2) (fun x hx => h x (List.mem_cons_of_mem _ hx)) (by simp only [List.length_append]; omega)]
    simp only [List.flatMap_cons, List.length_cons, List.append_assoc]
    rw [show a + 1 + cs.length = a + (cs.length + 1) by omega]

theorem readF_end (a : Nat) (acc : List Ins) (h : acc.length ≤ 64) : readF [[]] a acc = (acc, 0, 0) := by
  rw [readF_cons, slots_nil]
  simp only [List.append_nil]
  rw [if_neg (by omega)]
  rfl

/-- more slots than may be -/
theorem readF_long : ∀ (cs : List (List UInt8 × List Ins)) (r : List (List UInt8)) (a : Nat) (acc : List Ins), (∀ c ∈ cs, slotsL c.1 = some c.2 ∧ 1 ≤ c.2.length) → acc.length ≤ 64 → 64 < (acc ++ cs.flatMap (·.2)).length →
    ∃ k, readF (cs.map (·.1) ++ r) a acc = ([], k, 3) ∧ a ≤ k ∧ k + acc.length ≤ a + 64
  | [], r, a, acc, _, h0, hl => by simp at hl; omega
  | c :: cs, r, a, acc, h, h0, hl => by
    obtain ⟨hc, h1⟩ := h c (by simp)
    simp only [List.flatMap_cons, List.length_append] at hl
    have e : readF ((c :: cs).map (·.1) ++ r) a acc = (if 64 < (acc ++ c.2).length then ([], a, 3) else readF (cs.map (·.1) ++ r) (a + 1) (acc ++ c.2)) := by
      rw [List.map_cons, List.cons_append, readF_cons, hc]
    rw [e]
    by_cases hb : 64 < (acc ++ c.2).length
    · rw [if_pos hb]
      exact ⟨a, rfl, Nat.le_refl _, by omega⟩
    · rw [if_neg hb]
      obtain ⟨k, q1, q2, q3⟩ := readF_long cs r (a + 1) (acc ++ c.2) (fun x hx => h x (List.mem_cons_of_mem _ hx)) (by omega) (by simp only [List.length_append]; omega)
      refine ⟨k, q1, by omega, ?_⟩
      simp only [List.length_append] at q3
      omega

theorem chunks_len : ∀ (cs : List (List UInt8 × List Ins)), (∀ c ∈ cs, Chunk c) → (cs.flatMap (fun c => c.1 ++ [10])).length ≤ 41 * (cs.flatMap (·.2)).length
  | [], _ => by simp
  | c :: cs, h => by
    have ih := chunks_len cs (fun x hx => h x (List.mem_cons_of_mem _ hx))
    have h1 := (h c (by simp)).len
    have h2 := (h c (by simp)).some
    simp only [List.flatMap_cons, List.length_append, List.length_singleton]
    omega
theorem show_lines (l : List Ins) (h : ∀ i ∈ l, i.ok) : showL l = linesT ((chunkL l).map (·.1)) := by
  rw [(chunks l.length l (Nat.le_refl _) h).2.1]
  unfold linesT
  rw [List.flatMap_map]
theorem show_size (l : List Ins) (h : ∀ i ∈ l, i.ok) : (showL l).length ≤ 41 * l.length := by
  obtain ⟨c1, c2, c3⟩ := chunks l.length l (Nat.le_refl _) h
  have := chunks_len _ c1
  rw [c3] at this
  rwa [c2]
theorem chunk_no10 (l : List Ins) (h : ∀ i ∈ l, i.ok) : ∀ x ∈ (chunkL l).map (·.1), (10 : UInt8) ∉ x := by
  intro x hx
  obtain ⟨c, hc, rfl⟩ := List.mem_map.1 hx
  exact ((chunks l.length l (Nat.le_refl _) h).1 c hc).no10

theorem show_read (l : List Ins) (h : ∀ i ∈ l, i.ok) (hl : l.length ≤ 64) : readS (showL l) = (l, 0, 0) := by
  obtain ⟨c1, c2, c3⟩ := chunks l.length l (Nat.le_refl _) h
  have hs := show_size l h
  unfold readS splitL
  rw [if_neg (by omega)]
  have := split_lines ((chunkL l).map (·.1)) [] (chunk_no10 l h)
  rw [List.append_nil] at this
  rw [show_lines l h, this]
  show readF ((chunkL l).map (·.1) ++ [[]]) 1 [] = _
  rw [readF_good (chunkL l) [[]] 1 [] (fun c hc => (c1 c hc).back) (by rw [c3]; simpa using hl), c3]
  exact readF_end _ _ (by simpa using hl)

theorem show_long (l : List Ins) (h : ∀ i ∈ l, i.ok) (h1 : 64 < l.length) (h2 : l.length ≤ 70) : ∃ k, readS (showL l) = ([], k, 3) ∧ 1 ≤ k ∧ k ≤ 65 := by
  obtain ⟨c1, c2, c3⟩ := chunks l.length l (Nat.le_refl _) h
  have hs := show_size l h
  have := split_lines ((chunkL l).map (·.1)) [] (chunk_no10 l h)
  rw [List.append_nil] at this
  obtain ⟨k, q1, q2, q3⟩ := readF_long (chunkL l) [[]] 1 [] (fun c hc => ⟨(c1 c hc).back, (c1 c hc).some⟩) (by simp) (by rw [c3]; simpa using h1)
  refine ⟨k, ?_, q2, by simp at q3; omega⟩
  unfold readS splitL
  rw [if_neg (by omega), show_lines l h, this]
  exact q1

/-! ### a byte that is no UTF-8 -/
theorem charN_high (x : UInt8) (h : 128 ≤ x) : charN [x] = 0 := by
  unfold charN
  have h1 : ¬ x < 128 := by rw [UInt8.lt_iff_toNat_lt]; rw [UInt8.le_iff_toNat_le] at h; omega
  simp only
  unfold lead
  rw [if_neg h1]
  split
  · simp
  · split
    · simp
    · split <;> simp
theorem slots_high (x : UInt8) (h : 128 ≤ x) : slotsL [x] = none := by
  have h1 := charN_high x h
  unfold slotsL wordsL
  simp [wordsF, h1]
theorem slots_high2 (x : UInt8) (h : 128 ≤ x) : slotsL [59, x] = none := by
  have h1 := charN_high x h
  have h0 : charN [59, x] = 1 := charN_clean (by decide)
  unfold slotsL wordsL
  show (wordsF 2 [59, x] false [] []).bind _ = none
  rw [wordsF_succ _ _ _ _ _ (by simp) (by rw [h0]; decide), h0]
  simp [wordsF, h1]

theorem count_lines : ∀ (ls : List (List UInt8)), (∀ l ∈ ls, (10 : UInt8) ∉ l) → (linesT ls).count 10 = ls.length
  | [], _ => rfl
  | l :: ls, h => by
    have ih := count_lines ls (fun x hx => h x (List.mem_cons_of_mem _ hx))
    have h0 : l.count 10 = 0 := List.count_eq_zero.2 (h l (by simp))
    have : linesT (l :: ls) = l ++ 10 :: linesT ls := by simp [linesT]
    rw [this, List.count_append, h0, List.count_cons_self, ih]
    simp

theorem broken (l : List Ins) (h : ∀ i ∈ l, i.ok) (hl : l.length ≤ 20) (bad tail : List UInt8) (hb : slotsL bad = none) (h10 : (10 : UInt8) ∉ bad) (hs : bad.length + tail.length ≤ 100) :
    readS (showL l ++ (bad ++ 10 :: tail)) = ([], (showL l).count 10 + 1, 10) := by
  obtain ⟨c1, c2, c3⟩ := chunks l.length l (Nat.le_refl _) h
  have hsz := show_size l h
  unfold readS splitL
  rw [if_neg (by simp only [List.length_append, List.length_cons]; omega), show_lines l h, split_lines _ _ (chunk_no10 l h), splitF_app _ _ _ h10, count_lines _ (chunk_no10 l h)]
  rw [readF_good (chunkL l) _ 1 [] (fun c hc => (c1 c hc).back) (by rw [c3]; simp; omega)]
  rw [List.nil_append, readF_cons, hb]
  simp only [List.length_map]
  rw [Nat.add_comm]
end Go.Proofs.YtakcdecljfmckaaGreatDoor

namespace Go.Proofs.YtakcdecljfmckaaGreatDoor
open Go.RowKit

theorem Tryz.info_u8 : (Tryz.prog.info? 5).map (fun i => (i.zero, i.size, i.bytes)) = some (some (.int .u8 0), 1, 1) := by kernel_rfl

theorem make_bytes (n : Nat) (hn : n ≤ 4294967296) (w : World) : (Instr.makeSlice 136 (.int .i64 n) (.int .i64 n)).run Tryz.prog w = .ok (.slice (some ⟨w.heap.size, 0, none⟩) n n) (w.alloc (.cells (u8s (List.replicate n 0)).toArray 5)) := by
  obtain ⟨i0, hi, hz0, hz1, hz2⟩ := info_parts Tryz.info_u8
  have h := run_make (P := Tryz.prog) w 136 5 i0 (.int .u8 0) Tryz.underlying136 hi hz0 .i64 .i64 n n (by omega) (by omega) (by rw [hz2]; omega) (by omega)
  rw [h, hz1]
  clear h hn
  simp only [Int.toNat_natCast, Nat.mul_one]
  have e : ∀ A B : Array Value, A = B → (Result.ok (Value.slice (some ⟨w.heap.size, 0, none⟩) n n) (w.alloc (.cells A 5)) : Result Value) = .ok (.slice (some ⟨w.heap.size, 0, none⟩) n n) (w.alloc (.cells B 5)) := fun A B h => by rw [h]
  refine e _ _ ?_
  apply Array.ext'
  simp [madeCells, u8s, Value.cells, Nat.mod_one]
  apply List.ext_getElem?
  intro j
  simp only [List.getElem?_replicate]
  by_cases hj : j < n <;> simp [hj]

def byteCells (n v k : Nat) : Array Value := (u8s (leBytes k v ++ List.replicate (n - k) 0)).toArray
theorem byteCells_size (n v k : Nat) (h : k ≤ n) : (byteCells n v k).size = n := by simp [byteCells]; omega
theorem byteCells_set (n v k : Nat) (h : k < n) : (byteCells n v k).setIfInBounds k (.int .u8 ((v : Int) / 2 ^ (8 * k) % 256)) = byteCells n v (k + 1) := by
  have e : ((v : Int) / 2 ^ (8 * k) % 256) = ((UInt8.ofNat (v / 256 ^ k)).toNat : Int) := by
    rw [show (256 : Nat) ^ k = 2 ^ (8 * k) by rw [Nat.pow_mul]]
    simp
  rw [e]
  apply Array.ext'
  rw [Array.toList_setIfInBounds]
  unfold byteCells
  rw [leBytes_snoc, show n - k = n - (k + 1) + 1 by omega, List.replicate_succ]
  simp [u8s, List.set_append_right]

set_option maxHeartbeats 400000 in
theorem low_any (v n : Nat) (w : World) (hn : n < 64) :
    Calls Tryz.prog 102 #[.int .u64 v, .int .i64 n] w fun e w' => e = .returned (.int .u64 ((v % 2 ^ n : Nat) : Int)) ∧ w = w' := by
  have h0 : ¬ 64 ≤ n := by omega
  go_enter Tryz.func102, Tryz.ntmps102
  go_wp2
  go_ret
  exact ⟨by rw [← low_bits v n hn]; rfl, rfl⟩

theorem leNum_cons_drop (L : List UInt8) (k : Nat) (h : k < L.length) : leNum (L.drop k) = L[k].toNat + 256 * leNum (L.drop (k + 1)) := by
  rw [List.drop_eq_getElem_cons h]; rfl

theorem back_step (V b r m : Nat) (hV : V < 256 ^ 7) (hb : b < 256) (hr : r = b + 256 * V) :
    IntKind.u64.wrap (IntKind.u64.wrap ((V : Int) * 256) + IntKind.u64.wrap (b : Int)) = (r : Int) := by
  have hu : ∀ m : Int, 0 ≤ m → m < 18446744073709551616 → IntKind.u64.wrap m = m := fun m h h' => IntWalk.u64_in _ (by omega)
  have h3 : V < 72057594037927936 := by omega
  have e1 := hu ((V : Int) * 256) (by omega) (by omega)
  have e2 := hu (b : Int) (by omega) (by omega)
  rw [e1, e2, hu _ (by omega) (by omega)]
  omega

theorem one_byte (W : World) (x : Int) (h0 : 0 ≤ x) (h1 : x < 256) : (convert 136 9 (.slice (some ⟨W.heap.size, 0, none⟩) 1 1)).run Tryz.prog (W.alloc (.cells #[.int .u8 x] 5)) = .ok (.string ⟨#[UInt8.ofNat x.toNat]⟩) (W.alloc (.cells #[.int .u8 x] 5)) :=
  run_str_of_bytes _ 136 9 5 Tryz.underlying136 Tryz.underlying5 Tryz.underlying9 W.heap.size 0 1 [UInt8.ofNat x.toNat] 1 rfl (by
    have h := CellsAt.new W [.int .u8 x] 5
    have e : u8s [UInt8.ofNat x.toNat] = [.int .u8 x] := by
      simp only [u8s, List.map_cons, List.map_nil]
      have : ((UInt8.ofNat x.toNat).toNat : Int) = x := by simp; omega
      rw [this]
    rw [e]; exact h)

end Go.Proofs.YtakcdecljfmckaaGreatDoor

namespace Go.Proofs.YtakcdecljfmckaaGreatDoor
open Go.RowKit

def idxI : Option Nat → Int
  | some k => k
  | none => -1
def geIdx : Option Nat → Bool
  | some _ => true
  | none => false
/-- numbers as cells -/
def i64s (L : List Nat) : List Value := L.map fun k : Nat => .int .i64 (k : Int)
@[simp] theorem i64s_length (L : List Nat) : (i64s L).length = L.length := by simp [i64s]
theorem i64s_get {L : List Nat} {k x : Nat} (h : L[k]? = some x) : (i64s L)[k]? = some (.int .i64 (x : Int)) := by simp [i64s, h]
/-- a list of numbers at a slice's value: none, or in a row of its own -/
def NatsAt (w : World) (v : Value) (L : List Nat) : Prop := (L = [] ∧ v = .slice none 0 0) ∨ ∃ g cap, v = .slice (some ⟨g, 0, none⟩) L.length cap ∧ CellsAt w g 0 (i64s L)
theorem NatsAt.fr {w w' : World} {v : Value} {L : List Nat} (h : NatsAt w v L) (hf : Fr No w w') : NatsAt w' v L := by
  rcases h with h | ⟨g, cap, rfl, hc⟩
  · exact .inl h
  · exact .inr ⟨g, cap, rfl, hf.cells hc id⟩
theorem i64_cell {w : World} {g : Nat} {L : List Nat} (h : CellsAt w g 0 (i64s L)) {k x : Nat} (hx : L[k]? = some x) : w.cell? ⟨g, k, none⟩ = some (.int .i64 (x : Int)) := by
  have := h k _ (i64s_get hx)
  rwa [Nat.zero_add] at this

set_option maxHeartbeats 1000000 in
theorem idxf_ints (g n c f : Nat) (lb : Value) (l : List Nat) (p : Nat → Bool) (w : World) (hn : l.length = n) (hm : n ≤ 1000000) (hc : CellsAt w g 0 (i64s l)) (he : ∀ args w, (callFunc f args).run Tryz.prog w = .ok (.enter f args) w)
    (hp : ∀ x ∈ l, ∀ W, Fr No w W → Calls Tryz.prog f #[.int .i64 (x : Int), lb] W fun e w' => e = .returned (.bool (p x)) ∧ Fr No W w') :
    Calls Tryz.prog 70 #[.slice (some ⟨g, 0, none⟩) n c, .func (.func f) #[] #[lb]] w fun e w' => e = .returned (.int .i64 (idxI (l.findIdx? p))) ∧ Fr No w w' := by
  have HC := Lib.hid hc
  have HN := Lib.hid hn
  have HP := Lib.hid hp
  clear hc hn hp
  go_enter Tryz.func70, Tryz.ntmps70
  go_wp2_with fail
  go_loopw [8] (fun i wr => ∃ k : Nat, k ≤ n ∧ i = .int .i64 k ∧ Hid (Fr No w wr) ∧ Hid (∀ (j : Nat) x, j < k → l[j]? = some x → p x = false)) (fun i _ => n - (intOf i).toNat)
  case atStart => exact ⟨0, Nat.zero_le _, rfl, Fr.refl _ _, fun j _ h => absurd h (Nat.not_lt_zero _)⟩
  case round =>
    obtain ⟨k, hk, rfl, HF, HJ⟩ := hrel
    by_cases hlt : k < n
    · obtain ⟨x, hx⟩ : ∃ x, l[k]? = some x := ⟨l[k]'(by rw [HN.out]; exact hlt), List.getElem?_eq_getElem _⟩
      have k0 := i64_cell (HF.out.cells HC.out id) hx
      have HX := Lib.hid hx
      have HPX := Lib.hid (HP.out x (List.mem_of_getElem? hx) wr HF.out)
      obtain ⟨t, ht⟩ : ∃ t, p x = t := ⟨_, rfl⟩
      rw [ht] at HPX
      have HT := Lib.hid ht
      clear ht hx
      cases t with
      | true =>
        have HFI : Hid (l.findIdx? p = some k) := Lib.hid (by
          rw [List.findIdx?_eq_some_iff_getElem]
          have hkl : k < l.length := by rw [HN.out]; exact hlt
          have := HX.out
          rw [List.getElem?_eq_getElem hkl] at this
          refine ⟨hkl, by rw [Option.some.inj this]; exact HT.out, fun j hj => ?_⟩
          have := HJ.out j _ hj (List.getElem?_eq_getElem (by omega))
          simpa using this)
        go_wp2_with fail
        refine (HPX.out).mono ?_
        rintro e w5 ⟨rfl, hf5⟩
        go_wp2_with fail
        go_ret
        exact ⟨by rw [HFI.out]; rfl, HF.out.trans hf5⟩
      | false =>
        have HJ2 : Hid (∀ (j : Nat) y, j < k + 1 → l[j]? = some y → p y = false) := fun j y hj hy => by
          by_cases e : j = k
          · subst e
            rw [HX.out] at hy
            obtain rfl := Option.some.inj hy
            exact HT.out
          · exact HJ.out j y (by omega) hy
        go_wp2_with fail
        refine (HPX.out).mono ?_
        rintro e w5 ⟨rfl, hf5⟩
        go_wp2_with fail
        go_roundw
        case rel => exact ⟨k + 1, by omega, by go_num, HF.out.trans hf5, HJ2⟩
        case measure => simp [intOf] <;> omega
    · obtain rfl : k = n := by omega
      have HFI : Hid (l.findIdx? p = none) := Lib.hid (by
        rw [List.findIdx?_eq_none_iff]
        intro x hx
        obtain ⟨j, hj, rfl⟩ := List.getElem_of_mem hx
        exact HJ.out j _ (by rw [← HN.out]; exact hj) (List.getElem?_eq_getElem hj))
      go_wp2_with fail
      go_ret
      exact ⟨by rw [HFI.out]; rfl, HF.out⟩

set_option maxHeartbeats 400000 in
/-- nothing is to be deleted -/
theorem del_none (g n c f : Nat) (lb : Value) (l : List Nat) (w : World) (hn : l.length = n) (hm : n ≤ 1000000) (hc : CellsAt w g 0 (i64s l)) (he : ∀ args w, (callFunc f args).run Tryz.prog w = .ok (.enter f args) w)
    (hp : ∀ x ∈ l, ∀ W, Fr No w W → Calls Tryz.prog f #[.int .i64 (x : Int), lb] W fun e w' => e = .returned (.bool false) ∧ Fr No W w') :
    Calls Tryz.prog 41 #[.slice (some ⟨g, 0, none⟩) n c, .func (.func f) #[] #[lb]] w fun e w' => e = .returned (.slice (some ⟨g, 0, none⟩) n c) ∧ Fr No w w' := by
  have H := Lib.hid (idxf_ints g n c f lb l (fun _ => false) w hn hm hc he hp)
  have e : l.findIdx? (fun _ => false) = none := by rw [List.findIdx?_eq_none_iff]; intros; rfl
  rw [e] at H
  have H1 : Hid (Calls Tryz.prog 70 #[.slice (some ⟨g, 0, none⟩) n c, .func (.func f) #[] #[lb]] w fun e w' => e = .returned (.int .i64 (-1)) ∧ Fr No w w') := H.out
  clear H e hn hm hc he hp
  go_enter Tryz.func41, Tryz.ntmps41
  go_wp2_with fail
  refine (H1.out).mono ?_
  rintro e w' ⟨rfl, hf⟩
  go_wp2_with fail
  go_ret
  exact ⟨rfl, hf⟩

theorem index_at (l : List Nat) (n x k : Nat) (h : l[k]? = some x) (hj : ∀ (j : Nat) z, j < k → l[j]? = some z → z ≠ n) (hx : x = n) : l.findIdx? (· == n) = some k := by
  rw [List.findIdx?_eq_some_iff_getElem]
  obtain ⟨hk, he⟩ := List.getElem?_eq_some_iff.1 h
  refine ⟨hk, by rw [he]; simp [hx], fun j hjk => ?_⟩
  have := hj j _ hjk (List.getElem?_eq_getElem (by omega))
  simpa using this

set_option maxHeartbeats 1000000 in
theorem index_ints (L : List Nat) (v : Value) (x : Nat) (w : World) (hv : NatsAt w v L) (hm : L.length ≤ 1000000) :
    Calls Tryz.prog 59 #[v, .int .i64 (x : Int)] w fun e w' => e = .returned (.int .i64 (idxI (L.findIdx? (· == x)))) ∧ Fr No w w' := by
  rcases hv with ⟨rfl, rfl⟩ | ⟨g, c, rfl, hc⟩
  · go_enter Tryz.func59, Tryz.ntmps59
    go_wp2_with fail
    refine wp_loop_rounds 1 ?_
    rw [rounds_succ]
    go_wp2_with fail
    go_ret
    exact ⟨rfl, Fr.refl _ _⟩
  have HC := Lib.hid hc
  obtain ⟨n, hn⟩ : ∃ n, L.length = n := ⟨_, rfl⟩
  have HN := Lib.hid hn
  rw [hn] at hm ⊢
  clear hc hn
  go_enter Tryz.func59, Tryz.ntmps59
  go_wp2_with fail
  go_loopw [8] (fun i wr => ∃ k : Nat, k ≤ n ∧ i = .int .i64 k ∧ Hid (Fr No w wr) ∧ Hid (∀ (j : Nat) z, j < k → L[j]? = some z → z ≠ x)) (fun i _ => n - (intOf i).toNat)
  case atStart => exact ⟨0, Nat.zero_le _, rfl, Fr.refl _ _, fun j _ h => absurd h (Nat.not_lt_zero _)⟩
  case round =>
    obtain ⟨k, hk, rfl, HF, HJ⟩ := hrel
    by_cases hlt : k < n
    · obtain ⟨z, hz⟩ : ∃ z, L[k]? = some z := ⟨L[k]'(by rw [HN.out]; exact hlt), List.getElem?_eq_getElem _⟩
      have k0 := i64_cell (HF.out.cells HC.out id) hz
      have HX := Lib.hid hz
      clear hz
      by_cases hx : z = x
      · have HFI : Hid (L.findIdx? (· == x) = some k) := index_at L x z k HX.out HJ.out hx
        have q : ((x : Int) == (z : Int)) = true := by rw [beq_iff_eq]; omega
        have q' : ((z : Int) == (x : Int)) = true := by rw [beq_iff_eq]; omega
        clear hx
        go_wp2_with fail
        go_ret
        exact ⟨by rw [HFI.out]; rfl, HF.out⟩
      · have HJ2 : Hid (∀ (j : Nat) y, j < k + 1 → L[j]? = some y → y ≠ x) := fun j y hj hy => by
          by_cases e : j = k
          · subst e
            rw [HX.out] at hy
            obtain rfl := Option.some.inj hy
            exact hx
          · exact HJ.out j y (by omega) hy
        have q : ((x : Int) == (z : Int)) = false := by rw [beq_eq_false_iff_ne]; omega
        have q' : ((z : Int) == (x : Int)) = false := by rw [beq_eq_false_iff_ne]; omega
        clear hx
        go_wp2_with fail
        go_roundw
        case rel => exact ⟨k + 1, by omega, by go_num, HF.out, HJ2⟩
        case measure => simp [intOf] <;> omega
    · obtain rfl : k = n := by omega
      have HFI : Hid (L.findIdx? (· == x) = none) := Lib.hid (by
        rw [List.findIdx?_eq_none_iff]
        intro y hy
        obtain ⟨j, hj, rfl⟩ := List.getElem_of_mem hy
        have := HJ.out j _ (by rw [← HN.out]; exact hj) (List.getElem?_eq_getElem hj)
        simpa using this)
      go_wp2_with fail
      go_ret
      exact ⟨by rw [HFI.out]; rfl, HF.out⟩

theorem contains_idx (L : List Nat) (x : Nat) : L.contains x = geIdx (L.findIdx? (· == x)) := by
  cases h : L.findIdx? (· == x) with
  | none =>
    rw [List.findIdx?_eq_none_iff] at h
    cases hc : L.contains x with
    | false => rfl
    | true =>
      rw [List.contains_iff_mem] at hc
      have := h x hc
      simp at this
  | some k =>
    rw [List.findIdx?_eq_some_iff_getElem] at h
    obtain ⟨hk, h1, -⟩ := h
    have : L[k] = x := by simpa using h1
    show _ = true
    rw [List.contains_iff_mem, ← this]
    exact List.getElem_mem hk

set_option maxHeartbeats 400000 in
theorem contains_ints (L : List Nat) (v : Value) (x : Nat) (w : World) (hv : NatsAt w v L) (hm : L.length ≤ 1000000) :
    Calls Tryz.prog 24 #[v, .int .i64 (x : Int)] w fun e w' => e = .returned (.bool (L.contains x)) ∧ Fr No w w' := by
  have H := Lib.hid (index_ints L v x w hv hm)
  rw [contains_idx]
  obtain ⟨o, ho⟩ : ∃ o, L.findIdx? (· == x) = o := ⟨_, rfl⟩
  rw [ho] at H ⊢
  clear ho hv
  cases o with
  | none =>
    have H1 : Hid (Calls Tryz.prog 59 #[v, .int .i64 (x : Int)] w fun e w' => e = .returned (.int .i64 (-1)) ∧ Fr No w w') := H.out
    go_enter Tryz.func24, Tryz.ntmps24
    go_wp2_with (go_at_call 59; (with_reducible refine (H1.out).mono ?_); rintro e w' ⟨rfl, hf⟩)
    go_ret
    exact ⟨rfl, hf⟩
  | some k =>
    have H1 : Hid (Calls Tryz.prog 59 #[v, .int .i64 (x : Int)] w fun e w' => e = .returned (.int .i64 (k : Int)) ∧ Fr No w w') := H.out
    have g : (0 : Int) ≤ (k : Int) := by omega
    go_enter Tryz.func24, Tryz.ntmps24
    go_wp2_with (go_at_call 59; (with_reducible refine (H1.out).mono ?_); rintro e w' ⟨rfl, hf⟩)
    go_ret
    exact ⟨rfl, hf⟩
end Go.Proofs.YtakcdecljfmckaaGreatDoor

namespace Go.Proofs.YtakcdecljfmckaaGreatDoor
open Go.RowKit

/-- a slice's value, and the cells of its m elements -/
def SrcAt (w : World) (u : Value) (m : Nat) (news : List Value) : Prop := (m = 0 ∧ news = [] ∧ u = .slice none 0 0) ∨ ∃ ad c, u = .slice (some ad) m c ∧ ∀ j v, news[j]? = some v → w.cell? (ad.add j) = some v

theorem SrcAt.fr {S : Nat → Prop} {w w' : World} {u : Value} {m : Nat} {news : List Value} (h : SrcAt w u m news) (hf : Fr S w w') (hn : ∀ k, u.ownBlock = some k → ¬ S k) : SrcAt w' u m news := by
  rcases h with h | ⟨ad, c, rfl, h⟩
  · exact .inl h
  · refine .inr ⟨ad, c, rfl, fun j v hj => hf.cell (h j v hj) ?_⟩
    have := hn ad.block rfl
    have e : (ad.add j).block = ad.block := by unfold Addr.add; split <;> rfl
    rw [e]; exact this

/-- a slice's own block -/
def OwnOf (v : Value) : Nat → Prop := fun k => v.ownBlock = some k
theorem OwnOf.ge {w : World} {base n size : Nat} {e : TypeId} {v : Value} {xs : List Value} (h : w.ownsRow base e size v n xs) {k : Nat} (hk : OwnOf v k) : base ≤ k := by
  rcases h.2 with ⟨rfl, _⟩ | ⟨g, cap, cur, rfl, hb, _⟩
  · simp [OwnOf, Value.ownBlock] at hk
  · simp [OwnOf, Value.ownBlock] at hk; omega

theorem grown_fr {w w' : World} {v : Value} (h : w.grownBy w' v.ownBlock) : Fr (OwnOf v) w w' :=
  ⟨h.os, h.tape, h.output, h.size, fun k hk hs => h.block k hk (fun he => hs he.symm)⟩

theorem run_append_src {P : Program} {w : World} (t ty : TypeId) (base : Nat) (e : TypeId) (i : TypeInfo) (z : Value) (size bytes : Nat) (ht : P.underlying t = some (.slice e)) (hi : P.info? e = some i) (hz : i.zero = some z)
    (hsize : i.size = size) (hby : i.bytes = bytes) (hzs : z.cells.size = size) (hsz : 0 < size)
    (v : Value) (n : Nat) (xs : List Value) (hown : w.ownsRow base e size v n xs) (u : Value) (m : Nat) (news : List Value) (hu : SrcAt w u m news) (hl : news.length = m * size) (h1 : ∀ u ∈ news, u.oneCell' = true)
    (h63 : n + m ≤ maxLen) (hbytes : (n + m) * bytes ≤ 140737488355328) (hbase : base ≤ w.heap.size) :
    ∃ v' w', (Builtin.append_ #[t, t] ty #[v, u]).run P w = .ok v' w' ∧ w'.ownsRow base e size v' (n + m) (xs ++ news) ∧ Fr (OwnOf v) w w' := by
  rcases hu with ⟨rfl, rfl, rfl⟩ | ⟨ad, c, rfl, hnews⟩
  · exact ⟨v, w, run_append_owned_none (P := P) (w := w) base t ty e i size ht hi v n xs hown, by simpa using hown, Fr.refl _ _⟩
  · obtain ⟨v', w', hr, h2, h3, _⟩ := run_append_own (P := P) w base t ty e i z size bytes ht hi hz hsize hby hzs hsz v n xs hown ad m c news hl hnews h1 h63 hbytes hbase
    exact ⟨v', w', hr, h2, grown_fr h3⟩

theorem wp_append_src {P : Program} {w : World} {o : Oper} {a : Act} {K : Act → World → Prop} {Q : Exit → Act → World → Prop} (s x : Operand) (t : TypeId)
    (ho : o.op = .call { callee := .builtin .append, args := #[s, x], argTypes := #[t, t] })
    (base : Nat) (e : TypeId) (i : TypeInfo) (z : Value) (size bytes : Nat) (ht : P.underlying t = some (.slice e)) (hi : P.info? e = some i) (hz : i.zero = some z)
    (hsize : i.size = size) (hby : i.bytes = bytes) (hzs : z.cells.size = size) (hsz : 0 < size)
    (v : Value) (n : Nat) (xs : List Value) (hs : a.eval s = v) (hown : w.ownsRow base e size v n xs) (u : Value) (m : Nat) (news : List Value) (hx : a.eval x = u) (hu : SrcAt w u m news) (hl : news.length = m * size) (h1 : ∀ u ∈ news, u.oneCell' = true)
    (h63 : n + m ≤ maxLen) (hbytes : (n + m) * bytes ≤ 140737488355328) (hbase : base ≤ w.heap.size)
    (h : ∀ v' w', w'.ownsRow base e size v' (n + m) (xs ++ news) → Fr (OwnOf v) w w' → K (a.put o.dst v') w') : o.wp P a w K Q := by
  obtain ⟨v', w', hr, h2, h3⟩ := run_append_src (P := P) t o.type base e i z size bytes ht hi hz hsize hby hzs hsz v n xs hown u m news hu hl h1 h63 hbytes hbase
  unfold Oper.wp execOp
  simp only [ho, resolve, invoke, builtin, Sem.run_bind, Sem.run_pure, Result.andThen_ok, List.map_toArray, List.map_cons, List.map_nil, hs, hx, hr]
  exact h v' w' h2 h3

theorem wpList_append_src {P : Program} {w : World} {ops : Array Oper} {rest : List Oper} {o : Oper} {a : Act} {Q : Exit → Act → World → Prop} (hgd : o.guard = none) (s x : Operand) (t : TypeId)
    (ho : o.op = .call { callee := .builtin .append, args := #[s, x], argTypes := #[t, t] })
    (base : Nat) (e : TypeId) (i : TypeInfo) (z : Value) (size bytes : Nat) (ht : P.underlying t = some (.slice e)) (hi : P.info? e = some i) (hz : i.zero = some z)
    (hsize : i.size = size) (hby : i.bytes = bytes) (hzs : z.cells.size = size) (hsz : 0 < size)
    (v : Value) (n : Nat) (xs : List Value) (hs : a.eval s = v) (hown : w.ownsRow base e size v n xs) (u : Value) (m : Nat) (news : List Value) (hx : a.eval x = u) (hu : SrcAt w u m news) (hl : news.length = m * size) (h1 : ∀ u ∈ news, u.oneCell' = true)
    (h63 : n + m ≤ maxLen) (hbytes : (n + m) * bytes ≤ 140737488355328) (hbase : base ≤ w.heap.size)
    (h : ∀ v' w', w'.ownsRow base e size v' (n + m) (xs ++ news) → Fr (OwnOf v) w w' → wpList P ops Q rest (a.put o.dst v') w') : wpList P ops Q (o :: rest) a w :=
  wpList_plain hgd fun _ hK => wp_append_src s x t ho base e i z size bytes ht hi hz hsize hby hzs hsz v n xs hs hown u m news hx hu hl h1 h63 hbytes hbase fun v' w' h2 h3 => hK _ _ (h v' w' h2 h3)

theorem step_append_src {P : Program} {w : World} {ops : Array Oper} {o : Oper} {a : Act} {K : Act → World → Prop} {Q : Exit → Act → World → Prop} {E : Prop} (hgd : o.guard = none) (s x : Operand) (t : TypeId)
    (ho : o.op = .call { callee := .builtin .append, args := #[s, x], argTypes := #[t, t] })
    (base : Nat) (e : TypeId) (i : TypeInfo) (z : Value) (size bytes : Nat) (ht : P.underlying t = some (.slice e)) (hi : P.info? e = some i) (hz : i.zero = some z)
    (hsize : i.size = size) (hby : i.bytes = bytes) (hzs : z.cells.size = size) (hsz : 0 < size)
    (v : Value) (n : Nat) (xs : List Value) (hs : a.eval s = v) (hown : w.ownsRow base e size v n xs) (u : Value) (m : Nat) (news : List Value) (hx : a.eval x = u) (hu : SrcAt w u m news) (hl : news.length = m * size) (h1 : ∀ u ∈ news, u.oneCell' = true)
    (h63 : n + m ≤ maxLen) (hbytes : (n + m) * bytes ≤ 140737488355328) (hbase : base ≤ w.heap.size)
    (h : ∀ v' w', w'.ownsRow base e size v' (n + m) (xs ++ news) → Fr (OwnOf v) w w' → K (a.put o.dst v') w') :
    if Region.wanted o (yielded ops a.tmps) = true then Oper.wp P o a w K Q else E := by
  have hw : Region.wanted o (yielded ops a.tmps) = true := by simp [Region.wanted, hgd]
  rw [if_pos hw]
  exact wp_append_src s x t ho base e i z size bytes ht hi hz hsize hby hzs hsz v n xs hs hown u m news hx hu hl h1 h63 hbytes hbase h

end Go.Proofs.YtakcdecljfmckaaGreatDoor

namespace Go.Proofs.YtakcdecljfmckaaGreatDoor
open Go.RowKit

theorem ownsRow_fr {S : Nat → Prop} {w w' : World} {base size n : Nat} {e : TypeId} {v : Value} {xs : List Value} (h : w.ownsRow base e size v n xs) (hf : Fr S w w') (hn : ∀ k, v.ownBlock = some k → ¬ S k) : w'.ownsRow base e size v n xs := by
  refine ⟨h.1, ?_⟩
  rcases h.2 with h2 | ⟨g, cap, cur, hv, hb, hg, h3⟩
  · exact .inl h2
  · refine .inr ⟨g, cap, cur, hv, hb, ?_, h3⟩
    have hlt : g < w.heap.size := by
      rcases Nat.lt_or_ge g w.heap.size with h | h
      · exact h
      · rw [Array.getElem?_eq_none h] at hg; cases hg
    rw [hf.block g hlt (hn g (by rw [hv]; rfl))]
    exact hg

/-- n elements are gathered, whose cells are xs -/
structure Gath (w : World) (t : TypeId) (size n : Nat) (xs : List Value) (v : Value) (wr : World) : Prop where
  fr : Fr No w wr
  own : wr.ownsRow w.heap.size t size v n xs

theorem Gath.start (w : World) (t : TypeId) (size : Nat) : Gath w t size 0 [] (.slice none 0 0) w := ⟨Fr.refl _ _, World.ownsRow_nil _ _ _ _⟩
theorem Gath.start' {w wr : World} (hf : Fr No w wr) (t : TypeId) (size : Nat) : Gath w t size 0 [] (.slice none 0 0) wr := ⟨hf, World.ownsRow_nil _ _ _ _⟩

theorem Gath.to {w wr w' : World} {t : TypeId} {size n : Nat} {xs : List Value} {v : Value} (h : Gath w t size n xs v wr) (hf : Fr No wr w') : Gath w t size n xs v w' :=
  ⟨h.fr.trans hf, ownsRow_fr h.own hf (fun _ _ => id)⟩

/-- behind an append -/
theorem Gath.step {w wr w' : World} {t : TypeId} {size n : Nat} {xs news : List Value} {v v' : Value} (h : Gath w t size n xs v wr) (ho : w'.ownsRow w.heap.size t size v' (n + 1) (xs ++ news)) (hf : Fr (OwnOf v) wr w') : Gath w t size (n + 1) (xs ++ news) v' w' :=
  ⟨((h.fr.any.trans (hf.mono fun k _ hk => OwnOf.ge h.own hk)) : Fr (From w) w w').ours, ho⟩

/-- a slice that holds cells, or is empty -/
theorem Gath.cells {w w' : World} {t : TypeId} {size n : Nat} {xs : List Value} {v : Value} (h : Gath w t size n xs v w') : (n = 0 ∧ xs = [] ∧ ∃ a c, v = .slice a 0 c) ∨ ∃ g cap, v = .slice (some ⟨g, 0, none⟩) n cap ∧ CellsAt w' g 0 xs ∧ w.heap.size ≤ g := by
  rcases h.own.2 with ⟨rfl, h0⟩ | ⟨g, cap, cur, hv, hb, hg, _, _, _, hx⟩
  · refine .inl ⟨h0, ?_, _, _, rfl⟩
    have := h.own.1
    rw [h0, Nat.zero_mul] at this
    exact List.eq_nil_of_length_eq_zero this
  · refine .inr ⟨g, cap, hv, fun j u hj => ?_, hb⟩
    rw [Nat.zero_add, cell_of_row w' g j cur t _ hg]
    rw [← hx, List.getElem?_take] at hj
    split at hj
    · simpa using hj
    · cases hj

/-- for an arm at a region's step: is the operation this append? (then 'rfl' closes the first goal; else the arm fails at once) -/
theorem guard_append {P : Program} {w : World} {ops : Array Oper} {o : Oper} {a : Act} {K : Act → World → Prop} {Q : Exit → Act → World → Prop} {E : Prop} (s x : Operand) (t : TypeId)
    (_ho : o.op = .call { callee := .builtin .append, args := #[s, x], argTypes := #[t, t] }) (h : if Region.wanted o (yielded ops a.tmps) = true then Oper.wp P o a w K Q else E) :
    if Region.wanted o (yielded ops a.tmps) = true then Oper.wp P o a w K Q else E := h

/-- a struct that was built lies in a block of its own -/
theorem src_new (w : World) (cs : List Value) (t : TypeId) : SrcAt (w.alloc (.cells cs.toArray t)) (.slice (some ⟨w.heap.size, 0, none⟩) 1 1) 1 cs := by
  refine .inr ⟨_, _, rfl, ?_⟩
  exact World.news_of_block (cs := cs.toArray) (by simpa using heap_alloc_new w (.cells cs.toArray t))

end Go.Proofs.YtakcdecljfmckaaGreatDoor
