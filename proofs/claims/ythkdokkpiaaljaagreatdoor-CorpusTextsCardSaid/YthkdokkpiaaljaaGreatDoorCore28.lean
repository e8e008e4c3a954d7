/- UTF-8, as the library decodes it, and as the document says it. No condition. How lines.split goes through a line, without the program. No condition. append onto a row of the call's own, of whatever source (nil, or none of its elements, too): what it comes to, in a region that draws its order and in one that does not. -/
import Derived.Test.YthkdokkpiaaljaaGreatDoorCore27
import Derived.Test.YthkdokkpiaaljaaGreatDoorCore19
import Derived.Lib.TrimUEq
import Derived.Lib.MapLaws
import Derived.Lib.ValidLaws
import Derived.Test.YthkdokkpiaaljaaGreatDoorCore3
import Derived.Deep.AppendLies
import Derived.Laws.OwnMore
import Derived.Laws.AppendOwnNone
import Derived.RegionTactic
set_option linter.all false
set_option linter.unusedVariables false
set_option linter.unusedSimpArgs false
namespace Go.Proofs.YthkdokkpiaaljaaGreatDoor
open Go.RowKit

/-- both fail, or both find the same bytes -/
def DecIs (n c x y z : Nat) (X Y Z : Int) : Prop :=
  (chr4 c X Y Z = 0 ∧ Lib.decodeN n c x y z = (65533, 1)) ∨ ∃ k r : Nat, 1 ≤ k ∧ chr4 c X Y Z = k ∧ Lib.decodeN n c x y z = (r, k) ∧ ¬ (r = 65533 ∧ k = 1)

theorem chr_dec (n c x y z : Nat) (X Y Z : Int) (hn : 1 ≤ n) (hc : c < 256) (hx : x < 256) (hy : y < 256) (hz : z < 256) (hX : (1 < n ∧ X = x) ∨ (n ≤ 1 ∧ X = -1)) (hY : (2 < n ∧ Y = y) ∨ (n ≤ 2 ∧ Y = -1)) (hZ : (3 < n ∧ Z = z) ∨ (n ≤ 3 ∧ Z = -1)) : DecIs n c x y z X Y Z := by
  unfold DecIs Lib.decodeN
  by_cases c1 : c < 128
  · rw [if_pos c1]
    exact .inr ⟨1, c, Nat.le_refl _, (chr_is1 (by omega)).symm, rfl, by omega⟩
  rw [if_neg c1]
  by_cases c2 : c < 194
  · have h0 := (chr_is0 (c := c) (x := X) (y := Y) (z := Z) (by omega) (by omega)).symm
    refine .inl ⟨h0, ?_⟩
    by_cases d : c / 32 = 6 ∧ (1 < n ∧ x / 64 = 2)
    · rw [if_pos d, if_neg (by omega)]
    · rw [if_neg d, if_neg (by omega), if_neg (by omega)]
  by_cases c3 : 245 ≤ c
  · have h0 := (chr_is0 (c := c) (x := X) (y := Y) (z := Z) (by omega) (by omega)).symm
    refine .inl ⟨h0, ?_⟩
    rw [if_neg (by omega), if_neg (by omega)]
    by_cases d : c / 8 = 30 ∧ (1 < n ∧ x / 64 = 2) ∧ (2 < n ∧ y / 64 = 2) ∧ (3 < n ∧ z / 64 = 2)
    · rw [if_pos d, if_neg (by omega)]
    · rw [if_neg d]
  by_cases c4 : c < 224
  · by_cases d : 1 < n ∧ x / 64 = 2
    · rw [if_pos ⟨by omega, d⟩, if_pos (by omega)]
      exact .inr ⟨2, _, by omega, (chr_is2 (by omega)).symm, rfl, by omega⟩
    · rw [if_neg (by omega), if_neg (by omega), if_neg (by omega)]
      exact .inl ⟨(chr_is0 (by omega) (by omega)).symm, rfl⟩
  rw [if_neg (by omega)]
  by_cases c5 : c < 240
  · by_cases d : (1 < n ∧ x / 64 = 2) ∧ (2 < n ∧ y / 64 = 2)
    · rw [if_pos ⟨by omega, d⟩]
      by_cases v : (c = 224 → 160 ≤ x) ∧ (c = 237 → x ≤ 159)
      · rw [if_pos (by omega)]
        exact .inr ⟨3, _, by omega, (chr_is3 (by omega)).symm, rfl, by omega⟩
      · rw [if_neg (by omega)]
        exact .inl ⟨(chr_is0 (by omega) (by omega)).symm, rfl⟩
    · rw [if_neg (by omega), if_neg (by omega)]
      exact .inl ⟨(chr_is0 (by omega) (by omega)).symm, rfl⟩
  rw [if_neg (by omega)]
  by_cases d : (1 < n ∧ x / 64 = 2) ∧ (2 < n ∧ y / 64 = 2) ∧ (3 < n ∧ z / 64 = 2)
  · rw [if_pos ⟨by omega, d⟩]
    by_cases v : (c = 240 → 144 ≤ x) ∧ (c = 244 → x ≤ 143)
    · rw [if_pos (by omega)]
      exact .inr ⟨4, _, by omega, (chr_is4 (by omega)).symm, rfl, by omega⟩
    · rw [if_neg (by omega)]
      exact .inl ⟨(chr_is0 (by omega) (by omega)).symm, rfl⟩
  · rw [if_neg (by omega)]
    exact .inl ⟨(chr_is0 (by omega) (by omega)).symm, rfl⟩

theorem zb_getD (t : List UInt8) (k : Nat) : (k < t.length ∧ zb t k = ((t.getD k 0).toNat : Int)) ∨ (t.length ≤ k ∧ zb t k = -1) := by
  rcases Nat.lt_or_ge k t.length with h | h
  · refine .inl ⟨h, ?_⟩
    unfold zb
    rw [List.getElem?_eq_getElem h]
    simp [List.getD, h]
  · exact .inr ⟨h, zb_lt t k h⟩
/-- what stands in front is no character, for both, or the same bytes for both -/
theorem char_dec (l : List UInt8) (h : l ≠ []) : (charN l = 0 ∧ Lib.decodeL l = (65533, 1)) ∨ (charN l ≠ 0 ∧ (Lib.decodeL l).2 = charN l ∧ ¬ ((Lib.decodeL l).1 = 65533 ∧ (Lib.decodeL l).2 = 1)) := by
  cases l with
  | nil => exact absurd rfl h
  | cons c t =>
    have hd := Lib.decodeL_N (c :: t)
    have hk := charN_chr c t
    have z0 := zb_getD t 0
    have z1 := zb_getD t 1
    have z2 := zb_getD t 2
    have e0 : (c :: t).getD 0 0 = c := rfl
    have e1 : (c :: t).getD 1 0 = t.getD 0 0 := rfl
    have e2 : (c :: t).getD 2 0 = t.getD 1 0 := rfl
    have e3 : (c :: t).getD 3 0 = t.getD 2 0 := rfl
    rw [e0, e1, e2, e3] at hd
    have hc := chr_dec (c :: t).length c.toNat (t.getD 0 0).toNat (t.getD 1 0).toNat (t.getD 2 0).toNat (zb t 0) (zb t 1) (zb t 2) (by simp) c.toNat_lt (t.getD 0 0).toNat_lt (t.getD 1 0).toNat_lt (t.getD 2 0).toNat_lt (by simp only [List.length_cons]; omega) (by simp only [List.length_cons]; omega) (by simp only [List.length_cons]; omega)
    rcases hc with ⟨h1, h2⟩ | ⟨k, r, hk1, h1, h2, h3⟩
    · refine .inl ⟨by omega, ?_⟩
      rw [hd, h2]
    · have : charN (c :: t) = k := by omega
      refine .inr ⟨by omega, ?_, ?_⟩
      · rw [hd, h2, this]
      · rw [hd, h2]; exact h3

/-- a rune by its bytes -/
theorem rune_is (l : List UInt8) (h : l ≠ []) (hc : charN l ≠ 0) (r : Nat) (bs : List UInt8) (he : Lib.encodeRune (r : Int) = bs) (hb : ∀ t, Lib.decodeL (bs ++ t) = (r, bs.length)) : ((Lib.decodeL l).1 == r) = (l.take (charN l) == bs) := by
  rcases char_dec l h with ⟨h0, _⟩ | ⟨_, h2, h3⟩
  · exact absurd h0 hc
  have hen := Lib.encode_decode l h h3
  rw [h2] at hen
  rw [Bool.eq_iff_iff]
  simp only [beq_iff_eq]
  constructor
  · intro e
    rw [← hen, e, he]
  · intro e
    have hl : l = bs ++ l.drop (charN l) := by rw [← e, List.take_append_drop]
    rw [hl, hb]
theorem dec1 (c : UInt8) (h : c.toNat < 128) (t : List UInt8) : Lib.decodeL ([c] ++ t) = (c.toNat, 1) := Lib.decodeL_ascii c t h
theorem dec160 (t : List UInt8) : Lib.decodeL ([194, 160] ++ t) = (160, 2) := by
  rw [Lib.decodeL_N]
  simp [Lib.decodeN, List.getD]
theorem dec8195 (t : List UInt8) : Lib.decodeL ([226, 128, 131] ++ t) = (8195, 3) := by
  rw [Lib.decodeL_N]
  simp [Lib.decodeN, List.getD]

/-- a line's bytes are all of characters -/
theorem valid_words : ∀ (n : Nat) (s : List UInt8) (over : Bool) (word : List UInt8) (acc : List (List UInt8)), s.length ≤ n → (Lib.validD s = true ↔ WF1 s over word acc ≠ none)
  | 0, s, over, word, acc, h => by
    have : s = [] := List.eq_nil_of_length_eq_zero (by omega)
    subst this
    simp [Lib.validD_nil, WF1_nil]
  | n + 1, s, over, word, acc, h => by
    by_cases hs : s = []
    · subst hs
      simp [Lib.validD_nil, WF1_nil]
    rw [Lib.validD_step s hs]
    rcases char_dec s hs with ⟨h0, h1⟩ | ⟨h0, h2, h3⟩
    · rw [h1]
      have hw : WF1 s over word acc = none := by
        unfold WF1
        cases s with
        | nil => exact absurd rfl hs
        | cons c t =>
          show wordsF (t.length + 1) (c :: t) over word acc = none
          unfold wordsF
          rw [if_neg hs, if_pos h0]
      rw [hw]
      simp
    · rw [if_neg h3, h2]
      have hlt : (s.drop (charN s)).length ≤ n := by simp; omega
      rw [WF1_char (charN s) s over word acc rfl h0]
      split
      · exact valid_words n _ _ _ _ hlt
      · exact valid_words n _ _ _ _ hlt
end Go.Proofs.YthkdokkpiaaljaaGreatDoor

namespace Go.Proofs.YthkdokkpiaaljaaGreatDoor
open Go.RowKit

theorem WF1_over_any : ∀ (n : Nat) (s : List UInt8) (acc ws : List (List UInt8)), s.length ≤ n → WF1 s true [] acc = some ws → ws = acc
  | 0, s, acc, ws, h, he => by
    have : s = [] := List.eq_nil_of_length_eq_zero (by omega)
    subst this
    rw [WF1_nil] at he
    exact (Option.some.inj he).symm
  | n + 1, s, acc, ws, h, he => by
    by_cases hs : s = []
    · subst hs
      rw [WF1_nil] at he
      exact (Option.some.inj he).symm
    by_cases h0 : charN s = 0
    · have := (valid_words s.length s true [] acc (Nat.le_refl _)).2 (by rw [he]; simp)
      rw [Lib.validD_step s hs] at this
      rcases char_dec s hs with ⟨_, h1⟩ | ⟨h1, _⟩
      · rw [h1] at this; simp at this
      · exact absurd h0 h1
    · rw [WF1_char (charN s) s true [] acc rfl h0] at he
      simp only [Bool.true_or, if_true] at he
      exact WF1_over_any n _ acc ws (by simp; omega) he

/-- where the loop of split stands -/
structure SplitSt (s : List UInt8) (ws : List (List UInt8)) (pos : Nat) (f : Int) (acc : List (List UInt8)) : Prop where
  le : pos ≤ s.length
  few : acc.length ≤ pos
  at' : (f = -1 ∧ WF1 (s.drop pos) false [] acc = some ws) ∨ ∃ m : Nat, f = m ∧ m < pos ∧ acc.length ≤ m ∧ WF1 (s.drop pos) false ((s.drop m).take (pos - m)) acc = some ws

theorem SplitSt.char {s : List UInt8} {ws : List (List UInt8)} {pos : Nat} {f : Int} {acc : List (List UInt8)} (h : SplitSt s ws pos f acc) (hp : pos < s.length) : charN (s.drop pos) ≠ 0 := by
  intro h0
  have hne : s.drop pos ≠ [] := by
    intro e
    have := congrArg List.length e
    simp at this
    omega
  have key : ∀ word, WF1 (s.drop pos) false word acc ≠ some ws := by
    intro word he
    have := (valid_words _ (s.drop pos) false word acc (Nat.le_refl _)).2 (by rw [he]; simp)
    rw [Lib.validD_step _ hne] at this
    rcases char_dec _ hne with ⟨_, h1⟩ | ⟨h1, _⟩
    · rw [h1] at this; simp at this
    · exact absurd h0 h1
  rcases h.at' with ⟨_, h1⟩ | ⟨m, _, _, _, h1⟩
  · exact key _ h1
  · exact key _ h1
theorem take_more (s : List UInt8) (m pos n : Nat) (h : m < pos) : (s.drop m).take (pos - m) ++ (s.drop pos).take n = (s.drop m).take (pos + n - m) := by
  have e : s.drop pos = (s.drop m).drop (pos - m) := by rw [List.drop_drop]; congr 1; omega
  rw [e, show pos + n - m = (pos - m) + n by omega, List.take_add]
variable {s : List UInt8} {ws : List (List UInt8)} {pos : Nat} {acc : List (List UInt8)}
theorem charN_dle (hp : pos < s.length) : pos + charN (s.drop pos) ≤ s.length := by
  have := charN_le (s.drop pos)
  simp at this
  omega
/-- a blank, behind none -/
theorem SplitSt.blank0 (h : SplitSt s ws pos (-1) acc) (hp : pos < s.length) (h59 : ((s.drop pos).take (charN (s.drop pos)) == [59]) = false) (hb : blankB ((s.drop pos).take (charN (s.drop pos))) = true) : SplitSt s ws (pos + charN (s.drop pos)) (-1) acc := by
  have hc := h.char hp
  rcases h.at' with ⟨_, h1⟩ | ⟨m, h1, _⟩
  · rw [WF1_char _ _ false [] acc rfl hc, h59, hb] at h1
    simp only [Bool.false_or, if_true, List.drop_drop] at h1
    exact ⟨charN_dle hp, by have := h.few; omega, .inl ⟨rfl, h1⟩⟩
  · omega
/-- a blank behind a word -/
theorem SplitSt.blank1 {m : Nat} (h : SplitSt s ws pos m acc) (hp : pos < s.length) (h59 : ((s.drop pos).take (charN (s.drop pos)) == [59]) = false) (hb : blankB ((s.drop pos).take (charN (s.drop pos))) = true) : m < pos ∧ SplitSt s ws (pos + charN (s.drop pos)) (-1) (acc ++ [(s.drop m).take (pos - m)]) := by
  have hc := h.char hp
  rcases h.at' with ⟨h1, _⟩ | ⟨k, h1, h2, h3, h4⟩
  · omega
  · obtain rfl : m = k := by omega
    rw [WF1_char _ _ false _ acc rfl hc, h59, hb] at h4
    have hw : (s.drop m).take (pos - m) ≠ [] := by
      intro e
      have := congrArg List.length e
      simp at this
      omega
    simp only [Bool.false_or, if_true, List.drop_drop, pushW_clean hw] at h4
    exact ⟨h2, charN_dle hp, by simp; omega, .inl ⟨rfl, h4⟩⟩
/-- a comment, behind no word -/
theorem SplitSt.semi0 (h : SplitSt s ws pos (-1) acc) (hp : pos < s.length) (h59 : ((s.drop pos).take (charN (s.drop pos)) == [59]) = true) : ws = acc := by
  have hc := h.char hp
  rcases h.at' with ⟨_, h1⟩ | ⟨m, h1, _⟩
  · rw [WF1_char _ _ false [] acc rfl hc, h59] at h1
    simp only [Bool.false_or, Bool.true_or, if_true, List.drop_drop] at h1
    exact WF1_over_any _ _ acc ws (Nat.le_refl _) h1
  · omega
theorem SplitSt.semi1 {m : Nat} (h : SplitSt s ws pos m acc) (hp : pos < s.length) (h59 : ((s.drop pos).take (charN (s.drop pos)) == [59]) = true) : m < pos ∧ ws = acc ++ [(s.drop m).take (pos - m)] := by
  have hc := h.char hp
  rcases h.at' with ⟨h1, _⟩ | ⟨k, h1, h2, h3, h4⟩
  · omega
  · obtain rfl : m = k := by omega
    rw [WF1_char _ _ false _ acc rfl hc, h59] at h4
    have hw : (s.drop m).take (pos - m) ≠ [] := by
      intro e
      have := congrArg List.length e
      simp at this
      omega
    simp only [Bool.false_or, Bool.true_or, if_true, List.drop_drop, pushW_clean hw] at h4
    exact ⟨h2, WF1_over_any _ _ _ ws (Nat.le_refl _) h4⟩
/-- another character -/
theorem SplitSt.on0 (h : SplitSt s ws pos (-1) acc) (hp : pos < s.length) (h59 : ((s.drop pos).take (charN (s.drop pos)) == [59]) = false) (hb : blankB ((s.drop pos).take (charN (s.drop pos))) = false) : SplitSt s ws (pos + charN (s.drop pos)) (pos : Nat) acc := by
  have hc := h.char hp
  rcases h.at' with ⟨_, h1⟩ | ⟨m, h1, _⟩
  · rw [WF1_char _ _ false [] acc rfl hc, h59, hb] at h1
    simp only [Bool.false_or, Bool.false_eq_true, if_false, List.drop_drop, List.nil_append] at h1
    refine ⟨charN_dle hp, by have := h.few; omega, .inr ⟨pos, rfl, by omega, h.few, ?_⟩⟩
    rw [show pos + charN (s.drop pos) - pos = charN (s.drop pos) by omega]
    exact h1
  · omega
theorem SplitSt.on1 {m : Nat} (h : SplitSt s ws pos m acc) (hp : pos < s.length) (h59 : ((s.drop pos).take (charN (s.drop pos)) == [59]) = false) (hb : blankB ((s.drop pos).take (charN (s.drop pos))) = false) : SplitSt s ws (pos + charN (s.drop pos)) m acc := by
  have hc := h.char hp
  rcases h.at' with ⟨h1, _⟩ | ⟨k, h1, h2, h3, h4⟩
  · omega
  · obtain rfl : m = k := by omega
    rw [WF1_char _ _ false _ acc rfl hc, h59, hb] at h4
    simp only [Bool.false_or, Bool.false_eq_true, if_false, List.drop_drop, take_more s m pos _ h2] at h4
    exact ⟨charN_dle hp, by have := h.few; omega, .inr ⟨m, rfl, by omega, h3, h4⟩⟩
/-- the end -/
theorem SplitSt.end0 (h : SplitSt s ws pos (-1) acc) (hp : ¬ pos < s.length) : ws = acc := by
  have hd : s.drop pos = [] := List.drop_of_length_le (by omega)
  rcases h.at' with ⟨_, h1⟩ | ⟨m, h1, _⟩
  · rw [hd, WF1_nil] at h1
    exact (Option.some.inj h1).symm
  · omega
theorem SplitSt.end1 {m : Nat} (h : SplitSt s ws pos m acc) (hp : ¬ pos < s.length) : m < pos ∧ ws = acc ++ [(s.drop m).take (pos - m)] := by
  have hd : s.drop pos = [] := List.drop_of_length_le (by omega)
  rcases h.at' with ⟨h1, _⟩ | ⟨k, h1, h2, h3, h4⟩
  · omega
  · obtain rfl : m = k := by omega
    rw [hd, WF1_nil] at h4
    have hw : (s.drop m).take (pos - m) ≠ [] := by
      intro e
      have := congrArg List.length e
      simp at this
      have := h.le
      omega
    rw [pushW_clean hw] at h4
    exact ⟨h2, (Option.some.inj h4).symm⟩
theorem SplitSt.start (h : wordsL s = some ws) : SplitSt s ws 0 (-1) [] := ⟨Nat.zero_le _, Nat.le_refl _, .inl ⟨rfl, by rw [List.drop_zero]; exact h⟩⟩
theorem SplitSt.f {f : Int} (h : SplitSt s ws pos f acc) : f = -1 ∨ ∃ m : Nat, f = m ∧ m < pos := by
  rcases h.at' with ⟨h1, _⟩ | ⟨m, h1, h2, _⟩
  · exact .inl h1
  · exact .inr ⟨m, h1, h2⟩
end Go.Proofs.YthkdokkpiaaljaaGreatDoor

namespace Go.Proofs.YthkdokkpiaaljaaGreatDoor
open Go.RowKit

/-- a slice's value, and the cells of its m elements -/
def SrcAt (w : World) (u : Value) (m : Nat) (news : List Value) : Prop := (m = 0 ∧ news = [] ∧ u = .slice none 0 0) ∨ ∃ ad c, u = .slice (some ad) m c ∧ ∀ j v, news[j]? = some v → w.cell? (ad.add j) = some v

theorem SrcAt.fr {S : Nat → Prop} {w w' : World} {u : Value} {m : Nat} {news : List Value} (h : SrcAt w u m news) (hf : Fr S w w') (hn : ∀ k, u.ownBlock = some k → ¬ S k) : SrcAt w' u m news := by
  rcases h with h | ⟨ad, c, rfl, h⟩
  · exact .inl h
  · refine .inr ⟨ad, c, rfl, fun j v hj => hf.cell (h j v hj) ?_⟩
    have := hn ad.block rfl
    have e : (ad.add j).block = ad.block := by unfold Addr.add; split <;> rfl
    rw [e]; exact this

/-- a slice's own block -/
def OwnOf (v : Value) : Nat → Prop := fun k => v.ownBlock = some k
theorem OwnOf.ge {w : World} {base n size : Nat} {e : TypeId} {v : Value} {xs : List Value} (h : w.ownsRow base e size v n xs) {k : Nat} (hk : OwnOf v k) : base ≤ k := by
  rcases h.2 with ⟨rfl, _⟩ | ⟨g, cap, cur, rfl, hb, _⟩
  · simp [OwnOf, Value.ownBlock] at hk
  · simp [OwnOf, Value.ownBlock] at hk; omega

theorem grown_fr {w w' : World} {v : Value} (h : w.grownBy w' v.ownBlock) : Fr (OwnOf v) w w' :=
  ⟨h.os, h.tape, h.output, h.size, fun k hk hs => h.block k hk (fun he => hs he.symm)⟩

theorem run_append_src {P : Program} {w : World} (t ty : TypeId) (base : Nat) (e : TypeId) (i : TypeInfo) (z : Value) (size bytes : Nat) (ht : P.underlying t = some (.slice e)) (hi : P.info? e = some i) (hz : i.zero = some z)
    (hsize : i.size = size) (hby : i.bytes = bytes) (hzs : z.cells.size = size) (hsz : 0 < size)
    (v : Value) (n : Nat) (xs : List Value) (hown : w.ownsRow base e size v n xs) (u : Value) (m : Nat) (news : List Value) (hu : SrcAt w u m news) (hl : news.length = m * size) (h1 : ∀ u ∈ news, u.oneCell' = true)
    (h63 : n + m ≤ maxLen) (hbytes : (n + m) * bytes ≤ 140737488355328) (hbase : base ≤ w.heap.size) :
    ∃ v' w', (Builtin.append_ #[t, t] ty #[v, u]).run P w = .ok v' w' ∧ w'.ownsRow base e size v' (n + m) (xs ++ news) ∧ Fr (OwnOf v) w w' := by
  rcases hu with ⟨rfl, rfl, rfl⟩ | ⟨ad, c, rfl, hnews⟩
  · exact ⟨v, w, run_append_owned_none (P := P) (w := w) base t ty e i size ht hi v n xs hown, by simpa using hown, Fr.refl _ _⟩
  · obtain ⟨v', w', hr, h2, h3, _⟩ := run_append_own (P := P) w base t ty e i z size bytes ht hi hz hsize hby hzs hsz v n xs hown ad m c news hl hnews h1 h63 hbytes hbase
    exact ⟨v', w', hr, h2, grown_fr h3⟩

theorem wp_append_src {P : Program} {w : World} {o : Oper} {a : Act} {K : Act → World → Prop} {Q : Exit → Act → World → Prop} (s x : Operand) (t : TypeId)
    (ho : o.op = .call { callee := .builtin .append, args := #[s, x], argTypes := #[t, t] })
    (base : Nat) (e : TypeId) (i : TypeInfo) (z : Value) (size bytes : Nat) (ht : P.underlying t = some (.slice e)) (hi : P.info? e = some i) (hz : i.zero = some z)
    (hsize : i.size = size) (hby : i.bytes = bytes) (hzs : z.cells.size = size) (hsz : 0 < size)
    (v : Value) (n : Nat) (xs : List Value) (hs : a.eval s = v) (hown : w.ownsRow base e size v n xs) (u : Value) (m : Nat) (news : List Value) (hx : a.eval x = u) (hu : SrcAt w u m news) (hl : news.length = m * size) (h1 : ∀ u ∈ news, u.oneCell' = true)
    (h63 : n + m ≤ maxLen) (hbytes : (n + m) * bytes ≤ 140737488355328) (hbase : base ≤ w.heap.size)
    (h : ∀ v' w', w'.ownsRow base e size v' (n + m) (xs ++ news) → Fr (OwnOf v) w w' → K (a.put o.dst v') w') : o.wp P a w K Q := by
  obtain ⟨v', w', hr, h2, h3⟩ := run_append_src (P := P) t o.type base e i z size bytes ht hi hz hsize hby hzs hsz v n xs hown u m news hu hl h1 h63 hbytes hbase
  unfold Oper.wp execOp
  simp only [ho, resolve, invoke, builtin, Sem.run_bind, Sem.run_pure, Result.andThen_ok, List.map_toArray, List.map_cons, List.map_nil, hs, hx, hr]
  exact h v' w' h2 h3

theorem wpList_append_src {P : Program} {w : World} {ops : Array Oper} {rest : List Oper} {o : Oper} {a : Act} {Q : Exit → Act → World → Prop} (hgd : o.guard = none) (s x : Operand) (t : TypeId)
    (ho : o.op = .call { callee := .builtin .append, args := #[s, x], argTypes := #[t, t] })
    (base : Nat) (e : TypeId) (i : TypeInfo) (z : Value) (size bytes : Nat) (ht : P.underlying t = some (.slice e)) (hi : P.info? e = some i) (hz : i.zero = some z)
    (hsize : i.size = size) (hby : i.bytes = bytes) (hzs : z.cells.size = size) (hsz : 0 < size)
    (v : Value) (n : Nat) (xs : List Value) (hs : a.eval s = v) (hown : w.ownsRow base e size v n xs) (u : Value) (m : Nat) (news : List Value) (hx : a.eval x = u) (hu : SrcAt w u m news) (hl : news.length = m * size) (h1 : ∀ u ∈ news, u.oneCell' = true)
    (h63 : n + m ≤ maxLen) (hbytes : (n + m) * bytes ≤ 140737488355328) (hbase : base ≤ w.heap.size)
    (h : ∀ v' w', w'.ownsRow base e size v' (n + m) (xs ++ news) → Fr (OwnOf v) w w' → wpList P ops Q rest (a.put o.dst v') w') : wpList P ops Q (o :: rest) a w :=
  wpList_plain hgd fun _ hK => wp_append_src s x t ho base e i z size bytes ht hi hz hsize hby hzs hsz v n xs hs hown u m news hx hu hl h1 h63 hbytes hbase fun v' w' h2 h3 => hK _ _ (h v' w' h2 h3)

theorem step_append_src {P : Program} {w : World} {ops : Array Oper} {o : Oper} {a : Act} {K : Act → World → Prop} {Q : Exit → Act → World → Prop} {E : Prop} (hgd : o.guard = none) (s x : Operand) (t : TypeId)
    (ho : o.op = .call { callee := .builtin .append, args := #[s, x], argTypes := #[t, t] })
    (base : Nat) (e : TypeId) (i : TypeInfo) (z : Value) (size bytes : Nat) (ht : P.underlying t = some (.slice e)) (hi : P.info? e = some i) (hz : i.zero = some z)
    (hsize : i.size = size) (hby : i.bytes = bytes) (hzs : z.cells.size = size) (hsz : 0 < size)
    (v : Value) (n : Nat) (xs : List Value) (hs : a.eval s = v) (hown : w.ownsRow base e size v n xs) (u : Value) (m : Nat) (news : List Value) (hx : a.eval x = u) (hu : SrcAt w u m news) (hl : news.length = m * size) (h1 : ∀ u ∈ news, u.oneCell' = true)
    (h63 : n + m ≤ maxLen) (hbytes : (n + m) * bytes ≤ 140737488355328) (hbase : base ≤ w.heap.size)
    (h : ∀ v' w', w'.ownsRow base e size v' (n + m) (xs ++ news) → Fr (OwnOf v) w w' → K (a.put o.dst v') w') :
    if Region.wanted o (yielded ops a.tmps) = true then Oper.wp P o a w K Q else E := by
  have hw : Region.wanted o (yielded ops a.tmps) = true := by simp [Region.wanted, hgd]
  rw [if_pos hw]
  exact wp_append_src s x t ho base e i z size bytes ht hi hz hsize hby hzs hsz v n xs hs hown u m news hx hu hl h1 h63 hbytes hbase h

end Go.Proofs.YthkdokkpiaaljaaGreatDoor
