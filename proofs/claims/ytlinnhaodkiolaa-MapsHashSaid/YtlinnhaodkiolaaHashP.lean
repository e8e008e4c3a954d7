/- A hash under lays and deletes, in plain lists: which keys, in which order they came, at which places, with which values. -/
import Derived.Test.YtlinnhaodkiolaaHashed
namespace Go.Proofs.Ytlinnhaodkiolaa
open Go.RowKit

theorem nodup_len {α : Type} [DecidableEq α] : ∀ (a b : List α), a.Nodup → (∀ x ∈ a, x ∈ b) → a.length ≤ b.length
  | [], _, _, _ => by simp
  | x :: a, b, hn, h => by
    have hx : x ∈ b := h x (by simp)
    have h2 := List.nodup_cons.1 hn
    have := nodup_len a (b.erase x) h2.2 (fun y hy => (List.mem_erase_of_ne (fun e : y = x => h2.1 (by rw [← e]; exact hy))).2 (h y (by simp [hy])))
    rw [List.length_erase_of_mem hx] at this
    have : 0 < b.length := List.length_pos_of_mem hx
    simp
    omega

theorem two_inj {a b : Nat} (ha : a < 65536) (hb : b < 65536) (h : leBytes 2 a = leBytes 2 b) : a = b := by
  have h1 := leNum_leBytes 2 a
  have h2 := leNum_leBytes 2 b
  rw [h] at h1
  omega
theorem two_ne (a : Nat) : leBytes 2 a ≠ [] := fun h => by have := congrArg List.length h; simp at this

/-- a key's number, and its place -/
abbrev Held := List (Nat × Nat)
def hKey (L : Held) (p : Nat) : List UInt8 := match L.find? (fun x => x.2 == p) with | some x => leBytes 2 x.1 | none => []
def hKs (many : Nat) (L : Held) : List (List UInt8) := (List.range many).map (hKey L)
def hTab (many : Nat) (L : Held) : Tab := ⟨⟨2, 2, 3, many⟩, hKs many L⟩
def hS (many : Nat) (L : Held) : List Tab := [⟨⟨1, 4, 1, 3⟩, arrKeys 3⟩, hTab many L]
def hM (D : List UInt8) : List Reg := [⟨1048576, [0, 0, 0], true⟩, ⟨1114112, D, true⟩]
def hVal (D : List UInt8) (p : Nat) : List UInt8 := (D.drop (3 * p)).take 3

structure HInv (many : Nat) (L : Held) (D : List UInt8) : Prop where
  one : 1 ≤ many
  most : many ≤ 16
  len : D.length = 3 * many
  keys : (L.map (·.1)).Nodup
  places : (L.map (·.2)).Nodup
  low : ∀ x ∈ L, x.1 < 20 ∧ x.2 < many

theorem find_nodup : ∀ (L : Held), (L.map (·.2)).Nodup → ∀ x ∈ L, L.find? (fun y => y.2 == x.2) = some x
  | [], _, x, hx => by cases hx
  | y :: L, hn, x, hx => by
    rw [List.map_cons, List.nodup_cons] at hn
    rw [List.find?_cons]
    rcases List.mem_cons.1 hx with rfl | hm
    · simp
    · have hne : ¬ y.2 = x.2 := fun e => hn.1 (e ▸ List.mem_map_of_mem hm)
      have : (y.2 == x.2) = false := by simp [hne]
      rw [this]
      exact find_nodup L hn.2 x hm

theorem hKey_mem {L : Held} (h : (L.map (·.2)).Nodup) {x : Nat × Nat} (hx : x ∈ L) : hKey L x.2 = leBytes 2 x.1 := by
  unfold hKey
  rw [find_nodup L h x hx]

theorem hKey_none {L : Held} {p : Nat} (h : p ∉ L.map (·.2)) : hKey L p = [] := by
  unfold hKey
  have : L.find? (fun x => x.2 == p) = none := by
    rw [List.find?_eq_none]
    intro x hx he
    exact h (by rw [← beq_iff_eq.1 he]; exact List.mem_map_of_mem hx)
  rw [this]

theorem hKey_cases {L : Held} (h : (L.map (·.2)).Nodup) (p : Nat) : (∃ x ∈ L, x.2 = p ∧ hKey L p = leBytes 2 x.1) ∨ (p ∉ L.map (·.2) ∧ hKey L p = []) := by
  by_cases hp : p ∈ L.map (·.2)
  · obtain ⟨x, hx, rfl⟩ := List.mem_map.1 hp
    exact .inl ⟨x, hx, rfl, hKey_mem h hx⟩
  · exact .inr ⟨hp, hKey_none hp⟩

theorem hKey_same {L L' : Held} (h : (L.map (·.2)).Nodup) (h' : (L'.map (·.2)).Nodup) {q : Nat} (hs : ∀ y : Nat × Nat, y.2 = q → (y ∈ L ↔ y ∈ L')) : hKey L q = hKey L' q := by
  rcases hKey_cases h q with ⟨x, hx, rfl, e⟩ | ⟨hq, e⟩
  · rw [e, hKey_mem h' ((hs x rfl).1 hx)]
  · rw [e, hKey_none]
    intro hm
    obtain ⟨y, hy, rfl⟩ := List.mem_map.1 hm
    exact hq (List.mem_map_of_mem ((hs y rfl).2 hy))

theorem hKs_length (many : Nat) (L : Held) : (hKs many L).length = many := by simp [hKs]
theorem hKs_get (many : Nat) (L : Held) (p : Nat) : (hKs many L)[p]? = if p < many then some (hKey L p) else none := by
  unfold hKs
  rw [List.getElem?_map]
  by_cases h : p < many
  · rw [List.getElem?_range h, if_pos h]; rfl
  · rw [List.getElem?_eq_none (by simpa using h), if_neg h]; rfl

theorem hInv_key {many : Nat} {L : Held} {D : List UInt8} (h : HInv many L D) {x y : Nat × Nat} (hx : x ∈ L) (hy : y ∈ L) (he : x.1 = y.1) : x = y := by
  obtain ⟨i, hi, rfl⟩ := List.getElem_of_mem hx
  obtain ⟨j, hj, rfl⟩ := List.getElem_of_mem hy
  have := (List.getElem_inj (i := i) (j := j) (h₀ := by simpa using hi) (h₁ := by simpa using hj) h.keys).1 (by simpa using he)
  subst this
  rfl

theorem hfind_in {many : Nat} {L : Held} {D : List UInt8} (h : HInv many L D) {x : Nat × Nat} (hx : x ∈ L) : (hTab many L).find (leBytes 2 x.1) = some x.2 := by
  have hl := h.low x hx
  unfold Tab.find
  rw [List.findIdx?_eq_some_iff_getElem]
  have get : ∀ j (hj : j < (hTab many L).ks.length), (hTab many L).ks[j] = hKey L j := fun j hj => by
    have := hKs_get many L j
    rw [if_pos (by simpa [hTab, hKs_length] using hj)] at this
    exact (List.getElem?_eq_some_iff.1 this).2
  refine ⟨by simpa [hTab, hKs_length] using hl.2, ?_, fun j hj => ?_⟩
  · rw [get, hKey_mem h.places hx]; simp
  · rw [get j (by simp [hTab, hKs_length]; omega)]
    intro he
    rcases hKey_cases h.places j with ⟨y, hy, e1, e2⟩ | ⟨_, e2⟩
    · rw [e2] at he
      have hly := h.low y hy
      have := two_inj (by omega) (by omega) (beq_iff_eq.1 he)
      have := hInv_key h hy hx this
      subst this
      omega
    · rw [e2] at he
      exact two_ne _ (beq_iff_eq.1 he).symm

theorem hfind_out {many : Nat} {L : Held} {D : List UInt8} (h : HInv many L D) {c : Nat} (hc : c < 20) (hn : c ∉ L.map (·.1)) : (hTab many L).find (leBytes 2 c) = none := by
  rw [find_none]
  intro k hk he
  obtain ⟨p, _, rfl⟩ := List.mem_map.1 hk
  rcases hKey_cases h.places p with ⟨y, hy, e1, e2⟩ | ⟨_, e2⟩
  · rw [e2] at he
    have hly := h.low y hy
    have := two_inj (by omega) (by omega) he
    exact hn (by rw [← this]; exact List.mem_map_of_mem hy)
  · rw [e2] at he
    exact two_ne _ he.symm

theorem hcount {many : Nat} {L : Held} {D : List UInt8} (h : HInv many L D) : L.length ≤ many := by
  have := nodup_len (L.map (·.2)) (List.range many) h.places (fun x hx => by
    obtain ⟨y, hy, rfl⟩ := List.mem_map.1 hx
    have := (h.low y hy).2
    simpa using this)
  simpa using this

theorem hfree_some {many : Nat} {L : Held} {D : List UInt8} (h : HInv many L D) (hl : L.length < many) : ∃ p, (hTab many L).find [] = some p ∧ p < many ∧ p ∉ L.map (·.2) := by
  cases hf : (hTab many L).find [] with
  | some p =>
    obtain ⟨a, b⟩ := find_some hf
    have a' : p < many := by simpa [hTab, hKs_length] using a
    refine ⟨p, rfl, a', fun hm => ?_⟩
    obtain ⟨y, hy, rfl⟩ := List.mem_map.1 hm
    have b' : (hKs many L)[y.2]? = some [] := b
    rw [hKs_get, if_pos a', hKey_mem h.places hy] at b'
    exact two_ne _ (Option.some.inj b')
  | none =>
    exfalso
    have hfn := find_none.1 hf
    have := nodup_len (List.range many) (L.map (·.2)) List.nodup_range (fun p hp => by
      rcases hKey_cases h.places p with ⟨x, hx, rfl, _⟩ | ⟨_, e⟩
      · exact List.mem_map_of_mem hx
      · exact absurd e (hfn (hKey L p) (List.mem_map_of_mem hp)))
    simp at this
    omega

theorem hfree_none {many : Nat} {L : Held} {D : List UInt8} (h : HInv many L D) (hl : ¬ L.length < many) : (hTab many L).find [] = none := by
  cases hf : (hTab many L).find [] with
  | none => rfl
  | some p =>
    exfalso
    obtain ⟨a, b⟩ := find_some hf
    have a' : p < many := by simpa [hTab, hKs_length] using a
    have b' : (hKs many L)[p]? = some [] := b
    rw [hKs_get, if_pos a'] at b'
    have hp : p ∉ L.map (·.2) := fun hm => by
      obtain ⟨y, hy, rfl⟩ := List.mem_map.1 hm
      rw [hKey_mem h.places hy] at b'
      exact two_ne _ (Option.some.inj b')
    have := nodup_len (p :: L.map (·.2)) (List.range many) (List.nodup_cons.2 ⟨hp, h.places⟩) (fun x hx => by
      rcases List.mem_cons.1 hx with rfl | hx
      · simpa using a'
      · obtain ⟨y, hy, rfl⟩ := List.mem_map.1 hx
        have := (h.low y hy).2
        simpa using this)
    simp at this
    omega

/-! ### the memory -/
theorem hM_wf {many : Nat} {D : List UInt8} (h1 : 1 ≤ many) (h16 : many ≤ 16) (hl : D.length = 3 * many) : WF (hM D) := by
  refine ⟨fun r hr => ?_, ?_, by simp [hM]⟩
  · simp only [hM, List.mem_cons, List.not_mem_nil, or_false] at hr
    rcases hr with rfl | rfl
    · exact ⟨by decide, by decide, by decide, by decide⟩
    · exact ⟨by show (0 : Int) ≤ 1114112; decide, by show 1 ≤ D.length; omega, by show (1114112 : Int) + (D.length : Int) ≤ _; omega, by show D.length ≤ _; omega⟩
  · simp [hM, Reg.len]

theorem hM_text {many : Nat} {D : List UInt8} (h1 : 1 ≤ many) (h16 : many ≤ 16) (hl : D.length = 3 * many) {p : Nat} (hp : p < many) : mtext (hM D) (1114112 + 3 * (p : Int)) 3 = (hVal D p, 0) := by
  unfold mtext
  rw [if_neg (by decide), if_neg (by decide)]
  rw [spot_of (hM_wf h1 h16 hl) (j := 1) (r := ⟨1114112, D, true⟩) rfl (by decide) ((Reg.has_iff _ _ _).2 ⟨by show (1114112 : Int) ≤ _; omega, by show (1114112 : Int) + 3 * (p : Int) + 3 ≤ 1114112 + (D.length : Int); omega⟩)]
  show ((Reg.cut ⟨1114112, D, true⟩ _ _), _) = _
  unfold Reg.cut hVal
  rw [show (1114112 + 3 * (p : Int) - 1114112).toNat = 3 * p by omega]
  rfl

theorem hM_put {many : Nat} {D : List UInt8} (h1 : 1 ≤ many) (h16 : many ≤ 16) (hl : D.length = 3 * many) {p : Nat} (hp : p < many) (val : List UInt8) (hv : val.length = 3) :
    mput (hM D) (1114112 + 3 * (p : Int)) val = hM (D.take (3 * p) ++ val ++ D.drop (3 * p + 3)) := by
  rw [mput_at (hM_wf h1 h16 hl) (j := 1) (r := ⟨1114112, D, true⟩) rfl (by show (1114112 : Int) ≤ _; omega) (by show (1114112 : Int) + 3 * (p : Int) + (val.length : Int) ≤ 1114112 + (D.length : Int); omega)]
  show [_, Reg.put ⟨1114112, D, true⟩ _ _] = _
  unfold Reg.put
  simp only []
  rw [show (1114112 + 3 * (p : Int) - 1114112).toNat = 3 * p by omega, hv]
  rfl

theorem hVal_len {many : Nat} {D : List UInt8} (hl : D.length = 3 * many) {p : Nat} (hp : p < many) : (hVal D p).length = 3 := by
  simp [hVal]; omega

theorem hput_len {many : Nat} {D : List UInt8} (hl : D.length = 3 * many) {p : Nat} (hp : p < many) (val : List UInt8) (hv : val.length = 3) : (D.take (3 * p) ++ val ++ D.drop (3 * p + 3)).length = 3 * many := by
  simp; omega

theorem hput_same {many : Nat} {D : List UInt8} (hl : D.length = 3 * many) {p : Nat} (hp : p < many) (val : List UInt8) (hv : val.length = 3) : hVal (D.take (3 * p) ++ val ++ D.drop (3 * p + 3)) p = val := by
  unfold hVal
  rw [List.append_assoc, List.drop_left' (by simp; omega), List.take_left' hv]

theorem hput_else {many : Nat} {D : List UInt8} (hl : D.length = 3 * many) {p q : Nat} (hp : p < many) (hq : q < many) (hpq : p ≠ q) (val : List UInt8) (hv : val.length = 3) : hVal (D.take (3 * p) ++ val ++ D.drop (3 * p + 3)) q = hVal D q := by
  have l1 : (D.take (3 * p)).length = 3 * p := by simp; omega
  apply List.ext_getElem?
  intro i
  unfold hVal
  rw [List.getElem?_take, List.getElem?_take, List.getElem?_drop, List.getElem?_drop]
  by_cases hi : i < 3
  · rw [if_pos hi, if_pos hi]
    by_cases h : q < p
    · rw [List.append_assoc, List.getElem?_append_left (by omega), List.getElem?_take, if_pos (by omega)]
    · rw [List.getElem?_append_right (by simp only [List.length_append, l1, hv]; omega), List.getElem?_drop]
      simp only [List.length_append, l1, hv]
      congr 1
      omega
  · rw [if_neg hi, if_neg hi]

end Go.Proofs.Ytlinnhaodkiolaa
