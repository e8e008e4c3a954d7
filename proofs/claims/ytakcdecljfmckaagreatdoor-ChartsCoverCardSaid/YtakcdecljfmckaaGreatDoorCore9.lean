/- The order of the blocks, plain: places. A scope that is jumped back in: what holds at each jump, with a number that falls. What lines.mean reckons, without the program: Replace, CutPrefix and ParseUint come to numW; Atoi and Itoa to regW. No condition. What is read is a program; blanks and comments make no difference. No condition. firewallref03.register. -/
import Derived.Test.YtakcdecljfmckaaGreatDoorCore8
import Derived.WalkMore
import Derived.ScopeJumps
import Derived.RowKit
import Derived.Test.YtakcdecljfmckaaGreatDoorCore1
import Derived.Test.YtakcdecljfmckaaGreatDoorCore3
import Derived.Lib.ParseIntB
import Derived.Lib.Replace
import Derived.Lib.CountLaws
import Derived.Test.YtakcdecljfmckaaGreatDoorCore5
import Derived.Test.YtakcdecljfmckaaGreatDoorCore4
set_option linter.all false
set_option linter.unusedVariables false
set_option linter.unusedSimpArgs false
namespace Go.Proofs.YtakcdecljfmckaaGreatDoor

theorem nodup_len : ∀ (n : Nat) (L : List Nat), L.Nodup → (∀ k ∈ L, k < n) → L.length ≤ n
  | 0, L, _, h => by
    cases L with
    | nil => simp
    | cons a L => exact absurd (h a List.mem_cons_self) (by omega)
  | n + 1, L, hd, h => by
    have h1 := nodup_len n (L.erase n) (hd.erase n) (fun k hk => by
      have h2 := (hd.mem_erase_iff).1 hk
      have := h k h2.2
      have := h2.1
      omega)
    by_cases hm : n ∈ L
    · have := List.length_erase_of_mem hm
      omega
    · rw [List.erase_of_not_mem hm] at h1
      omega
/-- the place of each node in an order -/
def plM (T : List Nat) (v : Nat) : Nat := T.idxOf v
theorem plM_at {T : List Nat} (hd : T.Nodup) {k v : Nat} (h : T[k]? = some v) : plM T v = k := by
  obtain ⟨hk, hv⟩ := List.getElem?_eq_some_iff.1 h
  unfold plM
  subst hv
  exact hd.idxOf_getElem k hk
/-- the order that the search comes to -/
structure Turn (nx : Nat → List Nat) (N : Nat) (T : List Nat) : Prop where
  nodup : T.Nodup
  lt : ∀ v ∈ T, v < N
  all : ∀ v, v < N → v ∈ T
  head : ∃ R, T = 0 :: R
  led : ∀ v ∈ T, v ≠ 0 → ∃ u ∈ T, plM T u < plM T v ∧ v ∈ nx u
theorem Seg.turn {nx : Nat → List Nat} {N : Nat} {L : List Nat} (h : Seg nx N (fun _ => False) 0 L) (hall : ∀ v, v < N → LedTo nx (fun _ => False) v) : Turn nx N L.reverse := by
  refine ⟨by have := h.nodup; simpa [List.Nodup, List.pairwise_reverse, ne_comm] using this, fun v hv => (h.fresh v (List.mem_reverse.1 hv)).1, fun v hv => List.mem_reverse.2 (h.all (hall v hv)), turn_head h, fun v hv h0 => turn_led h v hv h0⟩
theorem Turn.len {nx : Nat → List Nat} {N : Nat} {T : List Nat} (h : Turn nx N T) : T.length = N := by
  have h1 := nodup_len N T h.nodup h.lt
  have h2 := nodup_len T.length (List.range N |>.map (fun v => plM T v)) ?_ ?_
  · simp only [List.length_map, List.length_range] at h2
    omega
  · refine List.Pairwise.map _ (R := fun a b => a ∈ List.range N ∧ b ∈ List.range N ∧ a ≠ b) ?_ ?_
    · rintro a b ⟨ha, hb, hne⟩ e
      refine hne ?_
      have ha := List.mem_range.1 ha
      have hb := List.mem_range.1 hb
      have h3 := List.idxOf_lt_length_of_mem (h.all a ha)
      have h4 := List.idxOf_lt_length_of_mem (h.all b hb)
      have e1 : T[T.idxOf a] = a := List.getElem_idxOf h3
      have e2 : T[T.idxOf b] = b := List.getElem_idxOf h4
      have e3 : T.idxOf a = T.idxOf b := e
      rw [← e1, ← e2]
      simp only [e3]
    · have := List.nodup_range (n := N)
      have h5 : ∀ (L : List Nat), L.Nodup → List.Pairwise (fun a b => a ∈ L ∧ b ∈ L ∧ a ≠ b) L := by
        intro L hL
        induction hL with
        | nil => exact .nil
        | @cons a L ha _ ih =>
          refine .cons (fun b hb => ⟨List.mem_cons_self, List.mem_cons_of_mem _ hb, ha b hb⟩) (ih.imp fun h => ⟨List.mem_cons_of_mem _ h.1, List.mem_cons_of_mem _ h.2.1, h.2.2⟩)
      exact h5 _ this
  · intro k hk
    obtain ⟨v, hv, rfl⟩ := List.mem_map.1 hk
    exact List.idxOf_lt_length_of_mem (h.all v (List.mem_range.1 hv))
theorem Turn.low {nx : Nat → List Nat} {N : Nat} {T : List Nat} (h : Turn nx N T) {v : Nat} (hv : v < N) : plM T v < N := by
  have := List.idxOf_lt_length_of_mem (h.all v hv)
  rw [h.len] at this
  exact this
theorem Turn.inj {nx : Nat → List Nat} {N : Nat} {T : List Nat} (h : Turn nx N T) {u v : Nat} (hu : u < N) (hv : v < N) (e : plM T u = plM T v) : u = v := by
  have h3 := List.idxOf_lt_length_of_mem (h.all u hu)
  have h4 := List.idxOf_lt_length_of_mem (h.all v hv)
  have e1 : T[T.idxOf u] = u := List.getElem_idxOf h3
  have e2 : T[T.idxOf v] = v := List.getElem_idxOf h4
  have e3 : T.idxOf u = T.idxOf v := e
  rw [← e1, ← e2]
  simp only [e3]
theorem Turn.zero {nx : Nat → List Nat} {N : Nat} {T : List Nat} (h : Turn nx N T) : plM T 0 = 0 := by
  obtain ⟨R, hR⟩ := h.head
  rw [hR]
  exact List.idxOf_cons_self
theorem Turn.pos {nx : Nat → List Nat} {N : Nat} {T : List Nat} (h : Turn nx N T) : 0 < N := by
  obtain ⟨R, hR⟩ := h.head
  exact h.lt 0 (by rw [hR]; exact List.mem_cons_self)
theorem Turn.start {nx : Nat → List Nat} {N : Nat} {T : List Nat} (h : Turn nx N T) : Nears nx N (plM T) (fun v => if v = 0 then 0 else -1) :=
  .start h.pos h.zero (fun _ _ => h.inj) (fun _ => h.low)
/-- where all that stands ahead is calm, a node is told -/
theorem Turn.told {nx : Nat → List Nat} {N : Nat} {T : List Nat} (h : Turn nx N T) {d : Nat → Int} (hn : Nears nx N (plM T) d) {i : Nat} (hi : i < N) (hc : ∀ u, u < N → plM T u < plM T i → ∀ n ∈ nx u, Calm d u n) : 0 ≤ d i := by
  by_cases h0 : i = 0
  · rw [h0, hn.root]; exact Int.le_refl _
  · obtain ⟨u, hu, hlt, hv⟩ := h.led i (h.all i hi) h0
    obtain ⟨m, hm, -⟩ := hc u (h.lt u hu) hlt i hv h0
    omega
end Go.Proofs.YtakcdecljfmckaaGreatDoor

namespace Go.Proofs.YtakcdecljfmckaaGreatDoor

theorem least_num {p : Nat → Prop} (h : ∃ n, p n) : ∃ n, p n ∧ ∀ m, p m → n ≤ m := by
  obtain ⟨n, hn⟩ := h
  induction n using Nat.strongRecOn with
  | _ n ih =>
    by_cases hm : ∃ m, m < n ∧ p m
    · obtain ⟨m, h1, h2⟩ := hm
      exact ih m h1 h2
    · exact ⟨n, hn, fun m hp => Nat.le_of_not_lt fun hlt => hm ⟨m, hlt, hp⟩⟩
open Classical in
noncomputable def leastOf (p : Nat → Prop) : Nat := if h : ∃ n, p n then (least_num h).choose else 0
theorem leastOf_is {p : Nat → Prop} (h : ∃ n, p n) : p (leastOf p) := by
  unfold leastOf
  rw [dif_pos h]
  exact (least_num h).choose_spec.1
theorem leastOf_le {p : Nat → Prop} {m : Nat} (h : p m) : leastOf p ≤ m := by
  unfold leastOf
  have h2 : ∃ n, p n := ⟨m, h⟩
  rw [dif_pos h2]
  exact (least_num h2).choose_spec.2 m h
theorem wp_scope_falls {P : Program} {a : Act} {w : World} {Q : Exit → Act → World → Prop} {c rest : Code} (l : Nat) (J : Nat → Act → World → Prop) (hf : findLabel c l = some (Code.skip.seq rest))
    (pass : ∀ n a w, J n a w → rest.wp P (Exit.jump l (fun a' w' => ∃ m, m < n ∧ J m a' w') Q) a w)
    (first : (∀ n a w, J n a w → rest.wp P (Exit.jump l (fun a' w' => ∃ m, J m a' w') Q) a w) → c.wp P (Exit.jump l (fun a' w' => ∃ m, J m a' w') Q) a w) : (Code.scope c).wp P Q a w := by
  refine wp_scope_jumps l (fun a w => ∃ n, J n a w) (fun a w => leastOf fun n => J n a w) hf (first fun n a w hJ => ?_) fun a w hJ => ?_
  · refine Code.wp_mono (fun e a w q => ?_) (pass n a w hJ)
    cases e <;> first
      | exact q
      | (obtain ⟨h1, m, _, h2⟩ := q; exact ⟨h1, m, h2⟩)
  · refine wp_seq (wp_skip ?_)
    refine Code.wp_mono (fun e a' w' q => ?_) (pass _ a w (leastOf_is hJ))
    cases e <;> first
      | exact q
      | (obtain ⟨h1, m, hm, h2⟩ := q; exact ⟨h1, ⟨m, h2⟩, Nat.lt_of_le_of_lt (leastOf_le h2) hm⟩)
end Go.Proofs.YtakcdecljfmckaaGreatDoor

namespace Go.Proofs.YtakcdecljfmckaaGreatDoor
open Go.RowKit

def okN {α : Type} : Lib.NumEnd α → Option α
  | .ok u => some u
  | _ => none
theorem parseM_dig : ∀ (l : List UInt8) (acc : Nat), acc ≤ 18446744073709551615 → okN (Lib.parseUintM 18446744073709551615 acc l) = digV l acc
  | [], acc, _ => rfl
  | c :: r, acc, h => by
    unfold Lib.parseUintM digV
    by_cases hd : 48 ≤ c.toNat ∧ c.toNat ≤ 57
    · have hd2 : ¬ (c < 48 ∨ 57 < c) := by
        rw [UInt8.lt_iff_toNat_lt, UInt8.lt_iff_toNat_lt]
        show ¬ (c.toNat < 48 ∨ 57 < c.toNat)
        omega
      rw [if_pos hd, if_neg hd2]
      by_cases h1 : 1844674407370955162 ≤ acc
      · rw [if_pos h1, if_pos (by omega)]
        rfl
      · rw [if_neg h1]
        by_cases h2 : 18446744073709551615 < acc * 10 + (c.toNat - 48)
        · rw [if_pos h2, if_pos (by omega)]
          rfl
        · rw [if_neg h2, if_neg (by omega)]
          exact parseM_dig r _ (by omega)
    · have hd2 : c < 48 ∨ 57 < c := by
        rw [UInt8.lt_iff_toNat_lt, UInt8.lt_iff_toNat_lt]
        show c.toNat < 48 ∨ 57 < c.toNat
        omega
      rw [if_neg hd, if_pos hd2]
      rfl
theorem parse64 (l : List UInt8) : okN (Lib.parseUintB 64 l) = digL l := by
  unfold Lib.parseUintB digL
  split
  · rfl
  · exact parseM_dig l 0 (by omega)

theorem digV_bad : ∀ (l : List UInt8) (n : Nat) (x : UInt8), x ∈ l → (x < 48 ∨ 57 < x) → digV l n = none
  | [], _, _, h, _ => absurd h (by simp)
  | c :: t, n, x, h, hx => by
    unfold digV
    by_cases hc : c < 48 ∨ 57 < c
    · rw [if_pos hc]
    · rw [if_neg hc]
      split
      · rfl
      · rcases List.mem_cons.1 h with rfl | h
        · exact absurd hx hc
        · exact digV_bad t _ x h hx
theorem digL_bad {l : List UInt8} {x : UInt8} (h : x ∈ l) (hx : x < 48 ∨ 57 < x) : digL l = none := by
  unfold digL
  split
  · rfl
  · exact digV_bad l 0 x h hx

/-- the minus sign's bytes -/
def oldM : List UInt8 := [226, 136, 146]
def replM (s : List UInt8) : List UInt8 := Lib.replace s oldM [45] 1
theorem repl_form (s : List UInt8) : (Lib.index s oldM = -1 ∧ replM s = s) ∨ ∃ i : Nat, Lib.index s oldM = i ∧ oldM.isPrefixOf (s.drop i) = true ∧ replM s = s.take i ++ 45 :: s.drop (i + 3) := by
  unfold replM Lib.replace
  have hne : (oldM == ([45] : List UInt8)) = false := by decide
  rw [hne]
  simp only [Bool.false_eq_true, if_false]
  rcases Lib.index_spec s oldM with ⟨h, _⟩ | ⟨i, h, hi, ho, _⟩
  · refine .inl ⟨h, ?_⟩
    have hc := Lib.count_miss h
    unfold Lib.replaceNum
    rw [hc]
    simp [Lib.replaceK]
  · refine .inr ⟨i, h, ho, ?_⟩
    have hc := Lib.count_hit (s := s) (sub := oldM) (by decide) h
    have : Lib.replaceNum s oldM 1 = 1 := by
      unfold Lib.replaceNum
      rw [hc]
      rw [if_neg (by omega)]
      rfl
    rw [this, Lib.replaceK_hit oldM [45] 0 s i h]
    simp [Lib.replaceK, oldM]

/-- what the program reckons of a word that is no register -/
def goNum (s : List UInt8) : Option (Bool × Nat) :=
  let R := replM s
  if Lib.hasPrefix R [45] then (okN (Lib.parseUintB 64 (Lib.trimPrefix R [45]))).map (true, ·)
  else (okN (Lib.parseUintB 64 (Lib.trimPrefix R [43]))).map (false, ·)
theorem hasP (c : UInt8) (s : List UInt8) : Lib.hasPrefix s [c] = (s.head? == some c) := by
  cases s with
  | nil => rfl
  | cons a t =>
    simp only [Lib.hasPrefix, List.isPrefixOf, List.head?_cons, Bool.and_true]
    rw [Bool.eq_iff_iff]
    simp
    exact eq_comm
theorem trimP (c : UInt8) (s : List UInt8) : Lib.trimPrefix s [c] = if s.head? = some c then s.drop 1 else s := by
  unfold Lib.trimPrefix
  rw [hasP]
  by_cases h : s.head? = some c
  · rw [if_pos h, if_pos (by simpa using h)]; rfl
  · rw [if_neg h, if_neg (by simpa using h)]

theorem num_same (s : List UInt8) : goNum s = numW s := by
  unfold goNum
  simp only [hasP, trimP, parse64]
  have b45 : (45 : UInt8) < 48 ∨ 57 < (45 : UInt8) := by decide
  have b226 : (226 : UInt8) < 48 ∨ 57 < (226 : UInt8) := by decide
  rcases repl_form s with ⟨hi, hr⟩ | ⟨i, hi, ho, hr⟩
  · rw [hr]
    have h3 : ¬ (3 < s.length ∧ s.take 3 = [226, 136, 146]) := by
      rintro ⟨_, h⟩
      have : Lib.index s oldM = 0 := by
        have hs : s = oldM ++ s.drop 3 := by
          have := List.take_append_drop 3 s
          rw [h] at this
          exact this.symm
        refine Lib.index_first (i := 0) (Nat.zero_le _) ?_ (fun j hj => absurd hj (Nat.not_lt_zero _))
        unfold Lib.occAt
        rw [List.drop_zero, hs]
        simp [oldM]
      omega
    unfold numW
    rw [if_neg h3]
    cases s with
    | nil => rfl
    | cons c t =>
      simp only [List.head?_cons, List.drop_one, List.tail_cons, List.length_cons, Option.some.injEq]
      by_cases h45 : c = 45
      · subst h45
        cases t with
        | nil => rfl
        | cons d t => simp
      · by_cases h43 : c = 43
        · subst h43
          cases t with
          | nil => rfl
          | cons d t => simp
        · simp [h45, h43]
  · have hd : ∃ t, s.drop i = 226 :: 136 :: 146 :: t := by
      obtain ⟨t, ht⟩ := List.isPrefixOf_iff_prefix.1 ho
      exact ⟨t, by rw [← ht]; rfl⟩
    obtain ⟨t, ht⟩ := hd
    have hs : s = s.take i ++ 226 :: 136 :: 146 :: t := by rw [← ht, List.take_append_drop]
    have hd3 : s.drop (i + 3) = t := by rw [← List.drop_drop, ht]; rfl
    rw [hr, hd3]
    generalize hA : s.take i = A at hs
    cases A with
    | nil =>
      simp only [List.nil_append] at hs ⊢
      subst hs
      unfold numW
      simp only [List.head?_cons, List.drop_one, List.tail_cons, List.length_cons]
      cases t with
      | nil => rfl
      | cons d t =>
        rw [if_pos (by simp)]
        simp
    | cons c A =>
      have h3 : ¬ (3 < s.length ∧ s.take 3 = [226, 136, 146]) := by
        rintro ⟨_, h⟩
        have hz : Lib.index s oldM = 0 := by
          have hs : s = oldM ++ s.drop 3 := by
            have := List.take_append_drop 3 s
            rw [h] at this
            exact this.symm
          refine Lib.index_first (i := 0) (Nat.zero_le _) ?_ (fun j hj => absurd hj (Nat.not_lt_zero _))
          unfold Lib.occAt
          rw [List.drop_zero, hs]
          simp [oldM]
        have : i = 0 := by omega
        subst this
        simp at hA
      have m1 : (45 : UInt8) ∈ A ++ 45 :: t := by simp
      have m2 : (226 : UInt8) ∈ A ++ 226 :: 136 :: 146 :: t := by simp
      have e1 := digL_bad m1 b45
      have e2 := digL_bad m2 b226
      have e3 : digL (c :: A ++ 45 :: t) = none := digL_bad (by simp) b45
      have e4 : digL (c :: A ++ 226 :: 136 :: 146 :: t) = none := digL_bad (by simp) b226
      unfold numW
      rw [if_neg h3, hs]
      simp only [List.cons_append, List.head?_cons, List.drop_one, List.tail_cons, Option.some.injEq] at e3 e4 ⊢
      have p1 : ∀ (P : Prop) [Decidable P], digL (if P then A ++ 45 :: t else c :: (A ++ 45 :: t)) = none := fun P _ => by split <;> assumption
      rw [p1, p1, e2, e4]
      simp

/-- what a word behind the first one is -/
theorem reg_num (n : Nat) (h : n ≤ 10) : okN (Lib.atoiAll (decN n)) = some (n : Int) := by
  have : ∀ n, n < 11 → okN (Lib.atoiAll (decN n)) = some (n : Int) := by decide +kernel
  exact this n (by omega)
end Go.Proofs.YtakcdecljfmckaaGreatDoor

namespace Go.Proofs.YtakcdecljfmckaaGreatDoor
open Go.RowKit

/-! ### what is read is a program -/
theorem parseI_le {s : List UInt8} {lo hi : Nat} {n : Int} (h : parseI s lo hi = some n) : -(lo : Int) ≤ n ∧ n ≤ hi := by
  unfold parseI at h
  split at h
  · cases h
  · split at h
    · cases h; omega
    · cases h
  · split at h
    · cases h; omega
    · cases h
theorem regW_le {s : List UInt8} {r : Nat} (h : regW s = some r) : r ≤ 10 := by
  have := List.mem_of_find?_eq_some h
  have := List.mem_range.1 this
  omega
def cntE : List Kd → Nat
  | [] => 0
  | .e :: l => cntE l + 1
  | .d :: l => cntE l
  | .s :: l => cntE l
  | .o :: l => cntE l
  | .v :: l => cntE l
theorem fieldsI_ok : ∀ (ks : List Kd) (ws : List (List UInt8)) (i j : Ins), i.ok → i.op + 8 * cntE ks < 256 → fieldsI i ks ws = some j → j.ok
  | [], [], i, j, hi, _, h => by cases h; exact hi
  | [], _ :: _, _, _, _, _, h => by cases h
  | k :: ks, [], _, _, _, _, h => by cases k <;> cases h
  | k :: ks, w :: ws, i, j, hi, hc, h => by
    simp only [fieldsI, Option.bind_eq_some_iff] at h
    obtain ⟨i2, h1, h2⟩ := h
    cases k with
    | d =>
      simp only [fieldI, Option.map_eq_some_iff] at h1
      obtain ⟨r, hr, rfl⟩ := h1
      have := regW_le hr
      exact fieldsI_ok ks ws { i with dst := r } j ⟨hi.op, by show r < 256; omega, hi.src, hi.off, hi.imm⟩ hc h2
    | s =>
      simp only [fieldI, Option.map_eq_some_iff] at h1
      obtain ⟨r, hr, rfl⟩ := h1
      have := regW_le hr
      exact fieldsI_ok ks ws { i with src := r } j ⟨hi.op, hi.dst, by show r < 256; omega, hi.off, hi.imm⟩ hc h2
    | o =>
      simp only [fieldI, Option.map_eq_some_iff] at h1
      obtain ⟨r, hr, rfl⟩ := h1
      have := parseI_le hr
      exact fieldsI_ok ks ws { i with off := r } j ⟨hi.op, hi.dst, hi.src, by show -32768 ≤ r ∧ r < 32768; omega, hi.imm⟩ hc h2
    | v =>
      simp only [fieldI, Option.map_eq_some_iff] at h1
      obtain ⟨r, hr, rfl⟩ := h1
      have := parseI_le hr
      exact fieldsI_ok ks ws { i with imm := r } j ⟨hi.op, hi.dst, hi.src, hi.off, by show -2147483648 ≤ r ∧ r < 2147483648; omega⟩ hc h2
    | e =>
      simp only [cntE] at hc
      simp only [fieldI] at h1
      split at h1
      · rename_i r hr
        cases h1
        have := regW_le hr
        exact fieldsI_ok ks ws { i with src := r, op := i.op + 8 } j ⟨by show i.op + 8 < 256; omega, hi.dst, by show r < 256; omega, hi.off, hi.imm⟩ (by show i.op + 8 + 8 * cntE ks < 256; omega) h2
      · rw [Option.map_eq_some_iff] at h1
        obtain ⟨r, hr, rfl⟩ := h1
        have := parseI_le hr
        exact fieldsI_ok ks ws { i with imm := r } j ⟨hi.op, hi.dst, hi.src, hi.off, by show -2147483648 ≤ r ∧ r < 2147483648; omega⟩ (by show i.op + 8 * cntE ks < 256; omega) h2

def kindsB (op : Nat) : Bool := decide (op + 8 * cntE (kindsOf op) < 256)
theorem kinds_all : (List.range 256).all kindsB = true := by decide +kernel

theorem s32_le {n : Nat} (h : n < 4294967296) : -2147483648 ≤ s32 n ∧ s32 n < 2147483648 := by
  unfold s32
  split <;> omega

theorem lineW_ok {ws : List (List UInt8)} {l : List Ins} (h : lineW ws = some l) : ∀ i ∈ l, i.ok := by
  match ws, h with
  | [], h => simp [lineW] at h
  | first :: rest, h =>
    simp only [lineW] at h
    split at h
    · split at h
      · simp only [Option.bind_eq_some_iff, Option.map_eq_some_iff] at h
        obtain ⟨x, hx, y, hy, z, hz, i, hi, rfl⟩ := h
        have := parseI_le hx
        have := parseI_le hy
        have := parseI_le hz
        intro j hj
        rw [List.mem_singleton.1 hj]
        exact fieldsI_ok _ _ _ i ⟨by show x.toNat < 256; omega, by show y.toNat < 256; omega, by show z.toNat < 256; omega, by show (-32768 : Int) ≤ 0 ∧ (0 : Int) < 32768; omega, by show (-2147483648 : Int) ≤ 0 ∧ (0 : Int) < 2147483648; omega⟩ (by simp only [cntE]; show x.toNat + _ < 256; omega) hi
      · cases h
    · split at h
      · split at h
        · simp only [Option.bind_eq_some_iff, Option.map_eq_some_iff] at h
          obtain ⟨r, hr, n, hn, rfl⟩ := h
          have h1 := regW_le hr
          have h2 := parseI_le hn
          have a1 := s32_le (n := n.toNat % 4294967296) (Nat.mod_lt _ (by decide))
          have a2 := s32_le (n := n.toNat / 4294967296) (by omega)
          intro j hj
          simp only [List.mem_cons, List.not_mem_nil, or_false] at hj
          rcases hj with rfl | rfl
          · exact ⟨by show 24 < 256; omega, by show r < 256; omega, by show 0 < 256; omega, by show (-32768 : Int) ≤ 0 ∧ (0 : Int) < 32768; omega, a1⟩
          · exact ⟨by show 0 < 256; omega, by show 0 < 256; omega, by show 0 < 256; omega, by show (-32768 : Int) ≤ 0 ∧ (0 : Int) < 32768; omega, a2⟩
        · cases h
      · split at h
        · rw [Option.map_eq_some_iff] at h
          obtain ⟨i, hi, rfl⟩ := h
          intro j hj
          simp only [List.mem_cons, List.not_mem_nil, or_false] at hj
          rcases hj with rfl | rfl
          · exact fieldsI_ok _ _ _ j ⟨by show 24 < 256; omega, by show 0 < 256; omega, by show 1 < 256; omega, by show (-32768 : Int) ≤ 0 ∧ (0 : Int) < 32768; omega, by show (-2147483648 : Int) ≤ 0 ∧ (0 : Int) < 2147483648; omega⟩ (by simp [cntE]) hi
          · exact ⟨by show 0 < 256; omega, by show 0 < 256; omega, by show 0 < 256; omega, by show (-32768 : Int) ≤ 0 ∧ (0 : Int) < 32768; omega, by show (-2147483648 : Int) ≤ 0 ∧ (0 : Int) < 2147483648; omega⟩
        · split at h
          · cases h
          · rename_i op hop
            rw [Option.map_eq_some_iff] at h
            obtain ⟨i, hi, rfl⟩ := h
            have hr := List.mem_of_find?_eq_some hop
            have hlt := List.mem_range.1 hr
            have hk := of_decide_eq_true (List.all_eq_true.1 kinds_all op hr)
            intro j hj
            rw [List.mem_singleton.1 hj]
            exact fieldsI_ok _ _ _ i ⟨hlt, by show 0 < 256; omega, by show 0 < 256; omega, by show (-32768 : Int) ≤ 0 ∧ (0 : Int) < 32768; omega, by show (-2147483648 : Int) ≤ 0 ∧ (0 : Int) < 2147483648; omega⟩ hk hi
theorem slotsL_ok {t : List UInt8} {l : List Ins} (h : slotsL t = some l) : ∀ i ∈ l, i.ok := by
  unfold slotsL at h
  rw [Option.bind_eq_some_iff] at h
  obtain ⟨ws, _, h⟩ := h
  split at h
  · cases h; simp
  · exact lineW_ok h

theorem readF_ok : ∀ (ls : List (List UInt8)) (a : Nat) (acc : List Ins), acc.length ≤ 64 → (∀ i ∈ acc, i.ok) →
    (∃ l, readF ls a acc = (l, 0, 0) ∧ l.length ≤ 64 ∧ ∀ i ∈ l, i.ok) ∨ ∃ k e, readF ls a acc = ([], k, e) ∧ a ≤ k ∧ (e = 10 ∨ e = 3)
  | [], a, acc, h1, h2 => .inl ⟨acc, rfl, h1, h2⟩
  | t :: r, a, acc, h1, h2 => by
    rw [readF_cons]
    cases hs : slotsL t with
    | none => exact .inr ⟨a, 10, rfl, Nat.le_refl _, .inl rfl⟩
    | some more =>
      simp only
      by_cases hb : 64 < (acc ++ more).length
      · rw [if_pos hb]
        exact .inr ⟨a, 3, rfl, Nat.le_refl _, .inr rfl⟩
      · rw [if_neg hb]
        rcases readF_ok r (a + 1) (acc ++ more) (by omega) (fun i hi => (List.mem_append.1 hi).elim (h2 i) (slotsL_ok hs i)) with ⟨l, q1, q2⟩ | ⟨k, e, q1, q2, q3⟩
        · exact .inl ⟨l, q1, q2⟩
        · exact .inr ⟨k, e, q1, by omega, q3⟩
/-- what is read of a text -/
theorem readS_ok (s : List UInt8) (h : s.length ≤ 4000) : (∃ l, readS s = (l, 0, 0) ∧ l.length ≤ 64 ∧ ∀ i ∈ l, i.ok) ∨ ∃ k e, readS s = ([], k, e) ∧ 1 ≤ k ∧ (e = 10 ∨ e = 3) := by
  unfold readS
  rw [if_neg (by omega)]
  exact readF_ok _ 1 [] (by simp) (by simp)

/-! ### blanks -/
def blanks : List (List UInt8) := [[32], [9], [13], [194, 160], [226, 128, 131], [32, 32]]

theorem charN_le (s : List UInt8) : charN s ≤ s.length := by
  unfold charN
  split
  · simp
  · rename_i c t
    have hl : lead c ≤ 4 := by unfold lead; repeat' split <;> try omega
    simp only [List.length_cons]
    split
    · omega
    · split
      · omega
      · split
        · omega
        · repeat' split
          all_goals omega
theorem wordsF_fuel : ∀ (n k k' : Nat) (s : List UInt8) (over : Bool) (word : List UInt8) (acc : List (List UInt8)), s.length ≤ n → s.length ≤ k → s.length ≤ k' → wordsF k s over word acc = wordsF k' s over word acc
  | n, k, k', [], over, word, acc, _, _, _ => by rw [wordsF_end, wordsF_end]
  | 0, _, _, c :: s, _, _, _, h, _, _ => by simp at h
  | n + 1, k, k', c :: s, over, word, acc, hn, hk, hk' => by
    obtain ⟨k, rfl⟩ : ∃ m, k = m + 1 := ⟨k - 1, by simp at hk; omega⟩
    obtain ⟨k', rfl⟩ : ∃ m, k' = m + 1 := ⟨k' - 1, by simp at hk'; omega⟩
    by_cases hc : charN (c :: s) = 0
    · simp [wordsF, hc]
    · have hd : ((c :: s).drop (charN (c :: s))).length ≤ s.length := by rw [List.length_drop, List.length_cons]; omega
      simp only [List.length_cons] at hn hk hk'
      rw [wordsF_succ _ _ _ _ _ (by simp) hc, wordsF_succ _ _ _ _ _ (by simp) hc]
      rw [wordsF_fuel n k k' _ _ _ _ (by omega) (by omega) (by omega), wordsF_fuel n k k' _ _ _ _ (by omega) (by omega) (by omega)]

/-- with as much fuel as there are bytes -/
def WF1 (s : List UInt8) (over : Bool) (word : List UInt8) (acc : List (List UInt8)) : Option (List (List UInt8)) := wordsF s.length s over word acc
theorem WF1_fuel {k : Nat} {s : List UInt8} {over : Bool} {word : List UInt8} {acc : List (List UInt8)} (h : s.length ≤ k) : wordsF k s over word acc = WF1 s over word acc := wordsF_fuel k k s.length s over word acc h h (Nat.le_refl _)
theorem WF1_word (w s word : List UInt8) (acc : List (List UInt8)) (h : ∀ c ∈ w, cleanB c = true) : WF1 (w ++ s) false word acc = WF1 s false (word ++ w) acc := by
  show wordsF (w ++ s).length (w ++ s) false word acc = _
  rw [List.length_append]
  exact wordsF_word w s.length s word acc h
theorem WF1_char (n : Nat) (s : List UInt8) (over : Bool) (word : List UInt8) (acc : List (List UInt8)) (hc : charN s = n) (h0 : n ≠ 0) : WF1 s over word acc =
    if over || s.take n == [59] || blankB (s.take n) then WF1 (s.drop n) (over || s.take n == [59]) [] (pushW word acc) else WF1 (s.drop n) false (word ++ s.take n) acc := by
  subst hc
  have hs : s ≠ [] := by rintro rfl; exact h0 rfl
  obtain ⟨m, hm⟩ : ∃ m, s.length = m + 1 := ⟨s.length - 1, by have := List.length_pos_iff.2 hs; omega⟩
  unfold WF1
  rw [hm, wordsF_succ _ _ _ _ _ hs h0, WF1_fuel (by rw [List.length_drop]; omega), WF1_fuel (by rw [List.length_drop]; omega)]
  rfl
theorem charN_a0 (s : List UInt8) : charN (194 :: 160 :: s) = 2 := by
  unfold charN
  simp [lead, least2, most2]
theorem charN_2003 (s : List UInt8) : charN (226 :: 128 :: 131 :: s) = 3 := by
  unfold charN
  simp [lead, least2, most2, contB]
theorem WF1_b1 (c : UInt8) (h : blankB [c] = true) (hc : c < 128) (s word : List UInt8) (acc : List (List UInt8)) : WF1 (c :: s) false word acc = WF1 s false [] (pushW word acc) := by
  have h59 : ([c] == ([59] : List UInt8)) = false := by
    rw [beq_eq_false_iff_ne]
    rintro e
    cases e
    revert h; decide
  rw [WF1_char 1 _ _ _ _ (charN_clean hc) (by decide)]
  simp only [List.take_succ_cons, List.take_zero, List.drop_succ_cons, List.drop_zero, h59, h, Bool.or_false, Bool.or_true, if_true]
theorem WF1_blank (b : List UInt8) (hb : b ∈ blanks) (s word : List UInt8) (acc : List (List UInt8)) : WF1 (b ++ s) false word acc = WF1 s false [] (pushW word acc) := by
  simp only [blanks, List.mem_cons, List.not_mem_nil, or_false] at hb
  rcases hb with rfl | rfl | rfl | rfl | rfl | rfl
  · exact WF1_b1 32 rfl (by decide) s word acc
  · exact WF1_b1 9 rfl (by decide) s word acc
  · exact WF1_b1 13 rfl (by decide) s word acc
  · show WF1 (194 :: 160 :: s) false word acc = _
    rw [WF1_char 2 _ _ _ _ (charN_a0 s) (by decide)]
    simp only [List.take_succ_cons, List.take_zero, List.drop_succ_cons, List.drop_zero, show (([194, 160] : List UInt8) == [59]) = false by rfl, show blankB [194, 160] = true by rfl, Bool.or_false, Bool.or_true, if_true]
  · show WF1 (226 :: 128 :: 131 :: s) false word acc = _
    rw [WF1_char 3 _ _ _ _ (charN_2003 s) (by decide)]
    simp only [List.take_succ_cons, List.take_zero, List.drop_succ_cons, List.drop_zero, show (([226, 128, 131] : List UInt8) == [59]) = false by rfl, show blankB [226, 128, 131] = true by rfl, Bool.or_false, Bool.or_true, if_true]
  · show WF1 (32 :: 32 :: s) false word acc = _
    rw [WF1_b1 32 rfl (by decide), WF1_b1 32 rfl (by decide)]
    rfl
theorem WF1_nil (over : Bool) (word : List UInt8) (acc : List (List UInt8)) : WF1 [] over word acc = some (pushW word acc) := rfl
/-- behind a ; -/
theorem WF1_over : ∀ (s : List UInt8) (acc : List (List UInt8)), (∀ c ∈ s, c < 128) → WF1 s true [] acc = some acc
  | [], acc, _ => rfl
  | c :: s, acc, h => by
    rw [WF1_char 1 _ _ _ _ (charN_clean (h c (by simp))) (by decide)]
    simp only [List.take_succ_cons, List.take_zero, List.drop_succ_cons, List.drop_zero, Bool.true_or, if_true]
    exact WF1_over s acc (fun x hx => h x (List.mem_cons_of_mem _ hx))
theorem WF1_semi (s word : List UInt8) (acc : List (List UInt8)) (h : ∀ c ∈ s, c < 128) : WF1 (59 :: s) false word acc = some (pushW word acc) := by
  rw [WF1_char 1 _ _ _ _ (charN_clean (by decide)) (by decide)]
  simp only [List.take_succ_cons, List.take_zero, List.drop_succ_cons, List.drop_zero, show (([59] : List UInt8) == [59]) = true by rfl, Bool.or_true, Bool.true_or, if_true]
  exact WF1_over s _ h

end Go.Proofs.YtakcdecljfmckaaGreatDoor

namespace Go.Proofs.YtakcdecljfmckaaGreatDoor
open Go.RowKit

/-- a word's register, and whether it is one -/
def regR (s : List UInt8) : Nat × Bool := match regW s with | some r => (r, true) | none => (0, false)
theorem regR_some {s : List UInt8} {n : Nat} (h : ∀ m, m < n → (s == regN m) = false) (hn : (s == regN n) = true) (h11 : n < 11) : regR s = (n, true) := by
  have : regW s = some n := by
    unfold regW
    rw [List.find?_range_eq_some]
    exact ⟨hn, List.mem_range.2 h11, fun j hj => by rw [h j hj]; rfl⟩
  unfold regR
  rw [this]
theorem regR_none {s : List UInt8} (h : ∀ m, m < 11 → (s == regN m) = false) : regR s = (0, false) := by
  have : regW s = none := by
    unfold regW
    rw [List.find?_range_eq_none]
    exact fun j hj => by rw [h j hj]; rfl
  unfold regR
  rw [this]
theorem str_beq (a b : List UInt8) : ((⟨a.toArray⟩ : ByteArray).toList == (⟨b.toArray⟩ : ByteArray).toList) = (a == b) := by
  rw [Lib.toList_data, Lib.toList_data]
theorem str_beq2 (a b : List UInt8) : (a == (⟨b.toArray⟩ : ByteArray).toList) = (a == b) := by
  rw [Lib.toList_data]

end Go.Proofs.YtakcdecljfmckaaGreatDoor
