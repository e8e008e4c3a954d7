/- A program's blocks, plain: what leads where. The order of the blocks, plain: places. A scope that is jumped back in: what holds at each jump, with a number that falls. What lines.mean reckons, without the program: Replace, CutPrefix and ParseUint come to numW; Atoi and Itoa to regW. No condition. -/
import Derived.Test.YtakcdecljfmckaaGreatDoorCore6
import Derived.WalkMore
import Derived.ScopeJumps
import Derived.RowKit
import Derived.Test.YtakcdecljfmckaaGreatDoorCore1
import Derived.Test.YtakcdecljfmckaaGreatDoorCore2
import Derived.Test.YtakcdecljfmckaaGreatDoorCore3
import Derived.Lib.ParseIntB
import Derived.Lib.Replace
import Derived.Lib.CountLaws
set_option linter.all false
set_option linter.unusedVariables false
set_option linter.unusedSimpArgs false
namespace Go.Proofs.YtakcdecljfmckaaGreatDoor

/-! ### what a slot leads to -/
inductive SlotLed (l : List Ins) : Nat → Prop
  | zero : SlotLed l 0
  | step {u v : Nat} : SlotLed l u → v ∈ nextM l u → SlotLed l v
theorem visitM_led {l : List Ins} : ∀ {fuel : Nat} {seen : List Bool} {pc : Nat}, SlotLed l pc → (∀ p, seen.getD p false = true → SlotLed l p) → ∀ p, (visitM l fuel seen pc).getD p false = true → SlotLed l p
  | 0, _, _, _, hs, p, hp => hs p hp
  | fuel + 1, seen, pc, hpc, hs, p, hp => by
    rw [visitM] at hp
    split at hp
    · exact hs p hp
    · have key : ∀ (L : List Nat) (s : List Bool), (∀ v ∈ L, SlotLed l v) → (∀ p, s.getD p false = true → SlotLed l p) → ∀ p, (L.foldl (visitM l fuel) s).getD p false = true → SlotLed l p := by
        intro L
        induction L with
        | nil => intro s _ hs p hp; exact hs p hp
        | cons v L ih =>
          intro s hL hs p hp
          rw [List.foldl_cons] at hp
          exact ih _ (fun v hv => hL v (List.mem_cons_of_mem _ hv)) (visitM_led (hL v List.mem_cons_self) hs) p hp
      refine key _ _ (fun v hv => hpc.step hv) (fun p hp => ?_) p hp
      by_cases e : p = pc
      · exact e ▸ hpc
      · rw [List.getD_eq_getElem?_getD, List.getElem?_set_ne (fun h => e h.symm), ← List.getD_eq_getElem?_getD] at hp
        exact hs p hp
theorem visitM_len {l : List Ins} : ∀ {fuel : Nat} {seen : List Bool} {pc : Nat}, (visitM l fuel seen pc).length = seen.length
  | 0, _, _ => rfl
  | fuel + 1, seen, pc => by
    rw [visitM]
    split
    · rfl
    · have key : ∀ (L : List Nat) (s : List Bool), (L.foldl (visitM l fuel) s).length = s.length := by
        intro L
        induction L with
        | nil => intro s; rfl
        | cons v L ih => intro s; rw [List.foldl_cons, ih, visitM_len]
      rw [key, List.length_set]
theorem seenM_led {l : List Ins} {p : Nat} (hp : p < l.length) (h : (seenM l).getD p true = true) : SlotLed l p := by
  refine visitM_led (fuel := l.length + 1) (seen := List.replicate l.length false) (pc := 0) .zero (fun p hp => ?_) p ?_
  · rw [List.getD_eq_getElem?_getD, List.getElem?_replicate] at hp
    split at hp <;> simp at hp
  · unfold seenM at h
    rw [List.getD_eq_getElem?_getD] at h ⊢
    have hlen : p < (visitM l (l.length + 1) (List.replicate l.length false) 0).length := by rw [visitM_len, List.length_replicate]; exact hp
    rw [List.getElem?_eq_getElem hlen] at h ⊢
    exact h
/-! ### what a program is that may be -/
structure Whole (l : List Ins) (maps : Int) : Prop where
  pos : 0 < l.length
  most : l.length ≤ 64
  field : ∀ p ∈ starts l, fieldM l p maps false = 0
  way : ∀ p ∈ starts l, wayM l (fun k => (starts l).contains k) p = 0
  seen : ∀ p ∈ starts l, (seenM l).getD p true = true
theorem firstBad_none {f : Nat → Int} {F : List Nat} (h : firstBad f F = none) : ∀ p ∈ F, f p = 0 := by
  intro p hp
  unfold firstBad at h
  split at h
  · cases h
  · rename_i h2
    have := List.find?_eq_none.1 h2 p hp
    simpa using this
theorem firstBad_some {f : Nat → Int} {F : List Nat} {q : Nat × Int} (h : firstBad f F = some q) : q.2 ≠ 0 ∧ q.1 ∈ F := by
  unfold firstBad at h
  split at h
  · rename_i pc h2
    simp only [Option.some.injEq] at h
    subst h
    have := List.find?_some h2
    exact ⟨by simpa using this, List.mem_of_find?_eq_some h2⟩
  · cases h
theorem whole {l : List Ins} {maps : Int} (h : (checkM l maps false).2 = 0) : Whole l maps := by
  unfold checkM at h
  simp only [Bool.false_eq_true, if_false] at h
  split at h
  · simp at h
  · rename_i h1
    have h1 := not_or.1 h1
    split at h
    · rename_i q hq; exact absurd h (firstBad_some hq).1
    · rename_i hf
      split at h
      · rename_i q hq; exact absurd h (firstBad_some hq).1
      · rename_i hw
        split at h
        · rename_i q hq; exact absurd h (firstBad_some hq).1
        · rename_i hs
          refine ⟨by omega, by omega, firstBad_none hf, firstBad_none hw, fun p hp => ?_⟩
          have := firstBad_none hs p hp
          split at this
          · assumption
          · omega
theorem Whole.beh {l : List Ins} {maps : Int} (h : Whole l maps) {p : Nat} (hp : p ∈ starts l) : behM l p ≤ l.length := by
  have hlt := starts_lt hp
  unfold behM sizeM
  split
  · rename_i h24
    have := h.field p hp
    unfold fieldM at this
    simp only [h24] at this
    split at this
    · rename_i hc; exact absurd this hc
    · rw [if_neg (by decide), if_pos trivial] at this
      split at this
      · omega
      · rename_i hn
        have := not_or.1 hn
        omega
  · omega
theorem way_to {l : List Ins} {p : Nat} (hw : wayM l (fun k => (starts l).contains k) p = 0) (hj : jumpsM (insAt l p) = true) : 0 ≤ toM l p ∧ toM l p < l.length ∧ (toM l p).toNat ∈ starts l := by
  have := hw
  unfold wayM at this
  simp only at this
  split at this
  · omega
  · rename_i h1
    split at this
    · omega
    · rename_i h2
      have a1 : ¬ (toM l p < 0 ∨ (l.length : Int) ≤ toM l p) := fun hh => h1 ⟨hj, hh⟩
      have a2 : (starts l).contains (toM l p).toNat = true := by
        cases e : (starts l).contains (toM l p).toNat with
        | true => rfl
        | false => exact absurd ⟨hj, e⟩ h2
      exact ⟨by omega, by omega, by simpa using a2⟩
theorem Whole.to {l : List Ins} {maps : Int} (h : Whole l maps) {p : Nat} (hp : p ∈ starts l) (hj : jumpsM (insAt l p) = true) : 0 ≤ toM l p ∧ toM l p < l.length ∧ (toM l p).toNat ∈ starts l := way_to (h.way p hp) hj
theorem way_on {l : List Ins} {p : Nat} (hw : wayM l (fun k => (starts l).contains k) p = 0) (he : endsM (insAt l p) = false) (ha : alwaysM (insAt l p) = false) : behM l p < l.length := by
  have := hw
  unfold wayM at this
  simp only at this
  split at this
  · omega
  · split at this
    · omega
    · split at this
      · omega
      · rename_i h1
        unfold behM
        refine Nat.not_le.1 fun hh => h1 ⟨he, ha, hh⟩
theorem Whole.on {l : List Ins} {maps : Int} (h : Whole l maps) {p : Nat} (hp : p ∈ starts l) (he : endsM (insAt l p) = false) (ha : alwaysM (insAt l p) = false) : behM l p < l.length := way_on (h.way p hp) he ha
theorem way_next {l : List Ins} (hw : ∀ p ∈ starts l, wayM l (fun k => (starts l).contains k) p = 0) {p v : Nat} (hp : p ∈ starts l) (hv : v ∈ nextM l p) : v ∈ starts l := by
  unfold nextM at hv
  simp only at hv
  split at hv
  · exact absurd hv (by simp)
  · rcases List.mem_append.1 hv with hv | hv
    · split at hv
      · rename_i hc
        rw [List.mem_singleton.1 hv]
        exact starts_next hp hc.2
      · exact absurd hv (by simp)
    · split at hv
      · rename_i hc
        rw [List.mem_singleton.1 hv]
        exact (way_to (hw p hp) hc.1).2.2
      · exact absurd hv (by simp)
theorem Whole.next {l : List Ins} {maps : Int} (h : Whole l maps) {p v : Nat} (hp : p ∈ starts l) (hv : v ∈ nextM l p) : v ∈ starts l := way_next h.way hp hv
theorem not_leaves {i : Ins} (h : leavesM i = false) : jumpsM i = false ∧ endsM i = false ∧ alwaysM i = false := by
  unfold leavesM at h
  have hj : jumpsM i = false ∧ endsM i = false := by
    unfold jumpsM endsM
    cases hb : jumpB i.op with
    | false => simp
    | true =>
      rw [hb] at h
      have h133 : i.op = 133 := by simpa using h
      rw [h133]
      exact ⟨by decide, by decide⟩
  exact ⟨hj.1, hj.2, by unfold alwaysM; rw [hj.1]; rfl⟩
theorem Whole.calm {l : List Ins} {maps : Int} (h : Whole l maps) {p : Nat} (hp : p ∈ starts l) (hl : leavesM (insAt l p) = false) : nextM l p = [behM l p] ∧ behM l p < l.length := by
  obtain ⟨h1, h2, h3⟩ := not_leaves hl
  have hb := h.on hp h2 h3
  have hlt := starts_lt hp
  refine ⟨?_, hb⟩
  unfold behM at hb
  unfold nextM
  simp only
  rw [if_neg (by rw [h2]; simp; omega), if_pos ⟨h3, hb⟩, if_neg (by rw [h1]; simp)]
  simp [behM]
theorem front_zero (l : List Ins) : frontB l 0 = true := by simp [frontB, frontsM]
theorem front_beh {l : List Ins} {p : Nat} (hp : p ∈ starts l) (hl : leavesM (insAt l p) = true) : frontB l (behM l p) = true := by
  unfold frontB frontsM
  rw [List.contains_iff_mem]
  refine List.mem_cons_of_mem _ (List.mem_flatMap.2 ⟨p, hp, ?_⟩)
  rw [if_pos hl]
  exact List.mem_cons_self
theorem front_next {l : List Ins} {p v : Nat} (hp : p ∈ starts l) (hl : leavesM (insAt l p) = true) (hv : v ∈ nextM l p) : frontB l v = true := by
  unfold frontB frontsM
  rw [List.contains_iff_mem]
  refine List.mem_cons_of_mem _ (List.mem_flatMap.2 ⟨p, hp, ?_⟩)
  rw [if_pos hl]
  exact List.mem_cons_of_mem _ hv
/-! ### the blocks of such a program -/
theorem Whole.cut {l : List Ins} {maps : Int} (h : Whole l maps) : CutOk l (frontB l) (starts l) (cutsM l) l.length := by
  obtain ⟨e, he, hc⟩ := cut_all (l := l) (F := frontB l) (front_zero l) (fuel := l.length) (pc := 0) (done := []) (by omega) rfl (CutOk.start _ _) (fun _ => rfl)
  have : e = l.length := by
    have hne : cutsM l ≠ [] := fun h2 => by
      have := hc.none h2
      have h3 := starts_zero h.pos
      rw [this] at h3
      exact absurd h3 (by simp)
    have ht := hc.tiles
    have e2 : cutM l (frontB l) (starts l) = (cutsM l).dropLast ++ [(cutsM l).getLast hne] := (List.dropLast_concat_getLast hne).symm
    rw [e2] at ht
    obtain ⟨m, -, -, -, h4⟩ := Tiles.snoc.1 ht
    obtain ⟨-, a2, a3, -, -⟩ := hc.la _ (List.getLast_mem hne)
    have := h.beh a3
    omega
  exact this ▸ hc
/-- a block of a front -/
theorem Whole.block {l : List Ins} {maps : Int} (h : Whole l maps) {v : Nat} (hv : v ∈ starts l) (hf : frontB l v = true) : ∃ (n : Nat) (d : Cb), (cutsM l)[n]? = some d ∧ d.fr = v ∧ atM (cutsM l) v = (n : Int) := by
  obtain ⟨n, d, hn, h1, h2⟩ := h.cut.tiles.cover (Nat.zero_le v) (starts_lt hv)
  refine ⟨n, d, hn, ?_, h.cut.tiles.at hn h1 h2⟩
  rcases Nat.lt_or_ge d.fr v with hlt | hge
  · have := h.cut.mid d (List.mem_of_getElem? hn) v hv hlt h2
    rw [hf] at this; cases this
  · omega
/-- a block's last instruction leads to fronts alone -/
theorem Whole.lead {l : List Ins} {maps : Int} (h : Whole l maps) {c : Cb} (hc : c ∈ cutsM l) {v : Nat} (hv : v ∈ nextM l c.la) : v ∈ starts l ∧ frontB l v = true := by
  obtain ⟨a1, a2, a3, a4, a5⟩ := h.cut.la c hc
  have hs := h.next a3 hv
  refine ⟨hs, ?_⟩
  cases hl : leavesM (insAt l c.la) with
  | true => exact front_next a3 hl hv
  | false =>
    obtain ⟨e, hb⟩ := h.calm a3 hl
    rw [e, List.mem_singleton] at hv
    have hvt : v = c.to := by omega
    subst hvt
    obtain ⟨n, d, hn, h1, h2⟩ := h.cut.tiles.cover (Nat.zero_le c.to) (starts_lt hs)
    obtain ⟨k, hk⟩ := List.getElem?_of_mem hc
    have hcf := (h.cut.tiles.le.2 c hc)
    have hfr : c.fr < c.to := by have := behM_pos l c.la; omega
    rcases Nat.lt_trichotomy n k with hlt | rfl | hgt
    · have := h.cut.tiles.order hn hk hlt; omega
    · rw [hk, Option.some.injEq] at hn; subst hn; omega
    · have := h.cut.tiles.order hk hn hgt
      have : d.fr = c.to := by omega
      rw [← this]
      exact (h.cut.la d (List.mem_of_getElem? hn)).2.2.2.2
theorem addNew_mem {acc : List Nat} {n k : Nat} : k ∈ addNew acc n ↔ k ∈ acc ∨ k = n := by
  unfold addNew
  split
  · rename_i h
    have h := List.contains_iff_mem.1 h
    constructor
    · exact .inl
    · rintro (h2 | rfl)
      · exact h2
      · exact h
  · simp
theorem foldl_addNew_mem : ∀ {L acc : List Nat} {k : Nat}, k ∈ L.foldl addNew acc ↔ k ∈ acc ∨ k ∈ L
  | [], acc, k => by simp
  | a :: L, acc, k => by rw [List.foldl_cons, foldl_addNew_mem, addNew_mem, List.mem_cons, or_assoc]
theorem foldl_addNew_len : ∀ {L acc : List Nat}, (L.foldl addNew acc).length ≤ acc.length + L.length
  | [], acc => by simp
  | a :: L, acc => by
    rw [List.foldl_cons]
    have h := foldl_addNew_len (L := L) (acc := addNew acc a)
    have : (addNew acc a).length ≤ acc.length + 1 := by unfold addNew; split <;> simp
    simp only [List.length_cons]
    omega
theorem nextM_len (l : List Ins) (pc : Nat) : (nextM l pc).length ≤ 2 := by
  unfold nextM
  simp only
  split
  · simp
  · rw [List.length_append]
    split <;> split <;> simp
theorem nextsM_len (l : List Ins) (B : List Cb) (la : Nat) : (nextsM l B la).length ≤ (nextM l la).length := by
  unfold nextsM
  have := foldl_addNew_len (L := (nextM l la).map fun to : Nat => (atM B (to : Int)).toNat) (acc := [])
  simpa using this
theorem nextsM_mem {l : List Ins} {B : List Cb} {la n : Nat} : n ∈ nextsM l B la ↔ ∃ v ∈ nextM l la, (atM B (v : Int)).toNat = n := by
  unfold nextsM
  rw [foldl_addNew_mem]
  simp
theorem blocksM_len (l : List Ins) : (blocksM l).length = (cutsM l).length := by simp [blocksM]
theorem blocksM_get {l : List Ins} {k : Nat} {c : Cb} (h : (cutsM l)[k]? = some c) : (blocksM l)[k]? = some ⟨c.fr, c.to, nextsM l (cutsM l) c.la⟩ := by
  unfold blocksM
  rw [List.getElem?_map, h]
  rfl
theorem nxM_get {l : List Ins} {k : Nat} {c : Cb} (h : (cutsM l)[k]? = some c) : nxM (blocksM l) k = nextsM l (cutsM l) c.la := by
  unfold nxM
  rw [List.getD_eq_getElem?_getD, blocksM_get h]
  rfl
theorem Whole.nx {l : List Ins} {maps : Int} (h : Whole l maps) {k n : Nat} (hn : n ∈ nxM (blocksM l) k) : ∃ c d, (cutsM l)[k]? = some c ∧ (cutsM l)[n]? = some d ∧ d.fr ∈ nextM l c.la := by
  cases hk : (cutsM l)[k]? with
  | none =>
    unfold nxM at hn
    rw [List.getD_eq_getElem?_getD] at hn
    unfold blocksM at hn
    rw [List.getElem?_map, hk] at hn
    simp at hn
  | some c =>
    rw [nxM_get hk] at hn
    obtain ⟨v, hv, hvn⟩ := nextsM_mem.1 hn
    obtain ⟨hs, hf⟩ := h.lead (List.mem_of_getElem? hk) hv
    obtain ⟨m, d, hm, hd, ha⟩ := h.block hs hf
    have : m = n := by rw [ha] at hvn; simpa using hvn
    subst this
    exact ⟨c, d, rfl, hm, hd ▸ hv⟩
theorem Whole.nx_lt {l : List Ins} {maps : Int} (h : Whole l maps) {k n : Nat} (hn : n ∈ nxM (blocksM l) k) : n < (blocksM l).length := by
  obtain ⟨c, d, -, hd, -⟩ := h.nx hn
  rw [blocksM_len]
  exact (List.getElem?_eq_some_iff.1 hd).1
theorem Whole.led {l : List Ins} {maps : Int} (h : Whole l maps) {v : Nat} (hv : SlotLed l v) : v ∈ starts l ∧ ∀ k c, (cutsM l)[k]? = some c → c.fr ≤ v → v < c.to → LedTo (nxM (blocksM l)) (fun _ => False) k := by
  induction hv with
  | zero =>
    refine ⟨starts_zero h.pos, fun k c hk h1 h2 => ?_⟩
    have : k = 0 := by
      cases hB : cutsM l with
      | nil => rw [hB] at hk; simp at hk
      | cons b r =>
        cases k with
        | zero => rfl
        | succ k =>
          have ho := h.cut.tiles.order (i := 0) (j := k + 1) (b := b) (c := c) (by rw [hB]; rfl) hk (by omega)
          have ht := h.cut.tiles
          rw [hB] at ht
          have := ht.2.1
          omega
    subst this
    exact .start id
  | @step u v hu hv ih =>
    obtain ⟨hus, ih⟩ := ih
    have hvs := h.next hus hv
    refine ⟨hvs, fun k c hk h1 h2 => ?_⟩
    obtain ⟨i, b, hi, hb1, hb2⟩ := h.cut.tiles.cover (Nat.zero_le u) (starts_lt hus)
    have hled := ih i b hi hb1 hb2
    obtain ⟨a1, a2, a3, a4, a5⟩ := h.cut.la b (List.mem_of_getElem? hi)
    by_cases hlast : u = b.la
    · subst hlast
      obtain ⟨hs, hf⟩ := h.lead (List.mem_of_getElem? hi) hv
      obtain ⟨n, d, hn, hd, ha⟩ := h.block hs hf
      have hk2 : k = n := by
        have := h.cut.tiles.at hk h1 h2
        omega
      subst hk2
      refine .step hled ?_ id
      rw [nxM_get hi]
      exact nextsM_mem.2 ⟨v, hv, by rw [ha]; rfl⟩
    · -- in the midst of a block
      have hlt : u < b.la := by
        rcases Nat.lt_trichotomy u b.la with h3 | h3 | h3
        · exact h3
        · exact absurd h3 hlast
        · have := starts_sep a3 hus h3; omega
      have hbeh := starts_sep hus a3 hlt
      have hbs : behM l u ∈ starts l := starts_next hus (by have := starts_lt a3; omega)
      have hpos := behM_pos l u
      have hpos2 := behM_pos l b.la
      have hF : frontB l (behM l u) = false := h.cut.mid b (List.mem_of_getElem? hi) _ hbs (by omega) (by omega)
      have hnl : leavesM (insAt l u) = false := by
        cases e : leavesM (insAt l u) with
        | false => rfl
        | true => rw [front_beh hus e] at hF; cases hF
      obtain ⟨e, -⟩ := h.calm hus hnl
      rw [e, List.mem_singleton] at hv
      have hk2 : k = i := by
        have x1 := h.cut.tiles.at hk h1 h2
        have x2 := h.cut.tiles.at (pc := v) hi (by omega) (by omega)
        omega
      exact hk2 ▸ hled
theorem Whole.reach {l : List Ins} {maps : Int} (h : Whole l maps) {k : Nat} (hk : k < (blocksM l).length) : LedTo (nxM (blocksM l)) (fun _ => False) k := by
  rw [blocksM_len] at hk
  have hg : (cutsM l)[k]? = some (cutsM l)[k] := List.getElem?_eq_getElem hk
  obtain ⟨a1, a2, a3, a4, a5⟩ := h.cut.la _ (List.getElem_mem hk)
  have hb := behM_pos l (cutsM l)[k].la
  exact (h.led (seenM_led (starts_lt a4) (h.seen _ a4))).2 k _ hg (Nat.le_refl _) (by omega)
/-- where all jumps go on -/
theorem Whole.forth {l : List Ins} {maps : Int} (h : Whole l maps) (hon : ∀ pc, pc < l.length → ∀ v ∈ nextM l pc, pc < v) {k n : Nat} (hn : n ∈ nxM (blocksM l) k) : k < n := by
  obtain ⟨c, d, hc, hd, hv⟩ := h.nx hn
  obtain ⟨a1, a2, a3, a4, a5⟩ := h.cut.la c (List.mem_of_getElem? hc)
  have := hon c.la (starts_lt a3) _ hv
  rcases Nat.lt_trichotomy n k with h1 | rfl | h1
  · have h2 := h.cut.tiles.order hd hc h1
    obtain ⟨b1, b2, -, -, -⟩ := h.cut.la d (List.mem_of_getElem? hd)
    have := behM_pos l d.la
    omega
  · rw [hc, Option.some.injEq] at hd; subst hd; omega
  · exact h1
end Go.Proofs.YtakcdecljfmckaaGreatDoor

namespace Go.Proofs.YtakcdecljfmckaaGreatDoor

theorem nodup_len : ∀ (n : Nat) (L : List Nat), L.Nodup → (∀ k ∈ L, k < n) → L.length ≤ n
  | 0, L, _, h => by
    cases L with
    | nil => simp
    | cons a L => exact absurd (h a List.mem_cons_self) (by omega)
  | n + 1, L, hd, h => by
    have h1 := nodup_len n (L.erase n) (hd.erase n) (fun k hk => by
      have h2 := (hd.mem_erase_iff).1 hk
      have := h k h2.2
      have := h2.1
      omega)
    by_cases hm : n ∈ L
    · have := List.length_erase_of_mem hm
      omega
    · rw [List.erase_of_not_mem hm] at h1
      omega
/-- the place of each node in an order -/
def plM (T : List Nat) (v : Nat) : Nat := T.idxOf v
theorem plM_at {T : List Nat} (hd : T.Nodup) {k v : Nat} (h : T[k]? = some v) : plM T v = k := by
  obtain ⟨hk, hv⟩ := List.getElem?_eq_some_iff.1 h
  unfold plM
  subst hv
  exact hd.idxOf_getElem k hk
/-- the order that the search comes to -/
structure Turn (nx : Nat → List Nat) (N : Nat) (T : List Nat) : Prop where
  nodup : T.Nodup
  lt : ∀ v ∈ T, v < N
  all : ∀ v, v < N → v ∈ T
  head : ∃ R, T = 0 :: R
  led : ∀ v ∈ T, v ≠ 0 → ∃ u ∈ T, plM T u < plM T v ∧ v ∈ nx u
theorem Seg.turn {nx : Nat → List Nat} {N : Nat} {L : List Nat} (h : Seg nx N (fun _ => False) 0 L) (hall : ∀ v, v < N → LedTo nx (fun _ => False) v) : Turn nx N L.reverse := by
  refine ⟨by have := h.nodup; simpa [List.Nodup, List.pairwise_reverse, ne_comm] using this, fun v hv => (h.fresh v (List.mem_reverse.1 hv)).1, fun v hv => List.mem_reverse.2 (h.all (hall v hv)), turn_head h, fun v hv h0 => turn_led h v hv h0⟩
theorem Turn.len {nx : Nat → List Nat} {N : Nat} {T : List Nat} (h : Turn nx N T) : T.length = N := by
  have h1 := nodup_len N T h.nodup h.lt
  have h2 := nodup_len T.length (List.range N |>.map (fun v => plM T v)) ?_ ?_
  · simp only [List.length_map, List.length_range] at h2
    omega
  · refine List.Pairwise.map _ (R := fun a b => a ∈ List.range N ∧ b ∈ List.range N ∧ a ≠ b) ?_ ?_
    · rintro a b ⟨ha, hb, hne⟩ e
      refine hne ?_
      have ha := List.mem_range.1 ha
      have hb := List.mem_range.1 hb
      have h3 := List.idxOf_lt_length_of_mem (h.all a ha)
      have h4 := List.idxOf_lt_length_of_mem (h.all b hb)
      have e1 : T[T.idxOf a] = a := List.getElem_idxOf h3
      have e2 : T[T.idxOf b] = b := List.getElem_idxOf h4
      have e3 : T.idxOf a = T.idxOf b := e
      rw [← e1, ← e2]
      simp only [e3]
    · have := List.nodup_range (n := N)
      have h5 : ∀ (L : List Nat), L.Nodup → List.Pairwise (fun a b => a ∈ L ∧ b ∈ L ∧ a ≠ b) L := by
        intro L hL
        induction hL with
        | nil => exact .nil
        | @cons a L ha _ ih =>
          refine .cons (fun b hb => ⟨List.mem_cons_self, List.mem_cons_of_mem _ hb, ha b hb⟩) (ih.imp fun h => ⟨List.mem_cons_of_mem _ h.1, List.mem_cons_of_mem _ h.2.1, h.2.2⟩)
      exact h5 _ this
  · intro k hk
    obtain ⟨v, hv, rfl⟩ := List.mem_map.1 hk
    exact List.idxOf_lt_length_of_mem (h.all v (List.mem_range.1 hv))
theorem Turn.low {nx : Nat → List Nat} {N : Nat} {T : List Nat} (h : Turn nx N T) {v : Nat} (hv : v < N) : plM T v < N := by
  have := List.idxOf_lt_length_of_mem (h.all v hv)
  rw [h.len] at this
  exact this
theorem Turn.inj {nx : Nat → List Nat} {N : Nat} {T : List Nat} (h : Turn nx N T) {u v : Nat} (hu : u < N) (hv : v < N) (e : plM T u = plM T v) : u = v := by
  have h3 := List.idxOf_lt_length_of_mem (h.all u hu)
  have h4 := List.idxOf_lt_length_of_mem (h.all v hv)
  have e1 : T[T.idxOf u] = u := List.getElem_idxOf h3
  have e2 : T[T.idxOf v] = v := List.getElem_idxOf h4
  have e3 : T.idxOf u = T.idxOf v := e
  rw [← e1, ← e2]
  simp only [e3]
theorem Turn.zero {nx : Nat → List Nat} {N : Nat} {T : List Nat} (h : Turn nx N T) : plM T 0 = 0 := by
  obtain ⟨R, hR⟩ := h.head
  rw [hR]
  exact List.idxOf_cons_self
theorem Turn.pos {nx : Nat → List Nat} {N : Nat} {T : List Nat} (h : Turn nx N T) : 0 < N := by
  obtain ⟨R, hR⟩ := h.head
  exact h.lt 0 (by rw [hR]; exact List.mem_cons_self)
theorem Turn.start {nx : Nat → List Nat} {N : Nat} {T : List Nat} (h : Turn nx N T) : Nears nx N (plM T) (fun v => if v = 0 then 0 else -1) :=
  .start h.pos h.zero (fun _ _ => h.inj) (fun _ => h.low)
/-- where all that stands ahead is calm, a node is told -/
theorem Turn.told {nx : Nat → List Nat} {N : Nat} {T : List Nat} (h : Turn nx N T) {d : Nat → Int} (hn : Nears nx N (plM T) d) {i : Nat} (hi : i < N) (hc : ∀ u, u < N → plM T u < plM T i → ∀ n ∈ nx u, Calm d u n) : 0 ≤ d i := by
  by_cases h0 : i = 0
  · rw [h0, hn.root]; exact Int.le_refl _
  · obtain ⟨u, hu, hlt, hv⟩ := h.led i (h.all i hi) h0
    obtain ⟨m, hm, -⟩ := hc u (h.lt u hu) hlt i hv h0
    omega
end Go.Proofs.YtakcdecljfmckaaGreatDoor

namespace Go.Proofs.YtakcdecljfmckaaGreatDoor

theorem least_num {p : Nat → Prop} (h : ∃ n, p n) : ∃ n, p n ∧ ∀ m, p m → n ≤ m := by
  obtain ⟨n, hn⟩ := h
  induction n using Nat.strongRecOn with
  | _ n ih =>
    by_cases hm : ∃ m, m < n ∧ p m
    · obtain ⟨m, h1, h2⟩ := hm
      exact ih m h1 h2
    · exact ⟨n, hn, fun m hp => Nat.le_of_not_lt fun hlt => hm ⟨m, hlt, hp⟩⟩
open Classical in
noncomputable def leastOf (p : Nat → Prop) : Nat := if h : ∃ n, p n then (least_num h).choose else 0
theorem leastOf_is {p : Nat → Prop} (h : ∃ n, p n) : p (leastOf p) := by
  unfold leastOf
  rw [dif_pos h]
  exact (least_num h).choose_spec.1
theorem leastOf_le {p : Nat → Prop} {m : Nat} (h : p m) : leastOf p ≤ m := by
  unfold leastOf
  have h2 : ∃ n, p n := ⟨m, h⟩
  rw [dif_pos h2]
  exact (least_num h2).choose_spec.2 m h
theorem wp_scope_falls {P : Program} {a : Act} {w : World} {Q : Exit → Act → World → Prop} {c rest : Code} (l : Nat) (J : Nat → Act → World → Prop) (hf : findLabel c l = some (Code.skip.seq rest))
    (pass : ∀ n a w, J n a w → rest.wp P (Exit.jump l (fun a' w' => ∃ m, m < n ∧ J m a' w') Q) a w)
    (first : (∀ n a w, J n a w → rest.wp P (Exit.jump l (fun a' w' => ∃ m, J m a' w') Q) a w) → c.wp P (Exit.jump l (fun a' w' => ∃ m, J m a' w') Q) a w) : (Code.scope c).wp P Q a w := by
  refine wp_scope_jumps l (fun a w => ∃ n, J n a w) (fun a w => leastOf fun n => J n a w) hf (first fun n a w hJ => ?_) fun a w hJ => ?_
  · refine Code.wp_mono (fun e a w q => ?_) (pass n a w hJ)
    cases e <;> first
      | exact q
      | (obtain ⟨h1, m, _, h2⟩ := q; exact ⟨h1, m, h2⟩)
  · refine wp_seq (wp_skip ?_)
    refine Code.wp_mono (fun e a' w' q => ?_) (pass _ a w (leastOf_is hJ))
    cases e <;> first
      | exact q
      | (obtain ⟨h1, m, hm, h2⟩ := q; exact ⟨h1, ⟨m, h2⟩, Nat.lt_of_le_of_lt (leastOf_le h2) hm⟩)
end Go.Proofs.YtakcdecljfmckaaGreatDoor

namespace Go.Proofs.YtakcdecljfmckaaGreatDoor
open Go.RowKit

def okN {α : Type} : Lib.NumEnd α → Option α
  | .ok u => some u
  | _ => none
theorem parseM_dig : ∀ (l : List UInt8) (acc : Nat), acc ≤ 18446744073709551615 → okN (Lib.parseUintM 18446744073709551615 acc l) = digV l acc
  | [], acc, _ => rfl
  | c :: r, acc, h => by
    unfold Lib.parseUintM digV
    by_cases hd : 48 ≤ c.toNat ∧ c.toNat ≤ 57
    · have hd2 : ¬ (c < 48 ∨ 57 < c) := by
        rw [UInt8.lt_iff_toNat_lt, UInt8.lt_iff_toNat_lt]
        show ¬ (c.toNat < 48 ∨ 57 < c.toNat)
        omega
      rw [if_pos hd, if_neg hd2]
      by_cases h1 : 1844674407370955162 ≤ acc
      · rw [if_pos h1, if_pos (by omega)]
        rfl
      · rw [if_neg h1]
        by_cases h2 : 18446744073709551615 < acc * 10 + (c.toNat - 48)
        · rw [if_pos h2, if_pos (by omega)]
          rfl
        · rw [if_neg h2, if_neg (by omega)]
          exact parseM_dig r _ (by omega)
    · have hd2 : c < 48 ∨ 57 < c := by
        rw [UInt8.lt_iff_toNat_lt, UInt8.lt_iff_toNat_lt]
        show c.toNat < 48 ∨ 57 < c.toNat
        omega
      rw [if_neg hd, if_pos hd2]
      rfl
theorem parse64 (l : List UInt8) : okN (Lib.parseUintB 64 l) = digL l := by
  unfold Lib.parseUintB digL
  split
  · rfl
  · exact parseM_dig l 0 (by omega)

theorem digV_bad : ∀ (l : List UInt8) (n : Nat) (x : UInt8), x ∈ l → (x < 48 ∨ 57 < x) → digV l n = none
  | [], _, _, h, _ => absurd h (by simp)
  | c :: t, n, x, h, hx => by
    unfold digV
    by_cases hc : c < 48 ∨ 57 < c
    · rw [if_pos hc]
    · rw [if_neg hc]
      split
      · rfl
      · rcases List.mem_cons.1 h with rfl | h
        · exact absurd hx hc
        · exact digV_bad t _ x h hx
theorem digL_bad {l : List UInt8} {x : UInt8} (h : x ∈ l) (hx : x < 48 ∨ 57 < x) : digL l = none := by
  unfold digL
  split
  · rfl
  · exact digV_bad l 0 x h hx

/-- the minus sign's bytes -/
def oldM : List UInt8 := [226, 136, 146]
def replM (s : List UInt8) : List UInt8 := Lib.replace s oldM [45] 1
theorem repl_form (s : List UInt8) : (Lib.index s oldM = -1 ∧ replM s = s) ∨ ∃ i : Nat, Lib.index s oldM = i ∧ oldM.isPrefixOf (s.drop i) = true ∧ replM s = s.take i ++ 45 :: s.drop (i + 3) := by
  unfold replM Lib.replace
  have hne : (oldM == ([45] : List UInt8)) = false := by decide
  rw [hne]
  simp only [Bool.false_eq_true, if_false]
  rcases Lib.index_spec s oldM with ⟨h, _⟩ | ⟨i, h, hi, ho, _⟩
  · refine .inl ⟨h, ?_⟩
    have hc := Lib.count_miss h
    unfold Lib.replaceNum
    rw [hc]
    simp [Lib.replaceK]
  · refine .inr ⟨i, h, ho, ?_⟩
    have hc := Lib.count_hit (s := s) (sub := oldM) (by decide) h
    have : Lib.replaceNum s oldM 1 = 1 := by
      unfold Lib.replaceNum
      rw [hc]
      rw [if_neg (by omega)]
      rfl
    rw [this, Lib.replaceK_hit oldM [45] 0 s i h]
    simp [Lib.replaceK, oldM]

/-- what the program reckons of a word that is no register -/
def goNum (s : List UInt8) : Option (Bool × Nat) :=
  let R := replM s
  if Lib.hasPrefix R [45] then (okN (Lib.parseUintB 64 (Lib.trimPrefix R [45]))).map (true, ·)
  else (okN (Lib.parseUintB 64 (Lib.trimPrefix R [43]))).map (false, ·)
theorem hasP (c : UInt8) (s : List UInt8) : Lib.hasPrefix s [c] = (s.head? == some c) := by
  cases s with
  | nil => rfl
  | cons a t =>
    simp only [Lib.hasPrefix, List.isPrefixOf, List.head?_cons, Bool.and_true]
    rw [Bool.eq_iff_iff]
    simp
    exact eq_comm
theorem trimP (c : UInt8) (s : List UInt8) : Lib.trimPrefix s [c] = if s.head? = some c then s.drop 1 else s := by
  unfold Lib.trimPrefix
  rw [hasP]
  by_cases h : s.head? = some c
  · rw [if_pos h, if_pos (by simpa using h)]; rfl
  · rw [if_neg h, if_neg (by simpa using h)]

theorem num_same (s : List UInt8) : goNum s = numW s := by
  unfold goNum
  simp only [hasP, trimP, parse64]
  have b45 : (45 : UInt8) < 48 ∨ 57 < (45 : UInt8) := by decide
  have b226 : (226 : UInt8) < 48 ∨ 57 < (226 : UInt8) := by decide
  rcases repl_form s with ⟨hi, hr⟩ | ⟨i, hi, ho, hr⟩
  · rw [hr]
    have h3 : ¬ (3 < s.length ∧ s.take 3 = [226, 136, 146]) := by
      rintro ⟨_, h⟩
      have : Lib.index s oldM = 0 := by
        have hs : s = oldM ++ s.drop 3 := by
          have := List.take_append_drop 3 s
          rw [h] at this
          exact this.symm
        refine Lib.index_first (i := 0) (Nat.zero_le _) ?_ (fun j hj => absurd hj (Nat.not_lt_zero _))
        unfold Lib.occAt
        rw [List.drop_zero, hs]
        simp [oldM]
      omega
    unfold numW
    rw [if_neg h3]
    cases s with
    | nil => rfl
    | cons c t =>
      simp only [List.head?_cons, List.drop_one, List.tail_cons, List.length_cons, Option.some.injEq]
      by_cases h45 : c = 45
      · subst h45
        cases t with
        | nil => rfl
        | cons d t => simp
      · by_cases h43 : c = 43
        · subst h43
          cases t with
          | nil => rfl
          | cons d t => simp
        · simp [h45, h43]
  · have hd : ∃ t, s.drop i = 226 :: 136 :: 146 :: t := by
      obtain ⟨t, ht⟩ := List.isPrefixOf_iff_prefix.1 ho
      exact ⟨t, by rw [← ht]; rfl⟩
    obtain ⟨t, ht⟩ := hd
    have hs : s = s.take i ++ 226 :: 136 :: 146 :: t := by rw [← ht, List.take_append_drop]
    have hd3 : s.drop (i + 3) = t := by rw [← List.drop_drop, ht]; rfl
    rw [hr, hd3]
    generalize hA : s.take i = A at hs
    cases A with
    | nil =>
      simp only [List.nil_append] at hs ⊢
      subst hs
      unfold numW
      simp only [List.head?_cons, List.drop_one, List.tail_cons, List.length_cons]
      cases t with
      | nil => rfl
      | cons d t =>
        rw [if_pos (by simp)]
        simp
    | cons c A =>
      have h3 : ¬ (3 < s.length ∧ s.take 3 = [226, 136, 146]) := by
        rintro ⟨_, h⟩
        have hz : Lib.index s oldM = 0 := by
          have hs : s = oldM ++ s.drop 3 := by
            have := List.take_append_drop 3 s
            rw [h] at this
            exact this.symm
          refine Lib.index_first (i := 0) (Nat.zero_le _) ?_ (fun j hj => absurd hj (Nat.not_lt_zero _))
          unfold Lib.occAt
          rw [List.drop_zero, hs]
          simp [oldM]
        have : i = 0 := by omega
        subst this
        simp at hA
      have m1 : (45 : UInt8) ∈ A ++ 45 :: t := by simp
      have m2 : (226 : UInt8) ∈ A ++ 226 :: 136 :: 146 :: t := by simp
      have e1 := digL_bad m1 b45
      have e2 := digL_bad m2 b226
      have e3 : digL (c :: A ++ 45 :: t) = none := digL_bad (by simp) b45
      have e4 : digL (c :: A ++ 226 :: 136 :: 146 :: t) = none := digL_bad (by simp) b226
      unfold numW
      rw [if_neg h3, hs]
      simp only [List.cons_append, List.head?_cons, List.drop_one, List.tail_cons, Option.some.injEq] at e3 e4 ⊢
      have p1 : ∀ (P : Prop) [Decidable P], digL (if P then A ++ 45 :: t else c :: (A ++ 45 :: t)) = none := fun P _ => by split <;> assumption
      rw [p1, p1, e2, e4]
      simp

/-- what a word behind the first one is -/
theorem reg_num (n : Nat) (h : n ≤ 10) : okN (Lib.atoiAll (decN n)) = some (n : Int) := by
  have : ∀ n, n < 11 → okN (Lib.atoiAll (decN n)) = some (n : Int) := by decide +kernel
  exact this n (by omega)
end Go.Proofs.YtakcdecljfmckaaGreatDoor
