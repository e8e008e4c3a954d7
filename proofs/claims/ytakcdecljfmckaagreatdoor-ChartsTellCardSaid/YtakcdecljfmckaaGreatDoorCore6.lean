/- A program's blocks, plain. Rows of the call's own whose cells are written; blocks in memory. -/
import Derived.Test.YtakcdecljfmckaaGreatDoorCore5
import Derived.Test.YtakcdecljfmckaaGreatDoorCore3
import Derived.Shelf.Abstract
import Derived.Test.YtakcdecljfmckaaGreatDoorCore4
set_option linter.all false
set_option linter.unusedVariables false
set_option linter.unusedSimpArgs false
namespace Go.Proofs.YtakcdecljfmckaaGreatDoor

/-! ### the slots at which instructions begin -/
def behM (l : List Ins) (pc : Nat) : Nat := pc + sizeM (insAt l pc)
theorem behM_pos (l : List Ins) (pc : Nat) : pc < behM l pc ∧ behM l pc ≤ pc + 2 := by unfold behM sizeM; split <;> omega
theorem firstsM_mem {l : List Ins} : ∀ {fuel a p : Nat}, p ∈ firstsM l fuel a → a ≤ p ∧ p < l.length
  | 0, _, _, h => absurd h (by simp [firstsM])
  | fuel + 1, a, p, h => by
    rw [firstsM] at h
    split at h
    · rename_i ha
      rcases List.mem_cons.1 h with rfl | h
      · exact ⟨Nat.le_refl _, ha⟩
      · have := firstsM_mem h
        have h2 := behM_pos l a
        unfold behM at h2
        omega
    · exact absurd h (by simp)
theorem firstsM_next {l : List Ins} : ∀ {fuel a p : Nat}, l.length ≤ a + fuel → p ∈ firstsM l fuel a → behM l p < l.length → behM l p ∈ firstsM l fuel a
  | 0, _, _, _, h, _ => absurd h (by simp [firstsM])
  | fuel + 1, a, p, hf, h, hb => by
    rw [firstsM] at h ⊢
    split at h
    · rename_i ha
      rw [if_pos ha]
      have h2 := behM_pos l a
      rcases List.mem_cons.1 h with rfl | h
      · refine List.mem_cons_of_mem _ ?_
        have hp : 0 < fuel := by unfold behM at *; omega
        obtain ⟨f, rfl⟩ : ∃ f, fuel = f + 1 := ⟨fuel - 1, by omega⟩
        rw [firstsM, if_pos (by exact hb)]
        exact List.mem_cons_self
      · exact List.mem_cons_of_mem _ (firstsM_next (by unfold behM at *; omega) h hb)
    · exact absurd h (by simp)
theorem firstsM_sep {l : List Ins} : ∀ {fuel a p q : Nat}, p ∈ firstsM l fuel a → q ∈ firstsM l fuel a → p < q → behM l p ≤ q
  | 0, _, _, _, h, _, _ => absurd h (by simp [firstsM])
  | fuel + 1, a, p, q, hp, hq, hlt => by
    rw [firstsM] at hp hq
    split at hp
    · rename_i ha
      rw [if_pos ha] at hq
      rcases List.mem_cons.1 hq with rfl | hq
      · rcases List.mem_cons.1 hp with rfl | hp
        · omega
        · have := firstsM_mem hp
          have h2 := behM_pos l q
          unfold behM at h2
          omega
      · rcases List.mem_cons.1 hp with rfl | hp
        · exact (firstsM_mem hq).1
        · exact firstsM_sep hp hq hlt
    · exact absurd hp (by simp)
theorem starts_lt {l : List Ins} {p : Nat} (h : p ∈ starts l) : p < l.length := (firstsM_mem h).2
theorem starts_zero {l : List Ins} (h : 0 < l.length) : 0 ∈ starts l := by
  unfold starts
  obtain ⟨n, hn⟩ : ∃ n, l.length = n + 1 := ⟨l.length - 1, by omega⟩
  rw [hn, firstsM, if_pos h]
  exact List.mem_cons_self
theorem starts_next {l : List Ins} {p : Nat} (h : p ∈ starts l) (hb : behM l p < l.length) : behM l p ∈ starts l := firstsM_next (by omega) h hb
theorem starts_sep {l : List Ins} {p q : Nat} (h : p ∈ starts l) (hq : q ∈ starts l) (hlt : p < q) : behM l p ≤ q := firstsM_sep h hq hlt

/-! ### cutting -/
/-- a block, and its last instruction -/
structure Cb where (fr to la : Nat)
deriving DecidableEq
def cutStep (l : List Ins) (F : Nat → Bool) (B : List Cb) (pc : Nat) : List Cb :=
  if F pc then B ++ [⟨pc, behM l pc, pc⟩] else match B.getLast? with
    | some c => B.dropLast ++ [⟨c.fr, behM l pc, pc⟩]
    | none => []
/-- the blocks lie one behind the other -/
def Tiles : Nat → List Cb → Nat → Prop
  | a, [], e => a = e
  | a, c :: r, e => c.fr = a ∧ c.fr < c.to ∧ Tiles c.to r e
theorem Tiles.snoc {e : Nat} {c : Cb} : ∀ {B : List Cb} {a : Nat}, Tiles a (B ++ [c]) e ↔ ∃ m, Tiles a B m ∧ c.fr = m ∧ c.fr < c.to ∧ c.to = e
  | [], a => by
    simp only [List.nil_append, Tiles]
    constructor
    · rintro ⟨h1, h2, h3⟩; exact ⟨a, rfl, h1, h2, h3⟩
    · rintro ⟨m, rfl, h1, h2, h3⟩; exact ⟨h1, h2, h3⟩
  | b :: B, a => by
    simp only [List.cons_append, Tiles, Tiles.snoc (B := B)]
    constructor
    · rintro ⟨h1, h2, m, h3, h4⟩; exact ⟨m, ⟨h1, h2, h3⟩, h4⟩
    · rintro ⟨m, ⟨h1, h2, h3⟩, h4⟩; exact ⟨h1, h2, m, h3, h4⟩
/-- what is cut so far -/
structure CutOk (l : List Ins) (F : Nat → Bool) (done : List Nat) (B : List Cb) (e : Nat) : Prop where
  tiles : Tiles 0 B e
  none : B = [] → done = []
  sub : ∀ p ∈ done, p ∈ starts l ∧ p < e
  la : ∀ c ∈ B, c.fr ≤ c.la ∧ behM l c.la = c.to ∧ c.la ∈ done ∧ c.fr ∈ done ∧ F c.fr = true
  mid : ∀ c ∈ B, ∀ p ∈ done, c.fr < p → p < c.to → F p = false
theorem CutOk.start (l : List Ins) (F : Nat → Bool) : CutOk l F [] [] 0 := ⟨rfl, fun _ => rfl, fun _ h => absurd h (by simp), fun _ h => absurd h (by simp), fun _ h => absurd h (by simp)⟩
theorem Tiles.le {e : Nat} : ∀ {B : List Cb} {a : Nat}, Tiles a B e → a ≤ e ∧ ∀ c ∈ B, a ≤ c.fr ∧ c.to ≤ e
  | [], a, h => ⟨Nat.le_of_eq h, fun _ h => absurd h (by simp)⟩
  | b :: B, a, h => by
    obtain ⟨h1, h2, h3⟩ := h
    have := Tiles.le h3
    refine ⟨by omega, fun c hc => ?_⟩
    rcases List.mem_cons.1 hc with rfl | hc
    · omega
    · have := this.2 c hc; omega
theorem CutOk.step {l : List Ins} {F : Nat → Bool} {done : List Nat} {B : List Cb} {pc : Nat} (h : CutOk l F done B pc) (hs : pc ∈ starts l) (hF : B = [] → F pc = true) : CutOk l F (done ++ [pc]) (cutStep l F B pc) (behM l pc) := by
  have hb := behM_pos l pc
  have hsub : ∀ p ∈ done ++ [pc], p ∈ starts l ∧ p < behM l pc := fun p hp => by
    rcases List.mem_append.1 hp with hp | hp
    · have := h.sub p hp; exact ⟨this.1, by omega⟩
    · rw [List.mem_singleton.1 hp]; exact ⟨hs, by omega⟩
  unfold cutStep
  by_cases hf : F pc = true
  · rw [if_pos hf]
    refine ⟨Tiles.snoc.2 ⟨pc, h.tiles, rfl, by show pc < behM l pc; omega, rfl⟩, fun e => absurd e (by simp), hsub, fun c hc => ?_, fun c hc p hp h1 h2 => ?_⟩
    · rcases List.mem_append.1 hc with hc | hc
      · obtain ⟨a1, a2, a3, a4, a5⟩ := h.la c hc
        exact ⟨a1, a2, List.mem_append_left _ a3, List.mem_append_left _ a4, a5⟩
      · rw [List.mem_singleton.1 hc]
        exact ⟨Nat.le_refl _, rfl, by simp, by simp, hf⟩
    · rcases List.mem_append.1 hc with hc | hc
      · have hto := (h.tiles.le.2 c hc).2
        rcases List.mem_append.1 hp with hp | hp
        · exact h.mid c hc p hp h1 h2
        · rw [List.mem_singleton.1 hp] at h2; omega
      · rw [List.mem_singleton.1 hc] at h1 h2
        simp only at h1 h2
        rcases List.mem_append.1 hp with hp | hp
        · have := (h.sub p hp).2; omega
        · rw [List.mem_singleton.1 hp] at h1; omega
  · rw [if_neg hf]
    have hf' : F pc = false := by cases e : F pc with
      | true => exact absurd e hf
      | false => rfl
    have hne : B ≠ [] := fun e => hf (hF e)
    obtain ⟨B', c, rfl⟩ : ∃ B' c, B = B' ++ [c] := ⟨B.dropLast, B.getLast hne, (List.dropLast_concat_getLast hne).symm⟩
    simp only [List.getLast?_append, List.getLast?_singleton, List.dropLast_concat, Option.some_or]
    obtain ⟨m, t1, t2, t3, t4⟩ := Tiles.snoc.1 h.tiles
    refine ⟨Tiles.snoc.2 ⟨m, t1, t2, ?_, rfl⟩, fun e => absurd e (by simp), hsub, fun d hd => ?_, fun d hd p hp h1 h2 => ?_⟩
    · show c.fr < behM l pc
      omega
    · rcases List.mem_append.1 hd with hd | hd
      · obtain ⟨a1, a2, a3, a4, a5⟩ := h.la d (List.mem_append_left _ hd)
        exact ⟨a1, a2, List.mem_append_left _ a3, List.mem_append_left _ a4, a5⟩
      · rw [List.mem_singleton.1 hd]
        obtain ⟨a1, a2, a3, a4, a5⟩ := h.la c (by simp)
        refine ⟨?_, rfl, by simp, List.mem_append_left _ a4, a5⟩
        show c.fr ≤ pc
        omega
    · rcases List.mem_append.1 hd with hd | hd
      · have hto := (t1.le.2 d hd).2
        rcases List.mem_append.1 hp with hp | hp
        · exact h.mid d (List.mem_append_left _ hd) p hp h1 h2
        · rw [List.mem_singleton.1 hp] at h2; omega
      · rw [List.mem_singleton.1 hd] at h1 h2
        simp only at h1 h2
        rcases List.mem_append.1 hp with hp | hp
        · exact h.mid c (by simp) p hp h1 (by have := (h.sub p hp).2; omega)
        · rw [List.mem_singleton.1 hp]; exact hf'
def cutM (l : List Ins) (F : Nat → Bool) (done : List Nat) : List Cb := done.foldl (cutStep l F) []
theorem cutM_snoc (l : List Ins) (F : Nat → Bool) (done : List Nat) (pc : Nat) : cutM l F (done ++ [pc]) = cutStep l F (cutM l F done) pc := by simp [cutM]
/-- all that is cut -/
theorem cut_all {l : List Ins} {F : Nat → Bool} (h0 : F 0 = true) : ∀ {fuel pc : Nat} {done : List Nat}, l.length ≤ pc + fuel → starts l = done ++ firstsM l fuel pc → CutOk l F done (cutM l F done) pc → (done = [] → pc = 0) → ∃ e, l.length ≤ e ∧ CutOk l F (starts l) (cutM l F (starts l)) e
  | 0, pc, done, hf, hs, h, _ => by
    rw [firstsM, List.append_nil] at hs
    exact ⟨pc, by omega, hs ▸ h⟩
  | fuel + 1, pc, done, hf, hs, h, hz => by
    by_cases hlt : pc < l.length
    · rw [firstsM, if_pos hlt] at hs
      have hpc : pc ∈ starts l := by rw [hs]; simp
      have h2 := h.step hpc (fun e => by rw [hz (h.none e)]; exact h0)
      rw [← cutM_snoc] at h2
      exact cut_all h0 (fuel := fuel) (pc := behM l pc) (done := done ++ [pc]) (by have := behM_pos l pc; omega) (by rw [hs]; simp [behM]) h2 (fun e => absurd e (by simp))
    · have e : starts l = done := by rw [hs, firstsM, if_neg hlt, List.append_nil]
      exact ⟨pc, by omega, e ▸ h⟩
/-! ### which block -/
def atM (B : List Cb) (pc : Int) : Int := match B.findIdx? (fun c => decide ((c.fr : Int) ≤ pc) && decide (pc < (c.to : Int))) with
  | some k => (k : Int)
  | none => -1
theorem Tiles.find {e : Nat} : ∀ {B : List Cb} {a : Nat}, Tiles a B e → ∀ {k : Nat} {c : Cb}, B[k]? = some c → ∀ {pc : Nat}, c.fr ≤ pc → pc < c.to → B.findIdx? (fun c => decide ((c.fr : Int) ≤ (pc : Int)) && decide ((pc : Int) < (c.to : Int))) = some k
  | [], _, _, _, _, hk, _, _, _ => absurd hk (by simp)
  | b :: B, a, h, 0, c, hk, pc, h1, h2 => by
    simp only [List.getElem?_cons_zero, Option.some.injEq] at hk
    subst hk
    rw [List.findIdx?_cons, if_pos (by simp; omega)]
  | b :: B, a, h, k + 1, c, hk, pc, h1, h2 => by
    simp only [List.getElem?_cons_succ] at hk
    have hc := h.2.2.le.2 c (List.mem_of_getElem? hk)
    rw [List.findIdx?_cons, if_neg (by simp; omega), h.2.2.find hk h1 h2]
    rfl
theorem Tiles.at {B : List Cb} {a e : Nat} (h : Tiles a B e) {k : Nat} {c : Cb} (hk : B[k]? = some c) {pc : Nat} (h1 : c.fr ≤ pc) (h2 : pc < c.to) : atM B pc = k := by
  unfold atM
  rw [h.find hk h1 h2]
theorem Tiles.cover {e : Nat} : ∀ {B : List Cb} {a : Nat}, Tiles a B e → ∀ {pc : Nat}, a ≤ pc → pc < e → ∃ (k : Nat) (c : Cb), B[k]? = some c ∧ c.fr ≤ pc ∧ pc < c.to
  | [], a, h, pc, h1, h2 => by have : a = e := h; omega
  | b :: B, a, h, pc, h1, h2 => by
    by_cases hlt : pc < b.to
    · exact ⟨0, b, rfl, by have := h.1; omega, hlt⟩
    · obtain ⟨k, c, hk, hc⟩ := h.2.2.cover (pc := pc) (by omega) h2
      exact ⟨k + 1, c, hk, hc⟩
theorem Tiles.order {e : Nat} : ∀ {B : List Cb} {a : Nat}, Tiles a B e → ∀ {i j : Nat} {b c : Cb}, B[i]? = some b → B[j]? = some c → i < j → b.to ≤ c.fr
  | [], _, _, _, _, _, _, h, _, _ => absurd h (by simp)
  | x :: B, a, h, i, j + 1, b, c, hi, hj, hlt => by
    simp only [List.getElem?_cons_succ] at hj
    cases i with
    | zero =>
      simp only [List.getElem?_cons_zero, Option.some.injEq] at hi
      subst hi
      exact (h.2.2.le.2 c (List.mem_of_getElem? hj)).1
    | succ i =>
      simp only [List.getElem?_cons_succ] at hi
      exact h.2.2.order hi hj (by omega)
/-! ### fronts -/
def leavesM (i : Ins) : Bool := jumpB i.op && i.op != 133
def frontsM (l : List Ins) (done : List Nat) : List Nat := 0 :: done.flatMap fun pc => if leavesM (insAt l pc) then behM l pc :: nextM l pc else []
def frontB (l : List Ins) (pc : Nat) : Bool := (frontsM l (starts l)).contains pc
/-! ### what comes behind a block -/
structure Blk where (fr to : Nat) (next : List Nat)
deriving DecidableEq
def addNew (acc : List Nat) (n : Nat) : List Nat := if acc.contains n then acc else acc ++ [n]
def nextsM (l : List Ins) (B : List Cb) (la : Nat) : List Nat := ((nextM l la).map fun to : Nat => (atM B (to : Int)).toNat).foldl addNew []
def cutsM (l : List Ins) : List Cb := cutM l (frontB l) (starts l)
def blocksM (l : List Ins) : List Blk := (cutsM l).map fun c => ⟨c.fr, c.to, nextsM l (cutsM l) c.la⟩
def nxM (B : List Blk) (i : Nat) : List Nat := (B.getD i ⟨0, 0, []⟩).next
end Go.Proofs.YtakcdecljfmckaaGreatDoor

namespace Go.Proofs.YtakcdecljfmckaaGreatDoor
open Go.RowKit

theorem ownsRow_set {w : World} {base size n : Nat} {e : TypeId} {g cap : Nat} {xs : List Value} (h : w.ownsRow base e size (.slice (some ⟨g, 0, none⟩) n cap) n xs) {o : Nat} (ho : o < xs.length) (x : Value) : (w.setCell ⟨g, o, none⟩ x).ownsRow base e size (.slice (some ⟨g, 0, none⟩) n cap) n (xs.set o x) := by
  refine ⟨by rw [List.length_set]; exact h.1, ?_⟩
  rcases h.2 with ⟨h1, _⟩ | ⟨g', cap', cur, hv, hb, hg, h1, h2, h3, h4⟩
  · cases h1
  · cases hv
    refine .inr ⟨g, cap, cur.setIfInBounds o x, rfl, hb, heap_setCell_same _ _ _ _ _ _ hg, h1, h2, by simpa using h3, ?_⟩
    rw [Array.toList_setIfInBounds, List.take_set, h4]
/-- what an own row holds -/
theorem ownsRow_cells {w : World} {base size n : Nat} {e : TypeId} {g cap : Nat} {xs : List Value} (h : w.ownsRow base e size (.slice (some ⟨g, 0, none⟩) n cap) n xs) : CellsAt w g 0 xs ∧ base ≤ g ∧ g < w.heap.size ∧ (∀ j, w.frozen? ⟨g, j, none⟩ = false) := by
  rcases h.2 with ⟨h1, _⟩ | ⟨g', cap', cur, hv, hb, hg, h1, h2, h3, h4⟩
  · cases h1
  · cases hv
    refine ⟨fun j u hj => ?_, hb, ?_, fun j => frozen_of_row _ _ _ _ _ hg⟩
    · rw [Nat.zero_add, cell_of_row w g j cur e _ hg]
      rw [← h4, List.getElem?_take] at hj
      split at hj
      · simpa using hj
      · cases hj
    · rcases Nat.lt_or_ge g w.heap.size with h | h
      · exact h
      · rw [Array.getElem?_eq_none h] at hg; cases hg
theorem ownsRow_form {w : World} {base size n : Nat} {e : TypeId} {v : Value} {xs : List Value} (h : w.ownsRow base e size v n xs) (h0 : 0 < n) : ∃ g cap, v = .slice (some ⟨g, 0, none⟩) n cap := by
  rcases h.2 with ⟨_, h1⟩ | ⟨g', cap', cur, hv, -⟩
  · omega
  · exact ⟨g', cap', hv⟩
/-! ### blocks in memory -/
/-- one block's cells -/
def BlkCells (w : World) (g k : Nat) (b : Blk) : Prop := w.cell? ⟨g, k * 3, none⟩ = some (.int .i64 (b.fr : Int)) ∧ w.cell? ⟨g, k * 3 + 1, none⟩ = some (.int .i64 (b.to : Int)) ∧ ∃ nv, w.cell? ⟨g, k * 3 + 2, none⟩ = some nv ∧ NatsAt w nv b.next
def BlksAt (w : World) (v : Value) (bs : List Blk) : Prop := ∃ g cap, v = .slice (some ⟨g, 0, none⟩) bs.length cap ∧ ∀ k b, bs[k]? = some b → BlkCells w g k b
theorem BlkCells.fr {w w' : World} {g k : Nat} {b : Blk} (h : BlkCells w g k b) (hf : Fr No w w') : BlkCells w' g k b := by
  obtain ⟨h1, h2, nv, h3, h4⟩ := h
  exact ⟨hf.cell h1 id, hf.cell h2 id, nv, hf.cell h3 id, h4.fr hf⟩
theorem BlksAt.fr {w w' : World} {v : Value} {bs : List Blk} (h : BlksAt w v bs) (hf : Fr No w w') : BlksAt w' v bs := by
  obtain ⟨g, cap, hv, hb⟩ := h
  exact ⟨g, cap, hv, fun k b hk => (hb k b hk).fr hf⟩

/-! ### At -/
def atB (bs : List Blk) (pc : Int) : Int := idxI (bs.findIdx? (fun c => decide ((c.fr : Int) ≤ pc) && decide (pc < (c.to : Int))))
theorem atB_atM (B : List Cb) (f : Cb → Blk) (hf : ∀ c, (f c).fr = c.fr ∧ (f c).to = c.to) (pc : Int) : atB (B.map f) pc = atM B pc := by
  unfold atB atM
  rw [List.findIdx?_map]
  have : ((fun c : Blk => decide ((c.fr : Int) ≤ pc) && decide (pc < (c.to : Int))) ∘ f) = (fun c : Cb => decide ((c.fr : Int) ≤ pc) && decide (pc < (c.to : Int))) := by
    funext c
    show (decide (((f c).fr : Int) ≤ pc) && decide (pc < ((f c).to : Int))) = _
    rw [(hf c).1, (hf c).2]
  rw [this]
  cases B.findIdx? (fun c : Cb => decide ((c.fr : Int) ≤ pc) && decide (pc < (c.to : Int))) <;> rfl

set_option maxHeartbeats 400000 in
theorem at1_any (bx : Nat) (pc : Int) (fr to : Nat) (nv : Value) (w : World) (hb : w.cell? ⟨bx, 0, none⟩ = some (.int .i64 pc)) :
    Calls Tryz.prog 34 #[.agg #[.int .i64 (fr : Int), .int .i64 (to : Int), nv], .pointer (some ⟨bx, 0, none⟩)] w fun e w' => e = .returned (.bool (decide ((fr : Int) ≤ pc) && decide (pc < (to : Int)))) ∧ Fr No w w' := by
  have hb' : (w.alloc (.cells #[.int .i64 (fr : Int), .int .i64 (to : Int), nv] 48)).cell? ⟨bx, 0, none⟩ = some (.int .i64 pc) := ((Fr.refl No w).alloc _).cell hb id
  by_cases h1 : (fr : Int) ≤ pc
  · by_cases h2 : pc < (to : Int)
    · have e : (decide ((fr : Int) ≤ pc) && decide (pc < (to : Int))) = true := by simp [h1, h2]
      rw [e]
      go_enter Tryz.func34, Tryz.ntmps34
      go_wp2_with fail
      go_ret
      exact ⟨rfl, (Fr.refl _ _).alloc _⟩
    · have e : (decide ((fr : Int) ≤ pc) && decide (pc < (to : Int))) = false := by simp [h1, h2]
      rw [e]
      go_enter Tryz.func34, Tryz.ntmps34
      go_wp2_with fail
      go_ret
      exact ⟨rfl, (Fr.refl _ _).alloc _⟩
  · have e : (decide ((fr : Int) ≤ pc) && decide (pc < (to : Int))) = false := by simp [h1]
    rw [e]
    go_enter Tryz.func34, Tryz.ntmps34
    go_wp2_with fail
    go_ret
    exact ⟨rfl, (Fr.refl _ _).alloc _⟩

/-- a row of blocks, whatever comes behind them -/
def RowAt (w : World) (g : Nat) (bs : List Blk) : Prop := ∀ k b, bs[k]? = some b → w.cell? ⟨g, k * 3, none⟩ = some (.int .i64 (b.fr : Int)) ∧ w.cell? ⟨g, k * 3 + 1, none⟩ = some (.int .i64 (b.to : Int)) ∧ ∃ nv, w.cell? ⟨g, k * 3 + 2, none⟩ = some nv
theorem RowAt.fr {w w' : World} {g : Nat} {bs : List Blk} (h : RowAt w g bs) (hf : Fr No w w') : RowAt w' g bs := fun k b hk => by
  obtain ⟨h1, h2, nv, h3⟩ := h k b hk
  exact ⟨hf.cell h1 id, hf.cell h2 id, nv, hf.cell h3 id⟩

theorem enters_at1 : ∀ args w, (callFunc 34 args).run Tryz.prog w = .ok (.enter 34 args) w := enters_of Tryz.func34 (by kernel_rfl) rfl

set_option maxHeartbeats 1000000 in
theorem idxf_blks (g n c bx : Nat) (pc : Int) (l : List Blk) (w : World) (hn : l.length = n) (hm : n ≤ 1000000) (hc : RowAt w g l) (hb : w.cell? ⟨bx, 0, none⟩ = some (.int .i64 pc)) :
    Calls Tryz.prog 33 #[.slice (some ⟨g, 0, none⟩) n c, .func (.func 34) #[] #[.pointer (some ⟨bx, 0, none⟩)]] w fun e w' => e = .returned (.int .i64 (atB l pc)) ∧ Fr No w w' := by
  have HC := Lib.hid hc
  have HN := Lib.hid hn
  have HP : Hid (∀ (fr to : Nat) (nv : Value) W, Fr No w W → Calls Tryz.prog 34 #[.agg #[.int .i64 (fr : Int), .int .i64 (to : Int), nv], .pointer (some ⟨bx, 0, none⟩)] W fun e w' => e = .returned (.bool (decide ((fr : Int) ≤ pc) && decide (pc < (to : Int)))) ∧ Fr No W w') := fun fr to nv W hf => at1_any bx pc fr to nv W (hf.cell hb id)
  unfold atB
  obtain ⟨p, hp⟩ : ∃ p : Blk → Bool, (fun c : Blk => decide ((c.fr : Int) ≤ pc) && decide (pc < (c.to : Int))) = p := ⟨_, rfl⟩
  have HPE : Hid (∀ c : Blk, (decide ((c.fr : Int) ≤ pc) && decide (pc < (c.to : Int))) = p c) := fun c => by rw [← hp]
  rw [hp]
  have he := enters_at1
  clear hc hn hp hb
  go_enter Tryz.func33, Tryz.ntmps33
  go_wp2_with fail
  go_loopw [8] (fun i wr => ∃ k : Nat, k ≤ n ∧ i = .int .i64 k ∧ Hid (Fr No w wr) ∧ Hid (∀ (j : Nat) x, j < k → l[j]? = some x → p x = false)) (fun i _ => n - (intOf i).toNat)
  case atStart => exact ⟨0, Nat.zero_le _, rfl, Fr.refl _ _, fun j _ h => absurd h (Nat.not_lt_zero _)⟩
  case round =>
    obtain ⟨k, hk, rfl, HF, HJ⟩ := hrel
    by_cases hlt : k < n
    · obtain ⟨x, hx⟩ : ∃ x, l[k]? = some x := ⟨l[k]'(by rw [HN.out]; exact hlt), List.getElem?_eq_getElem _⟩
      obtain ⟨k0, k1, nv, k2⟩ := (RowAt.fr HC.out HF.out) k x hx
      have HX := Lib.hid hx
      have HPX := Lib.hid (HP.out x.fr x.to nv wr HF.out)
      obtain ⟨t, ht⟩ : ∃ t, p x = t := ⟨_, rfl⟩
      rw [HPE.out x, ht] at HPX
      have HT := Lib.hid ht
      clear ht hx
      cases t with
      | true =>
        have HFI : Hid (l.findIdx? p = some k) := Lib.hid (by
          rw [List.findIdx?_eq_some_iff_getElem]
          have hkl : k < l.length := by rw [HN.out]; exact hlt
          have := HX.out
          rw [List.getElem?_eq_getElem hkl] at this
          refine ⟨hkl, by rw [Option.some.inj this]; exact HT.out, fun j hj => ?_⟩
          have := HJ.out j _ hj (List.getElem?_eq_getElem (by omega))
          simpa using this)
        go_wp2_with fail
        refine (HPX.out).mono ?_
        rintro e w5 ⟨rfl, hf5⟩
        go_wp2_with fail
        go_ret
        exact ⟨by rw [HFI.out]; rfl, HF.out.trans hf5⟩
      | false =>
        have HJ2 : Hid (∀ (j : Nat) y, j < k + 1 → l[j]? = some y → p y = false) := fun j y hj hy => by
          by_cases e : j = k
          · subst e
            rw [HX.out] at hy
            obtain rfl := Option.some.inj hy
            exact HT.out
          · exact HJ.out j y (by omega) hy
        go_wp2_with fail
        refine (HPX.out).mono ?_
        rintro e w5 ⟨rfl, hf5⟩
        go_wp2_with fail
        go_roundw
        case rel => exact ⟨k + 1, by omega, by go_num, HF.out.trans hf5, HJ2⟩
        case measure => simp [intOf] <;> omega
    · obtain rfl : k = n := by omega
      have HFI : Hid (l.findIdx? p = none) := Lib.hid (by
        rw [List.findIdx?_eq_none_iff]
        intro x hx
        obtain ⟨j, hj, rfl⟩ := List.getElem_of_mem hx
        exact HJ.out j _ (by rw [← HN.out]; exact hj) (List.getElem?_eq_getElem hj))
      go_wp2_with fail
      go_ret
      exact ⟨by rw [HFI.out]; rfl, HF.out⟩

set_option maxHeartbeats 400000 in
theorem at_row (g n c : Nat) (pc : Int) (l : List Blk) (w : World) (hn : l.length = n) (hm : n ≤ 1000000) (hc : RowAt w g l) :
    Calls Tryz.prog 13 #[.slice (some ⟨g, 0, none⟩) n c, .int .i64 pc] w fun e w' => e = .returned (.int .i64 (atB l pc)) ∧ Fr No w w' := by
  have HF1 : Hid (Fr No w (w.alloc (.cells #[.int .i64 pc] 3))) := (Fr.refl _ _).alloc _
  have HI := Lib.hid (idxf_blks g n c w.heap.size pc l (w.alloc (.cells #[.int .i64 pc] 3)) hn hm (hc.fr HF1.out) (by
    have := CellsAt.new w [.int .i64 pc] 3 0 _ rfl
    exact this))
  clear hn hm hc
  go_enter Tryz.func13, Tryz.ntmps13
  go_wp2_with (go_at_call 33; (with_reducible refine (HI.out).mono ?_); rintro e w' ⟨rfl, hf⟩)
  go_ret
  exact ⟨rfl, HF1.out.trans hf⟩
end Go.Proofs.YtakcdecljfmckaaGreatDoor
