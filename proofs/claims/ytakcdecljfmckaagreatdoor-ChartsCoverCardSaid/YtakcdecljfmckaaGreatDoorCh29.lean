/- ChartsCover, plain: what is true of a block. -/
import Derived.Test.YtakcdecljfmckaaGreatDoorCore43
set_option linter.all false
set_option linter.unusedVariables false
set_option linter.unusedSimpArgs false
namespace Go.Proofs.YtakcdecljfmckaaGreatDoor
open Go.RowKit

/-- what is true of a block, and of its last instruction -/
structure Tile (l : List Ins) (bs : List Blk) (i : Nat) (b : Blk) (la : Nat) : Prop where
  lt : b.fr < b.to
  le : b.to ≤ l.length
  here : ∀ pc : Nat, b.fr ≤ pc → pc < b.to → atB bs (pc : Int) = (i : Int)
  st : b.fr ∈ starts l
  on : ∀ pc ∈ starts l, b.fr ≤ pc → pc < b.to → behM l pc < b.to → behM l pc ∈ starts l ∧ nextM l pc = [behM l pc]
  off : ∀ pc ∈ starts l, b.fr ≤ pc → pc < b.to → ¬ behM l pc < b.to → pc = la ∧ behM l pc = b.to
  las : la ∈ starts l
  nx : ∀ v ∈ nextM l la, ∃ (m : Nat) (d : Blk), bs[m]? = some d ∧ d.fr = v ∧ atB bs (v : Int) = (m : Int) ∧ m ∈ b.next
  nl : b.next.length ≤ (nextM l la).length
theorem atB_blocks (l : List Ins) (pc : Int) : atB (blocksM l) pc = atM (cutsM l) pc := by
  unfold blocksM
  exact atB_atM (cutsM l) _ (fun c => ⟨rfl, rfl⟩) pc
theorem Whole.tile {l : List Ins} {maps : Int} (h : Whole l maps) {i : Nat} {b : Blk} (hb : (blocksM l)[i]? = some b) : ∃ la, Tile l (blocksM l) i b la := by
  obtain ⟨c, hc⟩ : ∃ c, (cutsM l)[i]? = some c := by
    cases e : (cutsM l)[i]? with
    | some c => exact ⟨c, rfl⟩
    | none =>
      unfold blocksM at hb
      rw [List.getElem?_map, e] at hb
      simp at hb
  have e := blocksM_get hc
  rw [hb] at e
  obtain rfl := Option.some.inj e
  have hm := List.mem_of_getElem? hc
  obtain ⟨a1, a2, a3, a4, a5⟩ := h.cut.la c hm
  have hle := (h.cut.tiles.le.2 c hm).2
  have hp := behM_pos l c.la
  refine ⟨c.la, ⟨by show c.fr < c.to; omega, hle, fun pc h1 h2 => ?_, a4, fun pc hs h1 h2 h3 => ?_, fun pc hs h1 h2 h3 => ?_, a3, fun v hv => ?_, nextsM_len l (cutsM l) c.la⟩⟩
  · rw [atB_blocks]
    exact h.cut.tiles.at hc h1 h2
  · have h3 : behM l pc < c.to := h3
    have h1 : c.fr ≤ pc := h1
    have hbs : behM l pc ∈ starts l := starts_next hs (by omega)
    have hpos := behM_pos l pc
    have hF : frontB l (behM l pc) = false := h.cut.mid c hm _ hbs (by omega) h3
    have hnl : leavesM (insAt l pc) = false := by
      cases e : leavesM (insAt l pc) with
      | false => rfl
      | true => rw [front_beh hs e] at hF; cases hF
    exact ⟨hbs, (h.calm hs hnl).1⟩
  · have h3 : ¬ behM l pc < c.to := h3
    have h2 : pc < c.to := h2
    have : pc = c.la := by
      rcases Nat.lt_trichotomy pc c.la with hlt | rfl | hgt
      · have := starts_sep hs a3 hlt; omega
      · rfl
      · have := starts_sep a3 hs hgt; omega
    subst this
    exact ⟨rfl, a2⟩
  · obtain ⟨hs, hf⟩ := h.lead hm hv
    obtain ⟨m, d, hd, h1, h2⟩ := h.block hs hf
    refine ⟨m, _, blocksM_get hd, h1, by rw [atB_blocks]; exact h2, ?_⟩
    exact nextsM_mem.2 ⟨v, hv, by rw [h2]; rfl⟩
/-- the blocks, from one on -/
def BTiles : Nat → List Blk → Nat → Prop
  | a, [], e => a = e
  | a, b :: r, e => b.fr = a ∧ BTiles b.to r e
theorem btiles {e : Nat} {f : Cb → Blk} (hf : ∀ c, (f c).fr = c.fr ∧ (f c).to = c.to) : ∀ {B : List Cb} {a : Nat}, Tiles a B e → BTiles a (B.map f) e
  | [], _, h => h
  | c :: B, a, h => ⟨by rw [(hf c).1]; exact h.1, by rw [(hf c).2]; exact btiles hf h.2.2⟩
theorem Whole.btiles {l : List Ins} {maps : Int} (h : Whole l maps) : BTiles 0 (blocksM l) l.length := by
  unfold blocksM
  exact Go.Proofs.YtakcdecljfmckaaGreatDoor.btiles (fun c => ⟨rfl, rfl⟩) h.cut.tiles
theorem BTiles.at {a e i : Nat} {bs : List Blk} {b : Blk} (hb : bs[i]? = some b) (h : BTiles a (bs.drop i) e) : b.fr = a ∧ BTiles b.to (bs.drop (i + 1)) e := by
  obtain ⟨hlt, rfl⟩ := List.getElem?_eq_some_iff.1 hb
  rw [List.drop_eq_getElem_cons hlt] at h
  exact h
theorem BTiles.end {a e : Nat} {bs : List Blk} (h : BTiles a (bs.drop bs.length) e) : a = e := by
  rw [List.drop_length] at h
  exact h
end Go.Proofs.YtakcdecljfmckaaGreatDoor
