/- Regions of bytes: what a memory is, without the program; and how it stands in a world. What is shown of a program is read as that program. No condition. -/
import Derived.Test.YtakcdecljfmckaaGreatDoorCore1
set_option linter.all false
set_option linter.unusedVariables false
set_option linter.unusedSimpArgs false
namespace Go.Proofs.YtakcdecljfmckaaGreatDoor
open Go.RowKit

/-- a region -/
structure Reg where
  base : Int
  data : List UInt8
  free : Bool

def Reg.len (r : Reg) : Int := r.data.length

/-- a region has n bytes from addr on -/
def Reg.has (r : Reg) (addr n : Int) : Bool := decide (r.base ≤ addr ∧ addr + n ≤ r.base + r.len)

theorem Reg.has_iff (r : Reg) (addr n : Int) : r.has addr n = true ↔ r.base ≤ addr ∧ addr + n ≤ r.base + (r.data.length : Int) := decide_eq_true_iff

def spot (m : List Reg) (addr n : Int) : Option Nat := m.findIdx? (·.has addr n)

structure Reg.ok (r : Reg) : Prop where
  low : 0 ≤ r.base
  some : 0 < r.data.length
  high : r.base + r.len ≤ 18446744073709551615
  small : r.data.length ≤ 9223372036854775807

structure WF (m : List Reg) : Prop where
  ok : ∀ r ∈ m, r.ok
  apart : m.Pairwise fun a b => a.base + a.len ≤ b.base
  many : m.length ≤ 4611686018427387904

/-- the place of the last region that begins at addr or ahead of it, counted from 1 -/
def cnt (m : List Reg) (addr : Int) : Nat := m.countP fun r => decide (r.base ≤ addr)

theorem WF.tail {r : Reg} {m : List Reg} (h : WF (r :: m)) : WF m := ⟨fun x hx => h.ok x (List.mem_cons_of_mem _ hx), (List.pairwise_cons.1 h.apart).2, by have := h.many; simp at this; omega⟩

theorem WF.later {r : Reg} {m : List Reg} (h : WF (r :: m)) : ∀ b ∈ m, r.base + r.len ≤ b.base := (List.pairwise_cons.1 h.apart).1

theorem len_pos {r : Reg} (h : r.ok) : 0 < r.len := by have := h.some; unfold Reg.len; omega

theorem cnt_zero_of_below {m : List Reg} {addr : Int} (h : ∀ b ∈ m, addr < b.base) : cnt m addr = 0 := by
  unfold cnt
  rw [List.countP_eq_zero]
  intro b hb
  have := h b hb
  simp; omega

/-- those below cnt begin at addr or ahead of it, the others do not -/
theorem cnt_spec {m : List Reg} (h : WF m) (addr : Int) : ∀ i (hi : i < m.length), (m[i].base ≤ addr ↔ i < cnt m addr) := by
  induction m with
  | nil => intro i hi; simp at hi
  | cons r m ih =>
    have hp := len_pos (h.ok r (by simp))
    intro i hi
    by_cases hr : r.base ≤ addr
    · have hc : cnt (r :: m) addr = cnt m addr + 1 := by simp [cnt, List.countP_cons, hr]
      rw [hc]
      cases i with
      | zero => simpa using hr
      | succ i => simpa using ih h.tail i (by simpa using hi)
    · have hz : cnt (r :: m) addr = 0 := cnt_zero_of_below (fun b hb => by
        rcases List.mem_cons.1 hb with rfl | hb
        · omega
        · have := h.later b hb; omega)
      rw [hz]
      cases i with
      | zero => simpa using hr
      | succ i =>
        have := h.later (m[i]'(by simpa using hi)) (List.getElem_mem _)
        simp; omega

theorem cnt_le (m : List Reg) (addr : Int) : cnt m addr ≤ m.length := List.countP_le_length

/-- bytes that are there are in the last region that begins at addr or ahead of it -/
theorem spot_eq {m : List Reg} (h : WF m) (addr n : Int) (hn : 1 ≤ n) :
    spot m addr n = if hc : 0 < cnt m addr then (if (m[cnt m addr - 1]'(by have := cnt_le m addr; omega)).has addr n then some (cnt m addr - 1) else none) else none := by
  have hs := cnt_spec h addr
  have key : ∀ i (hi : i < m.length), m[i].has addr n = true → i + 1 = cnt m addr := by
    intro i hi hh
    simp only [Reg.has, decide_eq_true_eq] at hh
    have h1 := (hs i hi).1 hh.1
    by_cases h2 : i + 1 < cnt m addr
    · have hi2 : i + 1 < m.length := by have := cnt_le m addr; omega
      have h3 := (hs (i + 1) hi2).2 h2
      have := List.pairwise_iff_getElem.1 h.apart i (i + 1) hi hi2 (by omega)
      omega
    · omega
  split
  · rename_i hc
    have hl := cnt_le m addr
    split
    · rename_i hh
      unfold spot
      rw [List.findIdx?_eq_some_iff_getElem]
      refine ⟨by omega, hh, fun j hj => ?_⟩
      intro hj2
      have := key j (by omega) hj2
      omega
    · rename_i hh
      unfold spot
      rw [List.findIdx?_eq_none_iff]
      intro x hx
      obtain ⟨i, hi, rfl⟩ := List.getElem_of_mem hx
      cases hb : m[i].has addr n with
      | false => rfl
      | true =>
        have := key i hi hb
        have e : cnt m addr - 1 = i := by omega
        exact absurd (by simp only [e]; exact hb) hh
  · rename_i hc
    unfold spot
    rw [List.findIdx?_eq_none_iff]
    intro x hx
    obtain ⟨i, hi, rfl⟩ := List.getElem_of_mem hx
    cases hb : m[i].has addr n with
    | false => rfl
    | true => have := key i hi hb; omega

theorem spot_lt {m : List Reg} {addr n : Int} {i : Nat} (h : spot m addr n = some i) : i < m.length :=
  (List.findIdx?_eq_some_iff_getElem.1 h).1

theorem spot_has {m : List Reg} {addr n : Int} {i : Nat} (h : spot m addr n = some i) : (m[i]'(spot_lt h)).has addr n = true :=
  (List.findIdx?_eq_some_iff_getElem.1 h).2.1

/-- the bytes that stand at an address -/
def Reg.cut (r : Reg) (addr n : Int) : List UInt8 := (r.data.drop (addr - r.base).toNat).take n.toNat

def mtext (m : List Reg) (addr n : Int) : List UInt8 × Int :=
  if n < 0 then ([], 2) else if n = 0 then ([], 0) else
  match spot m addr n with
  | none => ([], 70)
  | some i => (((m[i]?).map (·.cut addr n)).getD [], 0)

def sizeOk (n : Int) : Bool := n == 1 || n == 2 || n == 4 || n == 8

def mread (m : List Reg) (addr n : Int) : Nat × Int :=
  if sizeOk n then (leNum (mtext m addr n).1, (mtext m addr n).2) else (0, 2)

def Reg.put (r : Reg) (addr : Int) (bs : List UInt8) : Reg :=
  { r with data := r.data.take (addr - r.base).toNat ++ bs ++ r.data.drop ((addr - r.base).toNat + bs.length) }

def mput (m : List Reg) (addr : Int) (bs : List UInt8) : List Reg :=
  match spot m addr bs.length with
  | none => m
  | some i => m.modify i (·.put addr bs)

def mwrite (m : List Reg) (addr n : Int) (v : Nat) : List Reg × Int :=
  if sizeOk n then
    match spot m addr n with
    | none => (m, 70)
    | some i => if ((m[i]?).map (·.free)).getD false then (mput m addr (leBytes n.toNat v), 0) else (m, 71)
  else (m, 2)


/-! ### in a world -/

/-- a set of blocks that may have turned; all else stands as it stood -/
structure Fr (S : Nat → Prop) (w w' : World) : Prop where
  os : w'.os = w.os
  tape : w'.tape = w.tape
  output : w'.output = w.output
  size : w.heap.size ≤ w'.heap.size
  block : ∀ k, k < w.heap.size → ¬ S k → w'.heap[k]? = w.heap[k]?

def No : Nat → Prop := fun _ => False

theorem Fr.refl (S : Nat → Prop) (w : World) : Fr S w w := ⟨rfl, rfl, rfl, Nat.le_refl _, fun _ _ _ => rfl⟩
theorem Fr.trans {S : Nat → Prop} {a b c : World} (h : Fr S a b) (k : Fr S b c) : Fr S a c :=
  ⟨k.os.trans h.os, k.tape.trans h.tape, k.output.trans h.output, Nat.le_trans h.size k.size, fun i hi hs => (k.block i (Nat.lt_of_lt_of_le hi h.size) hs).trans (h.block i hi hs)⟩
theorem Fr.mono {S T : Nat → Prop} {a b : World} (h : Fr S a b) (hst : ∀ k, k < a.heap.size → S k → T k) : Fr T a b :=
  ⟨h.os, h.tape, h.output, h.size, fun i hi hs => h.block i hi (fun hh => hs (hst i hi hh))⟩
theorem Fr.of_below {S : Nat → Prop} {a b : World} (h : Below a.heap.size a b) : Fr S a b := ⟨h.os, h.tape, h.output, h.size, fun i hi _ => h.block i hi⟩
theorem Fr.below {a b : World} (h : Fr No a b) : Below a.heap.size a b := ⟨h.os, h.tape, h.output, h.size, fun i hi => h.block i hi id⟩
theorem Fr.alloc {S : Nat → Prop} {a w : World} (h : Fr S a w) (o : Obj) : Fr S a (w.alloc o) :=
  h.trans ⟨rfl, rfl, rfl, by simp, fun k hk _ => Below.heap_alloc _ _ _ hk⟩
theorem Fr.drew {S : Nat → Prop} {a w : World} (h : Fr S a w) : Fr S a w.drew := ⟨h.os, h.tape, h.output, h.size, h.block⟩
theorem Fr.drewN {S : Nat → Prop} {a w : World} (h : Fr S a w) (n : Nat) : Fr S a (w.drewN n) := ⟨h.os, h.tape, h.output, h.size, h.block⟩
theorem Fr.setCell {S : Nat → Prop} {a w : World} (h : Fr S a w) {p : Addr} (hp : a.heap.size ≤ p.block ∨ S p.block) (u : Value) : Fr S a (w.setCell p u) :=
  ⟨h.os, h.tape, h.output, by simpa using h.size, fun k hk hs => by
    rw [Below.heap_setCell _ _ _ _ (by rintro rfl; rcases hp with hp | hp; · omega
                                       · exact hs hp)]
    exact h.block k hk hs⟩
theorem Fr.cell {S : Nat → Prop} {w w' : World} (h : Fr S w w') {a : Addr} {v : Value} (hc : w.cell? a = some v) (hs : ¬ S a.block) : w'.cell? a = some v := by
  rw [World.cell?_of_block (w := w) (h.block a.block (World.block_lt_of_cell? w a hc) hs)]; exact hc
theorem Fr.frozen {S : Nat → Prop} {w w' : World} (h : Fr S w w') {a : Addr} {v : Value} (hc : w.cell? a = some v) (hs : ¬ S a.block) : w'.frozen? a = w.frozen? a :=
  World.frozen?_of_block (w := w) (h.block a.block (World.block_lt_of_cell? w a hc) hs)
theorem Fr.cells {S : Nat → Prop} {w w' : World} (h : Fr S w w') {b off : Nat} {vs : List Value} (hc : CellsAt w b off vs) (hs : ¬ S b) : CellsAt w' b off vs :=
  fun j v hj => h.cell (hc j v hj) hs

/-- cells that may be written -/
def Open (w : World) (b off n : Nat) : Prop := ∀ j, j < n → w.frozen? ⟨b, off + j, none⟩ = false

theorem Fr.opened {S : Nat → Prop} {w w' : World} (h : Fr S w w') {b off n : Nat} (hb : b < w.heap.size) (hc : Open w b off n) (hs : ¬ S b) : Open w' b off n :=
  fun j hj => by rw [World.frozen?_of_block (w := w) (h.block b hb hs)]; exact hc j hj

/-- a region, and where its bytes lie -/
structure HReg where
  r : Reg
  g : Nat
  cap : Nat

instance : Inhabited HReg := ⟨⟨⟨0, [], false⟩, 0, 0⟩⟩

def HReg.cells (x : HReg) : List Value := [.int .u64 x.r.base, .slice (some ⟨x.g, 0, none⟩) x.r.data.length x.cap, .bool x.r.free]

def flat (l : List HReg) : List Value := l.flatMap HReg.cells

theorem flat_length (l : List HReg) : (flat l).length = l.length * 3 := by
  induction l with
  | nil => rfl
  | cons x l ih => simp only [flat, List.flatMap_cons, List.length_append, HReg.cells, List.length_cons, List.length_nil] at *; omega

theorem flat_get (l : List HReg) (i c : Nat) (hi : i < l.length) (hc : c < 3) : (flat l)[i * 3 + c]? = some (l[i].cells[c]'(by simpa [HReg.cells] using hc)) := by
  induction l generalizing i with
  | nil => simp at hi
  | cons x l ih =>
    simp only [flat, List.flatMap_cons]
    cases i with
    | zero =>
      rw [List.getElem?_append_left (by simp [HReg.cells]; omega)]
      simp only [Nat.zero_mul, Nat.zero_add, List.getElem_cons_zero]
      exact List.getElem?_eq_getElem _
    | succ i =>
      rw [List.getElem?_append_right (by simp [HReg.cells]; omega)]
      have := ih i (by simpa using hi)
      simp only [flat] at this
      rw [show (i + 1) * 3 + c - x.cells.length = i * 3 + c by simp [HReg.cells]; omega, this]
      simp

/-- a region's bytes stand in its own block, and may be written there -/
structure HReg.here (w : World) (x : HReg) : Prop where
  bytes : CellsAt w x.g 0 (u8s x.r.data)
  opened : Open w x.g 0 x.r.data.length
  cap : x.r.data.length ≤ x.cap

/-- the list of regions stands at a slice's value -/
def ListAt (w : World) (v : Value) (l : List HReg) : Prop :=
  (l = [] ∧ v = .slice none 0 0) ∨ ∃ bl cap, v = .slice (some ⟨bl, 0, none⟩) l.length cap ∧ bl < w.heap.size ∧ CellsAt w bl 0 (flat l) ∧ Open w bl 0 (l.length * 3) ∧ ∀ x ∈ l, x.g ≠ bl

/-- a memory behind a pointer to block b: v, the list of its regions, stands as l says; all its blocks are of S -/
structure MemL (w : World) (b : Nat) (v : Value) (l : List HReg) (S : Nat → Prop) : Prop where
  wf : WF (l.map (·.r))
  made : w.cell? ⟨b, 0, none⟩ = some (.bool true)
  cell : w.cell? ⟨b, 1, none⟩ = some v
  list : ListAt w v l
  here : ∀ x ∈ l, x.here w
  ne : ∀ x ∈ l, x.g ≠ b
  inS : ∀ x ∈ l, S x.g
  nodup : (l.map (·.g)).Nodup
  vne : v.ownBlock ≠ some b
  vS : ∀ k, v.ownBlock = some k → S k
  own : S b

def MemAt (w : World) (b : Nat) (m : List Reg) (S : Nat → Prop) : Prop := ∃ v l, l.map (·.r) = m ∧ MemL w b v l S

theorem HReg.here.fr {S : Nat → Prop} {w w' : World} {x : HReg} (h : x.here w) (hf : Fr S w w') (hn : ¬ S x.g) (hp : 0 < x.r.data.length) : x.here w' := by
  have hb : x.g < w.heap.size := World.block_lt_of_cell? w ⟨x.g, 0 + 0, none⟩ (h.bytes 0 _ (List.getElem?_eq_getElem (by simpa using hp)))
  exact ⟨hf.cells h.bytes hn, hf.opened hb h.opened hn, h.cap⟩

theorem ListAt.fr {S : Nat → Prop} {w w' : World} {v : Value} {l : List HReg} (h : ListAt w v l) (hf : Fr S w w') (hn : ∀ k, v.ownBlock = some k → ¬ S k) : ListAt w' v l := by
  rcases h with h | ⟨bl, cap, rfl, hlt, hc, ho, hne⟩
  · exact .inl h
  · have := hn bl rfl
    exact .inr ⟨bl, cap, rfl, by have := hf.size; omega, hf.cells hc this, hf.opened hlt ho this, hne⟩

/-- a memory stays where only other blocks turn -/
theorem MemL.fr {S T : Nat → Prop} {w w' : World} {b : Nat} {v : Value} {l : List HReg} (h : MemL w b v l S) (hf : Fr T w w') (hn : ∀ k, S k → ¬ T k) : MemL w' b v l S where
  wf := h.wf
  made := hf.cell h.made (hn _ h.own)
  cell := hf.cell h.cell (hn _ h.own)
  list := h.list.fr hf fun k hk => hn k (h.vS k hk)
  here := fun x hx => (h.here x hx).fr hf (hn _ (h.inS x hx)) (h.wf.ok x.r (List.mem_map_of_mem hx)).some
  ne := h.ne
  inS := h.inS
  nodup := h.nodup
  vne := h.vne
  vS := h.vS
  own := h.own

theorem MemAt.fr {S T : Nat → Prop} {w w' : World} {b : Nat} {m : List Reg} (h : MemAt w b m S) (hf : Fr T w w') (hn : ∀ k, S k → ¬ T k) : MemAt w' b m S := by
  obtain ⟨v, l, e, h⟩ := h
  exact ⟨v, l, e, h.fr hf hn⟩

theorem MemL.wide {S T : Nat → Prop} {w : World} {b : Nat} {v : Value} {l : List HReg} (h : MemL w b v l S) (hn : ∀ k, S k → T k) : MemL w b v l T :=
  ⟨h.wf, h.made, h.cell, h.list, h.here, h.ne, fun x hx => hn _ (h.inS x hx), h.nodup, h.vne, fun k hk => hn _ (h.vS k hk), hn _ h.own⟩

theorem MemL.lt {S : Nat → Prop} {w : World} {b : Nat} {v : Value} {l : List HReg} (h : MemL w b v l S) : b < w.heap.size := World.block_lt_of_cell? w _ h.made

/-- the cells of the region i -/
theorem ListAt.reg {w : World} {v : Value} {l : List HReg} (h : ListAt w v l) (i : Nat) (hi : i < l.length) :
    ∃ bl cap, v = .slice (some ⟨bl, 0, none⟩) l.length cap ∧ bl < w.heap.size ∧ w.cell? ⟨bl, i * 3, none⟩ = some (.int .u64 l[i].r.base) ∧
      w.cell? ⟨bl, i * 3 + 1, none⟩ = some (.slice (some ⟨l[i].g, 0, none⟩) l[i].r.data.length l[i].cap) ∧ w.cell? ⟨bl, i * 3 + 2, none⟩ = some (.bool l[i].r.free) := by
  rcases h with ⟨rfl, _⟩ | ⟨bl, cap, rfl, hlt, hc, ho, hne⟩
  · simp at hi
  · refine ⟨bl, cap, rfl, hlt, ?_, ?_, ?_⟩
    · have := hc (i * 3 + 0) _ (flat_get l i 0 hi (by omega))
      simpa [HReg.cells] using this
    · have := hc (i * 3 + 1) _ (flat_get l i 1 hi (by omega))
      simpa [HReg.cells] using this
    · have := hc (i * 3 + 2) _ (flat_get l i 2 hi (by omega))
      simpa [HReg.cells] using this


theorem Fr.setCells {S : Nat → Prop} {a w : World} (h : Fr S a w) {b : Nat} (hp : a.heap.size ≤ b ∨ S b) (o : Nat) (vs : List Value) : Fr S a (w.setCells b o vs) := by
  obtain ⟨h1, h2, h3⟩ := rest_setCells b vs o w
  refine ⟨h1.trans h.os, h2.trans h.tape, h3.trans h.output, by rw [size_setCells]; exact h.size, fun k hk hs => ?_⟩
  rw [heap_setCells_other _ _ _ (by rintro rfl; rcases hp with hp | hp; · omega
                                    · exact hs hp)]
  exact h.block k hk hs

/-- bytes laid into bytes -/
theorem CellsAt.put {w : World} {g : Nat} {d bs : List UInt8} (h : CellsAt w g 0 (u8s d)) (f : Nat) (hf : f + bs.length ≤ d.length) :
    CellsAt (w.setCells g f (u8s bs)) g 0 (u8s (d.take f ++ bs ++ d.drop (f + bs.length))) := by
  intro j v hj
  rw [Nat.zero_add]
  simp only [u8s, List.getElem?_map, splice_get d bs f hf, Option.map_eq_some_iff] at hj
  obtain ⟨c, hc, rfl⟩ := hj
  have old : ∀ t x, d[t]? = some x → w.cell? ⟨g, t, none⟩ = some (.int .u8 (x.toNat : Int)) := fun t x ht => by
    have := h t (.int .u8 (x.toNat : Int)) (by simp [u8s, ht])
    rwa [Nat.zero_add] at this
  by_cases h1 : j < f
  · rw [if_pos h1] at hc
    rw [World.cell?_setCells_out _ _ _ _ _ (fun _ _ => Or.inl h1), old j c hc]
  · rw [if_neg h1] at hc
    by_cases h2 : j < f + bs.length
    · rw [if_pos h2] at hc
      obtain ⟨t, rfl⟩ : ∃ t, j = f + t := ⟨j - f, by omega⟩
      rw [Nat.add_sub_cancel_left] at hc
      have ht : t < (u8s bs).length := by simp; omega
      rw [World.cell?_setCells_in g (u8s bs) f w (fun t ht => by
        have ht' : f + t < d.length := by simp at ht; omega
        rw [old (f + t) _ (List.getElem?_eq_getElem ht')]; rfl) t ht]
      have ht' : t < bs.length := by simpa using ht
      rw [List.getElem?_eq_getElem ht'] at hc
      rw [u8s_get _ _ ht', Option.some.inj hc]
    · rw [if_neg h2] at hc
      rw [World.cell?_setCells_out _ _ _ _ _ (fun _ _ => Or.inr (by simp; omega)), old j c hc]


theorem WF.same {m m' : List Reg} (h : WF m) (hl : m'.length = m.length) (hs : ∀ i (h : i < m.length) (h' : i < m'.length), m'[i].base = m[i].base ∧ m'[i].data.length = m[i].data.length) : WF m' where
  ok := by
    intro r hr
    obtain ⟨i, hi, rfl⟩ := List.getElem_of_mem hr
    have o := h.ok _ (List.getElem_mem (show i < m.length by omega))
    obtain ⟨h1, h2⟩ := hs i (by omega) hi
    have o3 := o.high
    unfold Reg.len at o3
    exact ⟨by rw [h1]; exact o.low, by rw [h2]; exact o.some, by unfold Reg.len; rw [h1, h2]; exact o3, by rw [h2]; exact o.small⟩
  apart := by
    rw [List.pairwise_iff_getElem]
    intro i j hi hj hij
    obtain ⟨h1, h2⟩ := hs i (by omega) hi
    obtain ⟨h3, h4⟩ := hs j (by omega) hj
    have := List.pairwise_iff_getElem.1 h.apart i j (by omega) (by omega) hij
    unfold Reg.len at this ⊢
    rw [h1, h2, h3]
    exact this
  many := by rw [hl]; exact h.many

def HReg.lay (x : HReg) (f : Nat) (bs : List UInt8) : HReg := { x with r := { x.r with data := x.r.data.take f ++ bs ++ x.r.data.drop (f + bs.length) } }

theorem HReg.lay_length (x : HReg) (f : Nat) (bs : List UInt8) (hf : f + bs.length ≤ x.r.data.length) : (x.lay f bs).r.data.length = x.r.data.length := by
  simp [HReg.lay]; omega

theorem HReg.lay_cells (x : HReg) (f : Nat) (bs : List UInt8) (hf : f + bs.length ≤ x.r.data.length) : (x.lay f bs).cells = x.cells := by
  have := x.lay_length f bs hf
  unfold HReg.cells
  rw [this]
  rfl

theorem flat_set (l : List HReg) (i : Nat) (x y : HReg) (hx : l[i]? = some x) (hc : y.cells = x.cells) : flat (l.set i y) = flat l := by
  unfold flat
  rw [List.flatMap_def, List.flatMap_def, List.map_set, hc]
  congr 1
  apply List.ext_getElem?
  intro j
  rw [List.getElem?_set]
  split
  · rename_i hij; subst hij
    split
    · simp [hx]
    · rename_i h; simp at h; simp [List.getElem?_eq_none h]
  · rfl

/-- bytes laid into a region's block: the memory with those bytes -/
theorem MemL.put {S : Nat → Prop} {w : World} {b : Nat} {v : Value} {l : List HReg} (h : MemL w b v l S) (i : Nat) (x : HReg) (hx : l[i]? = some x) (f : Nat) (bs : List UInt8) (hf : f + bs.length ≤ x.r.data.length) :
    MemL (w.setCells x.g f (u8s bs)) b v (l.set i (x.lay f bs)) S := by
  obtain ⟨hi, hxe⟩ := List.getElem?_eq_some_iff.1 hx
  have hxm : x ∈ l := by rw [← hxe]; exact List.getElem_mem hi
  have hgs : (l.set i (x.lay f bs)).map (·.g) = l.map (·.g) := by
    rw [List.map_set]
    apply List.ext_getElem?
    intro j
    rw [List.getElem?_set]
    split
    · rename_i hij; subst hij
      simp [hi, hxe, HReg.lay]
    · rfl
  have hmem : ∀ y ∈ l.set i (x.lay f bs), y = x.lay f bs ∨ ∃ j, ∃ hj : j < l.length, j ≠ i ∧ y = l[j] := by
    intro y hy
    obtain ⟨j, hj, rfl⟩ := List.getElem_of_mem hy
    rw [List.getElem_set]
    split
    · exact .inl rfl
    · rename_i hne; exact .inr ⟨j, by simpa using hj, fun e => hne e.symm, rfl⟩
  have hneg : ∀ j (hj : j < l.length), j ≠ i → l[j].g ≠ x.g := by
    intro j hj hne he
    have hnd := h.nodup
    rw [List.nodup_iff_pairwise_ne, List.pairwise_iff_getElem] at hnd
    rcases Nat.lt_or_gt_of_ne hne with hlt | hlt
    · exact hnd j i (by simpa using hj) (by simpa using hi) hlt (by simpa [hxe] using he)
    · exact hnd i j (by simpa using hi) (by simpa using hj) hlt (by simpa [hxe] using he.symm)
  have out : ∀ a : Addr, a.block ≠ x.g → (w.setCells x.g f (u8s bs)).cell? a = w.cell? a := fun a ha => World.cell?_setCells_out _ _ _ _ _ (fun hb _ => absurd hb ha)
  refine ⟨?_, ?_, ?_, ?_, ?_, ?_, ?_, ?_, h.vne, h.vS, h.own⟩
  · refine h.wf.same (by simp) (fun j hj hj' => ?_)
    simp only [List.map_set, List.getElem_set, List.getElem_map]
    split
    · rename_i hij; subst hij
      rw [hxe]
      exact ⟨rfl, x.lay_length f bs hf⟩
    · exact ⟨rfl, rfl⟩
  · rw [out _ (fun e => h.ne x hxm e.symm)]; exact h.made
  · rw [out _ (fun e => h.ne x hxm e.symm)]; exact h.cell
  · rcases h.list with ⟨rfl, _⟩ | ⟨bl, cap, rfl, hlt, hc, ho, hne⟩
    · simp at hi
    · refine .inr ⟨bl, cap, by simp, by rw [size_setCells]; exact hlt, ?_, ?_, ?_⟩
      · rw [flat_set l i x _ hx (x.lay_cells f bs hf)]
        intro j u hj
        rw [out _ (fun e => hne x hxm e.symm)]
        exact hc j u hj
      · intro j hj
        rw [World.frozen?_setCells]
        exact ho j (by simpa using hj)
      · intro y hy
        rcases hmem y hy with rfl | ⟨j, hj, _, rfl⟩
        · exact hne x hxm
        · exact hne _ (List.getElem_mem hj)
  · intro y hy
    rcases hmem y hy with rfl | ⟨j, hj, hne, rfl⟩
    · have hh := h.here x hxm
      refine ⟨hh.bytes.put f hf, fun j hj => ?_, by rw [x.lay_length f bs hf]; exact hh.cap⟩
      rw [World.frozen?_setCells]
      exact hh.opened j (by rw [x.lay_length f bs hf] at hj; exact hj)
    · have hh := h.here _ (List.getElem_mem hj)
      refine ⟨fun t u ht => ?_, fun t ht => ?_, hh.cap⟩
      · rw [out _ (hneg j hj hne)]; exact hh.bytes t u ht
      · rw [World.frozen?_setCells]; exact hh.opened t ht
  · intro y hy
    rcases hmem y hy with rfl | ⟨j, hj, _, rfl⟩
    · exact h.ne x hxm
    · exact h.ne _ (List.getElem_mem hj)
  · intro y hy
    rcases hmem y hy with rfl | ⟨j, hj, _, rfl⟩
    · exact h.inS x hxm
    · exact h.inS _ (List.getElem_mem hj)
  · rw [hgs]; exact h.nodup


/-- behind the blocks of a world -/
def From (w : World) : Nat → Prop := fun k => w.heap.size ≤ k
theorem Fr.ours {w w' : World} (h : Fr (From w) w w') : Fr No w w' := ⟨h.os, h.tape, h.output, h.size, fun k hk _ => h.block k hk (fun hh => Nat.lt_irrefl _ (Nat.lt_of_lt_of_le hk hh))⟩
theorem Fr.any {S : Nat → Prop} {w w' : World} (h : Fr No w w') : Fr S w w' := h.mono (fun _ _ h => h.elim)

end Go.Proofs.YtakcdecljfmckaaGreatDoor

namespace Go.Proofs.YtakcdecljfmckaaGreatDoor
open Go.RowKit

/-! ### words -/
/-- a byte of a word -/
def cleanB (c : UInt8) : Bool := decide (32 < c ∧ c < 128 ∧ c ≠ 59)
def cleanW (w : List UInt8) : Bool := w.all cleanB && w != []

theorem cleanB_iff (c : UInt8) : cleanB c = true ↔ 32 < c ∧ c < 128 ∧ c ≠ 59 := decide_eq_true_iff
theorem cleanW_iff (w : List UInt8) : cleanW w = true ↔ (∀ c ∈ w, cleanB c = true) ∧ w ≠ [] := by
  unfold cleanW
  simp

theorem charN_clean {c : UInt8} {s : List UInt8} (h : c < 128) : charN (c :: s) = 1 := by
  simp [charN, lead, h]

theorem wordsF_succ (k : Nat) (s : List UInt8) (over : Bool) (word : List UInt8) (acc : List (List UInt8)) (hs : s ≠ []) (hc : charN s ≠ 0) : wordsF (k + 1) s over word acc =
    if over || s.take (charN s) == [59] || blankB (s.take (charN s)) then wordsF k (s.drop (charN s)) (over || s.take (charN s) == [59]) [] (pushW word acc)
      else wordsF k (s.drop (charN s)) false (word ++ s.take (charN s)) acc := by
  rw [wordsF, if_neg hs, if_neg hc]

/-- a word's bytes are gone through -/
theorem wordsF_word : ∀ (w : List UInt8) (k : Nat) (s word : List UInt8) (acc : List (List UInt8)), (∀ c ∈ w, cleanB c = true) → wordsF (w.length + k) (w ++ s) false word acc = wordsF k s false (word ++ w) acc
  | [], k, s, word, acc, _ => by simp
  | c :: w, k, s, word, acc, h => by
    obtain ⟨h1, h2, h3⟩ := (cleanB_iff c).1 (h c (by simp))
    have hc : charN (c :: (w ++ s)) = 1 := charN_clean h2
    have ih := wordsF_word w k s (word ++ [c]) acc (fun x hx => h x (List.mem_cons_of_mem _ hx))
    rw [List.length_cons, show w.length + 1 + k = (w.length + k) + 1 by omega]
    show wordsF ((w.length + k) + 1) (c :: (w ++ s)) false word acc = _
    have hb : blankB [c] = false := by
      unfold blankB
      have a1 : c ≠ 9 := by rintro rfl; revert h1; decide
      have a2 : c ≠ 13 := by rintro rfl; revert h1; decide
      have a3 : c ≠ 32 := by rintro rfl; revert h1; decide
      simp [a1, a2, a3]
    have h59 : ([c] == ([59] : List UInt8)) = false := by simpa using h3
    rw [wordsF_succ _ _ _ _ _ (by simp) (by rw [hc]; decide), hc]
    simp only [List.take_succ_cons, List.take_zero, List.drop_succ_cons, List.drop_zero, h59, hb, Bool.or_false, Bool.false_eq_true, if_false]
    rw [ih]
    simp

theorem wordsF_end (k : Nat) (over : Bool) (word : List UInt8) (acc : List (List UInt8)) : wordsF k [] over word acc = some (pushW word acc) := by
  cases k <;> simp [wordsF]

theorem wordsF_blank (k : Nat) (s word : List UInt8) (acc : List (List UInt8)) : wordsF (k + 1) (32 :: s) false word acc = wordsF k s false [] (pushW word acc) := by
  have hc : charN (32 :: s) = 1 := charN_clean (by decide)
  have e1 : (([32] : List UInt8) == [59]) = false := rfl
  have e2 : blankB [32] = true := rfl
  rw [wordsF_succ _ _ _ _ _ (by simp) (by rw [hc]; decide), hc]
  simp only [List.take_succ_cons, List.take_zero, List.drop_succ_cons, List.drop_zero, e1, e2, Bool.or_true, if_true, Bool.or_false]

theorem pushW_clean {w : List UInt8} (h : w ≠ []) (acc : List (List UInt8)) : pushW w acc = acc ++ [w] := if_neg h

theorem wordsF_join : ∀ (ws : List (List UInt8)) (k : Nat) (acc : List (List UInt8)), (∀ w ∈ ws, cleanW w = true) → ws ≠ [] → (joinW ws).length ≤ k → wordsF k (joinW ws) false [] acc = some (acc ++ ws)
  | [], _, _, _, h, _ => absurd rfl h
  | [w], k, acc, h, _, hk => by
    obtain ⟨h1, h2⟩ := (cleanW_iff w).1 (h w (by simp))
    have := wordsF_word w (k - w.length) [] [] acc h1
    simp only [joinW] at hk ⊢
    rw [List.append_nil, show w.length + (k - w.length) = k by omega] at this
    rw [this, wordsF_end, List.nil_append, pushW_clean h2]
  | w :: v :: ws, k, acc, h, _, hk => by
    obtain ⟨h1, h2⟩ := (cleanW_iff w).1 (h w (by simp))
    simp only [joinW, List.length_append, List.length_cons] at hk ⊢
    have := wordsF_word w (k - w.length) (32 :: joinW (v :: ws)) [] acc h1
    rw [show w.length + (k - w.length) = k by omega] at this
    rw [this, List.nil_append]
    obtain ⟨m, hm⟩ : ∃ m, k - w.length = m + 1 := ⟨k - w.length - 1, by omega⟩
    rw [hm, wordsF_blank, pushW_clean h2, wordsF_join (v :: ws) m (acc ++ [w]) (fun x hx => h x (List.mem_cons_of_mem _ hx)) (by simp) (by omega)]
    simp

theorem wordsL_join {ws : List (List UInt8)} (h : ∀ w ∈ ws, cleanW w = true) (h0 : ws ≠ []) : wordsL (joinW ws) = some ws := by
  unfold wordsL
  rw [wordsF_join ws _ [] h h0 (Nat.le_refl _)]
  rfl

/-! ### numerals -/
theorem digF_digits : ∀ (k n : Nat), ∀ c ∈ digF k n, 48 ≤ c ∧ c ≤ 57
  | 0, _, c, h => by simp [digF] at h
  | k + 1, n, c, h => by
    simp only [digF, List.mem_append, List.mem_singleton] at h
    rcases h with h | h
    · split at h
      · simp at h
      · exact digF_digits k _ c h
    · subst h
      have : n % 10 < 10 := Nat.mod_lt _ (by decide)
      generalize n % 10 = m at *
      match m, this with
      | 0, _ => decide
      | 1, _ => decide
      | 2, _ => decide
      | 3, _ => decide
      | 4, _ => decide
      | 5, _ => decide
      | 6, _ => decide
      | 7, _ => decide
      | 8, _ => decide
      | 9, _ => decide

theorem decN_ne (n : Nat) : decN n ≠ [] := by
  show digF 20 n ≠ []
  simp [digF]

theorem digV_app : ∀ (a b : List UInt8) (n m : Nat), digV a n = some m → digV (a ++ b) n = digV b m
  | [], b, n, m, h => by simp [digV] at h; subst h; rfl
  | c :: a, b, n, m, h => by
    simp only [digV, List.cons_append] at h ⊢
    split at h
    · cases h
    · rename_i h1
      rw [if_neg h1]
      split at h
      · cases h
      · rename_i h2
        rw [if_neg h2]
        exact digV_app a b _ m h

theorem digV_one (m d : Nat) (hd : d < 10) (h : m * 10 + d ≤ 18446744073709551615) : digV [UInt8.ofNat (48 + d)] m = some (m * 10 + d) := by
  have e : (UInt8.ofNat (48 + d)).toNat = 48 + d := by simp; omega
  have c1 : ¬ (UInt8.ofNat (48 + d) < 48 ∨ 57 < UInt8.ofNat (48 + d)) := by
    rw [UInt8.lt_iff_toNat_lt, UInt8.lt_iff_toNat_lt, e]
    show ¬ (48 + d < 48 ∨ 57 < 48 + d)
    omega
  have c2 : ¬ (18446744073709551615 - (48 + d - 48)) / 10 < m := by omega
  simp only [digV, if_neg c1, e, if_neg c2]
  rw [show 48 + d - 48 = d by omega]

theorem digV_digF : ∀ (k n : Nat), n < 10 ^ (k + 1) → n ≤ 18446744073709551615 → digV (digF (k + 1) n) 0 = some n
  | 0, n, h, hn => by
    have h : n < 10 := by simpa using h
    simp only [digF, h, if_true, List.nil_append, Nat.mod_eq_of_lt h]
    simpa using digV_one 0 n h (by omega)
  | k + 1, n, h, hn => by
    have hm : n % 10 < 10 := Nat.mod_lt _ (by decide)
    by_cases h10 : n < 10
    · simp only [digF, h10, if_true, List.nil_append, Nat.mod_eq_of_lt h10]
      simpa using digV_one 0 n h10 (by omega)
    · have ih := digV_digF k (n / 10) (by rw [Nat.pow_succ] at h; omega) (by omega)
      show digV ((if n < 10 then [] else digF (k + 1) (n / 10)) ++ [UInt8.ofNat (48 + n % 10)]) 0 = some n
      rw [if_neg h10, digV_app _ _ 0 _ ih, digV_one _ _ hm (by omega)]
      congr 1
      omega
theorem digL_dec {n : Nat} (h : n ≤ 18446744073709551615) : digL (decN n) = some n := by
  unfold digL
  rw [if_neg (decN_ne n)]
  exact digV_digF 19 n (by omega) h

theorem dec_head {n : Nat} {c : UInt8} (h : (decN n).head? = some c) : 48 ≤ c ∧ c ≤ 57 := digF_digits 20 n c (List.mem_of_head? h)
theorem dec_take3 (n : Nat) (h : (decN n).take 3 = [226, 136, 146]) : False := by
  have : (226 : UInt8) ∈ decN n := by
    have h1 : (226 : UInt8) ∈ (decN n).take 3 := by rw [h]; simp
    exact List.mem_of_mem_take h1
  have := digF_digits 20 n _ this
  revert this; decide

theorem numW_dec {n : Nat} (h : n ≤ 18446744073709551615) : numW (decN n) = some (false, n) := by
  unfold numW
  rw [if_neg (fun h => dec_take3 n h.2), if_neg (fun h => by have := dec_head h.2; revert this; decide), if_neg (fun h => by have := dec_head h.2; revert this; decide), digL_dec h]
  rfl
theorem dec_len (n : Nat) : 0 < (decN n).length := List.length_pos_iff.2 (decN_ne n)
theorem numW_minus {n : Nat} (h : n ≤ 18446744073709551615) : numW (45 :: decN n) = some (true, n) := by
  have hl := dec_len n
  unfold numW
  rw [if_neg (fun h => by have := h.2; simp at this), if_pos ⟨by simp; omega, rfl⟩]
  simp [digL_dec h]
theorem numW_plus {n : Nat} (h : n ≤ 18446744073709551615) : numW (43 :: decN n) = some (false, n) := by
  have hl := dec_len n
  unfold numW
  rw [if_neg (fun h => by have := h.2; simp at this), if_neg (fun h => by have := h.2; simp at this), if_pos ⟨by simp; omega, rfl⟩]
  simp [digL_dec h]

theorem parseI_itoa {n : Int} {lo hi : Nat} (h1 : -(lo : Int) ≤ n) (h2 : n ≤ hi) (hlo : lo ≤ 18446744073709551615) (hhi : hi ≤ 18446744073709551615) : parseI (itoaN n) lo hi = some n := by
  unfold itoaN
  split
  · rename_i h
    unfold parseI
    rw [numW_minus (by omega)]
    simp only
    rw [if_pos (by omega)]
    congr 1
    omega
  · rename_i h
    unfold parseI
    rw [numW_dec (by omega)]
    simp only
    rw [if_pos (by omega)]
    congr 1
    omega
theorem parseI_sign {n : Int} {lo hi : Nat} (h1 : -(lo : Int) ≤ n) (h2 : n ≤ hi) (hlo : lo ≤ 18446744073709551615) (hhi : hi ≤ 18446744073709551615) : parseI (signN n) lo hi = some n := by
  unfold signN
  split
  · exact parseI_itoa h1 h2 hlo hhi
  · rename_i h
    unfold parseI itoaN
    rw [if_neg h, numW_plus (by omega)]
    simp only
    rw [if_pos (by omega)]
    congr 1
    omega
theorem parseI_dec {n : Nat} (h : n ≤ 18446744073709551615) : parseI (decN n) 0 18446744073709551615 = some (n : Int) := by
  unfold parseI
  rw [numW_dec h]
  simp only
  rw [if_pos h]

theorem regW_reg {r : Nat} (h : r ≤ 10) : regW (regN r) = some r := by
  have : ∀ r, r < 11 → regW (regN r) = some r := by decide +kernel
  exact this r (by omega)
end Go.Proofs.YtakcdecljfmckaaGreatDoor
