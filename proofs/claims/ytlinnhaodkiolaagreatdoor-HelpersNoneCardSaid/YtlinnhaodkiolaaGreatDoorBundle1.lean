/- The lemmas that no function of the program bears: numbers as bytes, worlds that part in a set of blocks alone. No conditions. Regions of bytes: what a memory is, without the program; and how it stands in a world. What nums.Num, Bytes and Low compute. -/
import Derived.Test.YtlinnhaodkiolaaGreatDoorRows
import Derived.WalkKit
import Derived.WalkSpells
import Derived.WalkLawsBesides
import Derived.Deep.QuietTactic
import Derived.BigQuiet
import Derived.Lib.Hide
namespace Go.Proofs.YtlinnhaodkiolaaGreatDoor
open Go.RowKit

/-- the number whose lowest byte comes first -/
def leNum : List UInt8 → Nat
  | [] => 0
  | b :: r => b.toNat + 256 * leNum r

theorem leNum_lt (l : List UInt8) : leNum l < 256 ^ l.length := by
  induction l with
  | nil => simp [leNum]
  | cons b r ih =>
    have := b.toNat_lt
    simp only [leNum, List.length_cons, Nat.pow_succ]
    have : leNum r + 1 ≤ 256 ^ r.length := ih
    omega

theorem leNum_snoc (l : List UInt8) (b : UInt8) : leNum (l ++ [b]) = leNum l + b.toNat * 256 ^ l.length := by
  induction l with
  | nil => simp [leNum]
  | cons c r ih =>
    simp only [List.cons_append, leNum, ih, List.length_cons, Nat.pow_succ]
    rw [Nat.mul_add, ← Nat.add_assoc]
    congr 1
    rw [← Nat.mul_assoc, Nat.mul_comm 256, Nat.mul_assoc, Nat.mul_comm 256]

theorem leNum_take (l : List UInt8) (k : Nat) (h : k < l.length) : leNum (l.take (k + 1)) = leNum (l.take k) + l[k].toNat * 256 ^ k := by
  rw [List.take_succ_eq_append_getElem h, leNum_snoc, List.length_take, Nat.min_eq_left (by omega)]

/-- a number's lowest bytes, the lowest first -/
def leBytes : Nat → Nat → List UInt8
  | 0, _ => []
  | n + 1, v => UInt8.ofNat v :: leBytes n (v / 256)

@[simp] theorem leBytes_length (n v : Nat) : (leBytes n v).length = n := by
  induction n generalizing v with
  | zero => rfl
  | succ n ih => simp [leBytes, ih]

theorem leBytes_snoc (n v : Nat) : leBytes (n + 1) v = leBytes n v ++ [UInt8.ofNat (v / 256 ^ n)] := by
  induction n generalizing v with
  | zero => simp [leBytes]
  | succ n ih =>
    rw [leBytes, ih (v / 256)]
    simp only [leBytes, List.cons_append, Nat.pow_succ, Nat.div_div_eq_div_mul, Nat.mul_comm 256]

theorem leNum_leBytes (n v : Nat) : leNum (leBytes n v) = v % 256 ^ n := by
  induction n generalizing v with
  | zero => simp [leBytes, leNum, Nat.mod_one]
  | succ n ih =>
    have h2 : (UInt8.ofNat v).toNat = v % 256 := by simp
    simp only [leBytes, leNum, ih, Nat.pow_succ, h2]
    rw [Nat.mul_comm (256 ^ n) 256, Nat.mod_mul]

theorem leBytes_leNum (l : List UInt8) : leBytes l.length (leNum l) = l := by
  induction l with
  | nil => rfl
  | cons b r ih =>
    have hb := b.toNat_lt
    simp only [List.length_cons, leBytes, leNum]
    rw [show (b.toNat + 256 * leNum r) / 256 = leNum r by omega, ih]
    congr 1
    apply UInt8.toNat.inj
    simp

/-- '|' of two numbers that have no bit in common, and a shift by bytes -/
theorem or_high (a b k : Nat) (ha : a < 256 ^ k) (hb : b < 256) (hk : k < 8) :
    bits .or .u64 (a : Int) (IntKind.u64.wrap (IntKind.u64.wrap (b : Int) * 2 ^ (8 * k))) = ((a + b * 256 ^ k : Nat) : Int) := by
  have e : (256 : Nat) ^ k = 2 ^ (8 * k) := by rw [Nat.pow_mul]
  have hle : (2 : Nat) ^ (8 * k) * 256 ≤ 2 ^ 64 := by
    rw [show (256 : Nat) = 2 ^ 8 by decide, ← Nat.pow_add]; exact Nat.pow_le_pow_right (by decide) (by omega)
  have hbk : b * 2 ^ (8 * k) < 2 ^ 64 := Nat.lt_of_lt_of_le ((Nat.mul_lt_mul_right (Nat.two_pow_pos _)).2 hb) (by rw [Nat.mul_comm]; exact hle)
  have ha' : a < 2 ^ 64 := by
    rw [e] at ha
    have : (2 : Nat) ^ (8 * k) * 1 ≤ 2 ^ (8 * k) * 256 := Nat.mul_le_mul_left _ (by decide)
    omega
  have hu : ∀ n : Nat, n < 2 ^ 64 → IntKind.u64.wrap (n : Int) = n := fun n h => IntWalk.u64_in _ (by omega)
  rw [hu b (by omega), show ((b : Int) * 2 ^ (8 * k)) = ((b * 2 ^ (8 * k) : Nat) : Int) by push_cast; rfl, hu _ hbk]
  rw [(bits_nat .u64 64 (by decide) (fun n h0 h1 => IntWalk.u64_in _ (by omega)) a (b * 2 ^ (8 * k)) ha' hbk).2]
  rw [e, Nat.or_comm, ← Nat.shiftLeft_eq, ← Nat.shiftLeft_add_eq_or_of_lt (by rw [← e]; exact ha), Nat.add_comm]
  

theorem bytesToString_fold (l : List UInt8) (s : ByteArray) : (l.map fun b => (b.toNat : Int)).foldl (fun r n => r.push (UInt8.ofNat n.toNat)) s = ⟨s.data ++ l.toArray⟩ := by
  induction l generalizing s with
  | nil => simp
  | cons b r ih =>
    simp only [List.map_cons, List.foldl_cons, ih, Int.toNat_natCast]
    congr 1
    apply Array.ext'
    simp [ByteArray.push]

/-- 'v & (1<<n - 1)' -/
theorem low_bits (v n : Nat) (hn : n < 64) : bits .and .u64 (v : Int) (IntKind.u64.wrap (IntKind.u64.wrap (2 ^ n) - 1)) = ((v % 2 ^ n : Nat) : Int) := by
  have hp : 0 < 2 ^ n := Nat.two_pow_pos n
  have hlt : 2 ^ n < 2 ^ 64 := Nat.pow_lt_pow_right (by decide) hn
  have hu : ∀ m : Nat, m < 2 ^ 64 → IntKind.u64.wrap (m : Int) = m := fun m h => IntWalk.u64_in _ (by omega)
  have e1 : IntKind.u64.wrap (2 ^ n) = ((2 ^ n : Nat) : Int) := by rw [← hu _ hlt]; push_cast; rfl
  rw [e1, show (((2 ^ n : Nat) : Int) - 1) = ((2 ^ n - 1 : Nat) : Int) by omega, hu _ (by omega)]
  unfold bits
  simp only [BitVec.ofInt_natCast, BitVec.toNat_and, BitVec.toNat_ofNat]
  rw [show IntKind.u64.bits = 64 by rfl, Nat.mod_eq_of_lt (show 2 ^ n - 1 < 2 ^ 64 by omega), Nat.and_two_pow_sub_one_eq_mod, Nat.mod_mod_of_dvd _ (Nat.pow_dvd_pow 2 (by omega)), hu _ (Nat.lt_trans (Nat.mod_lt _ hp) hlt)]

/-- bytes as cells -/
def u8s (l : List UInt8) : List Value := l.map fun b => .int .u8 (b.toNat : Int)
@[simp] theorem u8s_length (l : List UInt8) : (u8s l).length = l.length := by simp [u8s]
theorem u8s_append (l m : List UInt8) : u8s (l ++ m) = u8s l ++ u8s m := by simp [u8s]
theorem u8s_get (l : List UInt8) (j : Nat) (h : j < l.length) : (u8s l)[j]'(by simpa using h) = .int .u8 (l[j].toNat : Int) := by simp [u8s]

/-- the cells from a place on -/
def CellsAt (w : World) (b off : Nat) (vs : List Value) : Prop := ∀ j v, vs[j]? = some v → w.cell? ⟨b, off + j, none⟩ = some v

theorem addr_add (b off j : Nat) : (⟨b, off, none⟩ : Addr).add j = ⟨b, off + j, none⟩ := by unfold Addr.add; split <;> simp_all

theorem CellsAt.run {P : Program} {w : World} {b off : Nat} {vs : List Value} (h : CellsAt w b off vs) : (loadCells ⟨b, off, none⟩ vs.length).run P w = .ok vs.toArray w :=
  run_loadCells_list w _ vs fun j v hj => by rw [addr_add]; exact h j v hj

/-- 'string(b)' of bytes that stand in memory -/
theorem run_str_of_bytes {P : Program} (w : World) (src dst e : TypeId) (hs : P.underlying src = some (.slice e)) (he : P.underlying e = some (.int .u8)) (hd : P.underlying dst = some .string)
    (b off cap : Nat) (l : List UInt8) (len : Nat) (hl : l.length = len) (hc : CellsAt w b off (u8s l)) :
    (convert src dst (.slice (some ⟨b, off, none⟩) len cap)).run P w = .ok (.string ⟨l.toArray⟩) w := by
  subst hl
  have h1 := hc.run (P := P)
  rw [u8s_length] at h1
  have h := run_bytesToString (P := P) w ⟨b, off, none⟩ l.length cap (l.map fun b => (b.toNat : Int)) (by rw [h1]; simp [u8s, Function.comp_def])
  rw [bytesToString_fold] at h
  rw [run_convert_bytes_string w src dst e (some ⟨b, off, none⟩) l.length cap hs he hd, h]
  simp [ByteArray.empty, ByteArray.emptyWithCapacity]
  rfl

theorem CellsAt.new (w : World) (vs : List Value) (t : TypeId) : CellsAt (w.alloc (.cells vs.toArray t)) w.heap.size 0 vs := by
  intro j v h
  rw [Nat.zero_add, World.cell?_alloc_new]
  simpa using h

theorem u8s_one (l : List UInt8) : ∀ v ∈ u8s l, v.oneCell' = true := by
  intro v hv
  obtain ⟨b, _, rfl⟩ := List.mem_map.1 hv
  rfl

/-- 'copy(b, s)' where all of b is written -/
theorem run_copy_str {P : Program} (w : World) (dT sT ty elem : TypeId) (b o dCap : Nat) (s : List UInt8) (k : Nat) (hk : s.length = k)
    (hu : P.underlying dT = some (.slice elem)) (hs : (P.info? elem).map (·.size) = some 1)
    (hc : ∀ j, j < k → (w.cell? ⟨b, o + j, none⟩).isSome = true) (hf : ∀ j, j < k → w.frozen? ⟨b, o + j, none⟩ = false) :
    (Builtin.copy_ #[dT, sT] ty #[.slice (some ⟨b, o, none⟩) k dCap, .string ⟨s.toArray⟩]).run P w = .ok (goInt k) (w.setCells b o (u8s s)) := by
  subst hk
  have hst := run_storeCells_cells (P := P) b o (u8s s) 0 w (by simpa using hc) (by simpa using hf) (u8s_one s)
  have hsz : (⟨s.toArray⟩ : ByteArray).size = s.length := by simp [ByteArray.size]
  cases hq : P.info? elem with
  | none => simp [hq] at hs
  | some i =>
    have hi : i.size = 1 := by simpa [hq] using hs
    have htk : List.take s.length (List.map (fun b => Value.int .u8 (b.toNat : Int)) s) = u8s s := by
      rw [List.take_of_length_le (by simp)]; rfl
    rw [Nat.add_zero] at hst
    simp [Builtin.copy_, run_underlying hu, Builtin.lenOf, Builtin.firstCells, sizeOf, typeInfo, hq, hi, hsz, htk, hst]

theorem splice_get {α : Type} (d bs : List α) (f : Nat) (hf : f + bs.length ≤ d.length) (j : Nat) :
    (d.take f ++ bs ++ d.drop (f + bs.length))[j]? = if j < f then d[j]? else if j < f + bs.length then bs[j - f]? else d[j]? := by
  have hl : (d.take f).length = f := by rw [List.length_take]; omega
  by_cases h1 : j < f
  · rw [if_pos h1, List.append_assoc, List.getElem?_append_left (by omega), List.getElem?_take, if_pos h1]
  · rw [if_neg h1, List.append_assoc, List.getElem?_append_right (by omega), hl]
    by_cases h2 : j < f + bs.length
    · rw [if_pos h2, List.getElem?_append_left (by omega)]
    · rw [if_neg h2, List.getElem?_append_right (by omega), List.getElem?_drop]
      congr 1
      omega

theorem Below_setCells (B : Nat) (w : World) (b : Nat) : ∀ (vs : List Value) (o : Nat), B ≤ b → Below B w (w.setCells b o vs)
  | [], _, _ => Below.refl _ _
  | v :: r, o, h => ((Below.refl B w).setCell h v).trans (Below_setCells B (w.setCell ⟨b, o, none⟩ v) b r (o + 1) h)

theorem heap_setCells_other (w : World) (b k : Nat) (hk : k ≠ b) : ∀ (vs : List Value) (o : Nat), (w.setCells b o vs).heap[k]? = w.heap[k]?
  | [], _ => rfl
  | v :: r, o => by
    rw [World.setCells, heap_setCells_other (w.setCell ⟨b, o, none⟩ v) b k hk r (o + 1), Below.heap_setCell _ _ _ _ hk]

theorem size_setCells (b : Nat) : ∀ (vs : List Value) (o : Nat) (w : World), (w.setCells b o vs).heap.size = w.heap.size
  | [], _, _ => rfl
  | v :: r, o, w => by rw [World.setCells, size_setCells b r]; simp

theorem rest_setCells (b : Nat) : ∀ (vs : List Value) (o : Nat) (w : World), (w.setCells b o vs).os = w.os ∧ (w.setCells b o vs).tape = w.tape ∧ (w.setCells b o vs).output = w.output
  | [], _, _ => ⟨rfl, rfl, rfl⟩
  | v :: r, o, w => by rw [World.setCells]; exact rest_setCells b r (o + 1) _

end Go.Proofs.YtlinnhaodkiolaaGreatDoor

namespace Go.Proofs.YtlinnhaodkiolaaGreatDoor
open Go.RowKit

/-- a region -/
structure Reg where
  base : Int
  data : List UInt8
  free : Bool

def Reg.len (r : Reg) : Int := r.data.length

/-- a region has n bytes from addr on -/
def Reg.has (r : Reg) (addr n : Int) : Bool := decide (r.base ≤ addr ∧ addr + n ≤ r.base + r.len)

theorem Reg.has_iff (r : Reg) (addr n : Int) : r.has addr n = true ↔ r.base ≤ addr ∧ addr + n ≤ r.base + (r.data.length : Int) := decide_eq_true_iff

def spot (m : List Reg) (addr n : Int) : Option Nat := m.findIdx? (·.has addr n)

structure Reg.ok (r : Reg) : Prop where
  low : 0 ≤ r.base
  some : 0 < r.data.length
  high : r.base + r.len ≤ 18446744073709551615
  small : r.data.length ≤ 9223372036854775807

structure WF (m : List Reg) : Prop where
  ok : ∀ r ∈ m, r.ok
  apart : m.Pairwise fun a b => a.base + a.len ≤ b.base
  many : m.length ≤ 4611686018427387904

/-- the place of the last region that begins at addr or ahead of it, counted from 1 -/
def cnt (m : List Reg) (addr : Int) : Nat := m.countP fun r => decide (r.base ≤ addr)

theorem WF.tail {r : Reg} {m : List Reg} (h : WF (r :: m)) : WF m := ⟨fun x hx => h.ok x (List.mem_cons_of_mem _ hx), (List.pairwise_cons.1 h.apart).2, by have := h.many; simp at this; omega⟩

theorem WF.later {r : Reg} {m : List Reg} (h : WF (r :: m)) : ∀ b ∈ m, r.base + r.len ≤ b.base := (List.pairwise_cons.1 h.apart).1

theorem len_pos {r : Reg} (h : r.ok) : 0 < r.len := by have := h.some; unfold Reg.len; omega

theorem cnt_zero_of_below {m : List Reg} {addr : Int} (h : ∀ b ∈ m, addr < b.base) : cnt m addr = 0 := by
  unfold cnt
  rw [List.countP_eq_zero]
  intro b hb
  have := h b hb
  simp; omega

/-- those below cnt begin at addr or ahead of it, the others do not -/
theorem cnt_spec {m : List Reg} (h : WF m) (addr : Int) : ∀ i (hi : i < m.length), (m[i].base ≤ addr ↔ i < cnt m addr) := by
  induction m with
  | nil => intro i hi; simp at hi
  | cons r m ih =>
    have hp := len_pos (h.ok r (by simp))
    intro i hi
    by_cases hr : r.base ≤ addr
    · have hc : cnt (r :: m) addr = cnt m addr + 1 := by simp [cnt, List.countP_cons, hr]
      rw [hc]
      cases i with
      | zero => simpa using hr
      | succ i => simpa using ih h.tail i (by simpa using hi)
    · have hz : cnt (r :: m) addr = 0 := cnt_zero_of_below (fun b hb => by
        rcases List.mem_cons.1 hb with rfl | hb
        · omega
        · have := h.later b hb; omega)
      rw [hz]
      cases i with
      | zero => simpa using hr
      | succ i =>
        have := h.later (m[i]'(by simpa using hi)) (List.getElem_mem _)
        simp; omega

theorem cnt_le (m : List Reg) (addr : Int) : cnt m addr ≤ m.length := List.countP_le_length

/-- bytes that are there are in the last region that begins at addr or ahead of it -/
theorem spot_eq {m : List Reg} (h : WF m) (addr n : Int) (hn : 1 ≤ n) :
    spot m addr n = if hc : 0 < cnt m addr then (if (m[cnt m addr - 1]'(by have := cnt_le m addr; omega)).has addr n then some (cnt m addr - 1) else none) else none := by
  have hs := cnt_spec h addr
  have key : ∀ i (hi : i < m.length), m[i].has addr n = true → i + 1 = cnt m addr := by
    intro i hi hh
    simp only [Reg.has, decide_eq_true_eq] at hh
    have h1 := (hs i hi).1 hh.1
    by_cases h2 : i + 1 < cnt m addr
    · have hi2 : i + 1 < m.length := by have := cnt_le m addr; omega
      have h3 := (hs (i + 1) hi2).2 h2
      have := List.pairwise_iff_getElem.1 h.apart i (i + 1) hi hi2 (by omega)
      omega
    · omega
  split
  · rename_i hc
    have hl := cnt_le m addr
    split
    · rename_i hh
      unfold spot
      rw [List.findIdx?_eq_some_iff_getElem]
      refine ⟨by omega, hh, fun j hj => ?_⟩
      intro hj2
      have := key j (by omega) hj2
      omega
    · rename_i hh
      unfold spot
      rw [List.findIdx?_eq_none_iff]
      intro x hx
      obtain ⟨i, hi, rfl⟩ := List.getElem_of_mem hx
      cases hb : m[i].has addr n with
      | false => rfl
      | true =>
        have := key i hi hb
        have e : cnt m addr - 1 = i := by omega
        exact absurd (by simp only [e]; exact hb) hh
  · rename_i hc
    unfold spot
    rw [List.findIdx?_eq_none_iff]
    intro x hx
    obtain ⟨i, hi, rfl⟩ := List.getElem_of_mem hx
    cases hb : m[i].has addr n with
    | false => rfl
    | true => have := key i hi hb; omega

theorem spot_lt {m : List Reg} {addr n : Int} {i : Nat} (h : spot m addr n = some i) : i < m.length :=
  (List.findIdx?_eq_some_iff_getElem.1 h).1

theorem spot_has {m : List Reg} {addr n : Int} {i : Nat} (h : spot m addr n = some i) : (m[i]'(spot_lt h)).has addr n = true :=
  (List.findIdx?_eq_some_iff_getElem.1 h).2.1

/-- the bytes that stand at an address -/
def Reg.cut (r : Reg) (addr n : Int) : List UInt8 := (r.data.drop (addr - r.base).toNat).take n.toNat

def mtext (m : List Reg) (addr n : Int) : List UInt8 × Int :=
  if n < 0 then ([], 2) else if n = 0 then ([], 0) else
  match spot m addr n with
  | none => ([], 70)
  | some i => (((m[i]?).map (·.cut addr n)).getD [], 0)

def sizeOk (n : Int) : Bool := n == 1 || n == 2 || n == 4 || n == 8

def mread (m : List Reg) (addr n : Int) : Nat × Int :=
  if sizeOk n then (leNum (mtext m addr n).1, (mtext m addr n).2) else (0, 2)

def Reg.put (r : Reg) (addr : Int) (bs : List UInt8) : Reg :=
  { r with data := r.data.take (addr - r.base).toNat ++ bs ++ r.data.drop ((addr - r.base).toNat + bs.length) }

def mput (m : List Reg) (addr : Int) (bs : List UInt8) : List Reg :=
  match spot m addr bs.length with
  | none => m
  | some i => m.modify i (·.put addr bs)

def mwrite (m : List Reg) (addr n : Int) (v : Nat) : List Reg × Int :=
  if sizeOk n then
    match spot m addr n with
    | none => (m, 70)
    | some i => if ((m[i]?).map (·.free)).getD false then (mput m addr (leBytes n.toNat v), 0) else (m, 71)
  else (m, 2)


/-! ### in a world -/

/-- a set of blocks that may have turned; all else stands as it stood -/
structure Fr (S : Nat → Prop) (w w' : World) : Prop where
  os : w'.os = w.os
  tape : w'.tape = w.tape
  output : w'.output = w.output
  size : w.heap.size ≤ w'.heap.size
  block : ∀ k, k < w.heap.size → ¬ S k → w'.heap[k]? = w.heap[k]?

def No : Nat → Prop := fun _ => False

theorem Fr.refl (S : Nat → Prop) (w : World) : Fr S w w := ⟨rfl, rfl, rfl, Nat.le_refl _, fun _ _ _ => rfl⟩
theorem Fr.trans {S : Nat → Prop} {a b c : World} (h : Fr S a b) (k : Fr S b c) : Fr S a c :=
  ⟨k.os.trans h.os, k.tape.trans h.tape, k.output.trans h.output, Nat.le_trans h.size k.size, fun i hi hs => (k.block i (Nat.lt_of_lt_of_le hi h.size) hs).trans (h.block i hi hs)⟩
theorem Fr.mono {S T : Nat → Prop} {a b : World} (h : Fr S a b) (hst : ∀ k, k < a.heap.size → S k → T k) : Fr T a b :=
  ⟨h.os, h.tape, h.output, h.size, fun i hi hs => h.block i hi (fun hh => hs (hst i hi hh))⟩
theorem Fr.of_below {S : Nat → Prop} {a b : World} (h : Below a.heap.size a b) : Fr S a b := ⟨h.os, h.tape, h.output, h.size, fun i hi _ => h.block i hi⟩
theorem Fr.below {a b : World} (h : Fr No a b) : Below a.heap.size a b := ⟨h.os, h.tape, h.output, h.size, fun i hi => h.block i hi id⟩
theorem Fr.alloc {S : Nat → Prop} {a w : World} (h : Fr S a w) (o : Obj) : Fr S a (w.alloc o) :=
  h.trans ⟨rfl, rfl, rfl, by simp, fun k hk _ => Below.heap_alloc _ _ _ hk⟩
theorem Fr.drew {S : Nat → Prop} {a w : World} (h : Fr S a w) : Fr S a w.drew := ⟨h.os, h.tape, h.output, h.size, h.block⟩
theorem Fr.drewN {S : Nat → Prop} {a w : World} (h : Fr S a w) (n : Nat) : Fr S a (w.drewN n) := ⟨h.os, h.tape, h.output, h.size, h.block⟩
theorem Fr.setCell {S : Nat → Prop} {a w : World} (h : Fr S a w) {p : Addr} (hp : a.heap.size ≤ p.block ∨ S p.block) (u : Value) : Fr S a (w.setCell p u) :=
  ⟨h.os, h.tape, h.output, by simpa using h.size, fun k hk hs => by
    rw [Below.heap_setCell _ _ _ _ (by rintro rfl; rcases hp with hp | hp; · omega
                                       · exact hs hp)]
    exact h.block k hk hs⟩
theorem Fr.cell {S : Nat → Prop} {w w' : World} (h : Fr S w w') {a : Addr} {v : Value} (hc : w.cell? a = some v) (hs : ¬ S a.block) : w'.cell? a = some v := by
  rw [World.cell?_of_block (w := w) (h.block a.block (World.block_lt_of_cell? w a hc) hs)]; exact hc
theorem Fr.frozen {S : Nat → Prop} {w w' : World} (h : Fr S w w') {a : Addr} {v : Value} (hc : w.cell? a = some v) (hs : ¬ S a.block) : w'.frozen? a = w.frozen? a :=
  World.frozen?_of_block (w := w) (h.block a.block (World.block_lt_of_cell? w a hc) hs)
theorem Fr.cells {S : Nat → Prop} {w w' : World} (h : Fr S w w') {b off : Nat} {vs : List Value} (hc : CellsAt w b off vs) (hs : ¬ S b) : CellsAt w' b off vs :=
  fun j v hj => h.cell (hc j v hj) hs

/-- cells that may be written -/
def Open (w : World) (b off n : Nat) : Prop := ∀ j, j < n → w.frozen? ⟨b, off + j, none⟩ = false

theorem Fr.opened {S : Nat → Prop} {w w' : World} (h : Fr S w w') {b off n : Nat} (hb : b < w.heap.size) (hc : Open w b off n) (hs : ¬ S b) : Open w' b off n :=
  fun j hj => by rw [World.frozen?_of_block (w := w) (h.block b hb hs)]; exact hc j hj

/-- a region, and where its bytes lie -/
structure HReg where
  r : Reg
  g : Nat
  cap : Nat

instance : Inhabited HReg := ⟨⟨⟨0, [], false⟩, 0, 0⟩⟩

def HReg.cells (x : HReg) : List Value := [.int .u64 x.r.base, .slice (some ⟨x.g, 0, none⟩) x.r.data.length x.cap, .bool x.r.free]

def flat (l : List HReg) : List Value := l.flatMap HReg.cells

theorem flat_length (l : List HReg) : (flat l).length = l.length * 3 := by
  induction l with
  | nil => rfl
  | cons x l ih => simp only [flat, List.flatMap_cons, List.length_append, HReg.cells, List.length_cons, List.length_nil] at *; omega

theorem flat_get (l : List HReg) (i c : Nat) (hi : i < l.length) (hc : c < 3) : (flat l)[i * 3 + c]? = some (l[i].cells[c]'(by simpa [HReg.cells] using hc)) := by
  induction l generalizing i with
  | nil => simp at hi
  | cons x l ih =>
    simp only [flat, List.flatMap_cons]
    cases i with
    | zero =>
      rw [List.getElem?_append_left (by simp [HReg.cells]; omega)]
      simp only [Nat.zero_mul, Nat.zero_add, List.getElem_cons_zero]
      exact List.getElem?_eq_getElem _
    | succ i =>
      rw [List.getElem?_append_right (by simp [HReg.cells]; omega)]
      have := ih i (by simpa using hi)
      simp only [flat] at this
      rw [show (i + 1) * 3 + c - x.cells.length = i * 3 + c by simp [HReg.cells]; omega, this]
      simp

/-- a region's bytes stand in its own block, and may be written there -/
structure HReg.here (w : World) (x : HReg) : Prop where
  bytes : CellsAt w x.g 0 (u8s x.r.data)
  opened : Open w x.g 0 x.r.data.length
  cap : x.r.data.length ≤ x.cap

/-- the list of regions stands at a slice's value -/
def ListAt (w : World) (v : Value) (l : List HReg) : Prop :=
  (l = [] ∧ v = .slice none 0 0) ∨ ∃ bl cap, v = .slice (some ⟨bl, 0, none⟩) l.length cap ∧ bl < w.heap.size ∧ CellsAt w bl 0 (flat l) ∧ Open w bl 0 (l.length * 3) ∧ ∀ x ∈ l, x.g ≠ bl

/-- a memory behind a pointer to block b: v, the list of its regions, stands as l says; all its blocks are of S -/
structure MemL (w : World) (b : Nat) (v : Value) (l : List HReg) (S : Nat → Prop) : Prop where
  wf : WF (l.map (·.r))
  made : w.cell? ⟨b, 0, none⟩ = some (.bool true)
  cell : w.cell? ⟨b, 1, none⟩ = some v
  list : ListAt w v l
  here : ∀ x ∈ l, x.here w
  ne : ∀ x ∈ l, x.g ≠ b
  inS : ∀ x ∈ l, S x.g
  nodup : (l.map (·.g)).Nodup
  vne : v.ownBlock ≠ some b
  vS : ∀ k, v.ownBlock = some k → S k
  own : S b

def MemAt (w : World) (b : Nat) (m : List Reg) (S : Nat → Prop) : Prop := ∃ v l, l.map (·.r) = m ∧ MemL w b v l S

theorem HReg.here.fr {S : Nat → Prop} {w w' : World} {x : HReg} (h : x.here w) (hf : Fr S w w') (hn : ¬ S x.g) (hp : 0 < x.r.data.length) : x.here w' := by
  have hb : x.g < w.heap.size := World.block_lt_of_cell? w ⟨x.g, 0 + 0, none⟩ (h.bytes 0 _ (List.getElem?_eq_getElem (by simpa using hp)))
  exact ⟨hf.cells h.bytes hn, hf.opened hb h.opened hn, h.cap⟩

theorem ListAt.fr {S : Nat → Prop} {w w' : World} {v : Value} {l : List HReg} (h : ListAt w v l) (hf : Fr S w w') (hn : ∀ k, v.ownBlock = some k → ¬ S k) : ListAt w' v l := by
  rcases h with h | ⟨bl, cap, rfl, hlt, hc, ho, hne⟩
  · exact .inl h
  · have := hn bl rfl
    exact .inr ⟨bl, cap, rfl, by have := hf.size; omega, hf.cells hc this, hf.opened hlt ho this, hne⟩

/-- a memory stays where only other blocks turn -/
theorem MemL.fr {S T : Nat → Prop} {w w' : World} {b : Nat} {v : Value} {l : List HReg} (h : MemL w b v l S) (hf : Fr T w w') (hn : ∀ k, S k → ¬ T k) : MemL w' b v l S where
  wf := h.wf
  made := hf.cell h.made (hn _ h.own)
  cell := hf.cell h.cell (hn _ h.own)
  list := h.list.fr hf fun k hk => hn k (h.vS k hk)
  here := fun x hx => (h.here x hx).fr hf (hn _ (h.inS x hx)) (h.wf.ok x.r (List.mem_map_of_mem hx)).some
  ne := h.ne
  inS := h.inS
  nodup := h.nodup
  vne := h.vne
  vS := h.vS
  own := h.own

theorem MemAt.fr {S T : Nat → Prop} {w w' : World} {b : Nat} {m : List Reg} (h : MemAt w b m S) (hf : Fr T w w') (hn : ∀ k, S k → ¬ T k) : MemAt w' b m S := by
  obtain ⟨v, l, e, h⟩ := h
  exact ⟨v, l, e, h.fr hf hn⟩

theorem MemL.wide {S T : Nat → Prop} {w : World} {b : Nat} {v : Value} {l : List HReg} (h : MemL w b v l S) (hn : ∀ k, S k → T k) : MemL w b v l T :=
  ⟨h.wf, h.made, h.cell, h.list, h.here, h.ne, fun x hx => hn _ (h.inS x hx), h.nodup, h.vne, fun k hk => hn _ (h.vS k hk), hn _ h.own⟩

theorem MemL.lt {S : Nat → Prop} {w : World} {b : Nat} {v : Value} {l : List HReg} (h : MemL w b v l S) : b < w.heap.size := World.block_lt_of_cell? w _ h.made

/-- the cells of the region i -/
theorem ListAt.reg {w : World} {v : Value} {l : List HReg} (h : ListAt w v l) (i : Nat) (hi : i < l.length) :
    ∃ bl cap, v = .slice (some ⟨bl, 0, none⟩) l.length cap ∧ bl < w.heap.size ∧ w.cell? ⟨bl, i * 3, none⟩ = some (.int .u64 l[i].r.base) ∧
      w.cell? ⟨bl, i * 3 + 1, none⟩ = some (.slice (some ⟨l[i].g, 0, none⟩) l[i].r.data.length l[i].cap) ∧ w.cell? ⟨bl, i * 3 + 2, none⟩ = some (.bool l[i].r.free) := by
  rcases h with ⟨rfl, _⟩ | ⟨bl, cap, rfl, hlt, hc, ho, hne⟩
  · simp at hi
  · refine ⟨bl, cap, rfl, hlt, ?_, ?_, ?_⟩
    · have := hc (i * 3 + 0) _ (flat_get l i 0 hi (by omega))
      simpa [HReg.cells] using this
    · have := hc (i * 3 + 1) _ (flat_get l i 1 hi (by omega))
      simpa [HReg.cells] using this
    · have := hc (i * 3 + 2) _ (flat_get l i 2 hi (by omega))
      simpa [HReg.cells] using this


theorem Fr.setCells {S : Nat → Prop} {a w : World} (h : Fr S a w) {b : Nat} (hp : a.heap.size ≤ b ∨ S b) (o : Nat) (vs : List Value) : Fr S a (w.setCells b o vs) := by
  obtain ⟨h1, h2, h3⟩ := rest_setCells b vs o w
  refine ⟨h1.trans h.os, h2.trans h.tape, h3.trans h.output, by rw [size_setCells]; exact h.size, fun k hk hs => ?_⟩
  rw [heap_setCells_other _ _ _ (by rintro rfl; rcases hp with hp | hp; · omega
                                    · exact hs hp)]
  exact h.block k hk hs

/-- bytes laid into bytes -/
theorem CellsAt.put {w : World} {g : Nat} {d bs : List UInt8} (h : CellsAt w g 0 (u8s d)) (f : Nat) (hf : f + bs.length ≤ d.length) :
    CellsAt (w.setCells g f (u8s bs)) g 0 (u8s (d.take f ++ bs ++ d.drop (f + bs.length))) := by
  intro j v hj
  rw [Nat.zero_add]
  simp only [u8s, List.getElem?_map, splice_get d bs f hf, Option.map_eq_some_iff] at hj
  obtain ⟨c, hc, rfl⟩ := hj
  have old : ∀ t x, d[t]? = some x → w.cell? ⟨g, t, none⟩ = some (.int .u8 (x.toNat : Int)) := fun t x ht => by
    have := h t (.int .u8 (x.toNat : Int)) (by simp [u8s, ht])
    rwa [Nat.zero_add] at this
  by_cases h1 : j < f
  · rw [if_pos h1] at hc
    rw [World.cell?_setCells_out _ _ _ _ _ (fun _ _ => Or.inl h1), old j c hc]
  · rw [if_neg h1] at hc
    by_cases h2 : j < f + bs.length
    · rw [if_pos h2] at hc
      obtain ⟨t, rfl⟩ : ∃ t, j = f + t := ⟨j - f, by omega⟩
      rw [Nat.add_sub_cancel_left] at hc
      have ht : t < (u8s bs).length := by simp; omega
      rw [World.cell?_setCells_in g (u8s bs) f w (fun t ht => by
        have ht' : f + t < d.length := by simp at ht; omega
        rw [old (f + t) _ (List.getElem?_eq_getElem ht')]; rfl) t ht]
      have ht' : t < bs.length := by simpa using ht
      rw [List.getElem?_eq_getElem ht'] at hc
      rw [u8s_get _ _ ht', Option.some.inj hc]
    · rw [if_neg h2] at hc
      rw [World.cell?_setCells_out _ _ _ _ _ (fun _ _ => Or.inr (by simp; omega)), old j c hc]


theorem WF.same {m m' : List Reg} (h : WF m) (hl : m'.length = m.length) (hs : ∀ i (h : i < m.length) (h' : i < m'.length), m'[i].base = m[i].base ∧ m'[i].data.length = m[i].data.length) : WF m' where
  ok := by
    intro r hr
    obtain ⟨i, hi, rfl⟩ := List.getElem_of_mem hr
    have o := h.ok _ (List.getElem_mem (show i < m.length by omega))
    obtain ⟨h1, h2⟩ := hs i (by omega) hi
    have o3 := o.high
    unfold Reg.len at o3
    exact ⟨by rw [h1]; exact o.low, by rw [h2]; exact o.some, by unfold Reg.len; rw [h1, h2]; exact o3, by rw [h2]; exact o.small⟩
  apart := by
    rw [List.pairwise_iff_getElem]
    intro i j hi hj hij
    obtain ⟨h1, h2⟩ := hs i (by omega) hi
    obtain ⟨h3, h4⟩ := hs j (by omega) hj
    have := List.pairwise_iff_getElem.1 h.apart i j (by omega) (by omega) hij
    unfold Reg.len at this ⊢
    rw [h1, h2, h3]
    exact this
  many := by rw [hl]; exact h.many

def HReg.lay (x : HReg) (f : Nat) (bs : List UInt8) : HReg := { x with r := { x.r with data := x.r.data.take f ++ bs ++ x.r.data.drop (f + bs.length) } }

theorem HReg.lay_length (x : HReg) (f : Nat) (bs : List UInt8) (hf : f + bs.length ≤ x.r.data.length) : (x.lay f bs).r.data.length = x.r.data.length := by
  simp [HReg.lay]; omega

theorem HReg.lay_cells (x : HReg) (f : Nat) (bs : List UInt8) (hf : f + bs.length ≤ x.r.data.length) : (x.lay f bs).cells = x.cells := by
  have := x.lay_length f bs hf
  unfold HReg.cells
  rw [this]
  rfl

theorem flat_set (l : List HReg) (i : Nat) (x y : HReg) (hx : l[i]? = some x) (hc : y.cells = x.cells) : flat (l.set i y) = flat l := by
  unfold flat
  rw [List.flatMap_def, List.flatMap_def, List.map_set, hc]
  congr 1
  apply List.ext_getElem?
  intro j
  rw [List.getElem?_set]
  split
  · rename_i hij; subst hij
    split
    · simp [hx]
    · rename_i h; simp at h; simp [List.getElem?_eq_none h]
  · rfl

/-- bytes laid into a region's block: the memory with those bytes -/
theorem MemL.put {S : Nat → Prop} {w : World} {b : Nat} {v : Value} {l : List HReg} (h : MemL w b v l S) (i : Nat) (x : HReg) (hx : l[i]? = some x) (f : Nat) (bs : List UInt8) (hf : f + bs.length ≤ x.r.data.length) :
    MemL (w.setCells x.g f (u8s bs)) b v (l.set i (x.lay f bs)) S := by
  obtain ⟨hi, hxe⟩ := List.getElem?_eq_some_iff.1 hx
  have hxm : x ∈ l := by rw [← hxe]; exact List.getElem_mem hi
  have hgs : (l.set i (x.lay f bs)).map (·.g) = l.map (·.g) := by
    rw [List.map_set]
    apply List.ext_getElem?
    intro j
    rw [List.getElem?_set]
    split
    · rename_i hij; subst hij
      simp [hi, hxe, HReg.lay]
    · rfl
  have hmem : ∀ y ∈ l.set i (x.lay f bs), y = x.lay f bs ∨ ∃ j, ∃ hj : j < l.length, j ≠ i ∧ y = l[j] := by
    intro y hy
    obtain ⟨j, hj, rfl⟩ := List.getElem_of_mem hy
    rw [List.getElem_set]
    split
    · exact .inl rfl
    · rename_i hne; exact .inr ⟨j, by simpa using hj, fun e => hne e.symm, rfl⟩
  have hneg : ∀ j (hj : j < l.length), j ≠ i → l[j].g ≠ x.g := by
    intro j hj hne he
    have hnd := h.nodup
    rw [List.nodup_iff_pairwise_ne, List.pairwise_iff_getElem] at hnd
    rcases Nat.lt_or_gt_of_ne hne with hlt | hlt
    · exact hnd j i (by simpa using hj) (by simpa using hi) hlt (by simpa [hxe] using he)
    · exact hnd i j (by simpa using hi) (by simpa using hj) hlt (by simpa [hxe] using he.symm)
  have out : ∀ a : Addr, a.block ≠ x.g → (w.setCells x.g f (u8s bs)).cell? a = w.cell? a := fun a ha => World.cell?_setCells_out _ _ _ _ _ (fun hb _ => absurd hb ha)
  refine ⟨?_, ?_, ?_, ?_, ?_, ?_, ?_, ?_, h.vne, h.vS, h.own⟩
  · refine h.wf.same (by simp) (fun j hj hj' => ?_)
    simp only [List.map_set, List.getElem_set, List.getElem_map]
    split
    · rename_i hij; subst hij
      rw [hxe]
      exact ⟨rfl, x.lay_length f bs hf⟩
    · exact ⟨rfl, rfl⟩
  · rw [out _ (fun e => h.ne x hxm e.symm)]; exact h.made
  · rw [out _ (fun e => h.ne x hxm e.symm)]; exact h.cell
  · rcases h.list with ⟨rfl, _⟩ | ⟨bl, cap, rfl, hlt, hc, ho, hne⟩
    · simp at hi
    · refine .inr ⟨bl, cap, by simp, by rw [size_setCells]; exact hlt, ?_, ?_, ?_⟩
      · rw [flat_set l i x _ hx (x.lay_cells f bs hf)]
        intro j u hj
        rw [out _ (fun e => hne x hxm e.symm)]
        exact hc j u hj
      · intro j hj
        rw [World.frozen?_setCells]
        exact ho j (by simpa using hj)
      · intro y hy
        rcases hmem y hy with rfl | ⟨j, hj, _, rfl⟩
        · exact hne x hxm
        · exact hne _ (List.getElem_mem hj)
  · intro y hy
    rcases hmem y hy with rfl | ⟨j, hj, hne, rfl⟩
    · have hh := h.here x hxm
      refine ⟨hh.bytes.put f hf, fun j hj => ?_, by rw [x.lay_length f bs hf]; exact hh.cap⟩
      rw [World.frozen?_setCells]
      exact hh.opened j (by rw [x.lay_length f bs hf] at hj; exact hj)
    · have hh := h.here _ (List.getElem_mem hj)
      refine ⟨fun t u ht => ?_, fun t ht => ?_, hh.cap⟩
      · rw [out _ (hneg j hj hne)]; exact hh.bytes t u ht
      · rw [World.frozen?_setCells]; exact hh.opened t ht
  · intro y hy
    rcases hmem y hy with rfl | ⟨j, hj, _, rfl⟩
    · exact h.ne x hxm
    · exact h.ne _ (List.getElem_mem hj)
  · intro y hy
    rcases hmem y hy with rfl | ⟨j, hj, _, rfl⟩
    · exact h.inS x hxm
    · exact h.inS _ (List.getElem_mem hj)
  · rw [hgs]; exact h.nodup


/-- behind the blocks of a world -/
def From (w : World) : Nat → Prop := fun k => w.heap.size ≤ k
theorem Fr.ours {w w' : World} (h : Fr (From w) w w') : Fr No w w' := ⟨h.os, h.tape, h.output, h.size, fun k hk _ => h.block k hk (fun hh => Nat.lt_irrefl _ (Nat.lt_of_lt_of_le hk hh))⟩
theorem Fr.any {S : Nat → Prop} {w w' : World} (h : Fr No w w') : Fr S w w' := h.mono (fun _ _ h => h.elim)

end Go.Proofs.YtlinnhaodkiolaaGreatDoor

namespace Go.Proofs.YtlinnhaodkiolaaGreatDoor
open Go.RowKit

set_option maxHeartbeats 400000 in
theorem num_any (s : ByteArray) (w : World) (hs : s.size ≤ maxLen) :
    Calls Tryz.prog 45 #[.string s] w fun e w' => e = .returned (.int .u64 (leNum (s.data.toList.take 8))) ∧ w = w' := by
  unfold maxLen at hs
  go_enter Tryz.func45, Tryz.ntmps45
  go_wp2
  all_goals
    go_loop [3, 8] (fun v i => ∃ k : Nat, k ≤ 8 ∧ k ≤ s.size ∧ i = .int .i64 k ∧ v = .int .u64 (leNum (s.data.toList.take k))) (fun _ i => s.size - (intOf i).toNat)
    case atStart => exact ⟨0, by omega, by omega, rfl, rfl⟩
    case round =>
      obtain ⟨k, hk8, hks, rfl, rfl⟩ := hrel
      go_wp2
      all_goals first
        | (go_round
           case rel =>
             have h8 : k < 8 := by omega
             have hk : k < s.data.toList.length := by simpa using ‹k < s.size›
             have e1 := leNum_take s.data.toList k hk
             have hlt : leNum (s.data.toList.take k) < 256 ^ k := by
               have := leNum_lt (s.data.toList.take k)
               rwa [List.length_take, Nat.min_eq_left (by omega)] at this
             refine ⟨k + 1, by omega, by omega, by go_num, ?_⟩
             rw [e1, ← or_high _ _ k hlt (UInt8.toNat_lt _) h8]
             rfl
           case measure => simp [intOf] <;> omega)
        | (go_ret
           have : s.data.toList.take 8 = s.data.toList.take k := by
             by_cases h : k = 8
             · rw [h]
             · have hl : s.data.toList.length = s.size := by simp
               rw [List.take_of_length_le (by omega), List.take_of_length_le (by omega)]
           exact ⟨by rw [this]; rfl, rfl⟩)


set_option maxHeartbeats 400000 in
theorem bytes_bad (v n : Int) (w : World) (hn : n < 0 ∨ 8 < n) :
    Calls Tryz.prog 37 #[.int .u64 v, .int .i64 n] w fun e w' => e = .returned (.string ⟨#[]⟩) ∧ w = w' := by
  rcases hn with hn | hn
  · go_enter Tryz.func37, Tryz.ntmps37
    go_wp2
    all_goals (go_ret; exact ⟨rfl, rfl⟩)
  · have h' : ¬ n < 0 := by omega
    go_enter Tryz.func37, Tryz.ntmps37
    go_wp2
    all_goals (go_ret; exact ⟨rfl, rfl⟩)

theorem Tryz.info_u8 : (Tryz.prog.info? 5).map (fun i => (i.zero, i.size, i.bytes)) = some (some (.int .u8 0), 1, 1) := by kernel_rfl

theorem make_bytes (n : Nat) (hn : n ≤ 4294967296) (w : World) : (Instr.makeSlice 73 (.int .i64 n) (.int .i64 n)).run Tryz.prog w = .ok (.slice (some ⟨w.heap.size, 0, none⟩) n n) (w.alloc (.cells (u8s (List.replicate n 0)).toArray 5)) := by
  obtain ⟨i0, hi, hz0, hz1, hz2⟩ := info_parts Tryz.info_u8
  have h := run_make (P := Tryz.prog) w 73 5 i0 (.int .u8 0) Tryz.underlying73 hi hz0 .i64 .i64 n n (by omega) (by omega) (by rw [hz2]; omega) (by omega)
  rw [h, hz1]
  clear h hn
  simp only [Int.toNat_natCast, Nat.mul_one]
  have e : ∀ A B : Array Value, A = B → (Result.ok (Value.slice (some ⟨w.heap.size, 0, none⟩) n n) (w.alloc (.cells A 5)) : Result Value) = .ok (.slice (some ⟨w.heap.size, 0, none⟩) n n) (w.alloc (.cells B 5)) := fun A B h => by rw [h]
  refine e _ _ ?_
  apply Array.ext'
  simp [madeCells, u8s, Value.cells, Nat.mod_one]
  apply List.ext_getElem?
  intro j
  simp only [List.getElem?_replicate]
  by_cases hj : j < n <;> simp [hj]

def byteCells (n v k : Nat) : Array Value := (u8s (leBytes k v ++ List.replicate (n - k) 0)).toArray
theorem byteCells_size (n v k : Nat) (h : k ≤ n) : (byteCells n v k).size = n := by simp [byteCells]; omega
theorem byteCells_set (n v k : Nat) (h : k < n) : (byteCells n v k).setIfInBounds k (.int .u8 ((v : Int) / 2 ^ (8 * k) % 256)) = byteCells n v (k + 1) := by
  have e : ((v : Int) / 2 ^ (8 * k) % 256) = ((UInt8.ofNat (v / 256 ^ k)).toNat : Int) := by
    rw [show (256 : Nat) ^ k = 2 ^ (8 * k) by rw [Nat.pow_mul]]
    simp
  rw [e]
  apply Array.ext'
  rw [Array.toList_setIfInBounds]
  unfold byteCells
  rw [leBytes_snoc, show n - k = n - (k + 1) + 1 by omega, List.replicate_succ]
  simp [u8s, List.set_append_right]

set_option maxHeartbeats 400000 in
theorem bytes_any (v : Nat) (n : Nat) (w : World) (hv : v < 2 ^ 64) (hn : n ≤ 8) :
    Calls Tryz.prog 37 #[.int .u64 v, .int .i64 n] w fun e w' => e = .returned (.string ⟨(leBytes n v).toArray⟩) ∧ Below w.heap.size w w' := by
  have HV := Lib.hid hv; clear hv
  have h8 : ¬ 8 < n := by omega
  have hmk := make_bytes n (by omega)
  go_enter Tryz.func37, Tryz.ntmps37
  go_wp2
  go_loopw [16] (fun i wr => ∃ k : Nat, k ≤ n ∧ i = .int .i64 k ∧ wr = w.alloc (.cells (byteCells n v k) 5)) (fun i _ => n - (intOf i).toNat)
  case atStart => exact ⟨0, by omega, rfl, by simp [byteCells, leBytes]⟩
  case round =>
    obtain ⟨k, hk, rfl, rfl⟩ := hrel
    clear hmk
    have hsz := byteCells_size n v k hk
    have hfin : k = n → byteCells n v k = (u8s (leBytes n v)).toArray := fun h => by subst h; simp [byteCells]
    have hset : k < n → _ := byteCells_set n v k
    generalize byteCells n v k = C at hsz hset hfin
    have HS := Lib.hid hset; clear hset
    by_cases hlt : k < n
    · clear hfin
      go_wp2
      go_roundw
      case rel => exact ⟨k + 1, by omega, by go_num, by rw [HS.out hlt]⟩
      case measure => simp [intOf] <;> omega
    · obtain rfl : k = n := by omega
      have hcv := run_str_of_bytes (P := Tryz.prog) (w.alloc (.cells C 5)) 73 9 5 Tryz.underlying73 Tryz.underlying5 Tryz.underlying9 w.heap.size 0 k (leBytes k v) k (by simp) (by rw [hfin rfl]; exact CellsAt.new _ _ _)
      clear hfin
      go_wp2
      go_ret
      exact ⟨rfl, (Below.refl _ _).alloc (Nat.le_refl _) _⟩


theorem leNum_cons_drop (L : List UInt8) (k : Nat) (h : k < L.length) : leNum (L.drop k) = L[k].toNat + 256 * leNum (L.drop (k + 1)) := by
  rw [List.drop_eq_getElem_cons h]; rfl

theorem back_step (V b r m : Nat) (hV : V < 256 ^ 7) (hb : b < 256) (hr : r = b + 256 * V) :
    IntKind.u64.wrap (IntKind.u64.wrap ((V : Int) * 256) + IntKind.u64.wrap (b : Int)) = (r : Int) := by
  have hu : ∀ m : Int, 0 ≤ m → m < 18446744073709551616 → IntKind.u64.wrap m = m := fun m h h' => IntWalk.u64_in _ (by omega)
  have h3 : V < 72057594037927936 := by omega
  have e1 := hu ((V : Int) * 256) (by omega) (by omega)
  have e2 := hu (b : Int) (by omega) (by omega)
  rw [e1, e2, hu _ (by omega) (by omega)]
  omega

theorem one_byte (W : World) (x : Int) (h0 : 0 ≤ x) (h1 : x < 256) : (convert 73 9 (.slice (some ⟨W.heap.size, 0, none⟩) 1 1)).run Tryz.prog (W.alloc (.cells #[.int .u8 x] 5)) = .ok (.string ⟨#[UInt8.ofNat x.toNat]⟩) (W.alloc (.cells #[.int .u8 x] 5)) :=
  run_str_of_bytes _ 73 9 5 Tryz.underlying73 Tryz.underlying5 Tryz.underlying9 W.heap.size 0 1 [UInt8.ofNat x.toNat] 1 rfl (by
    have h := CellsAt.new W [.int .u8 x] 5
    have e : u8s [UInt8.ofNat x.toNat] = [.int .u8 x] := by
      simp only [u8s, List.map_cons, List.map_nil]
      have : ((UInt8.ofNat x.toNat).toNat : Int) = x := by simp; omega
      rw [this]
    rw [e]; exact h)

end Go.Proofs.YtlinnhaodkiolaaGreatDoor
