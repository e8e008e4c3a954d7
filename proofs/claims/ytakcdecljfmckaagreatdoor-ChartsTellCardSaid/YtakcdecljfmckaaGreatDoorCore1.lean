/- The lemmas that no function of the program bears: numbers as bytes, worlds that part in a set of blocks alone. No conditions. Programs as texts, without the program: what a slot is, whether it may be, its line, and how a line is read. No condition. How a text is read, without the program. No condition. firewallref02: what an opcode is. -/
import Derived.Test.YtakcdecljfmckaaGreatDoorRows
import Derived.WalkKit
import Derived.WalkSpells
import Derived.WalkLawsBesides
import Derived.Deep.QuietTactic
import Derived.BigQuiet
import Derived.Lib.Hide
import Derived.Lib.ItoaNum
set_option linter.all false
set_option linter.unusedVariables false
set_option linter.unusedSimpArgs false
namespace Go.Proofs.YtakcdecljfmckaaGreatDoor
open Go.RowKit

/-- the number whose lowest byte comes first -/
def leNum : List UInt8 → Nat
  | [] => 0
  | b :: r => b.toNat + 256 * leNum r

theorem leNum_lt (l : List UInt8) : leNum l < 256 ^ l.length := by
  induction l with
  | nil => simp [leNum]
  | cons b r ih =>
    have := b.toNat_lt
    simp only [leNum, List.length_cons, Nat.pow_succ]
    have : leNum r + 1 ≤ 256 ^ r.length := ih
    omega

theorem leNum_snoc (l : List UInt8) (b : UInt8) : leNum (l ++ [b]) = leNum l + b.toNat * 256 ^ l.length := by
  induction l with
  | nil => simp [leNum]
  | cons c r ih =>
    simp only [List.cons_append, leNum, ih, List.length_cons, Nat.pow_succ]
    rw [Nat.mul_add, ← Nat.add_assoc]
    congr 1
    rw [← Nat.mul_assoc, Nat.mul_comm 256, Nat.mul_assoc, Nat.mul_comm 256]

theorem leNum_take (l : List UInt8) (k : Nat) (h : k < l.length) : leNum (l.take (k + 1)) = leNum (l.take k) + l[k].toNat * 256 ^ k := by
  rw [List.take_succ_eq_append_getElem h, leNum_snoc, List.length_take, Nat.min_eq_left (by omega)]

/-- a number's lowest bytes, the lowest first -/
def leBytes : Nat → Nat → List UInt8
  | 0, _ => []
  | n + 1, v => UInt8.ofNat v :: leBytes n (v / 256)

@[simp] theorem leBytes_length (n v : Nat) : (leBytes n v).length = n := by
  induction n generalizing v with
  | zero => rfl
  | succ n ih => simp [leBytes, ih]

theorem leBytes_snoc (n v : Nat) : leBytes (n + 1) v = leBytes n v ++ [UInt8.ofNat (v / 256 ^ n)] := by
  induction n generalizing v with
  | zero => simp [leBytes]
  | succ n ih =>
    rw [leBytes, ih (v / 256)]
    simp only [leBytes, List.cons_append, Nat.pow_succ, Nat.div_div_eq_div_mul, Nat.mul_comm 256]

theorem leNum_leBytes (n v : Nat) : leNum (leBytes n v) = v % 256 ^ n := by
  induction n generalizing v with
  | zero => simp [leBytes, leNum, Nat.mod_one]
  | succ n ih =>
    have h2 : (UInt8.ofNat v).toNat = v % 256 := by simp
    simp only [leBytes, leNum, ih, Nat.pow_succ, h2]
    rw [Nat.mul_comm (256 ^ n) 256, Nat.mod_mul]

theorem leBytes_leNum (l : List UInt8) : leBytes l.length (leNum l) = l := by
  induction l with
  | nil => rfl
  | cons b r ih =>
    have hb := b.toNat_lt
    simp only [List.length_cons, leBytes, leNum]
    rw [show (b.toNat + 256 * leNum r) / 256 = leNum r by omega, ih]
    congr 1
    apply UInt8.toNat.inj
    simp

/-- '|' of two numbers that have no bit in common, and a shift by bytes -/
theorem or_high (a b k : Nat) (ha : a < 256 ^ k) (hb : b < 256) (hk : k < 8) :
    bits .or .u64 (a : Int) (IntKind.u64.wrap (IntKind.u64.wrap (b : Int) * 2 ^ (8 * k))) = ((a + b * 256 ^ k : Nat) : Int) := by
  have e : (256 : Nat) ^ k = 2 ^ (8 * k) := by rw [Nat.pow_mul]
  have hle : (2 : Nat) ^ (8 * k) * 256 ≤ 2 ^ 64 := by
    rw [show (256 : Nat) = 2 ^ 8 by decide, ← Nat.pow_add]; exact Nat.pow_le_pow_right (by decide) (by omega)
  have hbk : b * 2 ^ (8 * k) < 2 ^ 64 := Nat.lt_of_lt_of_le ((Nat.mul_lt_mul_right (Nat.two_pow_pos _)).2 hb) (by rw [Nat.mul_comm]; exact hle)
  have ha' : a < 2 ^ 64 := by
    rw [e] at ha
    have : (2 : Nat) ^ (8 * k) * 1 ≤ 2 ^ (8 * k) * 256 := Nat.mul_le_mul_left _ (by decide)
    omega
  have hu : ∀ n : Nat, n < 2 ^ 64 → IntKind.u64.wrap (n : Int) = n := fun n h => IntWalk.u64_in _ (by omega)
  rw [hu b (by omega), show ((b : Int) * 2 ^ (8 * k)) = ((b * 2 ^ (8 * k) : Nat) : Int) by push_cast; rfl, hu _ hbk]
  rw [(bits_nat .u64 64 (by decide) (fun n h0 h1 => IntWalk.u64_in _ (by omega)) a (b * 2 ^ (8 * k)) ha' hbk).2]
  rw [e, Nat.or_comm, ← Nat.shiftLeft_eq, ← Nat.shiftLeft_add_eq_or_of_lt (by rw [← e]; exact ha), Nat.add_comm]
  

theorem bytesToString_fold (l : List UInt8) (s : ByteArray) : (l.map fun b => (b.toNat : Int)).foldl (fun r n => r.push (UInt8.ofNat n.toNat)) s = ⟨s.data ++ l.toArray⟩ := by
  induction l generalizing s with
  | nil => simp
  | cons b r ih =>
    simp only [List.map_cons, List.foldl_cons, ih, Int.toNat_natCast]
    congr 1
    apply Array.ext'
    simp [ByteArray.push]

/-- 'v & (1<<n - 1)' -/
theorem low_bits (v n : Nat) (hn : n < 64) : bits .and .u64 (v : Int) (IntKind.u64.wrap (IntKind.u64.wrap (2 ^ n) - 1)) = ((v % 2 ^ n : Nat) : Int) := by
  have hp : 0 < 2 ^ n := Nat.two_pow_pos n
  have hlt : 2 ^ n < 2 ^ 64 := Nat.pow_lt_pow_right (by decide) hn
  have hu : ∀ m : Nat, m < 2 ^ 64 → IntKind.u64.wrap (m : Int) = m := fun m h => IntWalk.u64_in _ (by omega)
  have e1 : IntKind.u64.wrap (2 ^ n) = ((2 ^ n : Nat) : Int) := by rw [← hu _ hlt]; push_cast; rfl
  rw [e1, show (((2 ^ n : Nat) : Int) - 1) = ((2 ^ n - 1 : Nat) : Int) by omega, hu _ (by omega)]
  unfold bits
  simp only [BitVec.ofInt_natCast, BitVec.toNat_and, BitVec.toNat_ofNat]
  rw [show IntKind.u64.bits = 64 by rfl, Nat.mod_eq_of_lt (show 2 ^ n - 1 < 2 ^ 64 by omega), Nat.and_two_pow_sub_one_eq_mod, Nat.mod_mod_of_dvd _ (Nat.pow_dvd_pow 2 (by omega)), hu _ (Nat.lt_trans (Nat.mod_lt _ hp) hlt)]

/-- bytes as cells -/
def u8s (l : List UInt8) : List Value := l.map fun b => .int .u8 (b.toNat : Int)
@[simp] theorem u8s_length (l : List UInt8) : (u8s l).length = l.length := by simp [u8s]
theorem u8s_append (l m : List UInt8) : u8s (l ++ m) = u8s l ++ u8s m := by simp [u8s]
theorem u8s_get (l : List UInt8) (j : Nat) (h : j < l.length) : (u8s l)[j]'(by simpa using h) = .int .u8 (l[j].toNat : Int) := by simp [u8s]

/-- the cells from a place on -/
def CellsAt (w : World) (b off : Nat) (vs : List Value) : Prop := ∀ j v, vs[j]? = some v → w.cell? ⟨b, off + j, none⟩ = some v

theorem addr_add (b off j : Nat) : (⟨b, off, none⟩ : Addr).add j = ⟨b, off + j, none⟩ := by unfold Addr.add; split <;> simp_all

theorem CellsAt.run {P : Program} {w : World} {b off : Nat} {vs : List Value} (h : CellsAt w b off vs) : (loadCells ⟨b, off, none⟩ vs.length).run P w = .ok vs.toArray w :=
  run_loadCells_list w _ vs fun j v hj => by rw [addr_add]; exact h j v hj

/-- 'string(b)' of bytes that stand in memory -/
theorem run_str_of_bytes {P : Program} (w : World) (src dst e : TypeId) (hs : P.underlying src = some (.slice e)) (he : P.underlying e = some (.int .u8)) (hd : P.underlying dst = some .string)
    (b off cap : Nat) (l : List UInt8) (len : Nat) (hl : l.length = len) (hc : CellsAt w b off (u8s l)) :
    (convert src dst (.slice (some ⟨b, off, none⟩) len cap)).run P w = .ok (.string ⟨l.toArray⟩) w := by
  subst hl
  have h1 := hc.run (P := P)
  rw [u8s_length] at h1
  have h := run_bytesToString (P := P) w ⟨b, off, none⟩ l.length cap (l.map fun b => (b.toNat : Int)) (by rw [h1]; simp [u8s, Function.comp_def])
  rw [bytesToString_fold] at h
  rw [run_convert_bytes_string w src dst e (some ⟨b, off, none⟩) l.length cap hs he hd, h]
  simp [ByteArray.empty, ByteArray.emptyWithCapacity]
  rfl

theorem CellsAt.new (w : World) (vs : List Value) (t : TypeId) : CellsAt (w.alloc (.cells vs.toArray t)) w.heap.size 0 vs := by
  intro j v h
  rw [Nat.zero_add, World.cell?_alloc_new]
  simpa using h

theorem u8s_one (l : List UInt8) : ∀ v ∈ u8s l, v.oneCell' = true := by
  intro v hv
  obtain ⟨b, _, rfl⟩ := List.mem_map.1 hv
  rfl

/-- 'copy(b, s)' where all of b is written -/
theorem run_copy_str {P : Program} (w : World) (dT sT ty elem : TypeId) (b o dCap : Nat) (s : List UInt8) (k : Nat) (hk : s.length = k)
    (hu : P.underlying dT = some (.slice elem)) (hs : (P.info? elem).map (·.size) = some 1)
    (hc : ∀ j, j < k → (w.cell? ⟨b, o + j, none⟩).isSome = true) (hf : ∀ j, j < k → w.frozen? ⟨b, o + j, none⟩ = false) :
    (Builtin.copy_ #[dT, sT] ty #[.slice (some ⟨b, o, none⟩) k dCap, .string ⟨s.toArray⟩]).run P w = .ok (goInt k) (w.setCells b o (u8s s)) := by
  subst hk
  have hst := run_storeCells_cells (P := P) b o (u8s s) 0 w (by simpa using hc) (by simpa using hf) (u8s_one s)
  have hsz : (⟨s.toArray⟩ : ByteArray).size = s.length := by simp [ByteArray.size]
  cases hq : P.info? elem with
  | none => simp [hq] at hs
  | some i =>
    have hi : i.size = 1 := by simpa [hq] using hs
    have htk : List.take s.length (List.map (fun b => Value.int .u8 (b.toNat : Int)) s) = u8s s := by
      rw [List.take_of_length_le (by simp)]; rfl
    rw [Nat.add_zero] at hst
    simp [Builtin.copy_, run_underlying hu, Builtin.lenOf, Builtin.firstCells, sizeOf, typeInfo, hq, hi, hsz, htk, hst]

theorem splice_get {α : Type} (d bs : List α) (f : Nat) (hf : f + bs.length ≤ d.length) (j : Nat) :
    (d.take f ++ bs ++ d.drop (f + bs.length))[j]? = if j < f then d[j]? else if j < f + bs.length then bs[j - f]? else d[j]? := by
  have hl : (d.take f).length = f := by rw [List.length_take]; omega
  by_cases h1 : j < f
  · rw [if_pos h1, List.append_assoc, List.getElem?_append_left (by omega), List.getElem?_take, if_pos h1]
  · rw [if_neg h1, List.append_assoc, List.getElem?_append_right (by omega), hl]
    by_cases h2 : j < f + bs.length
    · rw [if_pos h2, List.getElem?_append_left (by omega)]
    · rw [if_neg h2, List.getElem?_append_right (by omega), List.getElem?_drop]
      congr 1
      omega

theorem Below_setCells (B : Nat) (w : World) (b : Nat) : ∀ (vs : List Value) (o : Nat), B ≤ b → Below B w (w.setCells b o vs)
  | [], _, _ => Below.refl _ _
  | v :: r, o, h => ((Below.refl B w).setCell h v).trans (Below_setCells B (w.setCell ⟨b, o, none⟩ v) b r (o + 1) h)

theorem heap_setCells_other (w : World) (b k : Nat) (hk : k ≠ b) : ∀ (vs : List Value) (o : Nat), (w.setCells b o vs).heap[k]? = w.heap[k]?
  | [], _ => rfl
  | v :: r, o => by
    rw [World.setCells, heap_setCells_other (w.setCell ⟨b, o, none⟩ v) b k hk r (o + 1), Below.heap_setCell _ _ _ _ hk]

theorem size_setCells (b : Nat) : ∀ (vs : List Value) (o : Nat) (w : World), (w.setCells b o vs).heap.size = w.heap.size
  | [], _, _ => rfl
  | v :: r, o, w => by rw [World.setCells, size_setCells b r]; simp

theorem rest_setCells (b : Nat) : ∀ (vs : List Value) (o : Nat) (w : World), (w.setCells b o vs).os = w.os ∧ (w.setCells b o vs).tape = w.tape ∧ (w.setCells b o vs).output = w.output
  | [], _, _ => ⟨rfl, rfl, rfl⟩
  | v :: r, o, w => by rw [World.setCells]; exact rest_setCells b r (o + 1) _

end Go.Proofs.YtakcdecljfmckaaGreatDoor

namespace Go.Proofs.YtakcdecljfmckaaGreatDoor
open Go.RowKit

/-- a slot -/
structure Ins where
  op : Nat
  dst : Nat
  src : Nat
  off : Int
  imm : Int

theorem Ins.ext_iff' (a b : Ins) : a = b ↔ (a.op = b.op ∧ a.dst = b.dst ∧ a.src = b.src ∧ a.off = b.off ∧ a.imm = b.imm) := by
  cases a; cases b; simp
instance : DecidableEq Ins := fun a b => decidable_of_iff _ (Ins.ext_iff' a b).symm

structure Ins.ok (i : Ins) : Prop where
  op : i.op < 256
  dst : i.dst < 256
  src : i.src < 256
  off : -32768 ≤ i.off ∧ i.off < 32768
  imm : -2147483648 ≤ i.imm ∧ i.imm < 2147483648

def Ins.cells (i : Ins) : List Value := [.int .u8 i.op, .int .u8 i.dst, .int .u8 i.src, .int .i16 i.off, .int .i32 i.imm]
def Ins.agg (i : Ins) : Value := .agg #[.int .u8 i.op, .int .u8 i.dst, .int .u8 i.src, .int .i16 i.off, .int .i32 i.imm]
def iflat (l : List Ins) : List Value := l.flatMap Ins.cells

/-! ### what an opcode is -/
def arithB (op : Nat) : Bool := op % 8 == 4 || op % 8 == 7
def jumpB (op : Nat) : Bool := op % 8 == 5 || op % 8 == 6
def codeN (op : Nat) : Nat := op / 16 * 16
def regB (op : Nat) : Bool := op / 8 % 2 == 1
def loadB (op : Nat) : Bool := op == 113 || op == 105 || op == 97 || op == 121
def storeB (op : Nat) : Bool := op == 114 || op == 106 || op == 98 || op == 122
def storeRB (op : Nat) : Bool := op == 115 || op == 107 || op == 99 || op == 123
def specB (op : Nat) : Bool := jumpB op && (codeN op == 0 || codeN op == 128 || codeN op == 144)
def condB (op : Nat) : Bool := jumpB op && !specB op
def knownB (op : Nat) (inner : Bool) : Bool :=
  if arithB op then decide (codeN op ≤ 192) && !(codeN op == 128 && regB op)
  else if specB op then op % 8 == 5 && !regB op
  else if jumpB op then decide (codeN op ≤ 208)
  else op == 24 || loadB op || storeB op || storeRB op || (inner && op == 194)
def writesB (op : Nat) : Bool := arithB op || op == 24 || loadB op
def dstB (op : Nat) : Bool := writesB op || condB op || storeB op || storeRB op
def srcB (op : Nat) : Bool := ((arithB op || condB op) && regB op) || op == 24 || loadB op || storeRB op
def offB (op : Nat) : Bool := condB op || (specB op && codeN op == 0) || loadB op || storeB op || storeRB op
def immB (op : Nat) : Bool := (((arithB op && codeN op != 128) || condB op) && !regB op) || (specB op && codeN op == 128) || op == 24 || storeB op
def sizeN (op : Nat) : Nat := if op == 113 || op == 114 || op == 115 then 1 else if op == 105 || op == 106 || op == 107 then 2 else if op == 97 || op == 98 || op == 99 then 4 else if op == 121 || op == 122 || op == 123 then 8 else 0

/-- what is wrong with a slot by itself -/
def checkI (i : Ins) (inner : Bool) : Int :=
  if !knownB i.op inner then 20
  else if decide (10 < i.dst) || decide (10 < i.src) || (writesB i.op && i.dst == 10) then 22
  else if (!dstB i.op && decide (0 < i.dst)) || (!srcB i.op && decide (0 < i.src)) || (!offB i.op && i.off != 0) || (!immB i.op && i.imm != 0) || (i.op == 24 && decide (1 < i.src)) then 21
  else if arithB i.op && immB i.op && (((codeN i.op == 96 || codeN i.op == 112 || codeN i.op == 192) && (decide (i.imm < 0) || decide ((if i.op % 8 = 7 then 63 else 31) < i.imm))) || ((codeN i.op == 48 || codeN i.op == 144) && i.imm == 0)) then 23
  else 0

/-! ### numerals -/
/-- a number's digits, up to fuel of them -/
def digF : Nat → Nat → List UInt8
  | 0, _ => []
  | k + 1, n => (if n < 10 then [] else digF k (n / 10)) ++ [UInt8.ofNat (48 + n % 10)]
def decN (n : Nat) : List UInt8 := digF 20 n
def itoaN (n : Int) : List UInt8 := if n < 0 then 45 :: decN n.natAbs else decN n.toNat
def signN (n : Int) : List UInt8 := if n < 0 then itoaN n else 43 :: itoaN n
def regN (n : Nat) : List UInt8 := 114 :: decN n

theorem digF_dec : ∀ (k n : Nat), n < 10 ^ (k + 1) → digF (k + 1) n = Lib.decDigits n
  | 0, n, h => by
    have h : n < 10 := by simpa using h
    rw [Lib.decDigits, dif_pos h]
    simp [digF, h, Nat.mod_eq_of_lt h]
  | k + 1, n, h => by
    rw [Lib.decDigits]
    by_cases h10 : n < 10
    · rw [dif_pos h10]
      simp [digF, h10, Nat.mod_eq_of_lt h10]
    · rw [dif_neg h10, ← digF_dec k (n / 10) (by rw [Nat.pow_succ] at h; omega)]
      show (if n < 10 then [] else digF (k + 1) (n / 10)) ++ _ = _
      rw [if_neg h10]
theorem decN_dec {n : Nat} (h : n < 100000000000000000000) : decN n = Lib.decDigits n := digF_dec 19 n (by simpa using h)
theorem itoaN_itoa {n : Int} (h : n.natAbs < 100000000000000000000) : itoaN n = Lib.itoa n := by
  unfold itoaN Lib.itoa
  split
  · rw [decN_dec h]
  · rw [decN_dec (by omega)]

/-! ### lines -/
/-- a word of a line -/
inductive Tok where
  | lit (s : List UInt8)
  | rd
  | rs
  | imm
  | off
  | joff

def Tok.show (i : Ins) : Tok → List UInt8
  | .lit s => s
  | .rd => regN i.dst
  | .rs => regN i.src
  | .imm => itoaN i.imm
  | .off => itoaN i.off
  | .joff => signN i.off

/-- the names of arithmetic and of conditions, by the highest four bits -/
def arithN : List (List UInt8) := [[97, 100, 100], [115, 117, 98], [109, 117, 108], [100, 105, 118], [111, 114], [97, 110, 100], [108, 115, 104], [114, 115, 104], [110, 101, 103], [109, 111, 100], [120, 111, 114], [109, 111, 118], [97, 114, 115, 104]]
def jumpN : List (List UInt8) := [[], [106, 101, 113], [106, 103, 116], [106, 103, 101], [106, 115, 101, 116], [106, 110, 101], [106, 115, 103, 116], [106, 115, 103, 101], [], [], [106, 108, 116], [106, 108, 101], [106, 115, 108, 116], [106, 115, 108, 101]]
def nameN (op : Nat) : List UInt8 := if arithB op then (arithN[op / 16]?).getD [] else (jumpN[op / 16]?).getD []
def widthN (op : Nat) : List UInt8 := if op % 8 = 7 ∨ op % 8 = 5 then [54, 52] else [51, 50]

/-- the words of a slot that may be, and is no LdImm -/
def toks (op : Nat) : List Tok :=
  if op = 194 then [.lit [110, 111, 115, 112, 101, 99]]
  else if arithB op && codeN op == 128 then [.lit ([110, 101, 103] ++ widthN op), .rd]
  else if arithB op then [.lit (nameN op ++ widthN op), .rd, if regB op then .rs else .imm]
  else if specB op then (if codeN op = 0 then [.lit [106, 97], .joff] else if codeN op = 128 then [.lit [99, 97, 108, 108], .imm] else [.lit [101, 120, 105, 116]])
  else if jumpB op then [.lit (nameN op ++ widthN op), .rd, if regB op then .rs else .imm, .joff]
  else if loadB op then [.lit ([108, 100, 120] ++ decN (sizeN op)), .rd, .rs, .off]
  else if storeB op then [.lit ([115, 116] ++ decN (sizeN op)), .rd, .off, .imm]
  else [.lit ([115, 116, 120] ++ decN (sizeN op)), .rd, .off, .rs]

def joinW : List (List UInt8) → List UInt8
  | [] => []
  | [a] => a
  | a :: b :: l => a ++ 32 :: joinW (b :: l)

def lineI (i : Ins) : List UInt8 := joinW ((toks i.op).map (Tok.show i))
def rawI (i : Ins) : List UInt8 := joinW [[114, 97, 119], itoaN i.op, itoaN i.dst, itoaN i.src, itoaN i.off, itoaN i.imm]
/-- the number of two slots -/
def u32 (n : Int) : Nat := (n % 4294967296).toNat
def wideN (i j : Ins) : Nat := u32 j.imm * 4294967296 + u32 i.imm
def halfB (j : Ins) (ref : Bool) : Bool := j.op == 0 && j.dst == 0 && j.src == 0 && j.off == 0 && (j.imm == 0 || !ref)
def pairI (i j : Ins) : List UInt8 :=
  if i.src = 1 then joinW [[108, 100, 109, 97, 112], regN i.dst, itoaN i.imm] else joinW [[108, 100, 105, 109, 109], regN i.dst, decN (wideN i j)]

/-- a program's text -/
def showL : List Ins → List UInt8
  | [] => []
  | i :: l =>
    if checkI i true == 0 && i.op != 24 then lineI i ++ 10 :: showL l
    else match l with
      | [] => rawI i ++ [10]
      | j :: l' => if checkI i true == 0 && halfB j (i.src == 1) then pairI i j ++ 10 :: showL l' else rawI i ++ 10 :: showL (j :: l')

end Go.Proofs.YtakcdecljfmckaaGreatDoor

namespace Go.Proofs.YtakcdecljfmckaaGreatDoor
open Go.RowKit

/-- how many bytes the character in front has; 0: there is none that is UTF-8 -/
def lead (c : UInt8) : Nat := if c < 128 then 1 else if 194 ≤ c ∧ c < 224 then 2 else if 224 ≤ c ∧ c < 240 then 3 else if 240 ≤ c ∧ c < 245 then 4 else 0
def least2 (c : UInt8) : UInt8 := if c = 224 then 160 else if c = 240 then 144 else 128
def most2 (c : UInt8) : UInt8 := if c = 237 then 159 else if c = 244 then 143 else 191
def contB (t : List UInt8) (k : Nat) : Bool := match t[k]? with | some a => decide (128 ≤ a ∧ a ≤ 191) | none => false
def charN (s : List UInt8) : Nat :=
  match s with
  | [] => 0
  | c :: t =>
    if lead c ≤ 1 then lead c
    else if t.length + 1 < lead c then 0
    else match t with
      | [] => 0
      | a :: _ => if a < least2 c ∨ most2 c < a then 0 else if lead c = 2 then 2 else if !contB t 1 then 0 else if lead c = 3 then 3 else if !contB t 2 then 0 else 4

def blankB (c : List UInt8) : Bool := c == [9] || c == [13] || c == [32] || c == [194, 160] || c == [226, 128, 131]
def pushW (word : List UInt8) (acc : List (List UInt8)) : List (List UInt8) := if word = [] then acc else acc ++ [word]

def wordsF : Nat → List UInt8 → Bool → List UInt8 → List (List UInt8) → Option (List (List UInt8))
  | 0, s, _, word, acc => if s = [] then some (pushW word acc) else none
  | k + 1, s, over, word, acc =>
    if s = [] then some (pushW word acc)
    else if charN s = 0 then none
    else
      if over || s.take (charN s) == [59] || blankB (s.take (charN s)) then wordsF k (s.drop (charN s)) (over || s.take (charN s) == [59]) [] (pushW word acc)
      else wordsF k (s.drop (charN s)) false (word ++ s.take (charN s)) acc
/-- a line's words; none: it is no UTF-8 -/
def wordsL (s : List UInt8) : Option (List (List UInt8)) := wordsF s.length s false [] []

def digV : List UInt8 → Nat → Option Nat
  | [], n => some n
  | c :: t, n => if c < 48 ∨ 57 < c then none else if (18446744073709551615 - (c.toNat - 48)) / 10 < n then none else digV t (n * 10 + (c.toNat - 48))
def digL (s : List UInt8) : Option Nat := if s = [] then none else digV s 0
/-- a word's number, with its sign -/
def numW (s : List UInt8) : Option (Bool × Nat) :=
  if 3 < s.length ∧ s.take 3 = [226, 136, 146] then (digL (s.drop 3)).map (true, ·)
  else if 1 < s.length ∧ s.head? = some 45 then (digL (s.drop 1)).map (true, ·)
  else if 1 < s.length ∧ s.head? = some 43 then (digL (s.drop 1)).map (false, ·)
  else (digL s).map (false, ·)
/-- it lies from -lo up to hi -/
def parseI (s : List UInt8) (lo hi : Nat) : Option Int :=
  match numW s with
  | none => none
  | some (true, n) => if n ≤ lo then some (-(n : Int)) else none
  | some (false, n) => if n ≤ hi then some n else none
def regW (s : List UInt8) : Option Nat := (List.range 11).find? fun n => s == regN n

inductive Kd where | d | s | o | v | e
def fieldI (i : Ins) (k : Kd) (w : List UInt8) : Option Ins :=
  match k with
  | .d => (regW w).map fun r => { i with dst := r }
  | .s => (regW w).map fun r => { i with src := r }
  | .o => (parseI w 32768 32767).map fun x => { i with off := x }
  | .v => (parseI w 2147483648 2147483647).map fun x => { i with imm := x }
  | .e => match regW w with
    | some r => some { i with src := r, op := i.op + 8 }
    | none => (parseI w 2147483648 2147483647).map fun x => { i with imm := x }
def fieldsI : Ins → List Kd → List (List UInt8) → Option Ins
  | i, [], [] => some i
  | i, k :: ks, w :: ws => (fieldI i k w).bind fun j => fieldsI j ks ws
  | _, _, _ => none
/-- the first word of an opcode without FromReg, and what stands behind it -/
def table (op : Nat) : Option (List UInt8 × List Kd) :=
  if op = 194 then some ([110, 111, 115, 112, 101, 99], [])
  else if op = 149 then some ([101, 120, 105, 116], [])
  else if op = 133 then some ([99, 97, 108, 108], [.v])
  else if op = 5 then some ([106, 97], [.o])
  else if loadB op then some ([108, 100, 120] ++ decN (sizeN op), [.d, .s, .o])
  else if storeB op then some ([115, 116] ++ decN (sizeN op), [.d, .o, .v])
  else if storeRB op then some ([115, 116, 120] ++ decN (sizeN op), [.d, .o, .s])
  else if regB op || !(arithB op || jumpB op) || nameN op == [] then none
  else some (nameN op ++ widthN op, if jumpB op then [.d, .e, .o] else if codeN op = 128 then [.d] else [.d, .e])
def kindsOf (op : Nat) : List Kd := match table op with | some x => x.2 | none => []
def hitB (first : List UInt8) (op : Nat) : Bool := match table op with | some x => x.1 == first | none => false
def s32 (n : Nat) : Int := if n < 2147483648 then n else (n : Int) - 4294967296
/-- the slots of a line's words -/
def lineW : List (List UInt8) → Option (List Ins)
  | [] => none
  | first :: rest =>
    if first = [114, 97, 119] then
      match rest with
      | [a, b, c, o, v] => (parseI a 0 255).bind fun x => (parseI b 0 255).bind fun y => (parseI c 0 255).bind fun z => (fieldsI ⟨x.toNat, y.toNat, z.toNat, 0, 0⟩ [.o, .v] [o, v]).map fun i => [i]
      | _ => none
    else if first = [108, 100, 105, 109, 109] then
      match rest with
      | [a, b] => (regW a).bind fun r => (parseI b 0 18446744073709551615).map fun n => [⟨24, r, 0, 0, s32 (n.toNat % 4294967296)⟩, ⟨0, 0, 0, 0, s32 (n.toNat / 4294967296)⟩]
      | _ => none
    else if first = [108, 100, 109, 97, 112] then (fieldsI ⟨24, 0, 1, 0, 0⟩ [.d, .v] rest).map fun i => [i, ⟨0, 0, 0, 0, 0⟩]
    else match (List.range 256).find? (hitB first) with
      | none => none
      | some op => (fieldsI ⟨op, 0, 0, 0, 0⟩ (kindsOf op) rest).map fun i => [i]

/-- a text's lines -/
def splitF : List UInt8 → List UInt8 → List (List UInt8)
  | [], cur => [cur]
  | c :: s, cur => if c = 10 then cur :: splitF s [] else splitF s (cur ++ [c])
def splitL (s : List UInt8) : List (List UInt8) := splitF s []

def slotsL (t : List UInt8) : Option (List Ins) := (wordsL t).bind fun ws => if ws = [] then some [] else lineW ws
def readF : List (List UInt8) → Nat → List Ins → List Ins × Nat × Int
  | [], _, acc => (acc, 0, 0)
  | t :: r, a, acc =>
    match slotsL t with
    | none => ([], a, 10)
    | some more => if 64 < (acc ++ more).length then ([], a, 3) else readF r (a + 1) (acc ++ more)
/-- a text's program; the line that is wrong; the error -/
def readS (s : List UInt8) : List Ins × Nat × Int := if 4000 < s.length then ([], 0, 3) else readF (splitL s) 1 []

end Go.Proofs.YtakcdecljfmckaaGreatDoor

namespace Go.Proofs.YtakcdecljfmckaaGreatDoor
open Go.RowKit

theorem beq_nat (a b : Nat) : ((a : Int) == (b : Int)) = (a == b) := by
  rw [Bool.eq_iff_iff]; simp; omega
theorem beq_mod (a k c : Nat) : (((a : Int) % (k : Int)) == (c : Int)) = (a % k == c) := by
  rw [← beq_nat]; rfl

set_option maxRecDepth 100000 in
theorem arith_any (op : Nat) (h : op < 256) (w : World) : Calls Tryz.prog 111 #[.int .u8 op] w fun e w' => e = .returned (.bool (arithB op)) ∧ w = w' := by
  have q1 : ((op : Int) % 8 == 4) = (op % 8 == 4) := beq_mod op 8 4
  have q2 : ((op : Int) % 8 == 7) = (op % 8 == 7) := beq_mod op 8 7
  unfold arithB
  generalize (op % 8 == 4) = b1 at *
  generalize (op % 8 == 7) = b2 at *
  clear h
  cases b1
  all_goals go_enter Tryz.func111, Tryz.ntmps111
  all_goals go_wp2_with fail
  all_goals go_ret
  all_goals exact ⟨rfl, rfl⟩
set_option maxRecDepth 100000 in
theorem jump_any (op : Nat) (h : op < 256) (w : World) : Calls Tryz.prog 82 #[.int .u8 op] w fun e w' => e = .returned (.bool (jumpB op)) ∧ w = w' := by
  have q1 : ((op : Int) % 8 == 5) = (op % 8 == 5) := beq_mod op 8 5
  have q2 : ((op : Int) % 8 == 6) = (op % 8 == 6) := beq_mod op 8 6
  unfold jumpB
  generalize (op % 8 == 5) = b1 at *
  generalize (op % 8 == 6) = b2 at *
  clear h
  cases b1
  all_goals go_enter Tryz.func82, Tryz.ntmps82
  all_goals go_wp2_with fail
  all_goals go_ret
  all_goals exact ⟨rfl, rfl⟩
set_option maxRecDepth 100000 in
theorem code_any (op : Nat) (h : op < 256) (w : World) : Calls Tryz.prog 83 #[.int .u8 op] w fun e w' => e = .returned (.int .i64 (codeN op)) ∧ w = w' := by
  have f1 : IntKind.i64.wrap (op : Int) = op := IntWalk.i64_in _ (by omega)
  have f2 : (op : Int).tdiv 16 = ((op / 16 : Nat) : Int) := by rw [Int.tdiv_eq_ediv_of_nonneg (by omega)]; omega
  have f2' : (op : Int) / 16 = ((op / 16 : Nat) : Int) := by omega
  have f3 : IntKind.i64.wrap (((op / 16 : Nat) : Int)) = ((op / 16 : Nat) : Int) := IntWalk.i64_in _ (by omega)
  have f4 : IntKind.i64.wrap (((op / 16 : Nat) : Int) * 16) = ((op / 16 : Nat) : Int) * 16 := IntWalk.i64_in _ (by omega)
  have e : ((codeN op : Nat) : Int) = ((op / 16 : Nat) : Int) * 16 := by unfold codeN; omega
  rw [e]
  generalize op / 16 = k at *
  clear h e
  go_enter Tryz.func83, Tryz.ntmps83
  go_wp2_with fail
  go_ret
  exact ⟨rfl, rfl⟩
set_option maxRecDepth 100000 in
theorem regb_any (op : Nat) (h : op < 256) (w : World) : Calls Tryz.prog 116 #[.int .u8 op] w fun e w' => e = .returned (.bool (regB op)) ∧ w = w' := by
  have f2 : (op : Int).tdiv 8 = ((op / 8 : Nat) : Int) := by rw [Int.tdiv_eq_ediv_of_nonneg (by omega)]; omega
  have f2' : (op : Int) / 8 = ((op / 8 : Nat) : Int) := by omega
  have q : (((op / 8 : Nat) : Int) % 2 == 1) = (op / 8 % 2 == 1) := beq_mod (op / 8) 2 1
  unfold regB
  generalize (op / 8 % 2 == 1) = b at *
  generalize op / 8 = k at *
  clear h
  go_enter Tryz.func116, Tryz.ntmps116
  go_wp2_with fail
  go_ret
  exact ⟨rfl, rfl⟩
set_option maxRecDepth 100000 in
theorem load_any (op : Nat) (h : op < 256) (w : World) : Calls Tryz.prog 112 #[.int .u8 op] w fun e w' => e = .returned (.bool (loadB op)) ∧ w = w' := by
  have q1 : ((op : Int) == 113) = (op == 113) := beq_nat op 113
  have q2 : ((op : Int) == 105) = (op == 105) := beq_nat op 105
  have q3 : ((op : Int) == 97) = (op == 97) := beq_nat op 97
  have q4 : ((op : Int) == 121) = (op == 121) := beq_nat op 121
  unfold loadB
  generalize (op == 113) = b1 at *
  generalize (op == 105) = b2 at *
  generalize (op == 97) = b3 at *
  generalize (op == 121) = b4 at *
  clear h
  cases b1 <;> cases b2 <;> cases b3
  all_goals go_enter Tryz.func112, Tryz.ntmps112
  all_goals go_wp2_with fail
  all_goals go_ret
  all_goals exact ⟨rfl, rfl⟩
set_option maxRecDepth 100000 in
theorem store_any (op : Nat) (h : op < 256) (w : World) : Calls Tryz.prog 114 #[.int .u8 op] w fun e w' => e = .returned (.bool (storeB op)) ∧ w = w' := by
  have q1 : ((op : Int) == 114) = (op == 114) := beq_nat op 114
  have q2 : ((op : Int) == 106) = (op == 106) := beq_nat op 106
  have q3 : ((op : Int) == 98) = (op == 98) := beq_nat op 98
  have q4 : ((op : Int) == 122) = (op == 122) := beq_nat op 122
  unfold storeB
  generalize (op == 114) = b1 at *
  generalize (op == 106) = b2 at *
  generalize (op == 98) = b3 at *
  generalize (op == 122) = b4 at *
  clear h
  cases b1 <;> cases b2 <;> cases b3
  all_goals go_enter Tryz.func114, Tryz.ntmps114
  all_goals go_wp2_with fail
  all_goals go_ret
  all_goals exact ⟨rfl, rfl⟩
set_option maxRecDepth 100000 in
theorem storer_any (op : Nat) (h : op < 256) (w : World) : Calls Tryz.prog 115 #[.int .u8 op] w fun e w' => e = .returned (.bool (storeRB op)) ∧ w = w' := by
  have q1 : ((op : Int) == 115) = (op == 115) := beq_nat op 115
  have q2 : ((op : Int) == 107) = (op == 107) := beq_nat op 107
  have q3 : ((op : Int) == 99) = (op == 99) := beq_nat op 99
  have q4 : ((op : Int) == 123) = (op == 123) := beq_nat op 123
  unfold storeRB
  generalize (op == 115) = b1 at *
  generalize (op == 107) = b2 at *
  generalize (op == 99) = b3 at *
  generalize (op == 123) = b4 at *
  clear h
  cases b1 <;> cases b2 <;> cases b3
  all_goals go_enter Tryz.func115, Tryz.ntmps115
  all_goals go_wp2_with fail
  all_goals go_ret
  all_goals exact ⟨rfl, rfl⟩
set_option maxRecDepth 100000 in
theorem special_any (op : Nat) (h : op < 256) (w : World) : Calls Tryz.prog 113 #[.int .u8 op] w fun e w' => e = .returned (.bool (specB op)) ∧ w = w' := by
  have HJ : Hid (∀ W, Calls Tryz.prog 82 #[.int .u8 op] W fun e w' => e = .returned (.bool (jumpB op)) ∧ W = w') := fun W => jump_any op h W
  have HC : Hid (∀ W, Calls Tryz.prog 83 #[.int .u8 op] W fun e w' => e = .returned (.int .i64 (codeN op)) ∧ W = w') := fun W => code_any op h W
  have q1 : ((codeN op : Int) == 0) = (codeN op == 0) := beq_nat (codeN op) 0
  have q2 : ((codeN op : Int) == 128) = (codeN op == 128) := beq_nat (codeN op) 128
  have q3 : ((codeN op : Int) == 144) = (codeN op == 144) := beq_nat (codeN op) 144
  unfold specB
  generalize (codeN op == 0) = b1 at *
  generalize (codeN op == 128) = b2 at *
  generalize (codeN op == 144) = b3 at *
  generalize jumpB op = j at *
  generalize codeN op = k at *
  clear h
  cases j <;> cases b1 <;> cases b2
  all_goals go_enter Tryz.func113, Tryz.ntmps113
  all_goals go_wp2_with (first
    | (go_at_call 82; (with_reducible refine (HJ.out _).mono ?_); rintro e w1 ⟨rfl, rfl⟩)
    | (go_at_call 83; (with_reducible refine (HC.out _).mono ?_); rintro e w2 ⟨rfl, rfl⟩))
  all_goals go_ret
  all_goals exact ⟨rfl, rfl⟩
end Go.Proofs.YtakcdecljfmckaaGreatDoor
