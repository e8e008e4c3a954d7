/- lines.sized, lines.place. lines.code: the opcode of a name with a width. -/
import Derived.Test.YtakcdecljfmckaaGreatDoorCore26
import Derived.Test.YtakcdecljfmckaaGreatDoorCore12
import Derived.RegionTactic
import Derived.ChangeAlike
import Derived.Handy
import Derived.Laws.BitsAllLaws
set_option linter.all false
set_option linter.unusedVariables false
set_option linter.unusedSimpArgs false
namespace Go.Proofs.YtakcdecljfmckaaGreatDoor
open Go.RowKit
open Go.Maps (Keyed int_keyed)

/-- the opcodes of a size: how one loads, stores a number, stores a register -/
def lsizeN (k : Int) : Nat × Nat × Nat := if k = 1 then (113, 114, 115) else if k = 2 then (105, 106, 107) else if k = 4 then (97, 98, 99) else if k = 8 then (121, 122, 123) else (0, 0, 0)
def lsizeB (k : Int) : Bool := decide (k = 1 ∨ k = 2 ∨ k = 4 ∨ k = 8)
def arrV (x : Nat × Nat × Nat) : Value := .agg #[.int .u8 x.1, .int .u8 x.2.1, .int .u8 x.2.2]
def arrD (x : Nat × Nat × Nat) : DataW Unit := .agg [.lit (.int .u8 x.1), .lit (.int .u8 x.2.1), .lit (.int .u8 x.2.2)]
theorem lsize_at (k : Int) : lsizeD.atKey (.int .i64 k) (arrD (0, 0, 0)) = arrD (lsizeN k) ∧ Go.Maps.has lsizeD (.int .i64 k) = lsizeB k := by
  unfold lsizeN lsizeB lsizeD
  by_cases h1 : k = 1
  · subst h1; exact ⟨rfl, rfl⟩
  by_cases h2 : k = 2
  · subst h2; exact ⟨rfl, rfl⟩
  by_cases h4 : k = 4
  · subst h4; exact ⟨rfl, rfl⟩
  by_cases h8 : k = 8
  · subst h8; exact ⟨rfl, rfl⟩
  have s1 : ∀ (x : Int) (y : DataW Unit), ¬ x = k → ((Lit.int .i64 x, y).1.sameKey (.int .i64 k)) = false := fun x y hx => by simp [Lit.sameKey, hx]
  have e1 := s1 1 (.agg [.lit (.int .u8 113), .lit (.int .u8 114), .lit (.int .u8 115)]) (by omega)
  have e2 := s1 2 (.agg [.lit (.int .u8 105), .lit (.int .u8 106), .lit (.int .u8 107)]) (by omega)
  have e3 := s1 4 (.agg [.lit (.int .u8 97), .lit (.int .u8 98), .lit (.int .u8 99)]) (by omega)
  have e7 := s1 8 (.agg [.lit (.int .u8 121), .lit (.int .u8 122), .lit (.int .u8 123)]) (by omega)
  refine ⟨?_, ?_⟩
  · simp only [DataW.atKey, List.find?_cons, e1, e2, e3, e7, List.find?_nil, h1, h2, h4, h8, if_false]
  · simp only [Go.Maps.has, List.any_cons, List.any_nil, e1, e2, e3, e7, h1, h2, h4, h8, or_self, decide_false, Bool.false_or]
theorem u8L_inv : ∀ (vs : List Value) (l : List Int), u8L vs = some (l.map fun a => .lit (.int .u8 a)) → vs = l.map fun a => .int .u8 a
  | [], [], _ => rfl
  | [], a :: l, h => by simp [u8L] at h
  | v :: vs, l, h => by
    unfold u8L at h
    split at h
    · rename_i heq; cases heq
    · rename_i a t heq
      simp only [List.cons.injEq] at heq
      obtain ⟨rfl, rfl⟩ := heq
      cases l with
      | nil => simp at h
      | cons b l =>
        simp only [Option.map_eq_some_iff, List.map_cons, List.cons.injEq, DataW.lit.injEq, Lit.int.injEq, true_and] at h
        obtain ⟨r, hr, rfl, rfl⟩ := h
        rw [u8L_inv _ l hr]
        rfl
    · cases h
theorem arr3_inv {v : Value} {x : Nat × Nat × Nat} {ps : List MemPlace} (h : arr3 v = some (arrD x, ps)) : v = arrV x := by
  unfold arr3 at h
  split at h
  · rename_i xs
    simp only [Option.map_eq_some_iff, Prod.mk.injEq] at h
    obtain ⟨l, hl, he, _⟩ := h
    unfold arrD at he
    simp only [DataW.agg.injEq] at he
    rw [he] at hl
    have := u8L_inv xs.toList [(x.1 : Int), (x.2.1 : Int), (x.2.2 : Int)] hl
    unfold arrV
    congr 1
    apply Array.toList_inj.1
    rw [this]
    rfl
  · cases h
theorem wf_i64 {n : Int} (h : -1000 < n ∧ n < 1000) : (Lit.int .i64 n).wf = true := by
  have e1 : IntKind.min .i64 = -9223372036854775808 := by decide
  have e2 : IntKind.max .i64 = 9223372036854775807 := by decide
  simp only [Lit.wf, e1, e2, Bool.and_eq_true, decide_eq_true_eq]
  omega
theorem lsize_run {w : World} {bm n : Nat} (h : w.ownsMap Tryz.prog 3 arr3 bm n lsizeD) (k : Int) (hk : -1000 < k ∧ k < 1000) :
    (Instr.lookup 179 (.map (some bm)) (.int .i64 k) true).run Tryz.prog w = .ok (.tuple #[arrV (lsizeN k), .bool (lsizeB k)]) w := by
  obtain ⟨v, ps, hrun, hv⟩ := h.look_ok (int_keyed Tryz.underlying3) Tryz.underlying179 (z := arrV (0, 0, 0)) (by kernel_rfl) (zd := arrD (0, 0, 0)) (zp := []) rfl (Go.Maps.keyOf_int_mk Tryz.underlying3 (q := .i64) (a := k) (wf_i64 hk))
  rw [(lsize_at k).1] at hv
  rw [(lsize_at k).2] at hrun
  rw [arr3_inv hv] at hrun
  exact hrun

def oneC : List UInt8 → Option Int
  | [c] => some ((c.toNat : Int) - 48)
  | _ => none
/-- what sized finds: the size's number, where there is one -/
def sizedN (word name : List UInt8) : Option Int :=
  if Lib.hasPrefix word name then oneC (Lib.trimPrefix word name) else none
def sizedV : Option Int → Value
  | some k => .tuple #[arrV (lsizeN k), .bool (lsizeB k)]
  | none => .tuple #[arrV (0, 0, 0), .bool false]
set_option maxRecDepth 100000 in
set_option maxHeartbeats 1000000 in
theorem sized_any (word : List UInt8) (P : ByteArray) (w : World) (hT : LT w) : Calls Tryz.prog 104 #[.string (bA word), .string P] w fun e w' => e = .returned (sizedV (sizedN word P.data.toList)) ∧ Fr No w w' := by
  have HC : Hid (∀ W, Calls Tryz.prog 93 #[.string (bA word), .string P] W fun e w' => e = .returned (.tuple #[.string (bA (Lib.trimPrefix word P.data.toList)), .bool (Lib.hasPrefix word P.data.toList)]) ∧ W = w') := fun W => cutp_any (bA word) P W
  unfold sizedN
  generalize Lib.trimPrefix word P.data.toList = R at *
  cases hp : Lib.hasPrefix word P.data.toList with
  | false =>
    rw [hp] at HC
    clear hp hT
    simp only [Bool.false_eq_true, if_false]
    unfold sizedV arrV
    go_enter Tryz.func104, Tryz.ntmps104
    go_wp2_with (go_at_call 93; (with_reducible refine (HC.out _).mono ?_); rintro e w1 ⟨rfl, rfl⟩)
    go_returns
    exact ⟨rfl, (Fr.refl _ _).alloc _⟩
  | true =>
    rw [hp] at HC
    clear hp
    simp only [if_true]
    have hsz := bA_size R
    by_cases hl : R.length = 1
    · obtain ⟨c, rfl⟩ : ∃ c, R = [c] := by
        cases R with
        | nil => cases hl
        | cons a t => cases t with
          | nil => exact ⟨a, rfl⟩
          | cons b t => simp at hl
      obtain ⟨bm, n, hc, ho⟩ := hT.lsize
      have hcl := c.toNat_lt
      have HR : Hid (∀ W, Fr No w W → (Instr.lookup 179 (.map (some bm)) (.int .i64 ((c.toNat : Int) - 48)) true).run Tryz.prog W = .ok (.tuple #[arrV (lsizeN ((c.toNat : Int) - 48)), .bool (lsizeB ((c.toNat : Int) - 48))]) W) := fun W h => lsize_run (owns_fr ho h) ((c.toNat : Int) - 48) (by omega)
      have HCL : Hid (∀ W, Fr No w W → W.cell? ⟨2, 0, none⟩ = some (.map (some bm))) := fun W h => h.cell hc id
      have f1 : IntKind.i64.wrap ((c.toNat : Int)) = (c.toNat : Int) := IntWalk.i64_in _ (by omega)
      have f2 : IntKind.i64.wrap ((c.toNat : Int) - 48) = (c.toNat : Int) - 48 := IntWalk.i64_in _ (by omega)
      have hix : ∀ W, (Instr.index 9 (.string (bA [c])) (.int .i64 0)).run Tryz.prog W = .ok (.int .u8 c.toNat) W := fun W => by kernel_rfl
      have q : ((bA [c]).size != 1) = false := by rw [hsz]; rfl
      have q2 : (((bA [c]).size : Int) != 1) = false := by rw [hsz]; rfl
      have hzz : (0 : Int) < ((bA [c]).size : Int) := by rw [hsz]; simp
      clear ho hT hl hsz hc
      show Calls Tryz.prog 104 #[.string (bA word), .string P] w fun e w' => e = .returned (.tuple #[arrV (lsizeN ((c.toNat : Int) - 48)), .bool (lsizeB ((c.toNat : Int) - 48))]) ∧ Fr No w w'
      generalize lsizeB ((c.toNat : Int) - 48) = z at *
      generalize lsizeN ((c.toNat : Int) - 48) = x at *
      obtain ⟨x0, x1, x2⟩ := x
      unfold arrV at *
      dsimp only at *
      generalize c.toNat = cn at *
      generalize bA [c] = B at *
      go_enter Tryz.func104, Tryz.ntmps104
      go_wp2_with (go_at_call 93; (with_reducible refine (HC.out _).mono ?_); rintro e w1 ⟨rfl, rfl⟩)
      obtain ⟨W1, hW1⟩ : ∃ W1, W1 = w.alloc (.cells #[.int .u8 0, .int .u8 0, .int .u8 0] 158) := ⟨_, rfl⟩
      have HF1 : Hid (Fr No w W1) := by rw [hW1]; exact (Fr.refl _ _).alloc _
      have g0 := HCL.out W1 HF1.out
      have g1 : ∀ o, (W1.alloc o).cell? ⟨2, 0, none⟩ = some (.map (some bm)) := fun o => HCL.out _ (HF1.out.alloc o)
      have r0 := HR.out _ HF1.out.drew
      have r1 : ∀ o, (Instr.lookup 179 (.map (some bm)) (.int .i64 ((cn : Int) - 48)) true).run Tryz.prog (W1.alloc o).drew = .ok (.tuple #[.agg #[.int .u8 x0, .int .u8 x1, .int .u8 x2], .bool z]) (W1.alloc o).drew := fun o => HR.out _ (HF1.out.alloc o).drew
      rw [← hW1]
      have HW1 := Lib.hid hW1
      clear hW1
      go_region
      have hW1 := HW1.out
      clear HF1 g0 g1 r0 r1 HW1
      subst hW1
      go_wp2_with fail
      go_returns
      exact ⟨rfl, (((Fr.refl _ _).alloc _).alloc _).drew⟩
    · have q : ((bA R).size != 1) = true := by rw [hsz]; simpa using hl
      have q2 : (((bA R).size : Int) != 1) = true := by rw [hsz]; simp; omega
      have e : oneC R = none := by
        cases R with
        | nil => rfl
        | cons a t => cases t with
          | nil => exact absurd rfl hl
          | cons b t => rfl
      rw [e]
      clear e hsz hl hT
      unfold sizedV arrV
      go_enter Tryz.func104, Tryz.ntmps104
      go_wp2_with (go_at_call 93; (with_reducible refine (HC.out _).mono ?_); rintro e w1 ⟨rfl, rfl⟩)
      go_returns
      exact ⟨rfl, (Fr.refl _ _).alloc _⟩
/-- where a name stands among some -/
def placeN (L : List (List UInt8)) (x : List UInt8) : Option Nat := L.findIdx? fun y => y != [] && y == x
def placeI : Option Nat → Int
  | some k => k
  | none => -1
set_option maxRecDepth 100000 in
set_option maxHeartbeats 1000000 in
theorem place_any (g n c : Nat) (L : List (List UInt8)) (x : List UInt8) (hn : L.length = n) (hn2 : n ≤ 1000) (w : World) (hc : CellsAt w g 0 (strs L)) : Calls Tryz.prog 131 #[.slice (some ⟨g, 0, none⟩) n c, .string (bA x)] w fun e w' => e = .returned (.int .i64 (placeI (placeN L x))) ∧ w = w' := by
  have HN := Lib.hid hn
  have HC : Hid (∀ k y, L[k]? = some y → w.cell? ⟨g, k, none⟩ = some (.string (bA y))) := fun k y hk => by
    have := hc k (.string (bA y)) (by simp only [strs, List.getElem?_map, hk]; rfl)
    rwa [Nat.zero_add] at this
  clear hn hc
  go_enter Tryz.func131, Tryz.ntmps131
  go_wp2_with fail
  go_loop [9] (fun s9 => ∃ k : Nat, k ≤ n ∧ s9 = .int .i64 k ∧ Hid (∀ j, j < k → ∀ y, L[j]? = some y → (y != [] && y == x) = false)) (fun s9 => n - (intOf s9).toNat)
  case atStart => exact ⟨0, Nat.zero_le _, rfl, fun j hj => absurd hj (Nat.not_lt_zero _)⟩
  case round =>
    obtain ⟨k, hk, rfl, HI⟩ := hrel
    by_cases hlt : k < n
    · obtain ⟨y, hy⟩ : ∃ y, L[k]? = some y := ⟨_, List.getElem?_eq_getElem (by rw [HN.out]; exact hlt)⟩
      have hcell := HC.out k y hy
      have HY := Lib.hid hy
      obtain ⟨b1, hb1⟩ : ∃ b, (y != []) = b := ⟨_, rfl⟩
      obtain ⟨b2, hb2⟩ : ∃ b, (y == x) = b := ⟨_, rfl⟩
      have q1 : ((bA y).toList != ([] : List UInt8)) = b1 := by rw [← hb1]; rw [Lib.toList_data]; rfl
      have q1' : (!(bA y).toList.isEmpty) = b1 := by rw [← hb1, Lib.toList_data]; cases y <;> rfl
      have q2 : ((bA y).toList == (bA x).toList) = b2 := by rw [← hb2]; rw [Lib.toList_data, Lib.toList_data]; rfl
      have HB : Hid ((y != [] && y == x) = (b1 && b2)) := by rw [hb1, hb2]; exact Lib.hid rfl
      clear hy hb1 hb2
      generalize bA y = Y at *
      cases b1 with
      | false =>
        have HI2 : Hid (∀ j, j < k + 1 → ∀ y, L[j]? = some y → (y != [] && y == x) = false) := fun j hj z hz => by
          by_cases e : j = k
          · subst e; rw [HY.out] at hz; obtain rfl := Option.some.inj hz; rw [HB.out]; rfl
          · exact HI.out j (by omega) z hz
        go_wp2_with fail
        go_round
        case rel => exact ⟨k + 1, by omega, by go_num, HI2⟩
        case measure => simp [intOf] <;> omega
      | true =>
        cases b2 with
        | false =>
          have HI2 : Hid (∀ j, j < k + 1 → ∀ y, L[j]? = some y → (y != [] && y == x) = false) := fun j hj z hz => by
            by_cases e : j = k
            · subst e; rw [HY.out] at hz; obtain rfl := Option.some.inj hz; rw [HB.out]; rfl
            · exact HI.out j (by omega) z hz
          go_wp2_with fail
          go_round
          case rel => exact ⟨k + 1, by omega, by go_num, HI2⟩
          case measure => simp [intOf] <;> omega
        | true =>
          have HP : Hid (placeN L x = some k) := by
            unfold placeN
            have hkl : k < L.length := by rw [HN.out]; exact hlt
            refine List.findIdx?_eq_some_iff_getElem.2 ⟨hkl, ?_, fun j hj => ?_⟩
            · have e : L[k] = y := by have := HY.out; rw [List.getElem?_eq_getElem hkl] at this; exact Option.some.inj this
              rw [e, HB.out]; rfl
            · have := HI.out j hj _ (List.getElem?_eq_getElem (by omega))
              rw [this]
              simp
          go_wp2_with fail
          go_ret
          exact ⟨by rw [HP.out]; rfl, rfl⟩
    · have hkn : k = n := by omega
      have HP : Hid (placeN L x = none) := by
        unfold placeN
        rw [List.findIdx?_eq_none_iff]
        intro y hy
        obtain ⟨j, hj, rfl⟩ := List.getElem_of_mem hy
        exact HI.out j (by rw [hkn, ← HN.out]; exact hj) _ (List.getElem?_eq_getElem hj)
      subst hkn
      go_wp2_with fail
      go_ret
      exact ⟨by rw [HP.out]; rfl, rfl⟩
end Go.Proofs.YtakcdecljfmckaaGreatDoor

namespace Go.Proofs.YtakcdecljfmckaaGreatDoor
open Go.RowKit

theorem cuts_any (s p : ByteArray) (hs : s.size ≤ 1000000) (w : World) : Calls Tryz.prog 130 #[.string s, .string p] w fun e w' => e = .returned (.tuple #[.string (bA (Lib.trimSuffix s.data.toList p.data.toList)), .bool (Lib.hasSuffix s.data.toList p.data.toList)]) ∧ w = w' :=
  (Tryz.strings_CutSuffix s p w (by omega)).mono fun e w' ⟨he, hw⟩ => ⟨he, hw.symm⟩
/-- a block of the call's own may have turned -/
def Isk (b : Nat) : Nat → Prop := fun k => b = k
theorem Fr.own {b : Nat} {w a c : World} (h : Fr No w a) (k : Fr (Isk b) a c) (hb : w.heap.size ≤ b) : Fr No w c :=
  ⟨k.os.trans h.os, k.tape.trans h.tape, k.output.trans h.output, Nat.le_trans h.size k.size, fun i hi hs => (k.block i (Nat.lt_of_lt_of_le hi h.size) (fun e => by unfold Isk at e; omega)).trans (h.block i hi hs)⟩
theorem Fr.grown {b : Nat} {w w' : World} (h : w.grownBy w' (some b)) : Fr (Isk b) w w' := ⟨h.os, h.tape, h.output, h.size, fun k hk hs => h.block k hk (fun e => hs (Option.some.inj e).symm)⟩
theorem arrB_inv {v : Value} {l : List Int} {ps : List MemPlace} (h : arr3 v = some (.agg (l.map fun a => .lit (.int .u8 a)), ps)) : v = .agg (l.map fun a => Value.int .u8 a).toArray := by
  unfold arr3 at h
  split at h
  · rename_i xs
    simp only [Option.map_eq_some_iff, Prod.mk.injEq] at h
    obtain ⟨k, hl, he, _⟩ := h
    simp only [DataW.agg.injEq] at he
    rw [he] at hl
    have := u8L_inv xs.toList l hl
    congr 1
    apply Array.toList_inj.1
    rw [this]
  · cases h
/-- the map of classes by width, made and asked -/
def ClassesRun (wide : Bool) (w w1 w2 : World) : Prop := (Instr.mapUpdate 181 (.map (some w.heap.size)) (.bool true) (.agg #[.int .u8 7, .int .u8 5])).run Tryz.prog (w.alloc (.map #[] 0)) = .ok () w1 ∧
    (Instr.mapUpdate 181 (.map (some w.heap.size)) (.bool false) (.agg #[.int .u8 4, .int .u8 6])).run Tryz.prog w1 = .ok () w2 ∧
    (Instr.lookup 181 (.map (some w.heap.size)) (.bool wide) false).run Tryz.prog w2 = .ok (.agg #[.int .u8 (if wide then 7 else 4), .int .u8 (if wide then 5 else 6)]) w2 ∧ Fr No w w2
theorem classes_run (wide : Bool) (w : World) : ∃ w1 w2, ClassesRun wide w w1 w2 := by
  have hK := Go.Maps.bool_keyed Tryz.underlying4
  have h0 := World.ownsMap_made (H := Unit) w Tryz.prog 4 arr3
  obtain ⟨w1, hr1, h1, g1⟩ := h0.update hK Tryz.underlying181 (by decide) (key := .bool true) (val := .agg #[.int .u8 7, .int .u8 5]) (Go.Maps.keyOf_bool_mk Tryz.underlying4 true) (d := .agg [.lit (.int .u8 7), .lit (.int .u8 5)]) (ps := []) rfl
  obtain ⟨w2, hr2, h2, g2⟩ := h1.update hK Tryz.underlying181 (by decide) (key := .bool false) (val := .agg #[.int .u8 4, .int .u8 6]) (Go.Maps.keyOf_bool_mk Tryz.underlying4 false) (d := .agg [.lit (.int .u8 4), .lit (.int .u8 6)]) (ps := []) rfl
  obtain ⟨v, ps, hr3, hv⟩ := h2.lookup hK Tryz.underlying181 (z := .agg #[.int .u8 0, .int .u8 0]) (by kernel_rfl) (zd := .agg [.lit (.int .u8 0), .lit (.int .u8 0)]) (zp := []) rfl (key := .bool wide) (Go.Maps.keyOf_bool_mk Tryz.underlying4 wide)
  refine ⟨w1, w2, hr1, hr2, ?_, ?_⟩
  · rw [hr3]
    have : v = .agg #[.int .u8 (if wide then 7 else 4), .int .u8 (if wide then 5 else 6)] := by
      cases wide
      · exact arrB_inv (l := [4, 6]) hv
      · exact arrB_inv (l := [7, 5]) hv
    rw [this]
  · exact (((Fr.refl No w).alloc _).own (Fr.grown g1) (Nat.le_refl _)).own (Fr.grown g2) (Nat.le_refl _)

/-- the opcode of a name with a width -/
def codeF (wide : Bool) (name : List UInt8) : Option (Nat × Bool) :=
  match placeN arithN name with
  | some k => some (k * 16 + (if wide then 7 else 4), false)
  | none => match placeN jumpN name with
    | some k => some (k * 16 + (if wide then 5 else 6), true)
    | none => none
def codeW (word : List UInt8) : Option (Nat × Bool) :=
  if Lib.hasSuffix word [54, 52] then codeF true (Lib.trimSuffix word [54, 52])
  else if Lib.hasSuffix word [51, 50] then codeF false (Lib.trimSuffix word [51, 50]) else none
def codeV : Option (Nat × Bool) → Value
  | some (op, j) => .tuple #[.int .u8 op, .bool j, .bool true]
  | none => .tuple #[.int .u8 0, .bool false, .bool false]
theorem place_lt {L : List (List UInt8)} {x : List UInt8} {k : Nat} (h : placeN L x = some k) : k < L.length := (List.findIdx?_eq_some_iff_getElem.1 h).1
theorem or_low (k c : Nat) (hk : k < 16) (hc : c < 16) : bits BinOp.or IntKind.u8 ((k : Int) * 16) (c : Int) = (k : Int) * 16 + (c : Int) := by
  have : ∀ k : Nat, k < 16 → ∀ c : Nat, c < 16 → bits BinOp.or IntKind.u8 ((k : Int) * 16) (c : Int) = (k : Int) * 16 + (c : Int) := by decide +kernel
  exact this k hk c hc

/-- the place of a name, in the world there is -/
theorem place_at {w : World} (hT : LT w) (x : List UInt8) : Hid (∀ W, Fr No w W → Calls Tryz.prog 131 #[.slice (some ⟨3, 0, none⟩) 13 13, .string (bA x)] W fun e w' => e = .returned (.int .i64 (placeI (placeN arithN x))) ∧ W = w') ∧
    Hid (∀ W, Fr No w W → Calls Tryz.prog 131 #[.slice (some ⟨4, 0, none⟩) 14 14, .string (bA x)] W fun e w' => e = .returned (.int .i64 (placeI (placeN jumpN x))) ∧ W = w') :=
  ⟨fun W hf => place_any 3 13 13 arithN x (by decide) (by decide) W (hT.fr hf).ariths, fun W hf => place_any 4 14 14 jumpN x (by decide) (by decide) W (hT.fr hf).jumps⟩
set_option maxRecDepth 100000 in
set_option maxHeartbeats 2000000 in
theorem lcode_no (word : List UInt8) (hs : word.length ≤ 1000000) (w : World) (h1 : Lib.hasSuffix word [54, 52] = false) (h2 : Lib.hasSuffix word [51, 50] = false) : Calls Tryz.prog 105 #[.string (bA word)] w fun e w' => e = .returned (.tuple #[.int .u8 0, .bool false, .bool false]) ∧ Fr No w w' := by
  have HC1 : Hid (∀ W, Calls Tryz.prog 130 #[.string (bA word), .string ⟨#[54, 52]⟩] W fun e w' => e = .returned (.tuple #[.string (bA (Lib.trimSuffix word [54, 52])), .bool false]) ∧ W = w') := fun W => h1 ▸ cuts_any (bA word) ⟨#[54, 52]⟩ (by rw [bA_size]; exact hs) W
  have HC2 : Hid (∀ W, Calls Tryz.prog 130 #[.string (bA word), .string ⟨#[51, 50]⟩] W fun e w' => e = .returned (.tuple #[.string (bA (Lib.trimSuffix word [51, 50])), .bool false]) ∧ W = w') := fun W => h2 ▸ cuts_any (bA word) ⟨#[51, 50]⟩ (by rw [bA_size]; exact hs) W
  clear h1 h2 hs
  generalize Lib.trimSuffix word [54, 52] = R1 at *
  generalize Lib.trimSuffix word [51, 50] = R2 at *
  go_enter Tryz.func105, Tryz.ntmps105
  go_wp2_with (go_at_call 130; (with_reducible first | refine (HC1.out _).mono ?_ | refine (HC2.out _).mono ?_); rintro e w1 ⟨rfl, rfl⟩)
  go_returns
  exact ⟨rfl, Fr.refl _ _⟩
/-- code's answer when the width is known -/
theorem wrap_or {k c : Nat} (hk : k < 14) (hc : c < 8) : IntKind.i64.wrap (k : Int) = k ∧ IntKind.u8.wrap (k : Int) = k ∧ IntKind.u8.wrap ((k : Int) * 16) = (k : Int) * 16 ∧ bits BinOp.or IntKind.u8 ((k : Int) * 16 % 256) (c : Int) = (k : Int) * 16 + (c : Int) := by
  refine ⟨IntWalk.i64_in _ (by omega), IntWalk.u8_in _ (by omega), IntWalk.u8_in _ (by omega), ?_⟩
  rw [show (k : Int) * 16 % 256 = (k : Int) * 16 by omega]
  exact or_low k c (by omega) (by omega)
set_option maxRecDepth 100000 in
set_option maxHeartbeats 2000000 in
theorem lcode_wide (word : List UInt8) (hs : word.length ≤ 1000000) (w : World) (hT : LT w) (h1 : Lib.hasSuffix word [54, 52] = true) : Calls Tryz.prog 105 #[.string (bA word)] w fun e w' => e = .returned (codeV (codeF true (Lib.trimSuffix word [54, 52]))) ∧ Fr No w w' := by
  have HC1 : Hid (∀ W, Calls Tryz.prog 130 #[.string (bA word), .string ⟨#[54, 52]⟩] W fun e w' => e = .returned (.tuple #[.string (bA (Lib.trimSuffix word [54, 52])), .bool true]) ∧ W = w') := fun W => h1 ▸ cuts_any (bA word) ⟨#[54, 52]⟩ (by rw [bA_size]; exact hs) W
  clear h1 hs
  generalize Lib.trimSuffix word [54, 52] = R at *
  obtain ⟨HA, HJ⟩ := place_at hT R
  obtain ⟨w1, w2, hr1, hr2, hr3, hf2⟩ := classes_run true w
  have hmk := run_makeMap (P := Tryz.prog) 181 w
  have HF2 := Lib.hid hf2
  clear hf2 hT
  simp only [if_true, Bool.false_eq_true, if_false] at hr3
  unfold codeF
  cases ha : placeN arithN R with
  | some k =>
    have hk : k < 14 := Nat.lt_of_lt_of_le (place_lt ha) (by decide)
    rw [ha] at HA
    dsimp only [placeI] at HA ⊢
    obtain ⟨f1, f2, f3, f4⟩ := wrap_or (k := k) (c := 7) hk (by decide)
    have g1 : (0 : Int) ≤ (k : Int) := Int.natCast_nonneg k
    clear ha HJ hk
    simp only [if_true, Bool.false_eq_true, if_false]
    unfold codeV
    dsimp only
    have f5 : ((k * 16 + 7 : Nat) : Int) = (k : Int) * 16 + 7 := rfl
    rw [f5]
    clear f5
    generalize (k : Int) = K at *
    have HB := Lib.hid f4
    clear f3 f4
    generalize K * 16 + 7 = Z at *
    go_enter Tryz.func105, Tryz.ntmps105
    go_wp2_with (first | (go_at_call 130; (with_reducible first | refine (HC1.out _).mono ?_); rintro e w1 ⟨rfl, rfl⟩) | (go_at_call 131; (with_reducible first | refine (HA.out _ (HF2.out.alloc _)).mono ?_); rintro e w3 ⟨rfl, rfl⟩))
    go_returns
    refine ⟨?_, HF2.out.alloc _⟩
    show Ending.returned (.tuple #[.int .u8 (bits BinOp.or IntKind.u8 (K * 16 % 256) 7), .bool false, .bool true]) = _
    rw [show bits BinOp.or IntKind.u8 (K * 16 % 256) 7 = Z from HB.out]
  | none =>
    rw [ha] at HA
    clear ha
    cases hj : placeN jumpN R with
    | some k =>
      have hk : k < 14 := Nat.lt_of_lt_of_le (place_lt hj) (by decide)
      rw [hj] at HJ
      dsimp only [placeI] at HJ HA ⊢
      obtain ⟨f1, f2, f3, f4⟩ := wrap_or (k := k) (c := 5) hk (by decide)
      have g1 : (0 : Int) ≤ (k : Int) := Int.natCast_nonneg k
      clear hj hk
      simp only [if_true, Bool.false_eq_true, if_false]
      unfold codeV
      dsimp only
      have f5 : ((k * 16 + 5 : Nat) : Int) = (k : Int) * 16 + 5 := rfl
      rw [f5]
      clear f5
      generalize (k : Int) = K at *
      have HB := Lib.hid f4
      clear f3 f4
      generalize K * 16 + 5 = Z at *
      go_enter Tryz.func105, Tryz.ntmps105
      go_wp2_with (first | (go_at_call 130; (with_reducible first | refine (HC1.out _).mono ?_); rintro e w1 ⟨rfl, rfl⟩) | (go_at_call 131; (with_reducible first | refine (HA.out _ (HF2.out.alloc _)).mono ?_ | refine (HJ.out _ (HF2.out.alloc _)).mono ?_); rintro e w3 ⟨rfl, rfl⟩))
      go_returns
      refine ⟨?_, HF2.out.alloc _⟩
      show Ending.returned (.tuple #[.int .u8 (bits BinOp.or IntKind.u8 (K * 16 % 256) 5), .bool true, .bool true]) = _
      rw [show bits BinOp.or IntKind.u8 (K * 16 % 256) 5 = Z from HB.out]
    | none =>
      rw [hj] at HJ
      clear hj
      dsimp only [placeI] at HA HJ ⊢
      unfold codeV
      dsimp only
      go_enter Tryz.func105, Tryz.ntmps105
      go_wp2_with (first | (go_at_call 130; (with_reducible first | refine (HC1.out _).mono ?_); rintro e w1 ⟨rfl, rfl⟩) | (go_at_call 131; (with_reducible first | refine (HA.out _ (HF2.out.alloc _)).mono ?_ | refine (HJ.out _ (HF2.out.alloc _)).mono ?_); rintro e w3 ⟨rfl, rfl⟩))
      go_returns
      exact ⟨rfl, HF2.out.alloc _⟩
set_option maxRecDepth 100000 in
set_option maxHeartbeats 2000000 in
theorem lcode_narrow (word : List UInt8) (hs : word.length ≤ 1000000) (w : World) (hT : LT w) (h1 : Lib.hasSuffix word [54, 52] = false) (h2 : Lib.hasSuffix word [51, 50] = true) : Calls Tryz.prog 105 #[.string (bA word)] w fun e w' => e = .returned (codeV (codeF false (Lib.trimSuffix word [51, 50]))) ∧ Fr No w w' := by
  have HC1 : Hid (∀ W, Calls Tryz.prog 130 #[.string (bA word), .string ⟨#[54, 52]⟩] W fun e w' => e = .returned (.tuple #[.string (bA (Lib.trimSuffix word [54, 52])), .bool false]) ∧ W = w') := fun W => h1 ▸ cuts_any (bA word) ⟨#[54, 52]⟩ (by rw [bA_size]; exact hs) W
  have HC2 : Hid (∀ W, Calls Tryz.prog 130 #[.string (bA word), .string ⟨#[51, 50]⟩] W fun e w' => e = .returned (.tuple #[.string (bA (Lib.trimSuffix word [51, 50])), .bool true]) ∧ W = w') := fun W => h2 ▸ cuts_any (bA word) ⟨#[51, 50]⟩ (by rw [bA_size]; exact hs) W
  clear h1 h2 hs
  generalize Lib.trimSuffix word [54, 52] = R1 at *
  generalize Lib.trimSuffix word [51, 50] = R at *
  obtain ⟨HA, HJ⟩ := place_at hT R
  obtain ⟨w1, w2, hr1, hr2, hr3, hf2⟩ := classes_run false w
  have hmk := run_makeMap (P := Tryz.prog) 181 w
  have HF2 := Lib.hid hf2
  clear hf2 hT
  simp only [if_true, Bool.false_eq_true, if_false] at hr3
  unfold codeF
  cases ha : placeN arithN R with
  | some k =>
    have hk : k < 14 := Nat.lt_of_lt_of_le (place_lt ha) (by decide)
    rw [ha] at HA
    dsimp only [placeI] at HA ⊢
    obtain ⟨f1, f2, f3, f4⟩ := wrap_or (k := k) (c := 4) hk (by decide)
    have g1 : (0 : Int) ≤ (k : Int) := Int.natCast_nonneg k
    clear ha HJ hk
    simp only [if_true, Bool.false_eq_true, if_false]
    unfold codeV
    dsimp only
    have f5 : ((k * 16 + 4 : Nat) : Int) = (k : Int) * 16 + 4 := rfl
    rw [f5]
    clear f5
    generalize (k : Int) = K at *
    have HB := Lib.hid f4
    clear f3 f4
    generalize K * 16 + 4 = Z at *
    go_enter Tryz.func105, Tryz.ntmps105
    go_wp2_with (first | (go_at_call 130; (with_reducible first | refine (HC1.out _).mono ?_ | refine (HC2.out _).mono ?_); rintro e w1 ⟨rfl, rfl⟩) | (go_at_call 131; (with_reducible first | refine (HA.out _ (HF2.out.alloc _)).mono ?_); rintro e w3 ⟨rfl, rfl⟩))
    go_returns
    refine ⟨?_, HF2.out.alloc _⟩
    show Ending.returned (.tuple #[.int .u8 (bits BinOp.or IntKind.u8 (K * 16 % 256) 4), .bool false, .bool true]) = _
    rw [show bits BinOp.or IntKind.u8 (K * 16 % 256) 4 = Z from HB.out]
  | none =>
    rw [ha] at HA
    clear ha
    cases hj : placeN jumpN R with
    | some k =>
      have hk : k < 14 := Nat.lt_of_lt_of_le (place_lt hj) (by decide)
      rw [hj] at HJ
      dsimp only [placeI] at HJ HA ⊢
      obtain ⟨f1, f2, f3, f4⟩ := wrap_or (k := k) (c := 6) hk (by decide)
      have g1 : (0 : Int) ≤ (k : Int) := Int.natCast_nonneg k
      clear hj hk
      simp only [if_true, Bool.false_eq_true, if_false]
      unfold codeV
      dsimp only
      have f5 : ((k * 16 + 6 : Nat) : Int) = (k : Int) * 16 + 6 := rfl
      rw [f5]
      clear f5
      generalize (k : Int) = K at *
      have HB := Lib.hid f4
      clear f3 f4
      generalize K * 16 + 6 = Z at *
      go_enter Tryz.func105, Tryz.ntmps105
      go_wp2_with (first | (go_at_call 130; (with_reducible first | refine (HC1.out _).mono ?_ | refine (HC2.out _).mono ?_); rintro e w1 ⟨rfl, rfl⟩) | (go_at_call 131; (with_reducible first | refine (HA.out _ (HF2.out.alloc _)).mono ?_ | refine (HJ.out _ (HF2.out.alloc _)).mono ?_); rintro e w3 ⟨rfl, rfl⟩))
      go_returns
      refine ⟨?_, HF2.out.alloc _⟩
      show Ending.returned (.tuple #[.int .u8 (bits BinOp.or IntKind.u8 (K * 16 % 256) 6), .bool true, .bool true]) = _
      rw [show bits BinOp.or IntKind.u8 (K * 16 % 256) 6 = Z from HB.out]
    | none =>
      rw [hj] at HJ
      clear hj
      dsimp only [placeI] at HA HJ ⊢
      unfold codeV
      dsimp only
      go_enter Tryz.func105, Tryz.ntmps105
      go_wp2_with (first | (go_at_call 130; (with_reducible first | refine (HC1.out _).mono ?_ | refine (HC2.out _).mono ?_); rintro e w1 ⟨rfl, rfl⟩) | (go_at_call 131; (with_reducible first | refine (HA.out _ (HF2.out.alloc _)).mono ?_ | refine (HJ.out _ (HF2.out.alloc _)).mono ?_); rintro e w3 ⟨rfl, rfl⟩))
      go_returns
      exact ⟨rfl, HF2.out.alloc _⟩
/-- lines.code -/
theorem lcode_any (word : List UInt8) (hs : word.length ≤ 1000000) (w : World) (hT : LT w) : Calls Tryz.prog 105 #[.string (bA word)] w fun e w' => e = .returned (codeV (codeW word)) ∧ Fr No w w' := by
  unfold codeW
  cases h1 : Lib.hasSuffix word [54, 52] with
  | true => exact lcode_wide word hs w hT h1
  | false =>
    cases h2 : Lib.hasSuffix word [51, 50] with
    | true => exact lcode_narrow word hs w hT h1 h2
    | false => exact lcode_no word hs w h1 h2
end Go.Proofs.YtakcdecljfmckaaGreatDoor
