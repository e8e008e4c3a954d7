/- firewallref03.field and fields, by what a text is. firewallref03.fields. firewallref03.raw. -/
import Derived.Test.YthkdokkpiaaljaaGreatDoorLinesReadOwn1
import Derived.Test.YthkdokkpiaaljaaGreatDoorCore32
import Derived.Deep.RegionWith
import Derived.Handy
set_option linter.all false
set_option linter.unusedVariables false
set_option linter.unusedSimpArgs false
namespace Go.Proofs.YthkdokkpiaaljaaGreatDoor
open Go.RowKit

theorem regR_of_some {u : List UInt8} {r : Nat} (h : regW u = some r) : regR u = (r, true) := by unfold regR; rw [h]
theorem regR_of_none {u : List UInt8} (h : regW u = none) : regR u = (0, false) := by unfold regR; rw [h]
theorem i16w (n : Int) : IntKind.i16.wrap n = (n + 32768) % 65536 - 32768 := by
  simp only [IntKind.wrap, IntKind.bits, IntKind.signed]
  simp
  omega
theorem parse_off (u : List UInt8) : parseI u 32768 32767 = if (parseR u 32768 32767).2 = true then some (IntKind.i16.wrap (parseR u 32768 32767).1) else none := by
  unfold parseI parseR
  cases numW u with
  | none => rfl
  | some p =>
    obtain ⟨b, n⟩ := p
    cases b with
    | true =>
      show (if n ≤ 32768 then some (-(n : Int)) else none) = if decide (n ≤ 32768) = true then some (IntKind.i16.wrap (IntKind.u64.wrap (0 - (n : Int)))) else none
      by_cases h : n ≤ 32768
      · rw [if_pos h, if_pos (decide_eq_true h), IntKind.wrap_u64, i16w]
        refine congrArg some ?_
        omega
      · rw [if_neg h, if_neg (by rw [decide_eq_false h]; exact Bool.false_ne_true)]
    | false =>
      show (if n ≤ 32767 then some (n : Int) else none) = if decide (n ≤ 32767) = true then some (IntKind.i16.wrap (n : Int)) else none
      by_cases h : n ≤ 32767
      · rw [if_pos h, if_pos (decide_eq_true h), i16w]
        refine congrArg some ?_
        omega
      · rw [if_neg h, if_neg (by rw [decide_eq_false h]; exact Bool.false_ne_true)]
theorem w32 (n : Int) : wrap32 n = (n + 2147483648) % 4294967296 - 2147483648 := by unfold wrap32; omega
theorem parse_val (u : List UInt8) : parseI u 2147483648 2147483647 = if (parseR u 2147483648 2147483647).2 = true then some (wrap32 (parseR u 2147483648 2147483647).1) else none := by
  unfold parseI parseR
  cases numW u with
  | none => rfl
  | some p =>
    obtain ⟨b, n⟩ := p
    cases b with
    | true =>
      show (if n ≤ 2147483648 then some (-(n : Int)) else none) = if decide (n ≤ 2147483648) = true then some (wrap32 (IntKind.u64.wrap (0 - (n : Int)))) else none
      by_cases h : n ≤ 2147483648
      · rw [if_pos h, if_pos (decide_eq_true h), IntKind.wrap_u64, w32]
        refine congrArg some ?_
        omega
      · rw [if_neg h, if_neg (by rw [decide_eq_false h]; exact Bool.false_ne_true)]
    | false =>
      show (if n ≤ 2147483647 then some (n : Int) else none) = if decide (n ≤ 2147483647) = true then some (wrap32 (n : Int)) else none
      by_cases h : n ≤ 2147483647
      · rw [if_pos h, if_pos (decide_eq_true h), w32]
        refine congrArg some ?_
        omega
      · rw [if_neg h, if_neg (by rw [decide_eq_false h]; exact Bool.false_ne_true)]
/-- what field hands back -/
def FieldTo (w : World) (r : Option Ins) (e : Ending) (w' : World) : Prop :=
  match r with
  | some j => e = .returned (.tuple #[j.agg, .bool true]) ∧ Fr No w w'
  | none => ∃ o d s f m : Int, e = .returned (.tuple #[.agg #[.int .u8 o, .int .u8 d, .int .u8 s, .int .i16 f, .int .i32 m], .bool false]) ∧ Fr No w w'
theorem FieldAt.some {w : World} {o d s f m : Int} {z : Bool} {e : Ending} {w' : World} (h : FieldAt w o d s f m z e w') {r : Option Ins} {j : Ins} (hr : r = some j) (hz : z = true) (hj : j.agg = .agg #[.int .u8 o, .int .u8 d, .int .u8 s, .int .i16 f, .int .i32 m]) : FieldTo w r e w' := by
  subst hr hz
  exact ⟨by rw [hj]; exact h.1, h.2⟩
theorem FieldAt.none {w : World} {o d s f m : Int} {z : Bool} {e : Ending} {w' : World} (h : FieldAt w o d s f m z e w') {r : Option Ins} (hr : r = none) (hz : z = false) : FieldTo w r e w' := by
  subst hr hz
  exact ⟨o, d, s, f, m, h.1, h.2⟩
def kdC : Kd → Int
  | .d => 100
  | .s => 115
  | .o => 111
  | .v => 118
  | .e => 101
theorem field_any (i : Ins) (k : Kd) (u : List UInt8) (hu : u.length ≤ 100000) (h8 : k = .e → i.op + 8 < 256) (w : World) : Calls Tryz.prog 100 #[i.agg, .int .u8 (kdC k), .string (bA u)] w (FieldTo w (fieldI i k u)) := by
  cases k with
  | d =>
    refine (field_d i.op i.dst i.src i.off i.imm u hu w).mono fun e w' h => ?_
    cases hr : regW u with
    | none => exact h.none (by simp [fieldI, hr]) (by rw [regR_of_none hr])
    | some r => exact h.some (j := { i with dst := r }) (by simp [fieldI, hr]) (by rw [regR_of_some hr]) (by rw [regR_of_some hr]; rfl)
  | s =>
    refine (field_s i.op i.dst i.src i.off i.imm u hu w).mono fun e w' h => ?_
    cases hr : regW u with
    | none => exact h.none (by simp [fieldI, hr]) (by rw [regR_of_none hr])
    | some r => exact h.some (j := { i with src := r }) (by simp [fieldI, hr]) (by rw [regR_of_some hr]) (by rw [regR_of_some hr]; rfl)
  | o =>
    refine (field_o i.op i.dst i.src i.off i.imm u hu w).mono fun e w' h => ?_
    have hp := parse_off u
    cases hz : (parseR u 32768 32767).2 with
    | false => exact h.none (by rw [hz] at hp; simp [fieldI, hp]) hz
    | true => exact h.some (j := { i with off := IntKind.i16.wrap (parseR u 32768 32767).1 }) (by rw [hz] at hp; simp [fieldI, hp]) hz rfl
  | v =>
    refine (field_v i.op i.dst i.src i.off i.imm u hu w).mono fun e w' h => ?_
    have hp := parse_val u
    cases hz : (parseR u 2147483648 2147483647).2 with
    | false => exact h.none (by rw [hz] at hp; simp [fieldI, hp]) hz
    | true => exact h.some (j := { i with imm := wrap32 (parseR u 2147483648 2147483647).1 }) (by rw [hz] at hp; simp [fieldI, hp]) hz rfl
  | e =>
    cases hr : regW u with
    | some r =>
      have hR := regR_of_some hr
      refine (field_er i.op i.dst i.src i.off i.imm u hu (IntWalk.u8_in _ (by have := h8 rfl; omega)) (by rw [hR]) w).mono fun e w' h => ?_
      rw [hR] at h
      exact h.some (j := { i with src := r, op := i.op + 8 }) (by simp [fieldI, hr]) rfl (by show Value.agg #[.int .u8 ((i.op + 8 : Nat) : Int), _, _, _, _] = _; rw [Int.natCast_add]; rfl)
    | none =>
      have hR := regR_of_none hr
      refine (field_ev i.op i.dst i.src i.off i.imm u hu (by rw [hR]) w).mono fun e w' h => ?_
      have hp := parse_val u
      cases hz : (parseR u 2147483648 2147483647).2 with
      | false => exact h.none (by rw [hz] at hp; simp [fieldI, hr, hp]) hz
      | true => exact h.some (j := { i with imm := wrap32 (parseR u 2147483648 2147483647).1 }) (by rw [hz] at hp; simp [fieldI, hr, hp]) hz rfl
end Go.Proofs.YthkdokkpiaaljaaGreatDoor

namespace Go.Proofs.YthkdokkpiaaljaaGreatDoor
open Go.RowKit

def eCount : List Kd → Nat
  | [] => 0
  | .e :: l => eCount l + 1
  | _ :: l => eCount l
def kdB (ks : List Kd) : List UInt8 := ks.map fun k => UInt8.ofNat (kdC k).toNat
/-- how far the fields are laid -/
def FsSt (i : Ins) (ks : List Kd) (ws : List (List UInt8)) (k : Nat) (j : Ins) : Prop := fieldsI j (ks.drop k) (ws.drop k) = fieldsI i ks ws ∧ j.op + 8 * eCount (ks.drop k) < 256
theorem FsSt.start {i : Ins} {ks : List Kd} {ws : List (List UInt8)} (h : i.op + 8 * eCount ks < 256) : FsSt i ks ws 0 i := ⟨rfl, h⟩
theorem FsSt.e8 {i j : Ins} {ks : List Kd} {ws : List (List UInt8)} {k : Nat} {x : Kd} (h : FsSt i ks ws k j) (hx : ks[k]? = some x) : x = .e → j.op + 8 < 256 := by
  rintro rfl
  obtain ⟨hk, hkx⟩ := List.getElem?_eq_some_iff.1 hx
  have := h.2
  rw [List.drop_eq_getElem_cons hk, hkx] at this
  simp only [eCount] at this
  omega
theorem field_op {i j : Ins} {x : Kd} {u : List UInt8} (h : fieldI i x u = some j) : j.op = i.op ∨ (x = .e ∧ j.op = i.op + 8) := by
  cases x with
  | d => obtain ⟨r, _, rfl⟩ := Option.map_eq_some_iff.1 (show (regW u).map _ = some j from h); exact .inl rfl
  | s => obtain ⟨r, _, rfl⟩ := Option.map_eq_some_iff.1 (show (regW u).map _ = some j from h); exact .inl rfl
  | o => obtain ⟨r, _, rfl⟩ := Option.map_eq_some_iff.1 (show (parseI u _ _).map _ = some j from h); exact .inl rfl
  | v => obtain ⟨r, _, rfl⟩ := Option.map_eq_some_iff.1 (show (parseI u _ _).map _ = some j from h); exact .inl rfl
  | e =>
    unfold fieldI at h
    cases hr : regW u with
    | some r => simp only [hr] at h; cases h; exact .inr ⟨rfl, rfl⟩
    | none =>
      simp only [hr] at h
      obtain ⟨r, _, rfl⟩ := Option.map_eq_some_iff.1 h
      exact .inl rfl
theorem FsSt.bad {i j : Ins} {ks : List Kd} {ws : List (List UInt8)} {k : Nat} {x : Kd} {u : List UInt8} (h : FsSt i ks ws k j) (hx : ks[k]? = some x) (hu : ws[k]? = some u) (hf : fieldI j x u = none) : fieldsI i ks ws = none := by
  obtain ⟨hk, hkx⟩ := List.getElem?_eq_some_iff.1 hx
  obtain ⟨hw, hwu⟩ := List.getElem?_eq_some_iff.1 hu
  rw [← h.1, List.drop_eq_getElem_cons hk, List.drop_eq_getElem_cons hw, hkx, hwu]
  unfold fieldsI
  rw [hf]
  rfl
theorem FsSt.step {i j j' : Ins} {ks : List Kd} {ws : List (List UInt8)} {k : Nat} {x : Kd} {u : List UInt8} (h : FsSt i ks ws k j) (hx : ks[k]? = some x) (hu : ws[k]? = some u) (hf : fieldI j x u = some j') : FsSt i ks ws (k + 1) j' := by
  obtain ⟨hk, hkx⟩ := List.getElem?_eq_some_iff.1 hx
  obtain ⟨hw, hwu⟩ := List.getElem?_eq_some_iff.1 hu
  obtain ⟨h1, h2⟩ := h
  rw [List.drop_eq_getElem_cons hk, List.drop_eq_getElem_cons hw, hkx, hwu] at h1
  rw [List.drop_eq_getElem_cons hk, hkx] at h2
  refine ⟨?_, ?_⟩
  · rw [← h1]
    show _ = (fieldI j x u).bind _
    rw [hf]
    rfl
  · rcases field_op hf with e | ⟨rfl, e⟩
    · rw [e]
      cases x <;> simp only [eCount] at h2 <;> omega
    · rw [e]
      simp only [eCount] at h2
      omega
theorem FsSt.done {i j : Ins} {ks : List Kd} {ws : List (List UInt8)} {n : Nat} (h : FsSt i ks ws n j) (h1 : ks.length = n) (h2 : ws.length = n) : fieldsI i ks ws = some j := by
  rw [← h.1, List.drop_of_length_le (by omega), List.drop_of_length_le (by omega)]
  rfl
theorem fields_len {ks : List Kd} : ∀ {i : Ins} {ws : List (List UInt8)}, ws.length ≠ ks.length → fieldsI i ks ws = none := by
  induction ks with
  | nil => intro i ws h; cases ws with
    | nil => exact absurd rfl h
    | cons a t => rfl
  | cons k ks ih => intro i ws h; cases ws with
    | nil => rfl
    | cons a t =>
      show (fieldI i k a).bind _ = none
      cases fieldI i k a with
      | none => rfl
      | some j => exact ih (by simpa using h)
/-- what fields hands back -/
def FieldsTo (w : World) (r : Option Ins) (e : Ending) (w' : World) : Prop :=
  match r with
  | some j => ∃ v, e = .returned (.tuple #[v, .bool true]) ∧ w'.ownsRow w.heap.size 51 5 v 1 (iflat [j]) ∧ Fr No w w'
  | none => e = .returned (.tuple #[.slice none 0 0, .bool false]) ∧ Fr No w w'
theorem FieldsTo.no {w : World} {r : Option Ins} {e : Ending} {w' : World} (h : r = none) (he : e = .returned (.tuple #[.slice none 0 0, .bool false])) (hf : Fr No w w') : FieldsTo w r e w' := by subst h; exact ⟨he, hf⟩
theorem FieldsTo.yes {w : World} {r : Option Ins} {j : Ins} {e : Ending} {w' : World} {v : Value} (h : r = some j) (he : e = .returned (.tuple #[v, .bool true])) (hv : w'.ownsRow w.heap.size 51 5 v 1 (iflat [j])) (hf : Fr No w w') : FieldsTo w r e w' := by subst h; exact ⟨v, he, hv, hf⟩
theorem own_one (w : World) (base : Nat) (j : Ins) (hb : base ≤ w.heap.size) : (w.alloc (.cells #[.int .u8 j.op, .int .u8 j.dst, .int .u8 j.src, .int .i16 j.off, .int .i32 j.imm] 51)).ownsRow base 51 5 (.slice (some ⟨w.heap.size, 0, none⟩) 1 1) 1 (iflat [j]) :=
  ⟨rfl, .inr ⟨w.heap.size, 1, _, rfl, hb, heap_alloc_new w _, Nat.le_refl _, by unfold maxLen; decide, rfl, rfl⟩⟩
def BxI (w : World) (b : Nat) (j : Ins) : Prop := Bx w b j.op j.dst j.src j.off j.imm
theorem kdB_at {ks : List Kd} {k : Nat} {x : Kd} (h : ks[k]? = some x) (hk : k < (bA (kdB ks)).size) : (((bA (kdB ks))[k]'hk).toNat : Int) = kdC x := by
  obtain ⟨hk2, rfl⟩ := List.getElem?_eq_some_iff.1 h
  have e : (bA (kdB ks))[k]'hk = UInt8.ofNat (kdC ks[k]).toNat := by
    show (kdB ks).toArray[k]'_ = _
    simp [kdB]
  rw [e]
  cases ks[k] <;> rfl

set_option maxRecDepth 100000 in
set_option maxHeartbeats 4000000 in
theorem fields_any (i : Ins) (ks : List Kd) (ws : List (List UInt8)) (v : Value) (w : World) (hv : StrsAt w v ws) (h8 : i.op + 8 * eCount ks < 256) (hl : ∀ u ∈ ws, u.length ≤ 100000) (hn : ws.length ≤ 100000) :
    Calls Tryz.prog 77 #[i.agg, .string (bA (kdB ks)), v] w (FieldsTo w (fieldsI i ks ws)) := by
  obtain ⟨a, c, rfl⟩ := hv.form1
  have hsz : (bA (kdB ks)).size = ks.length := by rw [bA_size]; simp [kdB]
  by_cases hlen : ws.length = ks.length
  · have HFD : Hid (∀ (j : Ins) k u W, u ∈ ws → (k = .e → j.op + 8 < 256) → Calls Tryz.prog 100 #[.agg #[.int .u8 j.op, .int .u8 j.dst, .int .u8 j.src, .int .i16 j.off, .int .i32 j.imm], .int .u8 (kdC k), .string (bA u)] W (FieldTo W (fieldI j k u))) := fun j k u W hu he => field_any j k u (hl u hu) he W
    have HST := Lib.hid (FsSt.start (ws := ws) h8)
    have HV : Hid (∀ W, Fr No w W → ∀ k u, ws[k]? = some u → ∃ g o, a = some ⟨g, o, none⟩ ∧ W.cell? ⟨g, o + k, none⟩ = some (.string (bA u))) := fun W hf k u hk => by
      rcases hv with ⟨rfl, _⟩ | ⟨g, o, cap, e, _, _, hc⟩
      · simp at hk
      · cases e
        exact ⟨g, o, rfl, hf.cells hc id k (.string (bA u)) (by simp [strs, hk])⟩
    have HL := Lib.hid hlen
    have HSZ := Lib.hid hsz
    obtain ⟨n, hn1⟩ : ∃ n, ws.length = n := ⟨_, rfl⟩
    have HN := Lib.hid hn1
    have hsz2 : ((bA (kdB ks)).size : Int) = n := by rw [hsz, ← hlen, hn1]
    rw [hn1] at hn ⊢
    clear hv h8 hl hlen hsz hn1
    unfold Ins.agg
    go_enter Tryz.func77, Tryz.ntmps77
    go_upto_region 3 with fail
    obtain ⟨W0, hW0⟩ : ∃ W0, W0 = w.alloc (.cells #[.int .u8 i.op, .int .u8 i.dst, .int .u8 i.src, .int .i16 i.off, .int .i32 i.imm] 51) := ⟨_, rfl⟩
    have HF0 : Hid (Fr No w W0) := by rw [hW0]; exact (Fr.refl _ _).alloc _
    have HB0 : Hid (BxI W0 w.heap.size i) := by rw [hW0]; exact bx_new w _ _ _ _ _ _
    rw [← hW0]
    obtain ⟨b, hb⟩ : ∃ b, w.heap.size = b := ⟨_, rfl⟩
    have HBB : Hid (w.heap.size ≤ b) := Nat.le_of_eq hb
    rw [hb] at HB0 ⊢
    clear hb hW0
    go_wp2_with fail
    go_loopw [8, 9] (fun s8 s9 wr => ∃ (k : Nat) (j : Ins), k ≤ n ∧ s8 = .int .i64 k ∧ Hid (FsSt i ks ws k j) ∧ Hid (BxI wr b j) ∧ Hid (Fr No w wr)) (fun s8 _ _ => n - (intOf s8).toNat)
    case atStart => exact ⟨0, i, Nat.zero_le _, rfl, HST.out, HB0.out, HF0.out⟩
    case round =>
      obtain ⟨k, j, hk, rfl, HS, HB, HF⟩ := hrel
      by_cases hlt : k < n
      · obtain ⟨u, hu⟩ : ∃ u, ws[k]? = some u := ⟨_, List.getElem?_eq_getElem (by rw [HN.out]; exact hlt)⟩
        obtain ⟨x, hx⟩ : ∃ x, ks[k]? = some x := ⟨_, List.getElem?_eq_getElem (by rw [← HL.out, HN.out]; exact hlt)⟩
        obtain ⟨g, o, rfl, hcu⟩ := HV.out _ HF.out k u hu
        have hk2 : k < (bA (kdB ks)).size := by omega
        have hB := kdB_at hx hk2
        have HFX := Lib.hid (fun W => HFD.out j x u W (List.mem_of_getElem? hu) (HS.out.e8 hx))
        obtain ⟨c0, c1, c2, c3, c4, z0, z1, z2, z3, z4⟩ := HB.out
        have p1 : (k : Int) < ((bA (kdB ks)).size : Int) := by omega
        have p2 : (k : Int) < (n : Int) := by omega
        have HLT := Lib.hid hlt
        have HU := Lib.hid hu
        have HX := Lib.hid hx
        have HM : Hid (∀ W, Fr No wr W → BxI W b j) := fun W h => HB.out.fr h
        clear hu hx hlt
        cases hf : fieldI j x u with
        | none =>
          rw [hf] at HFX
          have HE := Lib.hid (HS.out.bad HX.out HU.out hf)
          clear hf
          go_upto_region 7 with fail
          go_cut [9] (fun s9 wx => s9 = .bool false ∧ Hid (Fr No w wx))
          case first =>
            go_region_with (go_at_call 100; (refine (HFX.out _).mono ?_); rintro e w1 ⟨o1, d1, s1, f1, m1, rfl, hf1⟩; have HF1 := Lib.hid (HF.out.drew.trans hf1); obtain ⟨c0, c1, c2, c3, c4, z0, z1, z2, z3, z4⟩ := HM.out _ ((Fr.refl _ _).drew.trans hf1); clear hf1)
            all_goals go_wp2_with fail
            all_goals go_meet
            all_goals exact ⟨rfl, Fr.late (Fr.late (Fr.late (Fr.late (Fr.late HF1.out HBB.out 0 (.int .u8 o1)) HBB.out 1 (.int .u8 d1)) HBB.out 2 (.int .u8 s1)) HBB.out 3 (.int .i16 f1)) HBB.out 4 (.int .i32 m1)⟩
          case rest =>
            obtain ⟨rfl, HF9⟩ := hcut
            go_wp2_with fail
            go_ret2
            exact FieldsTo.no HE.out rfl HF9.out
        | some j' =>
          rw [hf] at HFX
          have HS2 := Lib.hid (HS.out.step HX.out HU.out hf)
          have HFX2 : Hid (∀ W, Calls Tryz.prog 100 #[.agg #[.int .u8 j.op, .int .u8 j.dst, .int .u8 j.src, .int .i16 j.off, .int .i32 j.imm], .int .u8 (kdC x), .string (bA u)] W fun e w' => e = .returned (.tuple #[.agg #[.int .u8 j'.op, .int .u8 j'.dst, .int .u8 j'.src, .int .i16 j'.off, .int .i32 j'.imm], .bool true]) ∧ Fr No W w') := HFX.out
          clear hf HFX
          go_upto_region 7 with fail
          go_cut [9] (fun s9 wx => s9 = .bool true ∧ Hid (Fr No w wx) ∧ Hid (BxI wx b j'))
          case first =>
            go_region_with (go_at_call 100; (refine (HFX2.out _).mono ?_); rintro e w1 ⟨rfl, hf1⟩; have HF1 := Lib.hid (HF.out.drew.trans hf1); obtain ⟨c0, c1, c2, c3, c4, z0, z1, z2, z3, z4⟩ := HM.out _ ((Fr.refl _ _).drew.trans hf1); have HBX := Lib.hid (HM.out _ ((Fr.refl _ _).drew.trans hf1)); clear hf1)
            all_goals go_wp2_with fail
            all_goals go_meet
            all_goals exact ⟨rfl, Fr.late (Fr.late (Fr.late (Fr.late (Fr.late HF1.out HBB.out 0 (.int .u8 j'.op)) HBB.out 1 (.int .u8 j'.dst)) HBB.out 2 (.int .u8 j'.src)) HBB.out 3 (.int .i16 j'.off)) HBB.out 4 (.int .i32 j'.imm), Bx.put HBX.out j'.op j'.dst j'.src j'.off j'.imm⟩
          case rest =>
            obtain ⟨rfl, HF9, HB9⟩ := hcut
            go_wp2_with fail
            go_roundw
            case rel => exact ⟨k + 1, j', HLT.out, by go_num, HS2.out, HB9.out, HF9.out⟩
            case measure => have := HLT.out; simp [intOf] <;> omega
      · obtain rfl : k = n := by omega
        have HE := Lib.hid (HS.out.done (HL.out.symm.trans HN.out) HN.out)
        obtain ⟨c0, c1, c2, c3, c4, z0, z1, z2, z3, z4⟩ := HB.out
        have p2 : ¬ (k : Int) < (k : Int) := by omega
        clear hlt
        go_wp2_with fail
        go_ret2
        exact FieldsTo.yes HE.out rfl (own_one wr _ j HF.out.size) (HF.out.alloc _)
  · have HE := Lib.hid (fields_len (i := i) hlen)
    have q : ((ws.length : Int) != ((bA (kdB ks)).size : Int)) = true := by rw [hsz]; simp; omega
    clear hv h8 hl hn hlen hsz
    generalize ws.length = n at *
    unfold Ins.agg
    go_enter Tryz.func77, Tryz.ntmps77
    go_wp2_with fail
    go_ret2
    exact FieldsTo.no HE.out rfl ((Fr.refl _ _).alloc _)
end Go.Proofs.YthkdokkpiaaljaaGreatDoor

namespace Go.Proofs.YthkdokkpiaaljaaGreatDoor
open Go.RowKit

/-- what raw and line hand back -/
def LineTo (w : World) (r : Option (List Ins)) (e : Ending) (w' : World) : Prop :=
  match r with
  | some l => ∃ v, e = .returned (.tuple #[v, .bool true]) ∧ SrcAt w' v l.length (iflat l) ∧ Fr No w w'
  | none => ∃ v l, e = .returned (.tuple #[v, .bool false]) ∧ SrcAt w' v (l : List Ins).length (iflat l) ∧ l.length ≤ 2 ∧ Fr No w w'
theorem src_nil (w : World) : SrcAt w (.slice none 0 0) ([] : List Ins).length (iflat []) := .inl ⟨rfl, rfl, rfl⟩
theorem LineTo.no {w : World} {r : Option (List Ins)} {e : Ending} {w' : World} {v : Value} {l : List Ins} (h : r = none) (he : e = .returned (.tuple #[v, .bool false])) (hs : SrcAt w' v l.length (iflat l)) (hl : l.length ≤ 2) (hf : Fr No w w') : LineTo w r e w' := by subst h; exact ⟨v, l, he, hs, hl, hf⟩
theorem LineTo.yes {w : World} {r : Option (List Ins)} {e : Ending} {w' : World} {v : Value} {l : List Ins} (h : r = some l) (he : e = .returned (.tuple #[v, .bool true])) (hs : SrcAt w' v l.length (iflat l)) (hf : Fr No w w') : LineTo w r e w' := by subst h; exact ⟨v, he, hs, hf⟩
/-- fields' answer is a line's -/
theorem FieldsTo.line {w w1 : World} {r : Option Ins} {e : Ending} {w' : World} (h : FieldsTo w1 r e w') (hf : Fr No w w1) : LineTo w (r.map fun i => [i]) e w' := by
  cases r with
  | some j =>
    obtain ⟨v, he, hv, hf2⟩ := h
    have hi : InsAt w' v [j] := Gath.ins (w := w1) (t := 51) ⟨hf2, hv⟩
    exact .yes rfl he (hi.src (by simp)) (hf.trans hf2)
  | none => exact .no rfl h.1 (src_nil w') (by simp) (hf.trans h.2)
/-- raw's words, behind the first one -/
def rawD (rest : List (List UInt8)) : Option (List Ins) := match rest with
  | [a, b, c, o, v] => (parseI a 0 255).bind fun x => (parseI b 0 255).bind fun y => (parseI c 0 255).bind fun z => (fieldsI ⟨x.toNat, y.toNat, z.toNat, 0, 0⟩ [.o, .v] [o, v]).map fun i => [i]
  | _ => none
theorem rawD_len {rest : List (List UInt8)} (h : rest.length ≠ 5) : rawD rest = none := by
  match rest, h with
  | [], _ => rfl
  | [_], _ => rfl
  | [_, _], _ => rfl
  | [_, _, _], _ => rfl
  | [_, _, _, _], _ => rfl
  | [_, _, _, _, _], h => exact absurd rfl h
  | _ :: _ :: _ :: _ :: _ :: _ :: _, _ => rfl
theorem u8w (n : Int) : IntKind.u8.wrap n = n % 256 := IntKind.wrap_u8 n
theorem parse_u8 (u : List UInt8) : parseI u 0 255 = if (parseR u 0 255).2 = true then some (IntKind.u8.wrap (parseR u 0 255).1) else none := by
  unfold parseI parseR
  cases numW u with
  | none => rfl
  | some p =>
    obtain ⟨b, n⟩ := p
    cases b with
    | true =>
      show (if n ≤ 0 then some (-(n : Int)) else none) = if decide (n ≤ 0) = true then some (IntKind.u8.wrap (IntKind.u64.wrap (0 - (n : Int)))) else none
      by_cases h : n ≤ 0
      · rw [if_pos h, if_pos (decide_eq_true h), IntKind.wrap_u64, u8w]
        refine congrArg some ?_
        omega
      · rw [if_neg h, if_neg (by rw [decide_eq_false h]; exact Bool.false_ne_true)]
    | false =>
      show (if n ≤ 255 then some (n : Int) else none) = if decide (n ≤ 255) = true then some (IntKind.u8.wrap (n : Int)) else none
      by_cases h : n ≤ 255
      · rw [if_pos h, if_pos (decide_eq_true h), u8w]
        refine congrArg some ?_
        omega
      · rw [if_neg h, if_neg (by rw [decide_eq_false h]; exact Bool.false_ne_true)]
theorem parse_u8n (u : List UInt8) : ∃ n : Nat, n < 256 ∧ IntKind.u8.wrap (parseR u 0 255).1 = n ∧ parseI u 0 255 = if (parseR u 0 255).2 = true then some (n : Int) else none := by
  refine ⟨(IntKind.u8.wrap (parseR u 0 255).1).toNat, ?_, ?_, ?_⟩
  · rw [u8w]; omega
  · rw [u8w]; omega
  · rw [parse_u8]
    have : (((IntKind.u8.wrap (parseR u 0 255).1).toNat : Nat) : Int) = IntKind.u8.wrap (parseR u 0 255).1 := by rw [u8w]; omega
    rw [this]

set_option maxRecDepth 100000 in
set_option maxHeartbeats 1000000 in
theorem raw_unlike (a : Option Addr) (n c : Nat) (h : n ≠ 5) (hn : n ≤ 100000) (w : World) : Calls Tryz.prog 74 #[.slice a n c] w fun e w' => e = .returned (.tuple #[.slice none 0 0, .bool false]) ∧ Fr No w w' := by
  have q : ((n : Int) != 5) = true := by simp; omega
  clear h
  go_enter Tryz.func74, Tryz.ntmps74
  go_wp2_with fail
  go_ret2
  exact ⟨rfl, Fr.refl _ _⟩

/-- three bytes in a block of their own -/
structure B3 (w : World) (b : Nat) (x y z : Int) : Prop where
  c0 : w.cell? ⟨b, 0, none⟩ = some (.int .u8 x)
  c1 : w.cell? ⟨b, 1, none⟩ = some (.int .u8 y)
  c2 : w.cell? ⟨b, 2, none⟩ = some (.int .u8 z)
  z0 : w.frozen? ⟨b, 0, none⟩ = false
  z1 : w.frozen? ⟨b, 1, none⟩ = false
  z2 : w.frozen? ⟨b, 2, none⟩ = false
theorem b3_new (w : World) (x y z : Int) (t : TypeId) : B3 (w.alloc (.cells #[.int .u8 x, .int .u8 y, .int .u8 z] t)) w.heap.size x y z := by
  have hc := CellsAt.new w [.int .u8 x, .int .u8 y, .int .u8 z] t
  exact ⟨hc 0 _ rfl, hc 1 _ rfl, hc 2 _ rfl, by simp, by simp, by simp⟩
theorem B3.put {w : World} {b : Nat} {x y z : Int} (h : B3 w b x y z) (x' y' z' : Int) : B3 (((w.setCell ⟨b, 0, none⟩ (.int .u8 x')).setCell ⟨b, 1, none⟩ (.int .u8 y')).setCell ⟨b, 2, none⟩ (.int .u8 z')) b x' y' z' := by
  have h1 : B3 (w.setCell ⟨b, 0, none⟩ (.int .u8 x')) b x' y z := ⟨World.cell?_setCell_same _ _ _ h.c0, (World.cell?_setCell_other _ _ _ _ (by simp)).trans h.c1, (World.cell?_setCell_other _ _ _ _ (by simp)).trans h.c2, by simpa using h.z0, by simpa using h.z1, by simpa using h.z2⟩
  have h2 : B3 ((w.setCell ⟨b, 0, none⟩ (.int .u8 x')).setCell ⟨b, 1, none⟩ (.int .u8 y')) b x' y' z := ⟨(World.cell?_setCell_other _ _ _ _ (by simp)).trans h1.c0, World.cell?_setCell_same _ _ _ h1.c1, (World.cell?_setCell_other _ _ _ _ (by simp)).trans h1.c2, by simpa using h1.z0, by simpa using h1.z1, by simpa using h1.z2⟩
  exact ⟨(World.cell?_setCell_other _ _ _ _ (by simp)).trans h2.c0, (World.cell?_setCell_other _ _ _ _ (by simp)).trans h2.c1, World.cell?_setCell_same _ _ _ h2.c2, by simpa using h2.z0, by simpa using h2.z1, by simpa using h2.z2⟩

set_option maxRecDepth 100000 in
set_option maxHeartbeats 4000000 in
theorem raw_five (g o c : Nat) (a b d x y : List UInt8) (w : World) (hl : ∀ u ∈ [a, b, d, x, y], u.length ≤ 100000) (hc5 : 5 ≤ c) (hc : CellsAt w g o (strs [a, b, d, x, y])) (hg : g < w.heap.size) : Calls Tryz.prog 74 #[.slice (some ⟨g, o, none⟩) 5 c] w (LineTo w (rawD [a, b, d, x, y])) := by
  have HP : Hid (∀ u ∈ [a, b, d, x, y], ∀ W, Calls Tryz.prog 76 #[.string (bA u), .int .i64 0, .int .u64 255] W fun e w' => e = .returned (.tuple #[.int .u64 (parseR u 0 255).1, .bool (parseR u 0 255).2]) ∧ W = w') := fun u hu W => refparse_any u (hl u hu) 0 255 0 255 (by decide) (by decide) rfl rfl W
  have HA := Lib.hid (HP.out a (by simp))
  have HB := Lib.hid (HP.out b (by simp))
  have HD := Lib.hid (HP.out d (by simp))
  obtain ⟨na, ha1, ha2, ha3⟩ := parse_u8n a
  obtain ⟨nb, hb1, hb2, hb3⟩ := parse_u8n b
  obtain ⟨nd, hd1, hd2, hd3⟩ := parse_u8n d
  have k0 : w.cell? ⟨g, o, none⟩ = some (.string (bA a)) := by have := hc 0 (.string (bA a)) rfl; rwa [Nat.add_zero] at this
  have k1 : w.cell? ⟨g, o + 1, none⟩ = some (.string (bA b)) := hc 1 (.string (bA b)) rfl
  have k2 : w.cell? ⟨g, o + 2, none⟩ = some (.string (bA d)) := hc 2 (.string (bA d)) rfl
  have HFS : Hid (∀ W, Fr No w W → Calls Tryz.prog 77 #[.agg #[.int .u8 na, .int .u8 nb, .int .u8 nd, .int .i16 0, .int .i32 0], .string ⟨#[111, 118]⟩, .slice (some ⟨g, o + 3, none⟩) 2 (c - 3)] W (FieldsTo W (fieldsI ⟨na, nb, nd, 0, 0⟩ [.o, .v] [x, y]))) := fun W hf => by
    refine fields_any ⟨na, nb, nd, 0, 0⟩ [.o, .v] [x, y] _ W ?_ (by simp [eCount]; omega) (fun u hu => hl u (by simp at hu ⊢; rcases hu with rfl | rfl <;> simp)) (by simp)
    refine .inr ⟨g, o + 3, c - 3, rfl, Nat.lt_of_lt_of_le hg hf.size, by simp; omega, fun j u hj => ?_⟩
    have : (strs [a, b, d, x, y])[3 + j]? = some u := by rw [show 3 + j = j + 3 by omega]; exact hj
    have := hf.cells hc id (3 + j) u this
    rw [Nat.add_assoc]
    exact this
  have HK : Hid (∀ W, Fr No w W → W.cell? ⟨g, o, none⟩ = some (.string (bA a)) ∧ W.cell? ⟨g, o + 1, none⟩ = some (.string (bA b)) ∧ W.cell? ⟨g, o + 2, none⟩ = some (.string (bA d))) := fun W hf => ⟨hf.cell k0 id, hf.cell k1 id, hf.cell k2 id⟩
  have HR : Hid (rawD [a, b, d, x, y] = (if (parseR a 0 255).2 = true then some (na : Int) else none).bind fun x1 => (if (parseR b 0 255).2 = true then some (nb : Int) else none).bind fun y1 => (if (parseR d 0 255).2 = true then some (nd : Int) else none).bind fun z1 => (fieldsI ⟨x1.toNat, y1.toNat, z1.toNat, 0, 0⟩ [.o, .v] [x, y]).map fun i => [i]) := by
    show (parseI a 0 255).bind _ = _
    rw [ha3, hb3, hd3]
  obtain ⟨⟨va, ta⟩, hva⟩ : ∃ p, parseR a 0 255 = p := ⟨_, rfl⟩
  obtain ⟨⟨vb, tb⟩, hvb⟩ : ∃ p, parseR b 0 255 = p := ⟨_, rfl⟩
  obtain ⟨⟨vd, td⟩, hvd⟩ : ∃ p, parseR d 0 255 = p := ⟨_, rfl⟩
  rw [hva] at HA ha2 HR
  rw [hvb] at HB hb2 HR
  rw [hvd] at HD hd2 HR
  have HCC : Hid (5 ≤ c) := hc5
  clear HP hl hc ha3 hb3 hd3 hva hvb hvd
  dsimp only at HA HB HD ha2 hb2 hd2
  generalize rawD [a, b, d, x, y] = RR at *
  go_enter Tryz.func74, Tryz.ntmps74
  go_upto_region 4 with fail
  obtain ⟨W0, hW0⟩ : ∃ W0, W0 = w.alloc (.cells #[.int .u8 0, .int .u8 0, .int .u8 0] 141) := ⟨_, rfl⟩
  have HF0 : Hid (Fr No w W0) := by rw [hW0]; exact (Fr.refl _ _).alloc _
  have HB0 : Hid (B3 W0 w.heap.size 0 0 0) := by rw [hW0]; exact b3_new w 0 0 0 _
  rw [← hW0]
  obtain ⟨b0, hb0⟩ : ∃ b0, w.heap.size = b0 := ⟨_, rfl⟩
  have HBB : Hid (w.heap.size ≤ b0) := Nat.le_of_eq hb0
  rw [hb0] at HB0 ⊢
  have hne : g ≠ b0 := by omega
  obtain ⟨k0, k1, k2⟩ := HK.out W0 HF0.out
  obtain ⟨c0, c1, c2, z0, z1, z2⟩ := HB0.out
  clear hb0 hW0
  go_wp2_with fail
  refine wp_loop_rounds 4 ?_
  cases ta with
  | false =>
    have HE : Hid (RR = none) := HR.out
    rw [rounds_succ]
    go_wp2_with (first | (go_at_call 76; (with_reducible refine (HA.out _).mono ?_); rintro e w1 ⟨rfl, rfl⟩) | (go_at_call 76; (with_reducible refine (HB.out _).mono ?_); rintro e w1 ⟨rfl, rfl⟩) | (go_at_call 76; (with_reducible refine (HD.out _).mono ?_); rintro e w1 ⟨rfl, rfl⟩))
    go_ret2
    exact LineTo.no HE.out rfl (src_nil _) (by simp) HF0.out
  | true =>
    rw [rounds_succ]
    go_wp2_with (first | (go_at_call 76; (with_reducible refine (HA.out _).mono ?_); rintro e w1 ⟨rfl, rfl⟩) | (go_at_call 76; (with_reducible refine (HB.out _).mono ?_); rintro e w1 ⟨rfl, rfl⟩) | (go_at_call 76; (with_reducible refine (HD.out _).mono ?_); rintro e w1 ⟨rfl, rfl⟩))
    cases tb with
    | false =>
      have HE : Hid (RR = none) := HR.out
      rw [rounds_succ]
      go_wp2_with (first | (go_at_call 76; (with_reducible refine (HA.out _).mono ?_); rintro e w1 ⟨rfl, rfl⟩) | (go_at_call 76; (with_reducible refine (HB.out _).mono ?_); rintro e w1 ⟨rfl, rfl⟩) | (go_at_call 76; (with_reducible refine (HD.out _).mono ?_); rintro e w1 ⟨rfl, rfl⟩))
      go_ret2
      exact LineTo.no HE.out rfl (src_nil _) (by simp) (Fr.late HF0.out HBB.out 0 (.int .u8 na))
    | true =>
      rw [rounds_succ]
      go_wp2_with (first | (go_at_call 76; (with_reducible refine (HA.out _).mono ?_); rintro e w1 ⟨rfl, rfl⟩) | (go_at_call 76; (with_reducible refine (HB.out _).mono ?_); rintro e w1 ⟨rfl, rfl⟩) | (go_at_call 76; (with_reducible refine (HD.out _).mono ?_); rintro e w1 ⟨rfl, rfl⟩))
      cases td with
      | false =>
        have HE : Hid (RR = none) := HR.out
        rw [rounds_succ]
        go_wp2_with (first | (go_at_call 76; (with_reducible refine (HA.out _).mono ?_); rintro e w1 ⟨rfl, rfl⟩) | (go_at_call 76; (with_reducible refine (HB.out _).mono ?_); rintro e w1 ⟨rfl, rfl⟩) | (go_at_call 76; (with_reducible refine (HD.out _).mono ?_); rintro e w1 ⟨rfl, rfl⟩))
        go_ret2
        exact LineTo.no HE.out rfl (src_nil _) (by simp) (Fr.late (Fr.late HF0.out HBB.out 0 (.int .u8 na)) HBB.out 1 (.int .u8 nb))
      | true =>
        rw [rounds_succ]
        go_wp2_with (first | (go_at_call 76; (with_reducible refine (HA.out _).mono ?_); rintro e w1 ⟨rfl, rfl⟩) | (go_at_call 76; (with_reducible refine (HB.out _).mono ?_); rintro e w1 ⟨rfl, rfl⟩) | (go_at_call 76; (with_reducible refine (HD.out _).mono ?_); rintro e w1 ⟨rfl, rfl⟩))
        rw [rounds_succ]
        go_upto_region 11 with fail
        obtain ⟨W3, hW3⟩ : ∃ W3, W3 = (((W0.setCell ⟨b0, 0, none⟩ (.int .u8 na)).setCell ⟨b0, 1, none⟩ (.int .u8 nb)).setCell ⟨b0, 2, none⟩ (.int .u8 nd)) := ⟨_, rfl⟩
        have HB3 : B3 W3 b0 na nb nd := by rw [hW3]; exact HB0.out.put na nb nd
        have HF3 : Hid (Fr No w W3) := by rw [hW3]; exact Fr.late (Fr.late (Fr.late HF0.out HBB.out 0 (.int .u8 na)) HBB.out 1 (.int .u8 nb)) HBB.out 2 (.int .u8 nd)
        refine Eq.mp (congrArg (fun W => Code.wp Tryz.prog _ _ _ W) hW3) ?_
        have HE : Hid (RR = (fieldsI ⟨na, nb, nd, 0, 0⟩ [.o, .v] [x, y]).map fun i => [i]) := HR.out
        clear hW3 k0 k1 k2 c0 c1 c2 z0 z1 z2
        obtain ⟨c0, c1, c2, z0, z1, z2⟩ := HB3
        have HFS3 : Hid (∀ W, Fr No W3 W → Calls Tryz.prog 77 #[.agg #[.int .u8 na, .int .u8 nb, .int .u8 nd, .int .i16 0, .int .i32 0], .string ⟨#[111, 118]⟩, .slice (some ⟨g, o + 3, none⟩) 2 (c - 3)] W (LineTo w RR)) := fun W hf => (HFS.out W (HF3.out.trans hf)).mono fun e w' h => by rw [HE.out]; exact h.line (HF3.out.trans hf)
        have pc : (5 : Int) ≤ (c : Int) := by omega
        have pc2 : (3 : Int) ≤ (c : Int) := by omega
        have pc3 : ¬ c = 3 := by omega
        have HFd : Hid (Fr No W3 W3.drew) := (Fr.refl _ _).drew
        go_cut [2, 3] (fun s2 s3 wx => LineTo w RR (.returned (.tuple #[s2, s3])) wx)
        case first =>
          go_region_with (go_at_call 77; (refine (HFS3.out _ HFd.out).mono ?_); rintro e w1 hto; have HTO := Lib.hid hto; obtain ⟨v1, t1, rfl⟩ : ∃ v1 t1, e = .returned (.tuple #[v1, .bool t1]) := (by cases hr : RR with | none => rw [hr] at hto; obtain ⟨v1, l1, he, _⟩ := hto; exact ⟨_, _, he⟩ | some l1 => rw [hr] at hto; obtain ⟨v1, he, _⟩ := hto; exact ⟨_, _, he⟩); clear hto)
          all_goals go_wp2_with fail
          all_goals go_meet
          all_goals exact HTO.out
        case rest =>
          go_wp2_with fail
          go_ret2
          exact hcut
theorem raw_any (v : Value) (ws : List (List UInt8)) (w : World) (hv : StrsAt w v ws) (hl : ∀ u ∈ ws, u.length ≤ 100000) (hn : ws.length ≤ 100000) : Calls Tryz.prog 74 #[v] w (LineTo w (rawD ws)) := by
  by_cases h5 : ws.length = 5
  · rcases hv with ⟨rfl, _⟩ | ⟨g, o, c, rfl, hg, hcap, hc⟩
    · simp at h5
    · obtain ⟨a, b, d, x, y, rfl⟩ : ∃ a b d x y, ws = [a, b, d, x, y] := by
        match ws, h5 with
        | [a, b, d, x, y], _ => exact ⟨a, b, d, x, y, rfl⟩
      exact raw_five g o c a b d x y w hl hcap hc hg
  · obtain ⟨a, c, rfl⟩ := hv.form1
    rw [rawD_len h5]
    exact (raw_unlike a _ c h5 hn w).mono fun e w' ⟨he, hf⟩ => .no rfl he (src_nil _) (by simp) hf
end Go.Proofs.YthkdokkpiaaljaaGreatDoor
