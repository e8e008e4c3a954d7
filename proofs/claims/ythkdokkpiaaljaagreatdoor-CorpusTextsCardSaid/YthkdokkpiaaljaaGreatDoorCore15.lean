/- lines.Show, walked. -/
import Derived.Test.YthkdokkpiaaljaaGreatDoorCore14
import Derived.Test.YthkdokkpiaaljaaGreatDoorCore7
import Derived.Deep.CutBlock
set_option linter.all false
set_option linter.unusedVariables false
set_option linter.unusedSimpArgs false
namespace Go.Proofs.YthkdokkpiaaljaaGreatDoor
open Go.RowKit

/-- how far a text is laid -/
def ShowTo (l : List Ins) (k : Nat) (S : List UInt8) : Prop := S ++ showL (l.drop k) = showL l
theorem strCells_bA (s : List UInt8) : Lib.strCells (bA s) = Lib.byteCells s := rfl
theorem byteCells_app (a b : List UInt8) : Lib.byteCells a ++ Lib.byteCells b = Lib.byteCells (a ++ b) := by simp [Lib.byteCells]
theorem Fr.ofB {w W W' : World} (h : Fr No w W) (hb : Below w.heap.size W W') : Fr No w W' := Fr.of_below (h.below.trans hb)
theorem builder_fr {T e : TypeId} {B b : Nat} {bs : List Value} {w w' : World} (h : Lib.IsBuilder T e B b bs w) (hf : Fr No w w') : Lib.IsBuilder T e B b bs w' := by
  have key : ∀ p, Lib.BuilderAt T e B b p bs w → Lib.BuilderAt T e B b p bs w' := by
    intro p h
    have hlt := Lib.BuilderAt.lt h
    obtain ⟨hB, v, hb, hown, hne⟩ := h
    refine ⟨hB, v, (hf.block b hlt id).trans hb, ⟨hown.1, ?_⟩, hne⟩
    rcases hown.2 with h2 | ⟨g, cap, cur, hv, hb2, hg, h3⟩
    · exact .inl h2
    · have hgl : g < w.heap.size := by
        rcases Nat.lt_or_ge g w.heap.size with h | h
        · exact h
        · rw [Array.getElem?_eq_none h] at hg; cases hg
      exact .inr ⟨g, cap, cur, hv, hb2, by rw [hf.block g hgl id]; exact hg, h3⟩
  rcases h with h | h
  · exact .inl (key _ h)
  · exact .inr (key _ h)
theorem rawW_join (x : Ins) : joinW (rawW x) = rawI x := rfl
/-- the words of a round, and where it stops -/
def RoundTo (l : List Ins) (k n : Nat) (S : List UInt8) (v : Value) (k2 : Nat) (w : World) : Prop := ∃ ws, StrsAt w v ws ∧ ws.length ≤ 100 ∧ (joinW ws).length ≤ 1000 ∧ k2 < n ∧ k ≤ k2 ∧ ShowTo l (k2 + 1) (S ++ joinW ws ++ [10])
theorem RoundTo.fr {l : List Ins} {k n k2 : Nat} {S : List UInt8} {v : Value} {w w' : World} (h : RoundTo l k n S v k2 w) (hf : Fr No w w') : RoundTo l k n S v k2 w' := by
  obtain ⟨ws, h1, h2⟩ := h
  exact ⟨ws, h1.fr hf, h2⟩
theorem raw_room (x : Ins) (hx : x.ok) : (joinW (rawW x)).length ≤ 1000 := by
  have := raw_len x hx
  rw [rawW_join]
  omega
theorem pair_room (x y : Ins) (hx : x.ok) : (joinW (pairW x y)).length ≤ 1000 := by
  have h1 := dec_len20 (n := x.dst) (by have := hx.dst; omega)
  have h2 := itoa_len_le (n := x.imm) (m := 19) (by have := hx.imm; omega) (by omega)
  have h3 := dec_len20 (wide_lt x y)
  unfold pairW
  split
  · have := join3 [108, 100, 109, 97, 112] (regN x.dst) (itoaN x.imm)
    simp only [regN, List.length_cons, List.length_nil] at this ⊢
    omega
  · have := join3 [108, 100, 105, 109, 109] (regN x.dst) (decN (wideN x y))
    simp only [regN, List.length_cons, List.length_nil] at this ⊢
    omega

set_option maxRecDepth 100000 in
set_option maxHeartbeats 8000000 in
theorem lshow_any (v : Value) (l : List Ins) (w : World) (h : InsAt w v l) (hok : ∀ i ∈ l, i.ok) (hn : l.length ≤ 300) (hT : LT w) : Calls Tryz.prog 11 #[v] w fun e w' => e = .returned (.string (bA (showL l))) ∧ Fr No w w' := by
  have HT : Hid (∀ W, Fr No w W → LT W) := fun W h => hT.fr h
  have HBS : Hid (∀ l W, Fr No w W → Lib.IsBuilder 54 5 w.heap.size w.heap.size (Lib.byteCells l) W → Calls Tryz.prog 27 #[.pointer (some ⟨w.heap.size, 0, none⟩)] W fun e w' => e = .returned (.string (bA l)) ∧ Fr No w w') := fun l W hf hb =>
    (Tryz.Builder_String_any w.heap.size w.heap.size l W hb hf.size).mono fun e w' ⟨he, hb⟩ => ⟨he, hf.ofB hb⟩
  have HBW : Hid (∀ s t W, Fr No w W → (bA t).size ≤ 200000 → s.length ≤ 200000 → Lib.IsBuilder 54 5 w.heap.size w.heap.size (Lib.byteCells s) W → Calls Tryz.prog 25 #[.pointer (some ⟨w.heap.size, 0, none⟩), .string (bA t)] W fun e w' => e = .returned (.tuple #[.int .i64 (bA t).size, .nilIface]) ∧ Hid (Lib.IsBuilder 54 5 w.heap.size w.heap.size (Lib.byteCells (s ++ t)) w' ∧ Fr No w w')) := fun s t W hf ht hs hb => by
    have := Tryz.Builder_WriteString w.heap.size w.heap.size (Lib.byteCells s) (bA t) W hb (by rw [Lib.byteCells_length]; omega) hf.size
    rw [strCells_bA, byteCells_app] at this
    exact this.mono fun e w' ⟨he, hb, hbl⟩ => ⟨he, .inr hb, hf.ofB hbl⟩
  have HB : Hid (Lib.IsBuilder 54 5 w.heap.size w.heap.size (Lib.byteCells []) (w.alloc (.cells #[.pointer none, .slice none 0 0] 54))) := Lib.fresh_isBuilder 54 5 w
  clear hT
  rcases h with ⟨rfl, a, c, rfl⟩ | ⟨g, off, cap, rfl, hc⟩
  · go_enter Tryz.func11, Tryz.ntmps11
    go_wp2_with fail
    refine wp_loop_rounds 1 ?_
    rw [rounds_succ]
    go_wp2_with (go_at_call 27; (with_reducible refine (HBS.out [] _ ((Fr.refl _ _).alloc _) HB.out).mono ?_); rintro e w1 ⟨rfl, hf1⟩)
    go_ret
    exact ⟨rfl, hf1⟩
  have HCE : Hid (∀ W, Fr No w W → CellsAt W g off (iflat l)) := fun W hW => hW.cells hc id
  have HOK := Lib.hid hok
  have HNN := Lib.hid hn
  obtain ⟨n, hln⟩ : ∃ n, l.length = n := ⟨_, rfl⟩
  have HN := Lib.hid hln
  rw [hln] at hn ⊢
  clear hc hln hok
  go_enter Tryz.func11, Tryz.ntmps11
  go_wp2_with fail
  go_loopw [4] (fun s4 wr => ∃ (k : Nat) (S : List UInt8), k ≤ n ∧ s4 = .int .i64 k ∧ Hid (ShowTo l k S) ∧ Hid (Lib.IsBuilder 54 5 w.heap.size w.heap.size (Lib.byteCells S) wr) ∧ Hid (Fr No w wr)) (fun s4 _ => n - (intOf s4).toNat)
  case atStart => exact ⟨0, [], Nat.zero_le _, rfl, rfl, HB.out, (Fr.refl _ _).alloc _⟩
  case round =>
    obtain ⟨k, S, hk, rfl, HI, HBU, HF⟩ := hrel
    by_cases hlt : k < n
    · obtain ⟨x, hx⟩ : ∃ x, l[k]? = some x := ⟨_, List.getElem?_eq_getElem (by rw [HN.out]; exact hlt)⟩
      have hxo := HOK.out x (List.mem_of_getElem? hx)
      have HX := Lib.hid hx
      have HXO := Lib.hid hxo
      have hsS : (bA S).size ≤ 20000 := show_room HOK.out HNN.out HI.out
      rw [bA_size] at hsS
      have HSS := Lib.hid hsS
      obtain ⟨c0, c1, c2, c3, c4⟩ := ins_cell (HCE.out _ HF.out) hx
      have HCX : Hid (∀ W, Calls Tryz.prog 22 #[.agg #[.int .u8 x.op, .int .u8 x.dst, .int .u8 x.src, .int .i16 x.off, .int .i32 x.imm], .bool true] W fun e w' => e = .returned (.int .i64 (checkI x true)) ∧ Fr No W w') := fun W => icheck_any x true hxo W
      have HN0 : Hid (∀ (n : Nat) W, n < 256 → LT W → Calls Tryz.prog 19 #[.int .u8 n] W fun e w' => e = .returned (.string (bA (itoaN n))) ∧ Fr No W w') := fun n W h h2 => num_u8 n h W h2
      have HN6 : Hid (∀ W, LT W → Calls Tryz.prog 20 #[.int .i16 x.off] W fun e w' => e = .returned (.string (bA (itoaN x.off))) ∧ Fr No W w') := fun W h2 => num_i16 x.off hxo.off W h2
      have HN2 : Hid (∀ W, LT W → Calls Tryz.prog 21 #[.int .i32 x.imm] W fun e w' => e = .returned (.string (bA (itoaN x.imm))) ∧ Fr No W w') := fun W h2 => num_i32 x.imm hxo.imm W h2
      have bo := hxo.op; have bd := hxo.dst; have bs := hxo.src
      obtain ⟨mB, hmB⟩ : ∃ b, (checkI x true == 0) = b := ⟨_, rfl⟩
      obtain ⟨b24, hb24⟩ : ∃ b, (x.op == 24) = b := ⟨_, rfl⟩
      have q1 : ((x.op : Int) != 24) = !b24 := by have := beq_nat x.op 24; rw [bne, ← hb24]; exact congrArg _ this
      have HMB := Lib.hid hmB
      have H24 := Lib.hid hb24
      have hzn : (k : Int) < (n : Int) := by omega
      clear hx hxo hb24 hsS
      go_upto_region 6 with fail
      obtain ⟨W1, hW1⟩ : ∃ W1, W1 = wr.alloc (.cells #[.int .u8 x.op, .int .u8 x.dst, .int .u8 x.src, .int .i16 x.off, .int .i32 x.imm] 51) := ⟨_, rfl⟩
      have H1 : Hid (∀ W, Fr No W1 W → W.cell? ⟨wr.heap.size, 0, none⟩ = some (.int .u8 x.op) ∧ W.cell? ⟨wr.heap.size, 1, none⟩ = some (.int .u8 x.dst) ∧ W.cell? ⟨wr.heap.size, 2, none⟩ = some (.int .u8 x.src) ∧ W.cell? ⟨wr.heap.size, 3, none⟩ = some (.int .i16 x.off) ∧ W.cell? ⟨wr.heap.size, 4, none⟩ = some (.int .i32 x.imm)) := fun W hW => by
        subst hW1
        refine ⟨hW.cell ?_ id, hW.cell ?_ id, hW.cell ?_ id, hW.cell ?_ id, hW.cell ?_ id⟩ <;> go_simp
      have HF1 : Hid (Fr No w W1) := by rw [hW1]; exact HF.out.alloc _
      have HBU1 : Hid (Lib.IsBuilder 54 5 w.heap.size w.heap.size (Lib.byteCells S) W1) := by rw [hW1]; exact builder_fr HBU.out ((Fr.refl _ _).alloc _)
      rw [← hW1]
      clear hW1 c0 c1 c2 c3 c4 HBU
      have HB1 : Hid (∀ W, Fr No W1 W → W.cell? ⟨wr.heap.size, 0, none⟩ = some (.int .u8 x.op) ∧ W.cell? ⟨wr.heap.size, 1, none⟩ = some (.int .u8 x.dst) ∧ W.cell? ⟨wr.heap.size, 2, none⟩ = some (.int .u8 x.src) ∧ W.cell? ⟨wr.heap.size, 3, none⟩ = some (.int .i16 x.off) ∧ W.cell? ⟨wr.heap.size, 4, none⟩ = some (.int .i32 x.imm) ∧ Hid (Fr No W1 W)) := fun W hW => by
        obtain ⟨a0, a1, a2, a3, a4⟩ := H1.out W hW
        exact ⟨a0, a1, a2, a3, a4, hW⟩
      have HK : Hid (∀ W W', Fr No W W' → (W.cell? ⟨wr.heap.size, 0, none⟩ = some (.int .u8 x.op) ∧ W.cell? ⟨wr.heap.size, 1, none⟩ = some (.int .u8 x.dst) ∧ W.cell? ⟨wr.heap.size, 2, none⟩ = some (.int .u8 x.src) ∧ W.cell? ⟨wr.heap.size, 3, none⟩ = some (.int .i16 x.off) ∧ W.cell? ⟨wr.heap.size, 4, none⟩ = some (.int .i32 x.imm) ∧ Hid (Fr No W1 W)) → (W'.cell? ⟨wr.heap.size, 0, none⟩ = some (.int .u8 x.op) ∧ W'.cell? ⟨wr.heap.size, 1, none⟩ = some (.int .u8 x.dst) ∧ W'.cell? ⟨wr.heap.size, 2, none⟩ = some (.int .u8 x.src) ∧ W'.cell? ⟨wr.heap.size, 3, none⟩ = some (.int .i16 x.off) ∧ W'.cell? ⟨wr.heap.size, 4, none⟩ = some (.int .i32 x.imm) ∧ Hid (Fr No W1 W'))) := fun W W' hf h => HB1.out W' (h.2.2.2.2.2.out.trans hf)
      have HL : Hid (∀ W, (W.cell? ⟨wr.heap.size, 0, none⟩ = some (.int .u8 x.op) ∧ W.cell? ⟨wr.heap.size, 1, none⟩ = some (.int .u8 x.dst) ∧ W.cell? ⟨wr.heap.size, 2, none⟩ = some (.int .u8 x.src) ∧ W.cell? ⟨wr.heap.size, 3, none⟩ = some (.int .i16 x.off) ∧ W.cell? ⟨wr.heap.size, 4, none⟩ = some (.int .i32 x.imm) ∧ Hid (Fr No W1 W)) → LT W) := fun W h => HT.out _ (HF1.out.trans h.2.2.2.2.2.out)
      have HL2 : Hid (∀ W, (W.cell? ⟨wr.heap.size, 0, none⟩ = some (.int .u8 x.op) ∧ W.cell? ⟨wr.heap.size, 1, none⟩ = some (.int .u8 x.dst) ∧ W.cell? ⟨wr.heap.size, 2, none⟩ = some (.int .u8 x.src) ∧ W.cell? ⟨wr.heap.size, 3, none⟩ = some (.int .i16 x.off) ∧ W.cell? ⟨wr.heap.size, 4, none⟩ = some (.int .i32 x.imm) ∧ Hid (Fr No W1 W)) → Fr No W1 W) := fun W h => h.2.2.2.2.2.out
      go_cut [6] from 19 to 34 (fun s wx => Hid (StrsAt wx s (rawW x) ∧ Fr No W1 wx))
      case first =>
        have hst : W1.drew.cell? ⟨wr.heap.size, 0, none⟩ = some (.int .u8 x.op) ∧ W1.drew.cell? ⟨wr.heap.size, 1, none⟩ = some (.int .u8 x.dst) ∧ W1.drew.cell? ⟨wr.heap.size, 2, none⟩ = some (.int .u8 x.src) ∧ W1.drew.cell? ⟨wr.heap.size, 3, none⟩ = some (.int .i16 x.off) ∧ W1.drew.cell? ⟨wr.heap.size, 4, none⟩ = some (.int .i32 x.imm) ∧ Hid (Fr No W1 W1.drew) := HB1.out _ (Fr.refl _ _).drew
        go_region_held3 (fun W => W.cell? ⟨wr.heap.size, 0, none⟩ = some (.int .u8 x.op) ∧ W.cell? ⟨wr.heap.size, 1, none⟩ = some (.int .u8 x.dst) ∧ W.cell? ⟨wr.heap.size, 2, none⟩ = some (.int .u8 x.src) ∧ W.cell? ⟨wr.heap.size, 3, none⟩ = some (.int .i16 x.off) ∧ W.cell? ⟨wr.heap.size, 4, none⟩ = some (.int .i32 x.imm) ∧ Hid (Fr No W1 W)) (first | assumption | exact HK.out _ _ (by assumption) (by assumption) | exact HK.out _ _ ((Fr.refl _ _).alloc _) (by assumption))
          (first
            | (go_at_call 19; (with_reducible refine (HN0.out _ _ (by omega) (HL.out _ (by assumption))).mono ?_); rintro e w4 ⟨rfl, hf4⟩)
            | (go_at_call 20; (with_reducible refine (HN6.out _ (HL.out _ (by assumption))).mono ?_); rintro e w5 ⟨rfl, hf5⟩)
            | (go_at_call 21; (with_reducible refine (HN2.out _ (HL.out _ (by assumption))).mono ?_); rintro e w6 ⟨rfl, hf6⟩))
        all_goals go_wp2_with fail
        all_goals go_meet
        all_goals exact ⟨StrsAt.new _ (rawW x) _ _ rfl, HL2.out _ (by assumption)⟩
      case rest =>
        have HSR := Lib.hid hcut.out.1
        have HF2 := Lib.hid hcut.out.2
        obtain ⟨ra, rc, rfl⟩ := HSR.out.form
        clear hcut
        obtain ⟨g0, g1, g2, g3, g4⟩ := H1.out _ HF2.out
        go_upto_region 7 with fail
        go_cut [42] from 35 to 42 (fun s wx => s = .bool (mB && !b24) ∧ Hid (Fr No wc wx))
        case first =>
          cases b24
          · go_wp2_with (go_at_call 22; (with_reducible refine (HCX.out _).mono ?_); rintro e w2 ⟨rfl, hf2⟩)
            go_meet
            exact ⟨by simp, hf2⟩
          · go_wp2_with fail
            go_meet
            exact ⟨by simp, Fr.refl _ _⟩
        obtain ⟨rfl, HF3⟩ := hcut
        have HF4 := Lib.hid (HF2.out.trans HF3.out)
        have HSR2 := Lib.hid (HSR.out.fr HF3.out)
        obtain ⟨zA, hzA⟩ : ∃ z : Bool, (mB && !b24) = z := ⟨_, rfl⟩
        have HZA := Lib.hid hzA
        rw [hzA]
        clear g0 g1 g2 g3 g4 HSR HF3 HF2 hzA q1 hmB
        go_upto_if 42 with fail
        go_cut [4, 6] from 43 to 63 (fun s4 s6 wx => ∃ k2 : Nat, s4 = .int .i64 k2 ∧ Hid (RoundTo l k n S s6 k2 wx ∧ Fr No W1 wx))
        case first =>
          cases zA with
          | true =>
            have hm1 : mB = true ∧ b24 = false := by have := HZA.out; cases mB <;> cases b24 <;> simp_all
            obtain ⟨hm1, hm2⟩ := hm1
            have hF := check_fits (i := x) (by rw [HMB.out]; exact hm1)
            have h24 : x.op ≠ 24 := by have := H24.out; rw [hm2] at this; simpa using this
            have HW : Hid (∀ W, LT W → Calls Tryz.prog 23 #[.agg #[.int .u8 x.op, .int .u8 x.dst, .int .u8 x.src, .int .i16 x.off, .int .i32 x.imm]] W (SlStrs ((toks x.op).map (Tok.show x)) W)) := fun W h2 => words_any x HXO.out hF.known h24 W h2
            have HSA := Lib.hid (show_A HI.out HX.out (by rw [HMB.out]; exact hm1) (by rw [H24.out]; exact hm2))
            have hlr := line_room x HXO.out
            rw [bA_size] at hlr
            have HLR := Lib.hid hlr
            obtain ⟨g0, g1, g2, g3, g4⟩ := H1.out _ HF4.out
            clear hm1 hm2 hF h24 hlr
            go_wp2_with (go_at_call 23; (with_reducible refine (HW.out _ (HT.out _ (HF1.out.trans HF4.out))).mono ?_); rintro e w3 ⟨v3, rfl, hS3, hF3⟩; have HS3 := Lib.hid hS3; have HF5 := Lib.hid hF3; clear hS3 hF3)
            go_meet
            exact ⟨k, rfl, ⟨_, HS3.out, by have := toks_few x.op HXO.out.op; simp; omega, HLR.out, hlt, Nat.le_refl _, HSA.out⟩, HF4.out.trans HF5.out⟩
          | false =>
            have HRW : Hid ((∀ y, l[k + 1]? = some y → dblB x y = false) → RoundTo l k n S (.slice ra (rawW x).length rc) k wc) := fun h => ⟨_, HSR2.out, by simp [rawW], raw_room x HXO.out, hlt, Nat.le_refl _, by
              rw [rawW_join]
              refine show_C HI.out HX.out ?_
              rw [HMB.out, H24.out]
              have hz := HZA.out
              cases mB with
              | false => exact .inl rfl
              | true =>
                have hb : b24 = true := by simpa using hz
                refine .inr ⟨hb, fun j hj => ?_⟩
                have := h j hj
                unfold dblB at this
                rw [H24.out, HMB.out, hb] at this
                simpa using this⟩
            by_cases hl2 : k + 1 < n
            · obtain ⟨y, hy⟩ : ∃ y, l[k + 1]? = some y := ⟨_, List.getElem?_eq_getElem (by rw [HN.out]; exact hl2)⟩
              have hyo := HOK.out y (List.mem_of_getElem? hy)
              have HY := Lib.hid hy
              have HYO := Lib.hid hyo
              have HBJ : Hid (∀ W, Fr No W1 W → (W.cell? ⟨wr.heap.size, 0, none⟩ = some (.int .u8 x.op) ∧ W.cell? ⟨wr.heap.size, 1, none⟩ = some (.int .u8 x.dst) ∧ W.cell? ⟨wr.heap.size, 2, none⟩ = some (.int .u8 x.src) ∧ W.cell? ⟨wr.heap.size, 3, none⟩ = some (.int .i16 x.off) ∧ W.cell? ⟨wr.heap.size, 4, none⟩ = some (.int .i32 x.imm)) ∧ (W.cell? ⟨g, off + (k + 1) * 5, none⟩ = some (.int .u8 y.op) ∧ W.cell? ⟨g, off + (k + 1) * 5 + 1, none⟩ = some (.int .u8 y.dst) ∧ W.cell? ⟨g, off + (k + 1) * 5 + 2, none⟩ = some (.int .u8 y.src) ∧ W.cell? ⟨g, off + (k + 1) * 5 + 3, none⟩ = some (.int .i16 y.off) ∧ W.cell? ⟨g, off + (k + 1) * 5 + 4, none⟩ = some (.int .i32 y.imm)) ∧ Hid (Fr No W1 W)) := fun W hW => by
                obtain ⟨a0, a1, a2, a3, a4⟩ := H1.out W hW
                obtain ⟨j0, j1, j2, j3, j4⟩ := ins_cell (HCE.out _ (HF1.out.trans hW)) HY.out
                exact ⟨⟨a0, a1, a2, a3, a4⟩, ⟨j0, j1, j2, j3, j4⟩, hW⟩
              have HKJ : Hid (∀ W W', Fr No W W' → ((W.cell? ⟨wr.heap.size, 0, none⟩ = some (.int .u8 x.op) ∧ W.cell? ⟨wr.heap.size, 1, none⟩ = some (.int .u8 x.dst) ∧ W.cell? ⟨wr.heap.size, 2, none⟩ = some (.int .u8 x.src) ∧ W.cell? ⟨wr.heap.size, 3, none⟩ = some (.int .i16 x.off) ∧ W.cell? ⟨wr.heap.size, 4, none⟩ = some (.int .i32 x.imm)) ∧ (W.cell? ⟨g, off + (k + 1) * 5, none⟩ = some (.int .u8 y.op) ∧ W.cell? ⟨g, off + (k + 1) * 5 + 1, none⟩ = some (.int .u8 y.dst) ∧ W.cell? ⟨g, off + (k + 1) * 5 + 2, none⟩ = some (.int .u8 y.src) ∧ W.cell? ⟨g, off + (k + 1) * 5 + 3, none⟩ = some (.int .i16 y.off) ∧ W.cell? ⟨g, off + (k + 1) * 5 + 4, none⟩ = some (.int .i32 y.imm)) ∧ Hid (Fr No W1 W)) → ((W'.cell? ⟨wr.heap.size, 0, none⟩ = some (.int .u8 x.op) ∧ W'.cell? ⟨wr.heap.size, 1, none⟩ = some (.int .u8 x.dst) ∧ W'.cell? ⟨wr.heap.size, 2, none⟩ = some (.int .u8 x.src) ∧ W'.cell? ⟨wr.heap.size, 3, none⟩ = some (.int .i16 x.off) ∧ W'.cell? ⟨wr.heap.size, 4, none⟩ = some (.int .i32 x.imm)) ∧ (W'.cell? ⟨g, off + (k + 1) * 5, none⟩ = some (.int .u8 y.op) ∧ W'.cell? ⟨g, off + (k + 1) * 5 + 1, none⟩ = some (.int .u8 y.dst) ∧ W'.cell? ⟨g, off + (k + 1) * 5 + 2, none⟩ = some (.int .u8 y.src) ∧ W'.cell? ⟨g, off + (k + 1) * 5 + 3, none⟩ = some (.int .i16 y.off) ∧ W'.cell? ⟨g, off + (k + 1) * 5 + 4, none⟩ = some (.int .i32 y.imm)) ∧ Hid (Fr No W1 W'))) := fun W W' hf h => HBJ.out W' (h.2.2.out.trans hf)
              have HLJ : Hid (∀ W, ((W.cell? ⟨wr.heap.size, 0, none⟩ = some (.int .u8 x.op) ∧ W.cell? ⟨wr.heap.size, 1, none⟩ = some (.int .u8 x.dst) ∧ W.cell? ⟨wr.heap.size, 2, none⟩ = some (.int .u8 x.src) ∧ W.cell? ⟨wr.heap.size, 3, none⟩ = some (.int .i16 x.off) ∧ W.cell? ⟨wr.heap.size, 4, none⟩ = some (.int .i32 x.imm)) ∧ (W.cell? ⟨g, off + (k + 1) * 5, none⟩ = some (.int .u8 y.op) ∧ W.cell? ⟨g, off + (k + 1) * 5 + 1, none⟩ = some (.int .u8 y.dst) ∧ W.cell? ⟨g, off + (k + 1) * 5 + 2, none⟩ = some (.int .u8 y.src) ∧ W.cell? ⟨g, off + (k + 1) * 5 + 3, none⟩ = some (.int .i16 y.off) ∧ W.cell? ⟨g, off + (k + 1) * 5 + 4, none⟩ = some (.int .i32 y.imm)) ∧ Hid (Fr No W1 W)) → LT W) := fun W h => HT.out _ (HF1.out.trans h.2.2.out)
              have HLJ2 : Hid (∀ W, ((W.cell? ⟨wr.heap.size, 0, none⟩ = some (.int .u8 x.op) ∧ W.cell? ⟨wr.heap.size, 1, none⟩ = some (.int .u8 x.dst) ∧ W.cell? ⟨wr.heap.size, 2, none⟩ = some (.int .u8 x.src) ∧ W.cell? ⟨wr.heap.size, 3, none⟩ = some (.int .i16 x.off) ∧ W.cell? ⟨wr.heap.size, 4, none⟩ = some (.int .i32 x.imm)) ∧ (W.cell? ⟨g, off + (k + 1) * 5, none⟩ = some (.int .u8 y.op) ∧ W.cell? ⟨g, off + (k + 1) * 5 + 1, none⟩ = some (.int .u8 y.dst) ∧ W.cell? ⟨g, off + (k + 1) * 5 + 2, none⟩ = some (.int .u8 y.src) ∧ W.cell? ⟨g, off + (k + 1) * 5 + 3, none⟩ = some (.int .i16 y.off) ∧ W.cell? ⟨g, off + (k + 1) * 5 + 4, none⟩ = some (.int .i32 y.imm)) ∧ Hid (Fr No W1 W)) → Fr No W1 W) := fun W h => h.2.2.out
              have hq : decide ((k : Int) + 1 < (n : Int)) = true := by simp; omega
              have hq2 : (0 : Int) ≤ (k : Int) + 1 := by omega
              have hq3 : (k : Int) + 1 < (n : Int) := by omega
              have hq4 : ((k : Int) + 1).toNat = k + 1 := by omega
              have hq5 : IntKind.i64.wrap ((k : Int) + 1) = (k : Int) + 1 := IntWalk.i64_in _ (by omega)
              have hst : (wc.drew.cell? ⟨wr.heap.size, 0, none⟩ = some (.int .u8 x.op) ∧ wc.drew.cell? ⟨wr.heap.size, 1, none⟩ = some (.int .u8 x.dst) ∧ wc.drew.cell? ⟨wr.heap.size, 2, none⟩ = some (.int .u8 x.src) ∧ wc.drew.cell? ⟨wr.heap.size, 3, none⟩ = some (.int .i16 x.off) ∧ wc.drew.cell? ⟨wr.heap.size, 4, none⟩ = some (.int .i32 x.imm)) ∧ (wc.drew.cell? ⟨g, off + (k + 1) * 5, none⟩ = some (.int .u8 y.op) ∧ wc.drew.cell? ⟨g, off + (k + 1) * 5 + 1, none⟩ = some (.int .u8 y.dst) ∧ wc.drew.cell? ⟨g, off + (k + 1) * 5 + 2, none⟩ = some (.int .u8 y.src) ∧ wc.drew.cell? ⟨g, off + (k + 1) * 5 + 3, none⟩ = some (.int .i16 y.off) ∧ wc.drew.cell? ⟨g, off + (k + 1) * 5 + 4, none⟩ = some (.int .i32 y.imm)) ∧ Hid (Fr No W1 wc.drew) := HBJ.out _ HF4.out.drew
              cases hd : dblB x y with
              | true =>
                have HDB : Hid (∀ W, LT W → Calls Tryz.prog 24 #[.agg #[.int .u8 x.op, .int .u8 x.dst, .int .u8 x.src, .int .i16 x.off, .int .i32 x.imm], .agg #[.int .u8 y.op, .int .u8 y.dst, .int .u8 y.src, .int .i16 y.off, .int .i32 y.imm]] W (SlOk (pairW x y) true W)) := fun W h2 => double_yes x y HXO.out HYO.out hd W h2
                have HSB : Hid (ShowTo l (k + 1 + 1) (S ++ joinW (pairW x y) ++ [10])) := by
                  have h3 := hd
                  unfold dblB at h3
                  simp only [Bool.and_eq_true] at h3
                  rw [pairW_join]
                  exact Lib.hid (show_B HI.out HX.out HY.out h3.1.2 h3.1.1 h3.2)
                have HPR := Lib.hid (pair_room x y HXO.out)
                have HPL : Hid ((pairW x y).length ≤ 100) := by unfold pairW; split <;> exact Lib.hid (by simp)
                clear hd hy hyo HRW
                go_upto_region 10 with fail
                go_region_held3 (fun W => (W.cell? ⟨wr.heap.size, 0, none⟩ = some (.int .u8 x.op) ∧ W.cell? ⟨wr.heap.size, 1, none⟩ = some (.int .u8 x.dst) ∧ W.cell? ⟨wr.heap.size, 2, none⟩ = some (.int .u8 x.src) ∧ W.cell? ⟨wr.heap.size, 3, none⟩ = some (.int .i16 x.off) ∧ W.cell? ⟨wr.heap.size, 4, none⟩ = some (.int .i32 x.imm)) ∧ (W.cell? ⟨g, off + (k + 1) * 5, none⟩ = some (.int .u8 y.op) ∧ W.cell? ⟨g, off + (k + 1) * 5 + 1, none⟩ = some (.int .u8 y.dst) ∧ W.cell? ⟨g, off + (k + 1) * 5 + 2, none⟩ = some (.int .u8 y.src) ∧ W.cell? ⟨g, off + (k + 1) * 5 + 3, none⟩ = some (.int .i16 y.off) ∧ W.cell? ⟨g, off + (k + 1) * 5 + 4, none⟩ = some (.int .i32 y.imm)) ∧ Hid (Fr No W1 W)) (first | assumption | exact HKJ.out _ _ (by assumption) (by assumption))
                  (first
                    | (go_at_call 24; (with_reducible refine (HDB.out _ (HLJ.out _ (by assumption))).mono ?_); rintro e w3 ⟨v3, rfl, hS3, hF3⟩; have HS3 := Lib.hid hS3; clear hS3))
                all_goals go_wp2_with fail
                all_goals go_meet
                all_goals exact ⟨k + 1, by go_num, ⟨_, HS3.out, HPL.out, HPR.out, by omega, by omega, HSB.out⟩, HLJ2.out _ (by assumption)⟩
              | false =>
                have HDB : Hid (∀ W, LT W → Calls Tryz.prog 24 #[.agg #[.int .u8 x.op, .int .u8 x.dst, .int .u8 x.src, .int .i16 x.off, .int .i32 x.imm], .agg #[.int .u8 y.op, .int .u8 y.dst, .int .u8 y.src, .int .i16 y.off, .int .i32 y.imm]] W (SlNo W)) := fun W h2 => double_else x y HXO.out HYO.out hd W h2
                have HRW2 := Lib.hid (HRW.out (fun j hj => by rw [hy] at hj; obtain rfl := Option.some.inj hj; exact hd))
                clear hd hy hyo HRW
                go_upto_region 10 with fail
                go_region_held3 (fun W => (W.cell? ⟨wr.heap.size, 0, none⟩ = some (.int .u8 x.op) ∧ W.cell? ⟨wr.heap.size, 1, none⟩ = some (.int .u8 x.dst) ∧ W.cell? ⟨wr.heap.size, 2, none⟩ = some (.int .u8 x.src) ∧ W.cell? ⟨wr.heap.size, 3, none⟩ = some (.int .i16 x.off) ∧ W.cell? ⟨wr.heap.size, 4, none⟩ = some (.int .i32 x.imm)) ∧ (W.cell? ⟨g, off + (k + 1) * 5, none⟩ = some (.int .u8 y.op) ∧ W.cell? ⟨g, off + (k + 1) * 5 + 1, none⟩ = some (.int .u8 y.dst) ∧ W.cell? ⟨g, off + (k + 1) * 5 + 2, none⟩ = some (.int .u8 y.src) ∧ W.cell? ⟨g, off + (k + 1) * 5 + 3, none⟩ = some (.int .i16 y.off) ∧ W.cell? ⟨g, off + (k + 1) * 5 + 4, none⟩ = some (.int .i32 y.imm)) ∧ Hid (Fr No W1 W)) (first | assumption | exact HKJ.out _ _ (by assumption) (by assumption))
                  (first
                    | (go_at_call 24; (with_reducible refine (HDB.out _ (HLJ.out _ (by assumption))).mono ?_); rintro e w3 ⟨a3, n3, c3, rfl, hF3⟩))
                all_goals go_wp2_with fail
                all_goals go_meet
                all_goals exact ⟨k, rfl, HRW2.out.fr ((Fr.refl _ _).drew.trans (by assumption)), HLJ2.out _ (by assumption)⟩
            · have HRW2 := Lib.hid (HRW.out (fun j hj => by rw [List.getElem?_eq_none (by rw [HN.out]; omega)] at hj; cases hj))
              have hq : decide ((k : Int) + 1 < (n : Int)) = false := by simp; omega
              have hq5 : IntKind.i64.wrap ((k : Int) + 1) = (k : Int) + 1 := IntWalk.i64_in _ (by omega)
              clear HRW
              go_wp2_with fail
              go_meet
              exact ⟨k, rfl, HRW2.out, HF4.out⟩
        case rest =>
          obtain ⟨k2, rfl, hcut⟩ := hcut
          have HRT := Lib.hid hcut.out.1
          have HF5 := Lib.hid hcut.out.2
          clear hcut HSR2
          obtain ⟨ws, hws⟩ := HRT.out
          have HWS := Lib.hid hws
          clear hws HRT
          obtain ⟨wa, wcp, rfl⟩ := HWS.out.1.form
          obtain ⟨hk2n, hkk2⟩ : k2 < n ∧ k ≤ k2 := ⟨HWS.out.2.2.2.1, HWS.out.2.2.2.2.1⟩
          have HJN : Hid (∀ W, Fr No wc W → Calls Tryz.prog 26 #[.slice wa ws.length wcp, .string ⟨#[32]⟩] W fun e w' => e = .returned (.string (bA (joinW ws))) ∧ Fr No W w') := fun W hW => join_any _ ws W (HWS.out.1.fr hW) (by have := HWS.out.2.1; omega) (by have := HWS.out.2.2.1; omega)
          have hj10 : ∀ W, (Op.stringOp .add (bA (joinW ws)) ⟨#[10]⟩).run Tryz.prog W = .ok (.string (bA (joinW ws ++ [10]))) W := fun W => by
            rw [addB (bA (joinW ws)) ⟨#[10]⟩ (by rw [bA_size]; have := HWS.out.2.2.1; omega) (by decide) W]
            rw [← bA_app]
            rfl
          have HSH : Hid (ShowTo l (k2 + 1) (S ++ (joinW ws ++ [10]))) := by have := HWS.out.2.2.2.2.2; rw [List.append_assoc] at this; exact this
          have HWR : Hid (∀ W, Fr No wc W → Calls Tryz.prog 25 #[.pointer (some ⟨w.heap.size, 0, none⟩), .string (bA (joinW ws ++ [10]))] W fun e w' => e = .returned (.tuple #[.int .i64 (bA (joinW ws ++ [10])).size, .nilIface]) ∧ Hid (Lib.IsBuilder 54 5 w.heap.size w.heap.size (Lib.byteCells (S ++ (joinW ws ++ [10]))) w' ∧ Fr No w w')) := fun W hW =>
            HBW.out S (joinW ws ++ [10]) W (HF1.out.trans (HF5.out.trans hW)) (by rw [bA_size, List.length_append]; have := HWS.out.2.2.1; simp; omega) (by have := HSS.out; omega) (builder_fr HBU1.out (HF5.out.trans hW))
          generalize ws.length = wl at *
          generalize joinW ws = J at *
          go_wp2_with (first
            | (go_at_call 26; (with_reducible refine (HJN.out _ (Fr.refl _ _)).mono ?_); rintro e w4 ⟨rfl, hf4⟩; have HX4 := Lib.hid hf4; clear hf4)
            | (go_at_call 25; (with_reducible refine (HWR.out _ HX4.out).mono ?_); rintro e w5 ⟨rfl, hf5⟩; have HX5 := Lib.hid hf5; clear hf5))
          go_roundw
          case rel => exact ⟨k2 + 1, S ++ (J ++ [10]), by omega, by go_num, HSH.out, HX5.out.out.1, HX5.out.out.2⟩
          case measure => simp [intOf] <;> omega
    · obtain rfl : k = n := by omega
      have he : S = showL l := by
        have := HI.out
        unfold ShowTo at this
        rw [List.drop_of_length_le (by rw [HN.out]; exact Nat.le_refl _)] at this
        simpa [showL] using this
      have HE := Lib.hid he
      clear he
      go_wp2_with (go_at_call 27; (with_reducible refine (HBS.out _ _ HF.out HBU.out).mono ?_); rintro e w1 ⟨rfl, hf1⟩)
      go_ret
      exact ⟨by rw [HE.out]; rfl, hf1⟩
end Go.Proofs.YthkdokkpiaaljaaGreatDoor
