/- firewalllaw03.LinesBlank, walked. -/
import Derived.Test.YthkdokkpiaaljaaGreatDoorLinesReadOwn3
import Derived.Test.YthkdokkpiaaljaaGreatDoorLnH
set_option linter.all false
set_option linter.unusedVariables false
set_option linter.unusedSimpArgs false
namespace Go.Proofs.YthkdokkpiaaljaaGreatDoor
open Go.RowKit

/-- a slice of bytes -/
def U8At (w : World) (v : Value) (L : List UInt8) : Prop := ∃ a c, v = .slice a L.length c ∧ (0 < L.length → ∃ g o, a = some ⟨g, o, none⟩ ∧ CellsAt w g o (u8s L))
/-- which blank stands at a place -/
def blOf (L : List UInt8) (k : Nat) : List UInt8 := match L[k % L.length]? with
  | none => [32]
  | some x => (blanks[x.toNat % 6]?).getD []
theorem blOf_in (L : List UInt8) (k : Nat) : blOf L k ∈ blanks := by
  unfold blOf
  split
  · decide
  · rename_i x _
    have h : x.toNat % 6 < 6 := Nat.mod_lt _ (by omega)
    have : ∀ n, n < 6 → (blanks[n]?).getD [] ∈ blanks := by decide
    exact this _ h
theorem blank_le {b : List UInt8} (h : b ∈ blanks) : b.length ≤ 3 := by
  have : ∀ b ∈ blanks, b.length ≤ 3 := by decide
  exact this b h
theorem trF_len (bl : Nat → List UInt8) (hbl : ∀ n, bl n ∈ blanks) (com : List UInt8) (hc : com.length ≤ 50) : ∀ (s : List UInt8) (a : Nat), (trF bl com a s).length ≤ 60 * s.length
  | [], _ => by simp [trF]
  | c :: s, a => by
    have ih := trF_len bl hbl com hc s (a + 1)
    have hb := blank_le (hbl a)
    simp only [trF, List.length_append, List.length_cons]
    have : (if c = 32 then bl a else if c = 10 then bl a ++ 59 :: (com ++ 10 :: (bl a ++ [10])) else [c]).length ≤ 60 := by
      split
      · omega
      · split
        · simp only [List.length_append, List.length_cons, List.length_nil]; omega
        · simp
    omega
/-- how far the text is made -/
def BkSt (L com S : List UInt8) (k : Nat) (T : List UInt8) : Prop := T ++ trF (blOf L) com k (S.drop k) = blankT (blOf L) com S
theorem BkSt.start (L com S : List UInt8) : BkSt L com S 0 ([226, 128, 131, 59] ++ com ++ [10]) := by
  unfold BkSt blankT
  simp
theorem BkSt.step {L com S T : List UInt8} {k : Nat} {c : UInt8} (h : BkSt L com S k T) (hc : S[k]? = some c) : BkSt L com S (k + 1) (T ++ (if c = 32 then blOf L k else if c = 10 then blOf L k ++ 59 :: (com ++ 10 :: (blOf L k ++ [10])) else [c])) := by
  obtain ⟨hk, rfl⟩ := List.getElem?_eq_some_iff.1 hc
  unfold BkSt at h ⊢
  rw [List.drop_eq_getElem_cons hk] at h
  rw [← h, List.append_assoc]
  rfl
theorem BkSt.done {L com S T : List UInt8} (h : BkSt L com S S.length T) : T = blankT (blOf L) com S := by
  unfold BkSt at h
  rw [List.drop_of_length_le (Nat.le_refl _)] at h
  simpa [trF] using h
theorem BkSt.room {L com S T : List UInt8} {k : Nat} (h : BkSt L com S k T) (hS : S.length ≤ 820) (hc : com.length ≤ 50) : T.length ≤ 60000 := by
  have h2 := congrArg List.length h
  have h3 := trF_len (blOf L) (blOf_in L) com hc S 0
  unfold blankT at h2
  simp only [List.length_append, List.length_cons, List.length_nil] at h2
  omega

set_option maxRecDepth 100000 in
set_option maxHeartbeats 1000000 in
theorem lblank_long (v y : Value) (C : ByteArray) (l : List Ins) (w : World) (h : InsAt w v l) (hn : 20 < l.length ∨ 50 < C.size) (hT : LT w) : Calls Tryz.prog 7 #[v, y, .string C] w (Truly w) := by
  have HS := Lib.hid (spoken_any w hT)
  obtain ⟨a, c, rfl⟩ := h.form
  by_cases h20 : 20 < l.length
  · have h1 : (20 : Int) < (l.length : Int) := by omega
    clear h hn hT h20
    generalize l.length = n at *
    go_enter Tryz.func7, Tryz.ntmps7
    go_wp2_with (go_at_call 10; (with_reducible refine HS.out.mono ?_); rintro e w1 ⟨rfl, hf1⟩)
    go_ret
    exact ⟨rfl, hf1⟩
  · have h1 : ¬ (20 : Int) < (l.length : Int) := by omega
    have h2 : (50 : Int) < (C.size : Int) := by omega
    clear h hn hT h20
    generalize l.length = n at *
    go_enter Tryz.func7, Tryz.ntmps7
    go_wp2_with (go_at_call 10; (with_reducible refine HS.out.mono ?_); rintro e w1 ⟨rfl, hf1⟩)
    go_ret
    exact ⟨rfl, hf1⟩

theorem addL (X Y : List UInt8) (hx : X.length ≤ 200000) (hy : Y.length ≤ 200000) (W : World) : (Op.stringOp .add (bA X) (bA Y)).run Tryz.prog W = .ok (.string (bA (X ++ Y))) W := by
  rw [← bA_app]
  exact addB _ _ (by rw [bA_size]; exact hx) (by rw [bA_size]; exact hy) W
def comOk (com : List UInt8) (k : Nat) : Prop := ∀ j c, j < k → com[j]? = some c → c < 128 ∧ c ≠ 10

set_option maxRecDepth 100000 in
set_option maxHeartbeats 4000000 in
theorem lblank_walk (v y : Value) (L com : List UInt8) (l : List Ins) (w : World) (h : InsAt w v l) (hy : U8At w y L) (hok : ∀ i ∈ l, i.ok) (hn : l.length ≤ 20) (hc : com.length ≤ 50) (hT : LT w) : Calls Tryz.prog 7 #[v, y, .string (bA com)] w (Truly w) := by
  have HSP : Hid (∀ W, Fr No w W → Calls Tryz.prog 10 #[] W fun e w' => e = .returned (.bool true) ∧ Fr No W w') := fun W hf => spoken_any W (hT.fr hf)
  have HSH : Hid (∀ W, Fr No w W → Calls Tryz.prog 11 #[v] W fun e w' => e = .returned (.string (bA (showL l))) ∧ Fr No W w') := fun W hf => lshow_any v l W (h.fr hf) hok (by omega) (hT.fr hf)
  have hsz := show_size l hok
  have HRD : Hid (∀ T W, T.length ≤ 100000 → Fr No w W → Calls Tryz.prog 14 #[.string (bA T)] W (ReadTo W (readS T))) := fun T W hTl hf => lread_any T (by omega) W (hT.fr hf)
  have HSM : Hid (∀ W m, Fr No w W → InsAt W m l → Calls Tryz.prog 13 #[m, v] W fun e w' => e = .returned (.bool true) ∧ Fr No W w') := fun W m hf hm => isame_true m v l W hm (h.fr hf) (by omega)
  have HPL : Hid ((∀ c ∈ com, c < 128) → (10 : UInt8) ∉ com → (blankT (blOf L) com (showL l)).length ≤ 4000 → readS (blankT (blOf L) com (showL l)) = (l, 0, 0) ∧ ((blankT (blOf L) com (showL l)).length ≠ 4000 → readS (blankT (blOf L) com (showL l) ++ [120]) = ([], (blankT (blOf L) com (showL l)).count 10 + 1, 10))) := fun h1 h2 h3 => blank_read l hok hn (blOf L) (blOf_in L) com h1 h2 h3
  obtain ⟨S, hS⟩ : ∃ S, showL l = S := ⟨_, rfl⟩
  rw [hS] at HSH HPL hsz
  have HS8 : Hid (S.length ≤ 820) := by have : S.length ≤ 820 := by omega
                                        exact this
  obtain ⟨a, ca, rfl⟩ := h.form
  obtain ⟨ya, yc, rfl, hyc⟩ := hy
  have HYC := Lib.hid hyc
  have HC50 := Lib.hid hc
  have h1 : ¬ (20 : Int) < (l.length : Int) := by omega
  have hcs : ((bA com).size : Int) = com.length := by rw [bA_size]
  have h2 : ¬ (50 : Int) < ((bA com).size : Int) := by omega
  clear h hT hok hsz hn hS hyc
  obtain ⟨n, hln⟩ : ∃ n, l.length = n := ⟨_, rfl⟩
  rw [hln] at h1 ⊢ HSH HSM
  clear hln
  go_enter Tryz.func7, Tryz.ntmps7
  go_wp2_with fail
  go_loopw [7] (fun s7 wr => ∃ (k : Nat), k ≤ com.length ∧ s7 = .int .i64 k ∧ Hid (comOk com k) ∧ w = wr) (fun s7 _ => com.length - (intOf s7).toNat)
  case atStart => exact ⟨0, Nat.zero_le _, rfl, Lib.hid (fun j c hj => absurd hj (Nat.not_lt_zero _)), rfl⟩
  case round =>
    obtain ⟨k, hk, rfl, HOK, rfl⟩ := hrel
    by_cases hlt : k < com.length
    · have p1 : (k : Int) < ((bA com).size : Int) := by omega
      have p2 : k < (bA com).size := by omega
      obtain ⟨ch, hch⟩ : ∃ ch, com[k]? = some ch := ⟨_, List.getElem?_eq_getElem hlt⟩
      have hB : ((bA com)[k]'p2).toNat = ch.toNat := by rw [List.getElem?_eq_getElem hlt] at hch; have := Option.some.inj hch; subst this; rfl
      have HNX : Hid (ch < 128 ∧ ch ≠ 10 → comOk com (k + 1)) := fun hg j c hj hjc => by
        rcases Nat.lt_or_ge j k with h | h
        · exact HOK.out j c h hjc
        · obtain rfl : j = k := by omega
          rw [hch] at hjc; cases hjc; exact hg
      have e128 : ch < 128 ↔ ch.toNat < 128 := UInt8.lt_iff_toNat_lt
      have e10 : ch = 10 ↔ ch.toNat = 10 := eq8 ch 10 (by omega)
      rw [e128, ne_eq, e10] at HNX
      have HLT := Lib.hid hlt
      have hz := ch.toNat_lt
      clear hch hlt e128 e10
      generalize ch.toNat = z at *
      by_cases h10 : z = 10
      · subst h10
        go_wp2_with (go_at_call 10; (with_reducible refine (HSP.out _ (Fr.refl _ _)).mono ?_); rintro e w1 ⟨rfl, hf1⟩)
        go_ret
        exact ⟨rfl, hf1⟩
      · have q10 : ((z : Int) == 10) = false := by rw [beq_eq_false_iff_ne]; omega
        by_cases h128 : z < 128
        · have q128 : ¬ (127 : Int) < (z : Int) := by omega
          have HN := Lib.hid (HNX.out ⟨h128, h10⟩)
          clear h10 h128
          go_wp2_with fail
          go_roundw
          case rel => exact ⟨k + 1, HLT.out, by go_num, HN, by first | rfl | trivial⟩
          case measure => have := HLT.out; simp [intOf] <;> omega
        · have q128 : (127 : Int) < (z : Int) := by omega
          clear h10 h128
          go_wp2_with (go_at_call 10; (with_reducible refine (HSP.out _ (Fr.refl _ _)).mono ?_); rintro e w1 ⟨rfl, hf1⟩)
          go_ret
          exact ⟨rfl, hf1⟩
    · obtain rfl : k = com.length := by omega
      have HCG : Hid ((∀ c ∈ com, c < 128) ∧ (10 : UInt8) ∉ com) := by
        refine ⟨fun c hm => ?_, fun hm => ?_⟩
        · obtain ⟨j, hj, rfl⟩ := List.getElem_of_mem hm
          exact (HOK.out j _ hj (List.getElem?_eq_getElem hj)).1
        · obtain ⟨j, hj, e⟩ := List.getElem_of_mem hm
          exact (HOK.out j _ hj (List.getElem?_eq_getElem hj)).2 e
      have p1 : ¬ (com.length : Int) < ((bA com).size : Int) := by omega
      clear hlt hk
      go_upto_region 9 with fail
      obtain ⟨W1, hW1⟩ : ∃ W1, W1 = w.alloc (.cells #[.string ⟨#[32]⟩, .string ⟨#[9]⟩, .string ⟨#[13]⟩, .string ⟨#[194, 160]⟩, .string ⟨#[226, 128, 131]⟩, .string ⟨#[32, 32]⟩] 32) := ⟨_, rfl⟩
      have HCB : Hid (∀ W, Fr No W1 W → CellsAt W w.heap.size 0 (strs blanks)) := fun W hf => by
        subst hW1
        exact hf.cells (CellsAt.new w (strs blanks) _) id
      have HF1 : Hid (Fr No w W1) := by rw [hW1]; exact (Fr.refl _ _).alloc _
      rw [← hW1]
      generalize w.heap.size = bb at *
      clear hW1
      have ad1 := addL [226, 128, 131, 59] com (by simp) (by have := HC50.out; omega)
      have ad2 := addL ([226, 128, 131, 59] ++ com) [10] (by have := HC50.out; simp; omega) (by simp)
      have e226 : bA [226, 128, 131, 59] = ⟨#[226, 128, 131, 59]⟩ := rfl
      have e10 : bA [10] = ⟨#[10]⟩ := rfl
      rw [e226] at ad1
      rw [e10] at ad2
      obtain ⟨T0, hT0⟩ : ∃ T0, [226, 128, 131, 59] ++ com = T0 := ⟨_, rfl⟩
      obtain ⟨T1, hT1⟩ : ∃ T1, T0 ++ [10] = T1 := ⟨_, rfl⟩
      rw [hT0] at ad1 ad2
      rw [hT1] at ad2
      have HT1 : Hid (BkSt L com S 0 T1) := by rw [← hT1, ← hT0]; exact BkSt.start L com S
      clear e226 e10 hT0 hT1
      go_upto_region 11 with (go_at_call 11; (with_reducible refine (HSH.out _ HF1.out).mono ?_); rintro e w2 ⟨rfl, hf2⟩; have HF2 := Lib.hid hf2; clear hf2)
      have HF3 := Lib.hid (HF1.out.trans HF2.out)
      have HB2 := Lib.hid (HCB.out _ HF2.out)
      have HYC2 : Hid (0 < L.length → ∃ g o, ya = some ⟨g, o, none⟩ ∧ CellsAt w2 g o (u8s L)) := fun h => by
        obtain ⟨g, o, e, hc⟩ := HYC.out h
        exact ⟨g, o, e, HF3.out.cells hc id⟩
      have hsb : ((bA S).size : Int) = S.length := by rw [bA_size]
      clear ad1 ad2
      go_wp2_with fail
      go_loopw [10, 11, 12, 13] (fun s10 s11 s12 s13 wr => ∃ (k : Nat) (T : List UInt8), k ≤ S.length ∧ s12 = .int .i64 k ∧ s11 = .int .i64 (if L.length = 0 then (0 : Nat) else k : Nat) ∧ s10 = .string (bA T) ∧ Hid (BkSt L com S k T) ∧ w2 = wr) (fun _ _ s12 _ _ => S.length - (intOf s12).toNat)
      case atStart => exact ⟨0, _, Nat.zero_le _, rfl, by split <;> rfl, rfl, HT1.out, rfl⟩
      case round =>
        obtain ⟨k, T, hk, rfl, rfl, rfl, HST, rfl⟩ := hrel
        have h820 := HS8.out
        have hT6 := HST.out.room h820 HC50.out
        by_cases hlt : k < S.length
        · have p1 : (k : Int) < ((bA S).size : Int) := by omega
          have p2 : k < (bA S).size := by omega
          obtain ⟨ch, hch⟩ : ∃ ch, S[k]? = some ch := ⟨_, List.getElem?_eq_getElem hlt⟩
          have hB : ((bA S)[k]'p2).toNat = ch.toNat := by rw [List.getElem?_eq_getElem hlt] at hch; have := Option.some.inj hch; subst this; rfl
          have HNX := Lib.hid (HST.out.step hch)
          obtain ⟨b, hb⟩ : ∃ b, blOf L k = b := ⟨_, rfl⟩
          have hb3 : b.length ≤ 3 := by rw [← hb]; exact blank_le (blOf_in L k)
          have HBL := Lib.hid hb
          rw [hb] at HNX
          have hc50 := HC50.out
          have hX : (bA S).extract k (k + 1) = bA [ch] := by
            rw [extract_bA, Nat.add_sub_cancel_left]
            congr 1
            rw [List.drop_eq_getElem_cons hlt]
            rw [List.getElem?_eq_getElem hlt] at hch
            rw [Option.some.inj hch]
            rfl
          have f1 : IntKind.i64.wrap ((k : Int) + 1) = ((k + 1 : Nat) : Int) := by rw [IntWalk.i64_in _ (by omega)]; omega
          have a1 := addL T b (by omega) (by omega)
          have a2 := addL (T ++ b) [59] (by simp; omega) (by simp)
          have a3 := addL (T ++ b ++ [59]) com (by simp; omega) (by omega)
          have a4 := addL (T ++ b ++ [59] ++ com) [10] (by simp; omega) (by simp)
          have a5 := addL (T ++ b ++ [59] ++ com ++ [10]) b (by simp; omega) (by omega)
          have a6 := addL (T ++ b ++ [59] ++ com ++ [10] ++ b) [10] (by simp; omega) (by simp)
          obtain ⟨X1, hX1⟩ : ∃ X1, T ++ b = X1 := ⟨_, rfl⟩
          obtain ⟨X2, hX2⟩ : ∃ X2, X1 ++ [59] = X2 := ⟨_, rfl⟩
          obtain ⟨X3, hX3⟩ : ∃ X3, X2 ++ com = X3 := ⟨_, rfl⟩
          obtain ⟨X4, hX4⟩ : ∃ X4, X3 ++ [10] = X4 := ⟨_, rfl⟩
          obtain ⟨X5, hX5⟩ : ∃ X5, X4 ++ b = X5 := ⟨_, rfl⟩
          obtain ⟨X6, hX6⟩ : ∃ X6, X5 ++ [10] = X6 := ⟨_, rfl⟩
          have HNX2 : Hid (X6 = T ++ (b ++ 59 :: (com ++ 10 :: (b ++ [10])))) := by
            have : X6 = T ++ (b ++ 59 :: (com ++ 10 :: (b ++ [10]))) := by rw [← hX6, ← hX5, ← hX4, ← hX3, ← hX2, ← hX1]; simp
            exact this
          have HX1 : Hid (T ++ b = X1) := hX1
          rw [hX1] at a1 a2 a3 a4 a5 a6
          rw [hX2] at a2 a3 a4 a5 a6
          rw [hX3] at a3 a4 a5 a6
          rw [hX4] at a4 a5 a6
          rw [hX5] at a5 a6
          rw [hX6] at a6
          clear hX1 hX2 hX3 hX4 hX5 hX6
          have a7 := addL T [ch] (by omega) (by simp)
          obtain ⟨X7, hX7⟩ : ∃ X7, T ++ [ch] = X7 := ⟨_, rfl⟩
          rw [hX7] at a7
          have HX7 : Hid (T ++ [ch] = X7) := hX7
          rw [← hX] at a7
          have e59 : bA [59] = ⟨#[59]⟩ := rfl
          have e10 : bA [10] = ⟨#[10]⟩ := rfl
          rw [e59] at a2
          rw [e10] at a4 a6
          have q32 : ((ch.toNat : Int) == 32) = decide (ch = 32) := by
            have := eq8 ch 32 (by omega)
            rw [show (32 : UInt8) = UInt8.ofNat 32 from rfl, Bool.eq_iff_iff, beq_iff_eq, decide_eq_true_eq, this]; omega
          have q10 : ((ch.toNat : Int) == 10) = decide (ch = 10) := by
            have := eq8 ch 10 (by omega)
            rw [show (10 : UInt8) = UInt8.ofNat 10 from rfl, Bool.eq_iff_iff, beq_iff_eq, decide_eq_true_eq, this]; omega
          have HLT := Lib.hid hlt
          by_cases hL : L.length = 0
          · have hb32 : b = [32] := by
              rw [← hb]; unfold blOf
              rw [List.eq_nil_of_length_eq_zero hL]
              rfl
            have eb : bA b = ⟨#[32]⟩ := by rw [hb32]; rfl
            rw [eb] at a1 a5
            have pL : ¬ (0 : Int) < (L.length : Int) := by omega
            have HLL := Lib.hid hL
            clear hch hlt hb hb32 eb e59 e10 hL hX hk hX7
            by_cases h32 : ch = 32
            · have q1 : ((ch.toNat : Int) == 32) = true := by rw [q32]; simpa using h32
              rw [if_pos h32, HX1.out] at HNX
              clear q32 q10 h32
              go_wp2_with fail
              go_roundw
              case rel => exact ⟨k + 1, _, HLT.out, by go_num, by rw [if_pos HLL.out, if_pos HLL.out], rfl, HNX, by first | rfl | trivial⟩
              case measure => have := HLT.out; simp [intOf] <;> omega
            · by_cases h10 : ch = 10
              · have q1 : ((ch.toNat : Int) == 32) = false := by rw [q32]; simpa using h32
                have q2 : ((ch.toNat : Int) == 10) = true := by rw [q10]; simpa using h10
                rw [if_neg h32, if_pos h10, ← HNX2.out] at HNX
                clear q32 q10 h32 h10
                go_wp2_with fail
                go_roundw
                case rel => exact ⟨k + 1, _, HLT.out, by go_num, by rw [if_pos HLL.out, if_pos HLL.out], rfl, HNX, by first | rfl | trivial⟩
                case measure => have := HLT.out; simp [intOf] <;> omega
              · have q1 : ((ch.toNat : Int) == 32) = false := by rw [q32]; simpa using h32
                have q2 : ((ch.toNat : Int) == 10) = false := by rw [q10]; simpa using h10
                rw [if_neg h32, if_neg h10, HX7.out] at HNX
                clear q32 q10 h32 h10
                go_wp2_with fail
                go_roundw
                case rel => exact ⟨k + 1, _, HLT.out, by go_num, by rw [if_pos HLL.out, if_pos HLL.out], rfl, HNX, by first | rfl | trivial⟩
                case measure => have := HLT.out; simp [intOf] <;> omega
          · have hLp : 0 < L.length := by omega
            obtain ⟨g, o, rfl, hcl⟩ := HYC2.out hLp
            have hm : k % L.length < L.length := Nat.mod_lt _ hLp
            obtain ⟨x, hx⟩ : ∃ x, L[k % L.length]? = some x := ⟨_, List.getElem?_eq_getElem hm⟩
            have hcx : w2.cell? ⟨g, o + k % L.length, none⟩ = some (.int .u8 x.toNat) := hcl _ _ (by simp [u8s, hx])
            have hb2 : blanks[x.toNat % 6]? = some b := by
              have h6 : x.toNat % 6 < blanks.length := Nat.mod_lt _ (by decide)
              rw [← hb]
              unfold blOf
              rw [hx]
              show blanks[x.toNat % 6]? = some ((blanks[x.toNat % 6]?).getD [])
              rw [List.getElem?_eq_getElem h6]
              rfl
            have hcb : w2.cell? ⟨bb, x.toNat % 6, none⟩ = some (.string (bA b)) := by
              have := HB2.out (x.toNat % 6) (.string (bA b)) (by simp [strs, hb2])
              rwa [Nat.zero_add] at this
            have h6 : x.toNat % 6 < 6 := Nat.mod_lt _ (by omega)
            have g1 : (k : Int) % (L.length : Int) = ((k % L.length : Nat) : Int) := (Int.natCast_emod _ _).symm
            have g1' : (k : Int).tmod (L.length : Int) = ((k % L.length : Nat) : Int) := by rw [Int.tmod_eq_emod_of_nonneg (by omega)]; exact g1
            have g2 : (x.toNat : Int) % 6 = ((x.toNat % 6 : Nat) : Int) := by omega
            have g2' : (x.toNat : Int).tmod 6 = ((x.toNat % 6 : Nat) : Int) := by rw [Int.tmod_eq_emod_of_nonneg (by omega)]; omega
            have pL : (0 : Int) < (L.length : Int) := by omega
            have pL2 : ((L.length : Int) == 0) = false := by rw [beq_eq_false_iff_ne]; omega
            have pm : ((k % L.length : Nat) : Int) < (L.length : Int) := by omega
            have pm0 : (0 : Int) ≤ ((k % L.length : Nat) : Int) := by omega
            have p6 : ((x.toNat % 6 : Nat) : Int) < 6 := by omega
            have p60 : (0 : Int) ≤ ((x.toNat % 6 : Nat) : Int) := by omega
            have f2 : IntKind.i64.wrap ((k % L.length : Nat) : Int) = ((k % L.length : Nat) : Int) := IntWalk.i64_in _ (by have : k % L.length ≤ k := Nat.mod_le _ _; omega)
            have eL : (if L.length = 0 then (0 : Nat) else k) = k := if_neg hL
            have HLL := Lib.hid hL
            rw [eL]
            generalize k % L.length = mm at *
            generalize x.toNat % 6 = x6 at *
            clear hch hlt hb e59 e10 hL hX hk hx hcl hb2 hm h6 hX7
            by_cases h32 : ch = 32
            · have q1 : ((ch.toNat : Int) == 32) = true := by rw [q32]; simpa using h32
              rw [if_pos h32, HX1.out] at HNX
              clear q32 q10 h32
              go_wp2_with fail
              go_roundw
              case rel => exact ⟨k + 1, _, HLT.out, by go_num, by rw [if_neg HLL.out]; go_num, rfl, HNX, by first | rfl | trivial⟩
              case measure => have := HLT.out; simp [intOf] <;> omega
            · by_cases h10 : ch = 10
              · have q1 : ((ch.toNat : Int) == 32) = false := by rw [q32]; simpa using h32
                have q2 : ((ch.toNat : Int) == 10) = true := by rw [q10]; simpa using h10
                rw [if_neg h32, if_pos h10, ← HNX2.out] at HNX
                clear q32 q10 h32 h10
                go_wp2_with fail
                go_roundw
                case rel => exact ⟨k + 1, _, HLT.out, by go_num, by rw [if_neg HLL.out]; go_num, rfl, HNX, by first | rfl | trivial⟩
                case measure => have := HLT.out; simp [intOf] <;> omega
              · have q1 : ((ch.toNat : Int) == 32) = false := by rw [q32]; simpa using h32
                have q2 : ((ch.toNat : Int) == 10) = false := by rw [q10]; simpa using h10
                rw [if_neg h32, if_neg h10, HX7.out] at HNX
                clear q32 q10 h32 h10
                go_wp2_with fail
                go_roundw
                case rel => exact ⟨k + 1, _, HLT.out, by go_num, by rw [if_neg HLL.out]; go_num, rfl, HNX, by first | rfl | trivial⟩
                case measure => have := HLT.out; simp [intOf] <;> omega
        · obtain rfl : k = S.length := by omega
          have hTE := HST.out.done
          have HPL2 : Hid (T.length ≤ 4000 → readS T = (l, 0, 0) ∧ (T.length ≠ 4000 → readS (T ++ [120]) = ([], T.count 10 + 1, 10))) := by
            rw [hTE]
            exact HPL.out HCG.out.1 HCG.out.2
          have hts : ((bA T).size : Int) = T.length := by rw [bA_size]
          have p1 : ¬ (S.length : Int) < ((bA S).size : Int) := by omega
          have HT6 := Lib.hid hT6
          clear hTE hlt hk
          generalize (if L.length = 0 then (0 : Nat) else S.length) = at0 at *
          by_cases h4 : 4000 < T.length
          · have hr : readS T = ([], 0, 3) := by unfold readS; rw [if_pos h4]
            have HR : Hid (Calls Tryz.prog 14 #[.string (bA T)] w2 (ReadTo w2 ([], 0, 3))) := by
              have := HRD.out T w2 (by omega) HF3.out
              rw [hr] at this
              exact this
            have p2 : (4000 : Int) < ((bA T).size : Int) := by omega
            clear hr h4 hT6 hts
            go_wp2_with (first
              | (go_at_call 14; (with_reducible refine HR.out.mono ?_); rintro e w4 ⟨m4, rfl, hm4, hf4⟩; obtain ⟨m4a, m4c, rfl⟩ := hm4.form; have HF4 := Lib.hid (HF3.out.trans hf4); clear hm4 hf4)
              | (go_at_call 10; (with_reducible refine (HSP.out _ HF4.out).mono ?_); rintro e w5 ⟨rfl, hf5⟩; have HF5 := Lib.hid (HF4.out.trans hf5); clear hf5))
            go_ret
            exact ⟨rfl, HF5.out⟩
          · obtain ⟨hr, hr2⟩ := HPL2.out (by omega)
            have HR : Hid (Calls Tryz.prog 14 #[.string (bA T)] w2 (ReadTo w2 (l, 0, 0))) := by
              have := HRD.out T w2 (by omega) HF3.out
              rw [hr] at this
              exact this
            obtain ⟨⟨l2, k2, e2⟩, hrr⟩ : ∃ r, readS (T ++ [120]) = r := ⟨_, rfl⟩
            have HR2 : Hid (∀ W, Fr No w W → Calls Tryz.prog 14 #[.string (bA (T ++ [120]))] W (ReadTo W (l2, k2, e2))) := fun W hf => by
              have := HRD.out (T ++ [120]) W (by simp; omega) hf
              rw [hrr] at this
              exact this
            have ax := addL T [120] (by omega) (by simp)
            have e120 : bA [120] = ⟨#[120]⟩ := rfl
            rw [e120] at ax
            have p2 : ¬ (4000 : Int) < ((bA T).size : Int) := by omega
            obtain ⟨cnt, hcnt⟩ : ∃ cnt, T.count 10 = cnt := ⟨_, rfl⟩
            have HCN := Lib.hid hcnt
            have hcl : cnt ≤ 60000 := by rw [← hcnt]; exact Nat.le_trans List.count_le_length hT6
            have HEND : Hid (T.length ≠ 4000 → k2 = cnt + 1 ∧ e2 = 10) := fun hne => by
              have := hr2 hne
              rw [hrr, hcnt] at this
              simp only [Prod.mk.injEq] at this
              exact ⟨this.2.1, this.2.2⟩
            have HT4 : Hid (T.length ≤ 4000) := by have : T.length ≤ 4000 := by omega
                                                   exact this
            generalize bA (T ++ [120]) = TX at *
            clear hr hr2 hrr e120 hcnt h4 hT6
            go_wp2_with (first
              | (go_at_call 14; (with_reducible refine HR.out.mono ?_); rintro e w4 ⟨m4, rfl, hm4, hf4⟩; obtain ⟨m4a, m4c, rfl⟩ := hm4.form; have HM4 := Lib.hid hm4; have HF4 := Lib.hid (HF3.out.trans hf4); clear hm4 hf4)
              | (go_at_call 14; (with_reducible refine (HR2.out _ HF4.out).mono ?_); rintro e w5 ⟨m5, rfl, hm5, hf5⟩; obtain ⟨m5a, m5c, rfl⟩ := hm5.form; have HM5 := Lib.hid (HM4.out.fr hf5); have HF5 := Lib.hid (HF4.out.trans hf5); clear hm5 hf5))
            go_loopw [20, 21] (fun s20 s21 wr => ∃ (j m : Nat), j ≤ T.length ∧ s21 = .int .i64 j ∧ s20 = .int .i64 m ∧ m ≤ j ∧ Hid ((T.take j).count 10 = m) ∧ w5 = wr) (fun _ s21 _ => T.length - (intOf s21).toNat)
            case atStart => exact ⟨0, 0, Nat.zero_le _, rfl, rfl, Nat.le_refl _, Lib.hid (by simp), rfl⟩
            case round =>
              obtain ⟨j, m, hj, rfl, rfl, hmj, HM, rfl⟩ := hrel
              have h6k := HT6.out
              by_cases hlt : j < T.length
              · have p3 : (j : Int) < ((bA T).size : Int) := by omega
                have p4 : j < (bA T).size := by omega
                obtain ⟨ch, hch⟩ : ∃ ch, T[j] = ch := ⟨_, rfl⟩
                have hB : ((bA T)[j]'p4).toNat = ch.toNat := by subst hch; rfl
                have e10 : ((ch.toNat : Int) == 10) = decide (ch = 10) := by
                  have := eq8 ch 10 (by omega)
                  rw [show (10 : UInt8) = UInt8.ofNat 10 from rfl, Bool.eq_iff_iff, beq_iff_eq, decide_eq_true_eq, this]
                  omega
                have HT1 : Hid ((T.take (j + 1)).count 10 = m + if ch = 10 then 1 else 0) := by
                  rw [List.take_add_one, List.getElem?_eq_getElem hlt, show T[j]'hlt = ch from hch, Option.toList_some, List.count_append, HM.out]
                  by_cases h : ch = 10
                  · subst h; exact Lib.hid rfl
                  · rw [if_neg h, List.count_singleton]; rw [if_neg (by simpa using h)]; exact Lib.hid rfl
                have HLT := Lib.hid hlt
                clear hch hlt
                generalize ch.toNat = zc at *
                by_cases h10 : ch = 10
                · rw [if_pos h10] at HT1
                  have q10 : ((zc : Int) == 10) = true := by rw [e10]; simpa using h10
                  clear e10 h10
                  go_wp2_with fail
                  go_roundw
                  case rel => exact ⟨j + 1, m + 1, HLT.out, by go_num, by go_num, by omega, HT1, by first | rfl | trivial⟩
                  case measure => have := HLT.out; simp [intOf] <;> omega
                · rw [if_neg h10] at HT1
                  have q10 : ((zc : Int) == 10) = false := by rw [e10]; simpa using h10
                  clear e10 h10
                  go_wp2_with fail
                  go_roundw
                  case rel => exact ⟨j + 1, m, HLT.out, by go_num, rfl, by omega, HT1, by first | rfl | trivial⟩
                  case measure => have := HLT.out; simp [intOf] <;> omega
              · obtain rfl : j = T.length := by omega
                obtain rfl : cnt = m := by rw [← HM.out, ← HCN.out, List.take_length]
                have p5 : ¬ (T.length : Int) < ((bA T).size : Int) := by omega
                clear hlt
                by_cases h40 : T.length = 4000
                · have q40 : ((T.length : Int) == 4000) = true := by rw [beq_iff_eq]; omega
                  have HE40 := Lib.hid h40
                  clear h40
                  go_wp2_with (first
                    | (go_at_call 13; (with_reducible refine (HSM.out _ _ HF5.out HM5.out).mono ?_); rintro e w6 ⟨rfl, hf6⟩; have HF6 := Lib.hid (HF5.out.trans hf6); clear hf6)
                    | (go_at_call 10; (with_reducible refine (HSP.out _ HF6.out).mono ?_); rintro e w7 ⟨rfl, hf7⟩; have HF7 := Lib.hid (HF6.out.trans hf7); clear hf7))
                  go_ret
                  exact ⟨rfl, HF7.out⟩
                · obtain ⟨rfl, rfl⟩ := HEND.out h40
                  have q40 : ((T.length : Int) == 4000) = false := by rw [beq_eq_false_iff_ne]; omega
                  have f5 : IntKind.i64.wrap ((cnt : Int) + 1) = ((cnt + 1 : Nat) : Int) := by rw [IntWalk.i64_in _ (by omega)]; omega
                  clear h40
                  go_wp2_with (first
                    | (go_at_call 13; (with_reducible refine (HSM.out _ _ HF5.out HM5.out).mono ?_); rintro e w6 ⟨rfl, hf6⟩; have HF6 := Lib.hid (HF5.out.trans hf6); clear hf6)
                    | (go_at_call 10; (with_reducible refine (HSP.out _ HF6.out).mono ?_); rintro e w7 ⟨rfl, hf7⟩; have HF7 := Lib.hid (HF6.out.trans hf7); clear hf7))
                  go_ret
                  exact ⟨rfl, HF7.out⟩
theorem linesBlank_any (v y : Value) (L : List UInt8) (C : ByteArray) (l : List Ins) (w : World) (h : InsAt w v l) (hy : U8At w y L) (hok : ∀ i ∈ l, i.ok) (hT : LT w) : Calls Tryz.prog 7 #[v, y, .string C] w (Truly w) := by
  by_cases hn : l.length ≤ 20 ∧ C.size ≤ 50
  · have hs : C = bA C.data.toList := by apply ByteArray.ext; simp [bA]
    rw [hs]
    exact lblank_walk v y L C.data.toList l w h hy hok hn.1 (by rw [Array.length_toList]; exact hn.2) hT
  · exact lblank_long v y C l w h (by omega) hT
end Go.Proofs.YthkdokkpiaaljaaGreatDoor
