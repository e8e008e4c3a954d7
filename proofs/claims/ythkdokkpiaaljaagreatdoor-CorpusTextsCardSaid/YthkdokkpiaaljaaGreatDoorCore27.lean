/- lines.build, of any word. firewallref03.register. firewallref03.char. -/
import Derived.Test.YthkdokkpiaaljaaGreatDoorCore26
import Derived.Test.YthkdokkpiaaljaaGreatDoorCore6
import Derived.BigGuardPart
import Derived.Handy
set_option linter.all false
set_option linter.unusedVariables false
set_option linter.unusedSimpArgs false
namespace Go.Proofs.YthkdokkpiaaljaaGreatDoor
open Go.RowKit

/-- what build makes of a word and those behind it; none: it panics -/
def buildO (word : List UInt8) (x : List Mv) : Option (List Ins × Int) :=
  if word = [101, 120, 105, 116] then some ([⟨149, 0, 0, 0, 0⟩], 0)
  else if word = [110, 111, 115, 112, 101, 99] then some ([⟨194, 0, 0, 0, 0⟩], 0)
  else if word = [99, 97, 108, 108] then callO x
  else if word = [106, 97] then jaO x
  else if word = [108, 100, 105, 109, 109] then ldimmO x
  else if word = [108, 100, 109, 97, 112] then ldmapO x
  else if word = [114, 97, 119] then rawO x
  else if sizedY (sizedN word [108, 100, 120]) = true then ldxO (sizedX (sizedN word [108, 100, 120])).1 x
  else if sizedY (sizedN word [115, 116, 120]) = true then stxO (sizedX (sizedN word [115, 116, 120])).2.2 x
  else if sizedY (sizedN word [115, 116]) = true then stO (sizedX (sizedN word [115, 116])).2.1 x
  else match codeW word with
    | none => some ([], -1)
    | some (op, j) => codeO op j x
theorem build_code (word : List UInt8) (ho : Other (bA word)) (x : List Mv) (xv : Value) (b : Nat) (w : World) (hX : XsAt w xv b x) (hC : CodeC word w) (op : Nat) (j : Bool) (hc : codeW word = some (op, j)) : Calls Tryz.prog 72 #[.string (bA word), xv] w (BuildTo w (codeO op j x)) := by
  cases hd : ag dstG x 0 with
  | none => exact build_c0 word ho x xv b w hX hC op j hc hd
  | some di =>
    have hdi := dst_pos hd
    generalize hdd : di.toNat = d at hdi
    subst hdi
    have e0 : codeO op j x = if !j && op / 16 == 8 then some ([⟨op, d, 0, 0, 0⟩], 1) else ((x[1]?).bind (eitherO op d)).bind fun i => if j then (ag shortG x 2).bind fun o => some ([{ i with off := o }], 3) else some ([i], 2) := by
      unfold codeO
      rw [hd]
      show (if _ then _ else _) = _
      rw [hdd]
    rw [e0]
    cases j with
    | false =>
      by_cases hn : op / 16 = 8
      · rw [if_pos (by simp [hn])]
        exact build_cneg word ho x xv b w hX hC op false hc d hd rfl hn
      · rw [if_neg (by simp [hn])]
        cases hx1 : x[1]? with
        | none => exact build_cAf word ho x xv b w hX hC op hc d hd hn hx1
        | some m1 =>
          show Calls Tryz.prog 72 #[.string (bA word), xv] w (BuildTo w ((eitherO op d m1).bind _))
          cases he : eitherO op d m1 with
          | none => exact build_cBf word ho x xv b w hX hC op hc d hd hn m1 hx1 he
          | some i => exact build_cCf word ho x xv b w hX hC op hc d hd hn m1 hx1 i he
    | true =>
      rw [if_neg (by simp)]
      cases hx1 : x[1]? with
      | none => exact build_cAt word ho x xv b w hX hC op hc d hd hx1
      | some m1 =>
        show Calls Tryz.prog 72 #[.string (bA word), xv] w (BuildTo w ((eitherO op d m1).bind _))
        cases he : eitherO op d m1 with
        | none => exact build_cBt word ho x xv b w hX hC op hc d hd m1 hx1 he
        | some i =>
          show Calls Tryz.prog 72 #[.string (bA word), xv] w (BuildTo w ((ag shortG x 2).bind _))
          cases hx2 : x[2]? with
          | none =>
            rw [ag_none hx2]
            exact build_cD0 word ho x xv b w hX hC op hc d hd m1 hx1 i he hx2
          | some m2 =>
            rw [ag_some hx2]
            cases h2 : shortG m2 with
            | none => exact build_cD1 word ho x xv b w hX hC op hc d hd m1 hx1 i he m2 hx2 h2
            | some o => exact build_cD2 word ho x xv b w hX hC op hc d hd m1 hx1 i he m2 hx2 o h2
theorem build_any (word : List UInt8) (hs : word.length ≤ 1000000) (x : List Mv) (xv : Value) (b : Nat) (w : World) (hX : XsAt w xv b x) (hT : LT w) : Calls Tryz.prog 72 #[.string (bA word), xv] w (BuildTo w (buildO word x)) := by
  unfold buildO
  by_cases h1 : word = [101, 120, 105, 116]
  · rw [if_pos h1]; subst h1; exact build_exit x xv w
  by_cases h2 : word = [110, 111, 115, 112, 101, 99]
  · rw [if_neg h1, if_pos h2]; subst h2; exact build_nospec x xv w
  by_cases h3 : word = [99, 97, 108, 108]
  · rw [if_neg h1, if_neg h2, if_pos h3]; subst h3; exact build_call x xv b w hX
  by_cases h4 : word = [106, 97]
  · rw [if_neg h1, if_neg h2, if_neg h3, if_pos h4]; subst h4; exact build_ja x xv b w hX
  by_cases h5 : word = [108, 100, 105, 109, 109]
  · rw [if_neg h1, if_neg h2, if_neg h3, if_neg h4, if_pos h5]; subst h5; exact build_ldimm x xv b w hX
  by_cases h6 : word = [108, 100, 109, 97, 112]
  · rw [if_neg h1, if_neg h2, if_neg h3, if_neg h4, if_neg h5, if_pos h6]; subst h6; exact build_ldmap x xv b w hX
  by_cases h7 : word = [114, 97, 119]
  · rw [if_neg h1, if_neg h2, if_neg h3, if_neg h4, if_neg h5, if_neg h6, if_pos h7]; subst h7; exact build_raw x xv b w hX
  rw [if_neg h1, if_neg h2, if_neg h3, if_neg h4, if_neg h5, if_neg h6, if_neg h7]
  have q : ∀ l : List UInt8, word ≠ l → ((bA word).toList == l) = false := fun l h => by
    rw [Lib.toList_data]
    show (word == l) = false
    simpa using h
  have ho : Other (bA word) := ⟨q _ h1, q _ h2, q _ h3, q _ h4, q _ h5, q _ h6, q _ h7⟩
  cases s1 : sizedY (sizedN word [108, 100, 120]) with
  | true => rw [if_pos rfl]; exact build_ldx word ho x xv b w hX hT s1
  | false =>
    rw [if_neg (by simp)]
    cases s2 : sizedY (sizedN word [115, 116, 120]) with
    | true => rw [if_pos rfl]; exact build_stx word ho x xv b w hX hT s1 s2
    | false =>
      rw [if_neg (by simp)]
      cases s3 : sizedY (sizedN word [115, 116]) with
      | true => rw [if_pos rfl]; exact build_st word ho x xv b w hX hT s1 s2 s3
      | false =>
        rw [if_neg (by simp)]
        have hC : CodeC word w := ⟨sized_c word _ w hT _ s1, sized_c word _ w hT _ s2, sized_c word _ w hT _ s3, fun W hW => lcode_any word hs W (hT.fr hW)⟩
        cases hc : codeW word with
        | none => exact build_unknown word ho xv w hC hc
        | some p =>
          obtain ⟨op, j⟩ := p
          exact build_code word ho x xv b w hX hC op j hc
end Go.Proofs.YthkdokkpiaaljaaGreatDoor

namespace Go.Proofs.YthkdokkpiaaljaaGreatDoor
open Go.RowKit

/-- a word's register, and whether it is one -/
def regR (s : List UInt8) : Nat × Bool := match regW s with | some r => (r, true) | none => (0, false)
theorem regR_some {s : List UInt8} {n : Nat} (h : ∀ m, m < n → (s == regN m) = false) (hn : (s == regN n) = true) (h11 : n < 11) : regR s = (n, true) := by
  have : regW s = some n := by
    unfold regW
    rw [List.find?_range_eq_some]
    exact ⟨hn, List.mem_range.2 h11, fun j hj => by rw [h j hj]; rfl⟩
  unfold regR
  rw [this]
theorem regR_none {s : List UInt8} (h : ∀ m, m < 11 → (s == regN m) = false) : regR s = (0, false) := by
  have : regW s = none := by
    unfold regW
    rw [List.find?_range_eq_none]
    exact fun j hj => by rw [h j hj]; rfl
  unfold regR
  rw [this]
theorem str_beq (a b : List UInt8) : ((⟨a.toArray⟩ : ByteArray).toList == (⟨b.toArray⟩ : ByteArray).toList) = (a == b) := by
  rw [Lib.toList_data, Lib.toList_data]
theorem str_beq2 (a b : List UInt8) : (a == (⟨b.toArray⟩ : ByteArray).toList) = (a == b) := by
  rw [Lib.toList_data]

set_option maxRecDepth 100000 in
set_option maxHeartbeats 1000000 in
theorem register_any (s : List UInt8) (w : World) : Calls Tryz.prog 75 #[.string ⟨s.toArray⟩] w fun e w' => e = .returned (.tuple #[.int .u8 (regR s).1, .bool (regR s).2]) ∧ Fr No w w' := by
  have HR : Hid (∀ (n : Nat) W, n < 256 → Calls Tryz.prog 31 #[.int .u8 n] W fun e w' => e = .returned (.string ⟨(regN n).toArray⟩) ∧ Fr No W w') := fun n W h => refreg_any n h W
  have HB : Hid (∀ n : Nat, ((⟨s.toArray⟩ : ByteArray).toList == (⟨(regN n).toArray⟩ : ByteArray).toList) = (s == regN n)) := fun n => str_beq s (regN n)
  go_enter Tryz.func75, Tryz.ntmps75
  go_wp2_with fail
  go_loopw [4] (fun s4 wr => ∃ n : Nat, n ≤ 11 ∧ s4 = .int .i64 n ∧ Hid (∀ m, m < n → (s == regN m) = false) ∧ Hid (Fr No w wr)) (fun s4 _ => 11 - (intOf s4).toNat)
  case atStart => exact ⟨0, Nat.zero_le _, rfl, Lib.hid (fun m hm => absurd hm (Nat.not_lt_zero _)), Fr.refl _ _⟩
  case round =>
    obtain ⟨n, hn, rfl, HJ, HF⟩ := hrel
    by_cases hlt : n < 11
    · have q1 : decide ((n : Int) ≤ 10) = true := by simp; omega
      have f1 : IntKind.u8.wrap (n : Int) = n := IntWalk.u8_in _ (by omega)
      have HRn := Lib.hid (fun W => HR.out n W (by omega))
      have q2 := HB.out n
      have q3 := str_beq2 s (regN n)
      obtain ⟨t, ht⟩ : ∃ t, (s == regN n) = t := ⟨_, rfl⟩
      rw [ht] at q2 q3
      have HT := Lib.hid ht
      clear ht HR HB
      generalize (⟨(regN n).toArray⟩ : ByteArray) = R at *
      cases t with
      | true =>
        have HE := Lib.hid (regR_some HJ.out HT.out hlt)
        go_wp2_with (go_at_call 31; (with_reducible refine (HRn.out _).mono ?_); rintro e w1 ⟨rfl, hf1⟩)
        go_ret2
        exact ⟨by rw [HE.out]; rfl, HF.out.trans hf1⟩
      | false =>
        have HJ2 : Hid (∀ m, m < n + 1 → (s == regN m) = false) := fun m hm => by
          by_cases e : m = n
          · subst e; exact HT.out
          · exact HJ.out m (by omega)
        go_wp2_with (go_at_call 31; (with_reducible refine (HRn.out _).mono ?_); rintro e w1 ⟨rfl, hf1⟩)
        go_roundw
        case rel => exact ⟨n + 1, by omega, by go_num, HJ2, HF.out.trans hf1⟩
        case measure => simp [intOf] <;> omega
    · obtain rfl : n = 11 := by omega
      have HE := Lib.hid (regR_none HJ.out)
      go_wp2_with fail
      go_ret2
      exact ⟨by rw [HE.out]; rfl, HF.out⟩
end Go.Proofs.YthkdokkpiaaljaaGreatDoor

namespace Go.Proofs.YthkdokkpiaaljaaGreatDoor
open Go.RowKit

/-- charN by numbers: the bytes in front, -1 where there is none -/
def chr4 (c x y z : Int) : Int :=
  if c < 128 then 1
  else if c < 194 then 0
  else if 245 ≤ c then 0
  else if x < (if c = 224 then 160 else if c = 240 then 144 else 128) then 0
  else if (if c = 237 then 159 else if c = 244 then 143 else 191) < x then 0
  else if c < 224 then 2
  else if y < 128 ∨ 191 < y then 0
  else if c < 240 then 3
  else if z < 128 ∨ 191 < z then 0 else 4

theorem chr_is1 {c x y z : Int} (h : c < 128) : 1 = chr4 c x y z := by unfold chr4; rw [if_pos h]
theorem chr_is0 {c x y z : Int} (h : 128 ≤ c) (h2 : c < 194 ∨ 245 ≤ c ∨ x < 128 ∨ 191 < x ∨ (c = 224 ∧ x < 160) ∨ (c = 240 ∧ x < 144) ∨ (c = 237 ∧ 159 < x) ∨ (c = 244 ∧ 143 < x) ∨ (224 ≤ c ∧ (y < 128 ∨ 191 < y)) ∨ (240 ≤ c ∧ (z < 128 ∨ 191 < z))) : 0 = chr4 c x y z := by
  unfold chr4
  rw [if_neg (by omega)]
  by_cases a1 : c < 194
  · rw [if_pos a1]
  rw [if_neg a1]
  by_cases a2 : 245 ≤ c
  · rw [if_pos a2]
  rw [if_neg a2]
  by_cases a3 : x < (if c = 224 then 160 else if c = 240 then 144 else 128)
  · rw [if_pos a3]
  rw [if_neg a3]
  by_cases a4 : (if c = 237 then 159 else if c = 244 then 143 else 191) < x
  · rw [if_pos a4]
  rw [if_neg a4]
  by_cases a5 : c < 224
  · exfalso
    rw [if_neg (by omega), if_neg (by omega)] at a3
    rw [if_neg (by omega), if_neg (by omega)] at a4
    omega
  rw [if_neg a5]
  by_cases a6 : y < 128 ∨ 191 < y
  · rw [if_pos a6]
  rw [if_neg a6]
  by_cases a7 : c < 240
  · exfalso
    by_cases b1 : c = 224
    · rw [if_pos b1] at a3; rw [if_neg (by omega), if_neg (by omega)] at a4; omega
    rw [if_neg b1, if_neg (by omega)] at a3
    by_cases b2 : c = 237
    · rw [if_pos b2] at a4; omega
    rw [if_neg b2, if_neg (by omega)] at a4
    omega
  rw [if_neg a7]
  by_cases a8 : z < 128 ∨ 191 < z
  · rw [if_pos a8]
  rw [if_neg a8]
  exfalso
  rw [if_neg (by omega)] at a3
  rw [if_neg (by omega)] at a4
  by_cases b1 : c = 240
  · rw [if_pos b1] at a3; rw [if_neg (by omega)] at a4; omega
  rw [if_neg b1] at a3
  by_cases b2 : c = 244
  · rw [if_pos b2] at a4; omega
  rw [if_neg b2] at a4
  omega
theorem chr_low {c x : Int} (h : (c = 224 → 160 ≤ x) ∧ (c = 240 → 144 ≤ x) ∧ 128 ≤ x) : ¬ x < (if c = 224 then 160 else if c = 240 then 144 else 128) := by
  split
  · omega
  · split <;> omega
theorem chr_high {c x : Int} (h : (c = 237 → x ≤ 159) ∧ (c = 244 → x ≤ 143) ∧ x ≤ 191) : ¬ (if c = 237 then 159 else if c = 244 then 143 else 191) < x := by
  split
  · omega
  · split <;> omega
theorem chr_is2 {c x y z : Int} (h : 194 ≤ c ∧ c < 224 ∧ 128 ≤ x ∧ x ≤ 191) : 2 = chr4 c x y z := by
  unfold chr4
  rw [if_neg (by omega), if_neg (by omega), if_neg (by omega), if_neg (chr_low (by omega)), if_neg (chr_high (by omega)), if_pos (by omega)]
theorem chr_is3 {c x y z : Int} (h : 224 ≤ c ∧ c < 240 ∧ (c = 224 → 160 ≤ x) ∧ (c = 237 → x ≤ 159) ∧ 128 ≤ x ∧ x ≤ 191 ∧ 128 ≤ y ∧ y ≤ 191) : 3 = chr4 c x y z := by
  unfold chr4
  rw [if_neg (by omega), if_neg (by omega), if_neg (by omega), if_neg (chr_low (by omega)), if_neg (chr_high (by omega)), if_neg (by omega), if_neg (by omega), if_pos (by omega)]
theorem chr_is4 {c x y z : Int} (h : 240 ≤ c ∧ c < 245 ∧ (c = 240 → 144 ≤ x) ∧ (c = 244 → x ≤ 143) ∧ 128 ≤ x ∧ x ≤ 191 ∧ 128 ≤ y ∧ y ≤ 191 ∧ 128 ≤ z ∧ z ≤ 191) : 4 = chr4 c x y z := by
  unfold chr4
  rw [if_neg (by omega), if_neg (by omega), if_neg (by omega), if_neg (chr_low (by omega)), if_neg (chr_high (by omega)), if_neg (by omega), if_neg (by omega), if_neg (by omega), if_neg (by omega)]

/-- the byte at a place of a list, -1 behind the end -/
def zb (t : List UInt8) (k : Nat) : Int := match t[k]? with | some a => (a.toNat : Int) | none => -1
theorem lead_nat (c : UInt8) : lead c = if c.toNat < 128 then 1 else if 194 ≤ c.toNat ∧ c.toNat < 224 then 2 else if 224 ≤ c.toNat ∧ c.toNat < 240 then 3 else if 240 ≤ c.toNat ∧ c.toNat < 245 then 4 else 0 := by
  unfold lead
  simp only [UInt8.lt_iff_toNat_lt, UInt8.le_iff_toNat_le]
  rfl
theorem eq8 (c : UInt8) (n : Nat) (h : n < 256) : c = UInt8.ofNat n ↔ c.toNat = n := by
  constructor
  · rintro rfl; simp; omega
  · intro e; apply UInt8.toNat.inj; simp; omega
theorem least_nat (c : UInt8) : (least2 c).toNat = if c.toNat = 224 then 160 else if c.toNat = 240 then 144 else 128 := by
  unfold least2
  have e1 := eq8 c 224 (by omega)
  have e2 := eq8 c 240 (by omega)
  simp only [show (224 : UInt8) = UInt8.ofNat 224 from rfl, show (240 : UInt8) = UInt8.ofNat 240 from rfl, e1, e2]
  split
  · rfl
  · split <;> rfl
theorem most_nat (c : UInt8) : (most2 c).toNat = if c.toNat = 237 then 159 else if c.toNat = 244 then 143 else 191 := by
  unfold most2
  have e1 := eq8 c 237 (by omega)
  have e2 := eq8 c 244 (by omega)
  simp only [show (237 : UInt8) = UInt8.ofNat 237 from rfl, show (244 : UInt8) = UInt8.ofNat 244 from rfl, e1, e2]
  split
  · rfl
  · split <;> rfl
theorem cont_zb (t : List UInt8) (k : Nat) : contB t k = decide (128 ≤ zb t k ∧ zb t k ≤ 191) := by
  unfold contB zb
  cases t[k]? with
  | none => simp
  | some a =>
    show decide (128 ≤ a ∧ a ≤ 191) = _
    rw [decide_eq_decide, UInt8.le_iff_toNat_le, UInt8.le_iff_toNat_le]
    show (128 ≤ a.toNat ∧ a.toNat ≤ 191) ↔ _
    dsimp only
    omega
theorem zb_lt (t : List UInt8) (k : Nat) (h : t.length ≤ k) : zb t k = -1 := by
  unfold zb
  rw [List.getElem?_eq_none h]

theorem charN_chr (c : UInt8) (t : List UInt8) : ((charN (c :: t) : Nat) : Int) = chr4 c.toNat (zb t 0) (zb t 1) (zb t 2) := by
  have hl := lead_nat c
  have hc := c.toNat_lt
  unfold charN
  dsimp only
  by_cases h1 : c.toNat < 128
  · rw [if_pos h1] at hl
    rw [hl, if_pos (by omega)]
    exact chr_is1 (by omega)
  rw [if_neg h1] at hl
  by_cases h0 : c.toNat < 194 ∨ 245 ≤ c.toNat
  · rw [if_neg (by omega), if_neg (by omega), if_neg (by omega)] at hl
    rw [hl, if_pos (by omega)]
    exact chr_is0 (by omega) (by omega)
  have l2 : 2 ≤ lead c ∧ lead c ≤ 4 := by
    rw [hl]
    split
    · omega
    · split
      · omega
      · rw [if_pos (by omega)]; omega
  rw [if_neg (by omega)]
  by_cases hs : t.length + 1 < lead c
  · rw [if_pos hs]
    refine chr_is0 (by omega) ?_
    have z0 := zb_lt t 0
    have z1 := zb_lt t 1
    have z2 := zb_lt t 2
    by_cases a : t.length ≤ 0
    · have := z0 a; omega
    by_cases b : t.length ≤ 1
    · have := z1 b
      by_cases h2 : c.toNat < 224
      · rw [if_pos (by omega)] at hl; omega
      · omega
    by_cases d : t.length ≤ 2
    · have := z2 d
      by_cases h2 : c.toNat < 224
      · rw [if_pos (by omega)] at hl; omega
      · rw [if_neg (by omega)] at hl
        by_cases h3 : c.toNat < 240
        · rw [if_pos (by omega)] at hl; omega
        · omega
    omega
  rw [if_neg hs]
  cases t with
  | nil => simp at hs; omega
  | cons a t =>
    have za : zb (a :: t) 0 = a.toNat := rfl
    have k1 := cont_zb (a :: t) 1
    have k2 := cont_zb (a :: t) 2
    have hm := most_nat c
    have hle := least_nat c
    dsimp only
    rw [za]
    generalize zb (a :: t) 1 = y at *
    generalize zb (a :: t) 2 = z at *
    have hx : (a < least2 c ∨ most2 c < a) ↔ (a.toNat < (if c.toNat = 224 then 160 else if c.toNat = 240 then 144 else 128) ∨ (if c.toNat = 237 then 159 else if c.toNat = 244 then 143 else 191) < a.toNat) := by
      rw [UInt8.lt_iff_toNat_lt, UInt8.lt_iff_toNat_lt, hm, hle]
    by_cases hb : a < least2 c ∨ most2 c < a
    · rw [if_pos hb]
      refine chr_is0 (by omega) ?_
      rw [hx] at hb
      rcases hb with hb | hb
      · split at hb
        · omega
        · split at hb <;> omega
      · split at hb
        · omega
        · split at hb <;> omega
    rw [if_neg hb]
    rw [hx] at hb
    have hxx : (c.toNat = 224 → 160 ≤ a.toNat) ∧ (c.toNat = 240 → 144 ≤ a.toNat) ∧ (c.toNat = 237 → a.toNat ≤ 159) ∧ (c.toNat = 244 → a.toNat ≤ 143) ∧ 128 ≤ a.toNat ∧ a.toNat ≤ 191 := by
      rcases Nat.lt_or_ge c.toNat 245 with _ | _
      · refine ⟨?_, ?_, ?_, ?_, ?_, ?_⟩
        · intro e; rw [if_pos e] at hb; omega
        · intro e; rw [if_neg (by omega), if_pos e] at hb; omega
        · intro e
          have : ¬ (if c.toNat = 237 then 159 else if c.toNat = 244 then 143 else 191) < a.toNat := fun h => hb (.inr h)
          rw [if_pos e] at this; omega
        · intro e
          have : ¬ (if c.toNat = 237 then 159 else if c.toNat = 244 then 143 else 191) < a.toNat := fun h => hb (.inr h)
          rw [if_neg (by omega), if_pos e] at this; omega
        · have : ¬ a.toNat < (if c.toNat = 224 then 160 else if c.toNat = 240 then 144 else 128) := fun h => hb (.inl h)
          split at this
          · omega
          · split at this <;> omega
        · have : ¬ (if c.toNat = 237 then 159 else if c.toNat = 244 then 143 else 191) < a.toNat := fun h => hb (.inr h)
          split at this
          · omega
          · split at this <;> omega
      · omega
    clear hb hx hm hle
    by_cases h2 : c.toNat < 224
    · rw [if_pos (by omega)] at hl
      rw [hl, if_pos rfl]
      exact chr_is2 (by omega)
    rw [if_neg (by omega)] at hl
    have hne : lead c ≠ 2 := by
      rw [hl]; split
      · omega
      · rw [if_pos (by omega)]; omega
    rw [if_neg hne, k1]
    by_cases hy : 128 ≤ y ∧ y ≤ 191
    · rw [decide_eq_true hy, if_neg (by simp)]
      by_cases h3 : c.toNat < 240
      · rw [if_pos (by omega)] at hl
        rw [hl, if_pos rfl]
        exact chr_is3 (by omega)
      · rw [if_neg (by omega), if_pos (by omega)] at hl
        rw [hl, if_neg (by omega), k2]
        by_cases hz : 128 ≤ z ∧ z ≤ 191
        · rw [decide_eq_true hz, if_neg (by simp)]
          exact chr_is4 (by omega)
        · rw [decide_eq_false hz, if_pos (by simp)]
          exact chr_is0 (by omega) (by omega)
    · rw [decide_eq_false hy, if_pos (by simp)]
      exact chr_is0 (by omega) (by omega)

/-- the byte at a place, -1 behind the end -/
def byteZ (S : ByteArray) (a : Nat) : Int := if h : a < S.size then (S[a].toNat : Int) else -1
theorem byteZ_in {S : ByteArray} {a : Nat} (h : a < S.size) : byteZ S a = (S[a].toNat : Int) := dif_pos h
theorem byteZ_out {S : ByteArray} {a : Nat} (h : ¬ a < S.size) : byteZ S a = -1 := dif_neg h
theorem byteZ_zb (s : List UInt8) (a : Nat) : byteZ ⟨s.toArray⟩ a = zb s a := by
  unfold byteZ zb
  split
  · rename_i h
    have h2 : a < s.length := by simpa [ByteArray.size] using h
    rw [List.getElem?_eq_getElem h2]
    rfl
  · rename_i h
    have h2 : s.length ≤ a := by simpa [ByteArray.size] using h
    rw [List.getElem?_eq_none h2]

theorem char_chr (s : List UInt8) (a : Nat) (h : a < s.length) : chr4 (byteZ ⟨s.toArray⟩ a) (byteZ ⟨s.toArray⟩ (a + 1)) (byteZ ⟨s.toArray⟩ (a + 2)) (byteZ ⟨s.toArray⟩ (a + 3)) = ((charN (s.drop a) : Nat) : Int) := by
  rw [byteZ_zb, byteZ_zb, byteZ_zb, byteZ_zb, List.drop_eq_getElem_cons h, charN_chr]
  have e : ∀ k, zb (s.drop (a + 1)) k = zb s (a + (k + 1)) := fun k => by
    unfold zb
    rw [List.getElem?_drop, show a + 1 + k = a + (k + 1) by omega]
  have e0 : zb s a = (s[a].toNat : Int) := by
    unfold zb
    rw [List.getElem?_eq_getElem h]
  rw [e, e, e, e0]
end Go.Proofs.YthkdokkpiaaljaaGreatDoor
