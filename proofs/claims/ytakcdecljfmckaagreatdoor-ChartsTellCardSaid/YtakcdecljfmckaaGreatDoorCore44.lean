/- firewalllaw31.led, walked. firewalllaw03.spoken: the chapter's examples. corpus.lines: a text of lines. corpus: array, hash, entry. -/
import Derived.Test.YtakcdecljfmckaaGreatDoorCore23
import Derived.Test.YtakcdecljfmckaaGreatDoorCore21
import Derived.Test.YtakcdecljfmckaaGreatDoorCore35
import Derived.Test.YtakcdecljfmckaaGreatDoorCore4
set_option linter.all false
set_option linter.unusedVariables false
set_option linter.unusedSimpArgs false
namespace Go.Proofs.YtakcdecljfmckaaGreatDoor
open Go.RowKit

theorem i64s_append (L M : List Nat) : i64s (L ++ M) = i64s L ++ i64s M := by simp [i64s]
theorem ownsRow_cap {w : World} {base size n : Nat} {e : TypeId} {v : Value} {xs : List Value} (h : w.ownsRow base e size v n xs) : ∃ a n c, v = .slice a n c ∧ n ≤ c := by
  rcases h.2 with ⟨h1, _⟩ | ⟨g, cap, cur, hv, _, _, hc, _⟩
  · exact ⟨_, _, _, h1, Nat.le_refl _⟩
  · exact ⟨_, _, _, hv, hc⟩
theorem i64s_one (L : List Nat) : ∀ u ∈ i64s L, u.oneCell' = true := fun u hu => by
  obtain ⟨k, _, rfl⟩ := List.mem_map.1 hu
  rfl

set_option maxRecDepth 100000 in
set_option maxHeartbeats 4000000 in
theorem led_any (bs : List Blk) (bv : Value) (tt : Nat) (wo : Int) (w : World) (hv : BlksAt w bv bs) (hto : tt < bs.length) (hlen : bs.length ≤ 1000) (hnx : ∀ k n, n ∈ nxM bs k → n < bs.length) (hn2 : ∀ k, (nxM bs k).length ≤ 2) :
    Calls Tryz.prog 19 #[bv, .int .i64 (tt : Int), .int .i64 wo] w fun e w' => ∃ r : Bool, e = .returned (.bool r) ∧ (r = true ↔ LedTo (nxM bs) (fun k => (k : Int) = wo) tt) ∧ Fr No w w' := by
  obtain ⟨gb, cb, rfl, hbk⟩ := hv
  have HBK := Lib.hid hbk
  have HNX := Lib.hid hnx
  have HN2 := Lib.hid hn2
  obtain ⟨N, hN⟩ : ∃ N, bs.length = N := ⟨_, rfl⟩
  have HN := Lib.hid hN
  rw [hN] at hlen hto ⊢
  have HLEN := Lib.hid hlen
  have HTO := Lib.hid hto
  have hpos : 0 < N := by omega
  have HPOS := Lib.hid hpos
  have hmk := fun W => make_bools N (by omega) W
  clear hbk hnx hn2 hN
  obtain ⟨j0, hj0, jz0, jz1, jz2⟩ := info_parts Tryz.infoCh_int
  have HB0 : Hid (SeenAt ((w.alloc (.cells (Array.replicate N (.bool false)) 4)).alloc (.cells #[.int .i64 0] 3)) w.heap.size (List.replicate N false)) := by
    have eR : (Array.replicate N (Value.bool false)) = (List.replicate N (Value.bool false)).toArray := by simp
    have hb := BoolsAt.new w N 4
    rw [← eR] at hb
    have hb2 := BoolsAt.fr hb ((Fr.refl No _).alloc (.cells #[.int .i64 0] 3))
    intro k hk
    rw [List.length_replicate] at hk
    obtain ⟨m1, m2⟩ := hb2 k hk
    refine ⟨?_, m2⟩
    rw [m1]
    refine congrArg (fun b => some (Value.bool b)) ?_
    show false = (List.replicate N false).getD k true
    rw [List.getD_eq_getElem?_getD, List.getElem?_replicate, if_pos hk]
    rfl
  have HT0 : Hid (TodoAt w.heap.size ((w.alloc (.cells (Array.replicate N (.bool false)) 4)).alloc (.cells #[.int .i64 0] 3)) (.slice (some ⟨w.heap.size + 1, 0, none⟩) 1 1) [0]) := by
    have e1 : ∀ (w : World) o, (w.alloc o).heap.size = w.heap.size + 1 := fun w o => Array.size_push _
    have h := CellsAt.new (w.alloc (.cells (Array.replicate N (.bool false)) 4)) [.int .i64 0] 3
    rw [e1] at h
    exact ⟨.inr ⟨_, 1, rfl, h⟩, fun k hk => by have : w.heap.size + 1 = k := Option.some.inj hk; omega, _, _, _, rfl, Nat.le_refl _⟩
  have HF0 : Hid (Fr No w ((w.alloc (.cells (Array.replicate N (.bool false)) 4)).alloc (.cells #[.int .i64 0] 3))) := ((Fr.refl _ _).alloc _).alloc _
  go_enter Tryz.func19, Tryz.ntmps19
  go_wp2_with fail
  generalize (w.alloc (.cells (Array.replicate N (.bool false)) 4)).alloc (.cells #[.int .i64 0] 3) = W0 at *
  generalize w.heap.size + 1 = g1 at *
  obtain ⟨gs, hgs⟩ : ∃ gs, w.heap.size = gs := ⟨_, rfl⟩
  have HGS : Hid (w.heap.size ≤ gs) := Nat.le_of_eq hgs
  rw [hgs] at HB0 HT0 ⊢
  clear hgs hmk
  go_loopw [8] (fun v wr => ∃ (s : List Bool) (L : List Nat), Hid (TodoAt gs wr v L) ∧ Hid (SeenAt wr gs s) ∧ Hid (LedS (nxM bs) N wo s L) ∧ Hid (Fr No w wr) ∧ Hid (L.length + 2 * unseen s ≤ 100000)) (fun v wr => 3 * unseenW wr gs N + lenOf v)
  case atStart => exact ⟨_, [0], HT0.out, HB0.out, LedS.start HPOS.out, HF0.out, Lib.hid (by unfold unseen; rw [List.countP_replicate]; simp; have := HLEN.out; omega)⟩
  case round =>
    obtain ⟨s, L, HT, HS, HL, HF, HB⟩ := hrel
    rcases List.eq_nil_or_concat L with rfl | ⟨L1, x, rfl⟩
    · obtain ⟨an, cn, rfl⟩ := HT.out.1.form
      have k0 : wr.cell? ⟨gs, tt, none⟩ = some (.bool (s.getD tt true)) := (HS.out tt (by rw [HL.out.len]; exact HTO.out)).1
      have HR : Hid (s.getD tt true = true ↔ LedTo (nxM bs) (fun k => (k : Int) = wo) tt) := Iff.trans (seen_get (by rw [HL.out.len]; exact HTO.out)) (HL.out.end tt)
      have r1 : (tt : Int) < (N : Int) := by omega
      have r0 : (0 : Int) ≤ (tt : Int) := by omega
      generalize s.getD tt true = rr at *
      go_wp2_with fail
      go_ret
      exact ⟨rr, rfl, HR.out, HF.out⟩
    · rw [List.concat_eq_append] at HT HL HB
      obtain ⟨gt, ct, hv1, hx0, hT1, hcap⟩ := HT.out.last
      subst hv1
      have HT1 := Lib.hid hT1
      have HXT := Lib.hid (HL.out.todo x (by simp))
      have hxN : x < N := HXT.out.1
      have k0 : wr.cell? ⟨gs, x, none⟩ = some (.bool (s.getD x true)) := (HS.out x (by rw [HL.out.len]; exact hxN)).1
      have k1 : wr.frozen? ⟨gs, x, none⟩ = false := (HS.out x (by rw [HL.out.len]; exact hxN)).2
      obtain ⟨q, hq⟩ : ∃ q, L1.length = q := ⟨_, rfl⟩
      rw [hq] at hx0 HT1 hcap ⊢
      have g4 : (q : Int) ≤ (ct : Int) := by omega
      have HQ := Lib.hid hq
      have HBQ : Hid (q + 1 + 2 * unseen s ≤ 100000) := by have h := HB.out; rw [List.length_append, hq] at h; exact Lib.hid (by simpa using h)
      obtain ⟨n1, hn1⟩ : ∃ n1, q + 1 = n1 := ⟨_, rfl⟩
      have HN1 := Lib.hid hn1
      rw [hn1]
      have hq5 : n1 ≤ 100000 := by have := HBQ.out; omega
      have w1 : wrap64 ((n1 : Int) - 1) = (q : Int) := by rw [IntWalk.wrap64_in _ (by omega)]; omega
      have g1' : (0 : Int) < (n1 : Int) := by omega
      have g2 : (q : Int) < (n1 : Int) := by omega
      have g3 : (0 : Int) ≤ (q : Int) := by omega
      have r1 : (x : Int) < (N : Int) := by omega
      have r0 : (0 : Int) ≤ (x : Int) := by omega
      have r2 : ¬ (x : Int) < 0 := by omega
      have r3 : ¬ (N : Int) ≤ (x : Int) := by omega
      obtain ⟨sb, hsb⟩ : ∃ sb, s.getD x true = sb := ⟨_, rfl⟩
      rw [hsb] at k0
      have HSB := Lib.hid hsb
      clear hT1 hsb hq hn1 hxN hq5
      have HMEAS : Hid (3 * unseenW wr gs N = 3 * unseen s) := by rw [← HL.out.len, HS.out.count]; exact Lib.hid rfl
      cases sb with
      | true =>
        have HSK : Hid (LedS (nxM bs) N wo s L1) := HL.out.skip (.inl ((seen_get (by rw [HL.out.len]; exact HXT.out.1)).1 HSB.out))
        go_wp2_with fail
        go_roundw
        case rel => exact ⟨s, L1, by rw [HQ.out] at *; exact HT1, HS.out, HSK.out, HF.out, Lib.hid (by have := HBQ.out; rw [HQ.out]; omega)⟩
        case measure => (have := HN1.out; simp [lenOf] <;> omega)
      | false =>
        by_cases hw : (x : Int) = wo
        · have HSK : Hid (LedS (nxM bs) N wo s L1) := HL.out.skip (.inr hw)
          have q1 : ((x : Int) == wo) = true := by simpa using hw
          clear hw
          go_wp2_with fail
          go_roundw
          case rel => exact ⟨s, L1, by rw [HQ.out] at *; exact HT1, HS.out, HSK.out, HF.out, Lib.hid (by have := HBQ.out; rw [HQ.out]; omega)⟩
          case measure => (have := HN1.out; simp [lenOf] <;> omega)
        · have q1 : ((x : Int) == wo) = false := by simpa using hw
          have HMK : Hid (LedS (nxM bs) N wo (s.set x true) (L1 ++ nxM bs x)) := HL.out.mark hw (fun n hn => by have := HNX.out x n hn; rw [HN.out] at this; exact this)
          obtain ⟨b, hb⟩ : ∃ b, bs[x]? = some b := ⟨bs[x]'(by rw [HN.out]; exact HXT.out.1), List.getElem?_eq_getElem _⟩
          obtain ⟨m0, m1, nv, m2, m3⟩ := HBK.out x b hb
          have HBN : Hid (nxM bs x = b.next) := by unfold nxM; rw [List.getD_eq_getElem?_getD, hb]; exact Lib.hid rfl
          obtain ⟨an, cn, rfl⟩ := m3.form
          have HNV := Lib.hid m3
          have HNC := Lib.hid m2
          have HNL : Hid (b.next.length ≤ 2) := by rw [← HBN.out]; exact Lib.hid (HN2.out x)
          have HUS : Hid (unseen (s.set x true) + 1 = unseen s) := unseen_set s x (seen_not (by rw [HL.out.len]; exact HXT.out.1) HSB.out)
          clear hw m0 m1 m2 m3 hb
          obtain ⟨L0, hL0⟩ : ∃ L0, b.next = L0 := ⟨_, rfl⟩
          rw [hL0] at HNV HNC HBN HNL
          obtain ⟨m, hm⟩ : ∃ m, L0.length = m := ⟨_, rfl⟩
          rw [hm] at HNV HNC HNL
          have HM := Lib.hid hm
          clear hL0 hm
          go_upto_region 8 with fail
          obtain ⟨W1, hW1⟩ : ∃ W1, W1 = wr.setCell ⟨gs, x, none⟩ (.bool true) := ⟨_, rfl⟩
          have HS1 : Hid (SeenAt W1 gs (s.set x true)) := by rw [hW1]; exact HS.out.set (by rw [HL.out.len]; exact HXT.out.1)
          have HI1 : Hid (Fr (Isb gs) wr W1) := by rw [hW1]; exact (Fr.refl _ _).setB _ _
          rw [← hW1]
          clear hW1 k0 k1
          have HF1 : Hid (Fr No w W1) := ((HF.out.any.trans (HI1.out.mono fun k _ hk => by rw [show k = gs from hk]; exact HGS.out)) : Fr (From w) w W1).ours
          have HSRC1 : Hid (∀ W, Fr No W1 W → SrcAt W (.slice (some ⟨gt, 0, none⟩) q ct) q (i64s L1)) := fun W hf => by
            have h := ((HT1.out.fr HI1.out).1.fr hf).src
            rw [HQ.out] at h
            exact h
          have HSRC2 : Hid (∀ W, Fr No W1 W → SrcAt W (.slice an m cn) m (i64s L0)) := fun W hf => by
            have h := (HNV.out.fr (HF1.out.trans hf)).src
            rw [HM.out] at h
            exact h
          have HCELL : Hid (∀ W, Fr No W1 W → W.cell? ⟨gb, x * 3 + 2, none⟩ = some (.slice an m cn)) := fun W hf => (HF1.out.trans hf).cell HNC.out id
          have hq6 : q + m + 2 ≤ 200000 := by have := HBQ.out; have := HNL.out; omega
          have HGSL : Hid (gs < W1.heap.size) := World.block_lt_of_cell? W1 _ (HS1.out 0 (by rw [List.length_set, HL.out.len]; exact HPOS.out)).1
          have HFR : Hid (∀ W w2, Fr No W1 W → Fr (OwnOf (.slice none 0 0)) W w2 → Fr No W1 w2) := fun W w2 h1 h2 => h1.trans (h2.mono fun k _ hk => by cases hk)
          have HFR2 : Hid (∀ W w2 v n xs, Fr No W1 W → W.ownsRow W1.heap.size 3 1 v n xs → Fr (OwnOf v) W w2 → Fr No W1 w2) := fun W w2 v n xs h1 h2 h3 => ((h1.any.trans (h3.mono fun k _ hk => OwnOf.ge h2 hk)) : Fr (From W1) W1 w2).ours
          have c0 := HCELL.out W1 (Fr.refl _ _)
          have HFX : Hid (Fr No W1 W1.drew) := (Fr.refl _ _).drew
          have HK : Hid (∀ W, Hid (Fr No W1 W) → (W.cell? ⟨gb, x * 3 + 2, none⟩ = some (.slice an m cn) ∧ Hid (Fr No W1 W))) := fun W h => ⟨HCELL.out W h.out, h⟩
          have H0 : (W1.drew.cell? ⟨gb, x * 3 + 2, none⟩ = some (.slice an m cn) ∧ Hid (Fr No W1 W1.drew)) := HK.out _ HFX
          go_region_held3 (fun W => W.cell? ⟨gb, x * 3 + 2, none⟩ = some (.slice an m cn) ∧ Hid (Fr No W1 W)) (first | assumption | exact HK.out _ (by assumption)) (first
            | (refine guard_append (.const (.slice none 0 0)) (.tmp 50) 31 ?_ ?_; rfl; refine step_append_src (by rfl) (.const (.slice none 0 0)) (.tmp 50) 31 (by rfl) W1.heap.size 3 j0 _ 1 8 Tryz.underlying31 hj0 jz0 jz1 jz2 rfl (by decide) (.slice none 0 0) 0 [] (by rfl) (World.ownsRow_nil _ _ _ _) (.slice (some ⟨gt, 0, none⟩) q ct) q (i64s L1) (by rfl) (HSRC1.out _ (Hid.out (by assumption))) (by rw [i64s_length, HQ.out]; omega) (i64s_one _) (by unfold maxLen; omega) (by omega) (Hid.out (by assumption : Hid (Fr No W1 _))).size ?_; intro v1 w2 own1 fr1; have HFX := Lib.hid (HFR.out _ _ (Hid.out (by assumption)) fr1); have HO1 := Lib.hid own1; clear own1 fr1)
            | (refine guard_append (.tmp 51) (.tmp 56) 31 ?_ ?_; rfl; refine step_append_src (by rfl) (.tmp 51) (.tmp 56) 31 (by rfl) W1.heap.size 3 j0 _ 1 8 Tryz.underlying31 hj0 jz0 jz1 jz2 rfl (by decide) v1 (0 + q) ([] ++ i64s L1) (by rfl) HO1.out (.slice an m cn) m (i64s L0) (by rfl) (HSRC2.out _ (Hid.out (by assumption))) (by rw [i64s_length, HM.out]; omega) (i64s_one _) (by unfold maxLen; omega) (by omega) (Hid.out (by assumption : Hid (Fr No W1 _))).size ?_; intro v2 w3 own2 fr2; have HFX := Lib.hid (HFR2.out _ _ _ _ _ (Hid.out (by assumption)) HO1.out fr2); have HO2 := Lib.hid own2; clear own2 fr2))
          have HO3 : Hid (w3.ownsRow W1.heap.size 3 1 v2 (L1 ++ L0).length (i64s (L1 ++ L0))) := by
            have h := HO2.out
            rw [List.length_append, HQ.out, HM.out, i64s_append]
            rw [Nat.zero_add, List.nil_append] at h
            exact Lib.hid h
          have HTD : Hid (TodoAt gs w3 v2 (L1 ++ L0)) := ⟨.of_own HO3.out, fun k hk => by have := OwnOf.ge HO3.out hk; have := HGSL.out; omega, ownsRow_cap HO3.out⟩
          obtain ⟨a5, c5, rfl⟩ := ownsRow_any HO3.out
          have HS3 : Hid (SeenAt w3 gs (s.set x true)) := HS1.out.fr HFX.out
          have HME3 : Hid (3 * unseenW w3 gs N = 3 * unseen (s.set x true)) := by
            have h := HS3.out.count
            rw [List.length_set, HL.out.len] at h
            rw [h]
            exact Lib.hid rfl
          have HLL : Hid ((L1 ++ L0).length = q + m) := by rw [List.length_append, HQ.out, HM.out]; exact Lib.hid rfl
          go_wp2_with fail
          go_roundw
          case rel => exact ⟨s.set x true, L1 ++ L0, HTD, HS3.out, by rw [← HBN.out]; exact HMK, HF1.out.trans HFX.out, Lib.hid (by rw [HLL.out]; have h1 := HBQ.out; have h2 := HNL.out; have h3 := HUS.out; omega)⟩
          case measure =>
            have h1 := HME3.out
            have h2 := HMEAS.out
            have h3 := HLL.out
            have h4 := HN1.out
            have h5 := HNL.out
            have h6 := HUS.out
            have h7 := HQ.out
            have h8 := HM.out
            simp [lenOf]
            omega
end Go.Proofs.YtakcdecljfmckaaGreatDoor

namespace Go.Proofs.YtakcdecljfmckaaGreatDoor
open Go.RowKit

theorem eql_ins (o1 d1 s1 f1 m1 o2 d2 s2 f2 m2 : Int) (w : World) : (binOp .eql 51 (.agg #[.int .u8 o1, .int .u8 d1, .int .u8 s1, .int .i16 f1, .int .i32 m1]) (.agg #[.int .u8 o2, .int .u8 d2, .int .u8 s2, .int .i16 f2, .int .i32 m2])).run Tryz.prog w = .ok (.bool (o1 == o2 && (d1 == d2 && (s1 == s2 && (f1 == f2 && m1 == m2))))) w := by
  have u5 := Tryz.underlying5
  have a5 := Tryz.isAgg5
  have z5 := Tryz.sizeOf5
  have u9 := Tryz.underlying49
  have a9 := Tryz.isAgg49
  have z9 := Tryz.sizeOf49
  have u4 := Tryz.underlying21
  have a4 := Tryz.isAgg21
  have z4 := Tryz.sizeOf21
  have hS : Tryz.prog.underlying 51 = some (.struct (Tryz.prog.fieldsOf 51)) := by kernel_rfl
  have hp : Tryz.prog.stoodInHeld 51 = false := by kernel_rfl
  rw [run_eql_struct, show (10000 : Nat) = 9999 + 1 from rfl, run_equalIn_agg w 9999 _ _ _ hS hp]
  simp only [Program.fieldsOf, Tryz.underlying51]
  go_simp
  by_cases h1 : o1 = o2 <;> by_cases h2 : d1 = d2 <;> by_cases h3 : s1 = s2 <;> by_cases h4 : f1 = f2 <;> by_cases h5 : m1 = m2 <;> simp [h1, h2, h3, h4, h5]

def sp1 : List Ins := [⟨15, 1, 2, 0, 0⟩]
def sp2 : List Ins := [⟨180, 1, 0, 0, -5⟩, ⟨135, 3, 0, 0, 0⟩]
def sp3 : List Ins := [⟨198, 1, 0, 3, 7⟩, ⟨5, 0, 0, -2, 0⟩]
def sp4 : List Ins := [⟨105, 1, 2, 4, 0⟩, ⟨122, 10, 0, -8, 5⟩, ⟨115, 1, 2, 0, 0⟩]
def sp5 : List Ins := [⟨24, 1, 0, 0, -1⟩, ⟨0, 0, 0, 0, 1⟩]
def sp6 : List Ins := [⟨24, 1, 0, 0, -1⟩]
def okB (i : Ins) : Bool := decide (i.op < 256) && decide (i.dst < 256) && decide (i.src < 256) && decide (-32768 ≤ i.off) && decide (i.off < 32768) && decide (-2147483648 ≤ i.imm) && decide (i.imm < 2147483648)
theorem ok_of_B {l : List Ins} (h : l.all okB = true) : ∀ i ∈ l, i.ok := by
  intro i hi
  have := List.all_eq_true.1 h i hi
  simp only [okB, Bool.and_eq_true, decide_eq_true_eq] at this
  obtain ⟨⟨⟨⟨⟨⟨a, b⟩, c⟩, d⟩, e⟩, f⟩, g⟩ := this
  exact ⟨a, b, c, ⟨d, e⟩, ⟨f, g⟩⟩
theorem lines_1 : readS [59, 32, 97, 10, 106, 97, 32, 226, 136, 146, 50] = ([⟨5, 0, 0, -2, 0⟩], 0, 0) := by decide +kernel
theorem lines_2 : readS [101, 120, 105, 116, 10, 101, 120, 105, 116, 32, 114, 49] = ([], 2, 10) := by decide +kernel

end Go.Proofs.YtakcdecljfmckaaGreatDoor

namespace Go.Proofs.YtakcdecljfmckaaGreatDoor
open Go.RowKit

theorem addL2 (X Y : List UInt8) (hx : X.length ≤ 200000) (hy : Y.length ≤ 200000) (W : World) : (Op.stringOp .add (bA X) (bA Y)).run Tryz.prog W = .ok (.string (bA (X ++ Y))) W := by
  rw [← bA_app]
  exact addB _ _ (by rw [bA_size]; exact hx) (by rw [bA_size]; exact hy) W
theorem linesT_len : ∀ (ts : List (List UInt8)), (∀ t ∈ ts, t.length ≤ 100) → (linesT ts).length ≤ 101 * ts.length
  | [], _ => by simp [linesT]
  | t :: ts, h => by
    have ih := linesT_len ts (fun x hx => h x (List.mem_cons_of_mem _ hx))
    have h1 := h t (by simp)
    have : linesT (t :: ts) = t ++ 10 :: linesT ts := by simp [linesT]
    rw [this]
    simp only [List.length_append, List.length_cons]
    omega
theorem linesT_take {ts : List (List UInt8)} {k : Nat} {t : List UInt8} (h : ts[k]? = some t) : linesT (ts.take (k + 1)) = linesT (ts.take k) ++ (t ++ [10]) := by
  rw [List.take_add_one, h]
  simp [linesT]
set_option maxRecDepth 100000 in
set_option maxHeartbeats 1000000 in
theorem clines_any (ts : List (List UInt8)) (g n : Nat) (w : World) (hc : CellsAt w g 0 (strs ts)) (hn : ts.length = n) (h20 : n ≤ 20) (hl : ∀ t ∈ ts, t.length ≤ 100) : Calls Tryz.prog 43 #[.slice (some ⟨g, 0, none⟩) n n] w fun e w' => e = .returned (.string (bA (linesT ts))) ∧ w = w' := by
  have HC := Lib.hid hc
  have HN := Lib.hid hn
  have HL := Lib.hid hl
  clear hc hn hl
  go_enter Tryz.func43, Tryz.ntmps43
  go_wp2_with fail
  go_loopw [3, 5, 8] (fun s3 s5 s8 wr => ∃ k : Nat, k ≤ n ∧ s8 = .int .i64 k ∧ s3 = .string (bA (linesT (ts.take k))) ∧ w = wr) (fun _ _ s8 _ => n - (intOf s8).toNat)
  case atStart => exact ⟨0, Nat.zero_le _, rfl, rfl, rfl⟩
  case round =>
    obtain ⟨k, hk, rfl, rfl, rfl⟩ := hrel
    by_cases hlt : k < n
    · obtain ⟨t, ht⟩ : ∃ t, ts[k]? = some t := ⟨_, List.getElem?_eq_getElem (by rw [HN.out]; exact hlt)⟩
      have hcell : w.cell? ⟨g, k, none⟩ = some (.string (bA t)) := by
        have := HC.out k (.string (bA t)) (by simp [strs, ht])
        rwa [Nat.zero_add] at this
      have htl := HL.out t (List.mem_of_getElem? ht)
      have hTl : (linesT (ts.take k)).length ≤ 10000 := by
        have := linesT_len (ts.take k) (fun x hx => HL.out x (List.mem_of_mem_take hx))
        have h2 : (ts.take k).length ≤ k := List.length_take_le _ _
        omega
      have HT := linesT_take ht
      have a1 := addL2 t [10] (by omega) (by simp)
      obtain ⟨Y, hY⟩ : ∃ Y, t ++ [10] = Y := ⟨_, rfl⟩
      rw [hY] at a1 HT
      have hYl : Y.length ≤ 200 := by rw [← hY]; simp; omega
      have a2 := addL2 (linesT (ts.take k)) Y (by omega) (by omega)
      rw [← HT] at a2
      have e10 : bA [10] = ⟨#[10]⟩ := rfl
      rw [e10] at a1
      have HLT := Lib.hid hlt
      obtain ⟨T2, hT2⟩ : ∃ T2, linesT (ts.take (k + 1)) = T2 := ⟨_, rfl⟩
      rw [hT2] at a2
      have HT2 := Lib.hid hT2
      clear hT2
      clear ht hY HT e10 hlt
      go_wp2_with fail
      go_roundw
      case rel => exact ⟨k + 1, HLT.out, by go_num, by rw [HT2.out], by first | rfl | trivial⟩
      case measure => have := HLT.out; simp [intOf] <;> omega
    · obtain rfl : k = n := by omega
      have HE : Hid (linesT (ts.take k) = linesT ts) := by rw [List.take_of_length_le (by rw [HN.out]; exact Nat.le_refl _)]; exact Lib.hid rfl
      rw [HE.out]
      clear hlt
      go_wp2_with fail
      go_ret
      exact ⟨rfl, rfl⟩
end Go.Proofs.YtakcdecljfmckaaGreatDoor

namespace Go.Proofs.YtakcdecljfmckaaGreatDoor
open Go.RowKit

theorem alloc_len (w : World) (o : Obj) : (w.alloc o).heap.size = w.heap.size + 1 := by first | (simp; done) | (simp only [World.alloc_eq]; simp; done) | exact Array.size_push _
theorem at_new1 (w : World) (o : Obj) (vs : List Value) (t : TypeId) : CellsAt ((w.alloc o).alloc (.cells vs.toArray t)) (w.heap.size + 1) 0 vs := by
  have := CellsAt.new (w.alloc o) vs t
  rwa [alloc_len] at this
set_option maxRecDepth 100000 in
set_option maxHeartbeats 1000000 in
theorem carray_any (a b : Int) (w : World) : Calls Tryz.prog 44 #[.int .i64 a, .int .i64 b] w fun e w' => ∃ g, e = .returned (.agg #[.slice (some ⟨g, 0, none⟩) 1 1, .int .i64 0]) ∧ Fr No w w' := by
  go_enter Tryz.func44, Tryz.ntmps44
  go_wp2_with fail
  refine bodyPost_ret (v := .agg #[.slice (some ⟨w.heap.size + 1, 0, none⟩) 1 1, .int .i64 0]) (by simp [results, Tryz.results44, go_sem]) rfl ?_
  exact ⟨_, rfl, ((Fr.refl _ _).alloc _).alloc _⟩
set_option maxRecDepth 100000 in
set_option maxHeartbeats 1000000 in
theorem chash_any (a b c : Int) (w : World) : Calls Tryz.prog 46 #[.int .i64 a, .int .i64 b, .int .i64 c] w fun e w' => ∃ g, e = .returned (.agg #[.slice (some ⟨g, 0, none⟩) 1 1, .int .i64 0]) ∧ Fr No w w' ∧ w.heap.size ≤ g ∧ w'.cell? ⟨g, 0, none⟩ = some (.int .i64 2) := by
  go_enter Tryz.func46, Tryz.ntmps46
  go_wp2_with fail
  refine bodyPost_ret (v := .agg #[.slice (some ⟨w.heap.size + 1, 0, none⟩) 1 1, .int .i64 0]) (by simp [results, Tryz.results46, go_sem]) rfl ?_
  refine ⟨_, rfl, ((Fr.refl _ _).alloc _).alloc _, by omega, ?_⟩
  exact at_new1 w _ [.int .i64 2, .int .i64 a, .int .i64 b, .int .i64 c] _ 0 _ rfl
set_option maxRecDepth 100000 in
set_option maxHeartbeats 1000000 in
theorem centry_any (a b : ByteArray) (w : World) : Calls Tryz.prog 45 #[.string a, .string b] w fun e w' => ∃ g, e = .returned (.agg #[.string ⟨#[]⟩, .int .u64 0, .slice (some ⟨g, 0, none⟩) 1 1, .slice none 0 0]) ∧ Fr No w w' := by
  go_enter Tryz.func45, Tryz.ntmps45
  go_wp2_with fail
  refine bodyPost_ret (v := .agg #[.string ⟨#[]⟩, .int .u64 0, .slice (some ⟨w.heap.size + 1 + 1, 0, none⟩) 1 1, .slice none 0 0]) (by simp [results, Tryz.results45, go_sem]) rfl ?_
  exact ⟨_, rfl, (((Fr.refl _ _).alloc _).alloc _).alloc _⟩
end Go.Proofs.YtakcdecljfmckaaGreatDoor
