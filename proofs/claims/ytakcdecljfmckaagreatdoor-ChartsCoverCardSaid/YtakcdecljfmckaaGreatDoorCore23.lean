/- charts.order: its search, walked. slices.Reverse of a row of numbers; charts.order. -/
import Derived.Test.YtakcdecljfmckaaGreatDoorCore22
set_option linter.all false
set_option linter.unusedVariables false
set_option linter.unusedSimpArgs false
namespace Go.Proofs.YtakcdecljfmckaaGreatDoor
open Go.RowKit

theorem enters_order1 : ∀ args w, (callFunc 84 args).run Tryz.prog w = .ok (.enter 84 args) w := enters_of Tryz.func84 (by kernel_rfl) rfl

set_option maxRecDepth 100000 in
set_option maxHeartbeats 4000000 in
theorem order1_any (w0 : World) (bs : List Blk) (gb cb b1 b2 b3 b4 gs base : Nat) (p : OP w0 b1 b2 b3 b4 gs base) (hbk : ∀ k b, bs[k]? = some b → BlkCells w0 gb k b) (hnx : ∀ k n, n ∈ nxM bs k → n < bs.length) (hlen : bs.length ≤ 1000) (hn2 : ∀ k, (nxM bs k).length ≤ 2) :
    ∀ (fuel : Nat) (s : List Bool) (O : List Nat) (i : Nat) (W : World), unseen s < fuel → i < bs.length → s[i]? = some false → O.length + unseen s ≤ 1000000 → OV w0 bs (.slice (some ⟨gb, 0, none⟩) bs.length cb) b1 b2 b3 b4 gs base (orderF b1 b2 b3 b4) W s O →
      Calls Tryz.prog 84 #[.int .i64 i, .pointer (some ⟨b1, 0, none⟩), .pointer (some ⟨b2, 0, none⟩), .pointer (some ⟨b3, 0, none⟩), .pointer (some ⟨b4, 0, none⟩)] W (OrdTo w0 bs (.slice (some ⟨gb, 0, none⟩) bs.length cb) b1 b2 b3 b4 gs base (orderF b1 b2 b3 b4) W s O i) := by
  intro fuel
  induction fuel with
  | zero => intro s O i W h; omega
  | succ fuel ih =>
    intro s O i W hu hi hsi hO hS
    have HIH := Lib.hid ih
    have HP := Lib.hid p
    have HS := Lib.hid hS
    have HBK := Lib.hid hbk
    have HNX := Lib.hid hnx
    have HU := Lib.hid hu
    have HO := Lib.hid hO
    have HI := Lib.hid hi
    have HSI := Lib.hid hsi
    have c1 := hS.c1
    have hsl : i < s.length := by rw [hS.len]; exact hi
    have HSL := Lib.hid hsl
    have s1 : W.cell? ⟨gs, i, none⟩ = some (.bool (s.getD i true)) := (hS.seen i hsl).1
    have s2 : W.frozen? ⟨gs, i, none⟩ = false := (hS.seen i hsl).2
    generalize s.getD i true = sb at s1
    obtain ⟨b, hb⟩ : ∃ b, bs[i]? = some b := ⟨bs[i], List.getElem?_eq_getElem hi⟩
    have HB := Lib.hid hb
    have HBN : Hid (nxM bs i = b.next) := by unfold nxM; rw [List.getD_eq_getElem?_getD, hb]; exact Lib.hid rfl
    have HN2 : Hid (b.next.length ≤ 2) := by rw [← HBN.out]; exact Lib.hid (hn2 i)
    have p1 : (i : Int) < (bs.length : Int) := by omega
    have p0 : (0 : Int) ≤ (i : Int) := by omega
    obtain ⟨N, hN⟩ : ∃ N, bs.length = N := ⟨_, rfl⟩
    have HN := Lib.hid hN
    rw [hN] at c1 p1
    clear ih p hbk hnx hu hO hi hsi hS hsl hb hN hlen hn2
    obtain ⟨j0, hj0, jz0, jz1, jz2⟩ := info_parts Tryz.infoCh_int
    go_enter Tryz.func84, Tryz.ntmps84
    go_upto_region 1 with fail
    obtain ⟨W1, hW1⟩ : ∃ W1, W1 = W.setCell ⟨gs, i, none⟩ (.bool true) := ⟨_, rfl⟩
    have HS1 : Hid (OV w0 bs (.slice (some ⟨gb, 0, none⟩) bs.length cb) b1 b2 b3 b4 gs base (orderF b1 b2 b3 b4) W1 (s.set i true) O) := by rw [hW1]; exact HS.out.mark HP.out HSL.out
    have HF1 : Hid (Fr (OS b4 gs base) W W1) := by rw [hW1]; exact (Fr.refl _ _).setCell (p := ⟨gs, i, none⟩) (.inr (.inl rfl)) _
    have HU1 : Hid (unseen (s.set i true) + 1 = unseen s) := unseen_set s i HSI.out
    rw [← hW1]
    clear hW1 s1 s2 c1
    have HNS : Hid (¬ seenP s i) := fun h => by have h1 := HSI.out; unfold seenP at h; rw [h1] at h; cases h
    have HM1 : Hid (OM w0 bs (.slice (some ⟨gb, 0, none⟩) bs.length cb) b1 b2 b3 b4 gs base (orderF b1 b2 b3 b4) W s O i [] W1 (s.set i true) []) := ⟨by rw [List.append_nil]; exact HS1.out, Part.start, fun k => by rw [seenP_set HSL.out]; simp, by have := HU1.out; simp; omega, HF1.out⟩
    obtain ⟨m0, m1, nv, m2, m3⟩ := HBK.out i b HB.out
    obtain ⟨an, cn, rfl⟩ := m3.form
    have k2 := HS1.out.fr.cell m2 id
    have HNV := Lib.hid m3
    have x2 := HS1.out.c2
    rw [HN.out] at x2
    obtain ⟨L0, hL0⟩ : ∃ L0, b.next = L0 := ⟨_, rfl⟩
    rw [hL0] at HNV k2 HBN HN2
    obtain ⟨m, hm⟩ : ∃ m, L0.length = m := ⟨_, rfl⟩
    rw [hm] at k2 HN2
    have HM := Lib.hid hm
    have hm2 : m ≤ 2 := HN2.out
    clear m0 m1 m2 m3 hL0 hm
    go_wp2_with fail
    clear k2 x2
    go_loopw [17] (fun ix wr => ∃ (k : Nat) (s2 : List Bool) (L : List Nat), ix = .int .i64 k ∧ k ≤ m ∧ Hid (OM w0 bs (.slice (some ⟨gb, 0, none⟩) bs.length cb) b1 b2 b3 b4 gs base (orderF b1 b2 b3 b4) W s O i (L0.take k) wr s2 L)) (fun ix _ => m - (intOf ix).toNat)
    case atStart => exact ⟨0, _, _, rfl, Nat.zero_le _, HM1.out⟩
    case round =>
      obtain ⟨k, s2, L, rfl, hk, HI2⟩ := hrel
      by_cases hlt : k < m
      · obtain ⟨x, hx⟩ : ∃ x, L0[k]? = some x := ⟨L0[k]'(by rw [HM.out]; exact hlt), List.getElem?_eq_getElem _⟩
        have HX := Lib.hid hx
        have hnat := HNV.out
        rcases hnat with ⟨h1, _⟩ | ⟨g2, c2, h2, hc2⟩
        · rw [h1] at hx; simp at hx
        injection h2 with h2 _ h4
        subst h2 h4
        have k0 := i64_cell (HI2.out.ov.fr.cells hc2 id) hx
        have HXN : Hid (x ∈ nxM bs i) := by rw [HBN.out]; exact List.mem_of_getElem? hx
        have HXL : Hid (x < bs.length) := HNX.out i x HXN.out
        have HTK : Hid (L0.take (k + 1) = L0.take k ++ [x]) := by rw [List.take_add_one, hx]; exact Lib.hid rfl
        have q1 : (x : Int) < (N : Int) := by have := HXL.out; rw [HN.out] at this; omega
        have q0 : (0 : Int) ≤ (x : Int) := by omega
        have x1 := HI2.out.ov.c1
        rw [HN.out] at x1
        have x3 : wr.cell? ⟨b3, 0, none⟩ = some (.func (.func 84) #[] #[.pointer (some ⟨b1, 0, none⟩), .pointer (some ⟨b2, 0, none⟩), .pointer (some ⟨b3, 0, none⟩), .pointer (some ⟨b4, 0, none⟩)]) := HI2.out.ov.c3
        have hxl2 : x < s2.length := by rw [HI2.out.ov.len]; exact HXL.out
        have y1 : wr.cell? ⟨gs, x, none⟩ = some (.bool (s2.getD x true)) := (HI2.out.ov.seen x hxl2).1
        have HXL2 := Lib.hid hxl2
        obtain ⟨t, ht⟩ : ∃ t, s2.getD x true = t := ⟨_, rfl⟩
        rw [ht] at y1
        have HT := Lib.hid ht
        clear hx hc2 hxl2 ht
        cases t with
        | true =>
          have HSK : Hid (OM w0 bs (.slice (some ⟨gb, 0, none⟩) bs.length cb) b1 b2 b3 b4 gs base (orderF b1 b2 b3 b4) W s O i (L0.take (k + 1)) wr s2 L) := by
            rw [HTK.out]
            refine ⟨HI2.out.ov, HI2.out.part.skip ?_, HI2.out.mem, HI2.out.cnt, HI2.out.fr⟩
            exact (HI2.out.mem x).1 ((seen_get HXL2.out).1 HT.out)
          go_wp2_with fail
          go_roundw
          case rel => exact ⟨k + 1, _, _, by go_num, by omega, HSK⟩
          case measure => simp [intOf] <;> omega
        | false =>
          have HC : Hid (Calls Tryz.prog 84 #[.int .i64 x, .pointer (some ⟨b1, 0, none⟩), .pointer (some ⟨b2, 0, none⟩), .pointer (some ⟨b3, 0, none⟩), .pointer (some ⟨b4, 0, none⟩)] wr (OrdTo w0 bs (.slice (some ⟨gb, 0, none⟩) bs.length cb) b1 b2 b3 b4 gs base (orderF b1 b2 b3 b4) wr s2 (O ++ L) x)) := HIH.out s2 (O ++ L) x wr (by have h1 := HI2.out.cnt; have h2 := HU.out; omega) HXL.out (seen_not HXL2.out HT.out) (by have h1 := HI2.out.cnt; have h2 := HO.out; rw [List.length_append]; omega) HI2.out.ov
          go_wp2_with (go_at_call 84; (with_reducible refine (HC.out).mono ?_); rintro e w3 ⟨rfl, K, s3, hov3, hseg, hmem, hcnt, hf3⟩; have HSK : Hid (OM w0 bs (.slice (some ⟨gb, 0, none⟩) bs.length cb) b1 b2 b3 b4 gs base (orderF b1 b2 b3 b4) W s O i (L0.take (k + 1)) w3 s3 (L ++ K)) := (by rw [HTK.out]; refine ⟨by rw [← List.append_assoc]; exact hov3, HI2.out.part.child HXN.out (hseg.congr HI2.out.mem), fun j => ?_, ?_, HI2.out.fr.trans hf3⟩; (· rw [hmem, HI2.out.mem, List.mem_append]; constructor; (· rintro ((h | h | h) | h); exact .inl h; exact .inr (.inl h); exact .inr (.inr (.inl h)); exact .inr (.inr (.inr h))); (· rintro (h | h | h | h); exact .inl (.inl h); exact .inl (.inr (.inl h)); exact .inl (.inr (.inr h)); exact .inr h)); (· have := HI2.out.cnt; rw [List.length_append]; omega)); clear hov3 hseg hmem hcnt hf3)
          go_roundw
          case rel => exact ⟨k + 1, _, _, by go_num, by omega, HSK⟩
          case measure => simp [intOf] <;> omega
      · obtain rfl : k = m := by omega
        have e1 : L0.take k = L0 := by rw [← HM.out]; exact List.take_length
        rw [e1] at HI2
        obtain ⟨ov, z1, z2, z3⟩ := HI2.out.ov.c4
        obtain ⟨ao, co, rfl⟩ := ownsRow_any z3
        have HZ3 := Lib.hid z3
        have hq : (O ++ L).length ≤ 1000000 := by have h1 := HI2.out.cnt; have h2 := HO.out; rw [List.length_append]; omega
        have HZS : Hid (base ≤ wr.heap.size) := HI2.out.ov.size
        obtain ⟨q, hq2⟩ : ∃ q, (O ++ L).length = q := ⟨_, rfl⟩
        have HQ := Lib.hid hq2
        have HZ4 : Hid (∀ W, Fr No wr W → W.ownsRow base 3 1 (.slice ao q co) q (i64s (O ++ L)) ∧ OV w0 bs (.slice (some ⟨gb, 0, none⟩) bs.length cb) b1 b2 b3 b4 gs base (orderF b1 b2 b3 b4) W s2 (O ++ L) ∧ base ≤ W.heap.size ∧ Fr (OS b4 gs base) wr W) := fun W hf => ⟨by have := ownsRow_fr HZ3.out hf (fun _ _ => id); rw [HQ.out] at this; exact this, HI2.out.ov.kept hf, Nat.le_trans HZS.out hf.size, hf.any⟩
        rw [hq2] at z1 hq
        clear e1 hlt z3 hq2
        go_wp2_with (at_builtin; refine wpList_append_at2 rfl _ _ 31 rfl base 3 j0 _ 1 8 Tryz.underlying31 hj0 jz0 jz1 jz2 rfl (by decide) (.slice ao q co) q (i64s (O ++ L)) rfl (HZ4.out _ ((Fr.refl _ _).alloc _)).1 _ 1 [.int .i64 (i : Int)] rfl (src_new _ [.int .i64 (i : Int)] 3) rfl (by simp [Value.oneCell']) (by unfold maxLen; omega) (by omega) (HZ4.out _ ((Fr.refl _ _).alloc _)).2.2.1 ?_; intro v4 w4 own4 fr4 at4; obtain ⟨hov, hfr, ⟨z5, z6⟩, z7⟩ := (HZ4.out _ ((Fr.refl _ _).alloc _)).2.1.put HP.out (i := i) (by rw [HQ.out]; exact (HZ4.out _ ((Fr.refl _ _).alloc _)).1) (by rw [HQ.out]; exact own4) fr4; have HOV := Lib.hid hov; have HFR := Lib.hid ((HZ4.out _ ((Fr.refl _ _).alloc _)).2.2.2.trans hfr); obtain ⟨a4, c4, rfl⟩ := ownsRow_any own4; clear hov hfr own4 fr4 at4)
        first | go_end0 | refine bodyPost_ret (results_none rfl _ _ _) rfl ?_
        refine ⟨rfl, L ++ [i], s2, by rw [← List.append_assoc]; exact HOV.out, ?_, fun j => ?_, ?_, HI2.out.fr.trans HFR.out⟩
        · have h1 := HI2.out.part
          rw [← HBN.out] at h1
          exact h1.done HI.out HNS.out
        · rw [HI2.out.mem, List.mem_append, List.mem_singleton]
          constructor
          · rintro (h | h | h)
            · exact .inl h
            · exact .inr (.inr h)
            · exact .inr (.inl h)
          · rintro (h | h | h)
            · exact .inl h
            · exact .inr (.inr h)
            · exact .inr (.inl h)
        · have := HI2.out.cnt
          rw [List.length_append]
          simp only [List.length_cons, List.length_nil]
          omega
end Go.Proofs.YtakcdecljfmckaaGreatDoor

namespace Go.Proofs.YtakcdecljfmckaaGreatDoor
open Go.RowKit

def IntF (w : World) (g n : Nat) (f : Nat → Nat) : Prop := ∀ p, p < n → w.cell? ⟨g, p, none⟩ = some (.int .i64 (f p : Int)) ∧ w.frozen? ⟨g, p, none⟩ = false
theorem IntF.set {w : World} {g n : Nat} {f : Nat → Nat} (h : IntF w g n f) {k : Nat} (hk : k < n) (x : Nat) : IntF (w.setCell ⟨g, k, none⟩ (.int .i64 (x : Int))) g n (fun p => if p = k then x else f p) := fun p hp => by
  obtain ⟨h1, h2⟩ := h p hp
  refine ⟨?_, by simpa using h2⟩
  show _ = some (Value.int .i64 ((if p = k then x else f p : Nat) : Int))
  by_cases e : p = k
  · subst e
    rw [if_pos rfl]
    exact World.cell?_setCell_same _ _ _ h1
  · rw [if_neg e, World.cell?_setCell_other _ _ _ _ (by intro hc; injection hc with _ hc _; exact e hc.symm)]
    exact h1
theorem IntF.congr {w : World} {g n : Nat} {f f' : Nat → Nat} (h : IntF w g n f) (he : ∀ p, p < n → f p = f' p) : IntF w g n f' := fun p hp => by rw [← he p hp]; exact h p hp
theorem IntF.fr {w w' : World} {g n : Nat} {f : Nat → Nat} (h : IntF w g n f) (hf : Fr No w w') : IntF w' g n f := fun p hp => by
  obtain ⟨h1, h2⟩ := h p hp
  exact ⟨hf.cell h1 id, by rw [hf.frozen h1 id]; exact h2⟩
/-- turned round from both ends as far as k -/
def revF (A : Nat → Nat) (n k p : Nat) : Nat := if p < k ∨ n - 1 - p < k then A (n - 1 - p) else A p
theorem revF_step {A : Nat → Nat} {n k j : Nat} (hj : j = n - 1 - k) (hlt : k < j) (p : Nat) (hp : p < n) : (if p = j then revF A n k k else if p = k then revF A n k j else revF A n k p) = revF A n (k + 1) p := by
  subst hj
  unfold revF
  by_cases e1 : p = n - 1 - k
  · subst e1
    rw [if_pos rfl, if_neg (by omega), if_pos (by omega), show n - 1 - (n - 1 - k) = k by omega]
  · rw [if_neg e1]
    by_cases e2 : p = k
    · subst e2
      rw [if_pos rfl, if_neg (by omega), if_pos (by omega)]
    · rw [if_neg e2]
      by_cases e3 : p < k ∨ n - 1 - p < k
      · rw [if_pos e3, if_pos (by omega)]
      · rw [if_neg e3, if_neg (by omega)]

set_option maxRecDepth 100000 in
set_option maxHeartbeats 2000000 in
theorem reverse_any (g n c : Nat) (A : Nat → Nat) (w : World) (hn : n ≤ 1000000) (hc : IntF w g n A) :
    Calls Tryz.prog 85 #[.slice (some ⟨g, 0, none⟩) n c] w fun e w' => e = .returned (.tuple #[]) ∧ IntF w' g n (fun p => A (n - 1 - p)) ∧ Fr (Isb g) w w' := by
  have HC := Lib.hid hc
  have HNB := Lib.hid hn
  have w1 : wrap64 ((n : Int) - 1) = (n : Int) - 1 := IntWalk.wrap64_in _ (by omega)
  clear hc
  go_enter Tryz.func85, Tryz.ntmps85
  go_wp2_with fail
  go_loopw [2, 3] (fun ix jx wr => ∃ k : Nat, ix = .int .i64 (k : Int) ∧ jx = .int .i64 ((n : Int) - 1 - (k : Int)) ∧ (k = 0 ∨ k + k ≤ n) ∧ Hid (IntF wr g n (revF A n k)) ∧ Hid (Fr (Isb g) w wr)) (fun ix _ _ => n - (intOf ix).toNat)
  case atStart => exact ⟨0, rfl, by simp, .inl rfl, HC.out.congr (fun p hp => by unfold revF; rw [if_neg (by omega)]), Fr.refl _ _⟩
  case round =>
    obtain ⟨k, rfl, rfl, hk, HF, HR⟩ := hrel
    by_cases hlt : (k : Int) < (n : Int) - 1 - (k : Int)
    · obtain ⟨j, hj⟩ : ∃ j : Nat, (n : Int) - 1 - (k : Int) = (j : Int) := ⟨n - 1 - k, by omega⟩
      have HJ := Lib.hid hj
      rw [hj] at hlt ⊢
      have HJ2 : Hid (j = n - 1 - k ∧ k < j ∧ j < n) := Lib.hid (by omega)
      have r1 : (k : Int) < (n : Int) := by omega
      have r2 : (0 : Int) ≤ (k : Int) := by omega
      have r3 : (j : Int) < (n : Int) := by omega
      have r4 : (0 : Int) ≤ (j : Int) := by omega
      have wa : wrap64 ((k : Int) + 1) = (k : Int) + 1 := IntWalk.wrap64_in _ (by have := HNB.out; omega)
      have wb : wrap64 ((j : Int) - 1) = (j : Int) - 1 := IntWalk.wrap64_in _ (by have := HNB.out; omega)
      obtain ⟨a1, a2⟩ := HF.out k (by have := HJ2.out; omega)
      obtain ⟨b1, b2⟩ := HF.out j HJ2.out.2.2
      generalize hx : revF A n k k = x at a1
      generalize hy : revF A n k j = y at b1
      have HX := Lib.hid hx
      have HY := Lib.hid hy
      clear hx hy hk hj w1
      go_upto_region 3 with fail
      go_region
      obtain ⟨W1, hW1⟩ : ∃ W1, W1 = ((wr.setCell ⟨g, k, none⟩ (.int .i64 (y : Int))).setCell ⟨g, j, none⟩ (.int .i64 (x : Int))).drew := ⟨_, rfl⟩
      have HF1 : Hid (IntF W1 g n (revF A n (k + 1))) := by
        rw [hW1]
        have h1 := (HF.out.set (show k < n by have := HJ2.out; omega) y).set HJ2.out.2.2 x
        have h2 := h1.congr (f' := revF A n (k + 1)) (fun p hp => by
          rw [← revF_step HJ2.out.1 HJ2.out.2.1 p hp, HX.out, HY.out])
        exact fun p hp => h2 p hp
      have HR1 : Hid (Fr (Isb g) w W1) := by rw [hW1]; exact ((HR.out.setB _ _).setB _ _).drew
      rw [← hW1]
      clear hW1 a1 a2 b1 b2
      go_wp2_with fail
      go_roundw
      case rel => exact ⟨k + 1, by go_num, by congr 1; have := HJ.out; omega, .inr (by have := HJ2.out; omega), HF1, HR1⟩
      case measure => (have := HJ2.out; simp [intOf] <;> omega)
    · have HE : Hid (IntF wr g n (fun p => A (n - 1 - p))) := HF.out.congr (fun p hp => by
        unfold revF
        by_cases e : p < k ∨ n - 1 - p < k
        · rw [if_pos e]
        · rw [if_neg e]
          rw [show n - 1 - p = p by omega])
      clear hk
      go_wp2_with fail
      first | go_end0 | refine bodyPost_ret (results_none rfl _ _ _) rfl ?_
      exact ⟨rfl, HE.out, HR.out⟩

theorem rev_get {L : List Nat} {p : Nat} (h : p < L.length) : L.reverse.getD p 0 = L.getD (L.length - 1 - p) 0 := by
  rw [List.getD_eq_getElem?_getD, List.getD_eq_getElem?_getD, List.getElem?_reverse h]
theorem ov_start (w : World) (bs : List Blk) (bv : Value) (N : Nat) (hN : bs.length = N) (t0 t1 t2 t3 t4 : TypeId) :
    OP w (w.heap.size + 1 + 1) w.heap.size (w.heap.size + 1 + 1 + 1 + 1) (w.heap.size + 1 + 1 + 1) (w.heap.size + 1) (w.heap.size + 1 + 1 + 1 + 1 + 1) ∧
    OV w bs bv (w.heap.size + 1 + 1) w.heap.size (w.heap.size + 1 + 1 + 1 + 1) (w.heap.size + 1 + 1 + 1) (w.heap.size + 1) (w.heap.size + 1 + 1 + 1 + 1 + 1) (orderF (w.heap.size + 1 + 1) w.heap.size (w.heap.size + 1 + 1 + 1 + 1) (w.heap.size + 1 + 1 + 1)) (((((w.alloc (.cells #[bv] t0)).alloc (.cells (Array.replicate N (.bool false)) t1)).alloc (.cells #[.slice (some ⟨w.heap.size + 1, 0, none⟩) N N] t2)).alloc (.cells #[.slice none 0 0] t3)).alloc (.cells #[orderF (w.heap.size + 1 + 1) w.heap.size (w.heap.size + 1 + 1 + 1 + 1) (w.heap.size + 1 + 1 + 1)] t4)) (List.replicate N false) [] := by
  subst hN
  have e1 : ∀ (w : World) o, (w.alloc o).heap.size = w.heap.size + 1 := fun w o => Array.size_push _
  have eR : (Array.replicate bs.length (Value.bool false)) = (List.replicate bs.length (Value.bool false)).toArray := by simp
  refine ⟨⟨by omega, by omega, by omega, by omega, by omega⟩, ?_⟩
  have k0 := CellsAt.new w [bv] t0 0 _ rfl
  have k1 := BoolsAt.new (w.alloc (.cells #[bv] t0)) bs.length t1
  rw [← eR] at k1
  have k2 := CellsAt.new ((w.alloc (.cells #[bv] t0)).alloc (.cells (Array.replicate bs.length (.bool false)) t1)) [.slice (some ⟨w.heap.size + 1, 0, none⟩) bs.length bs.length] t2 0 _ rfl
  have k3 := CellsAt.new (((w.alloc (.cells #[bv] t0)).alloc (.cells (Array.replicate bs.length (.bool false)) t1)).alloc (.cells #[.slice (some ⟨w.heap.size + 1, 0, none⟩) bs.length bs.length] t2)) [.slice none 0 0] t3 0 _ rfl
  have z3 : ((((w.alloc (.cells #[bv] t0)).alloc (.cells (Array.replicate bs.length (.bool false)) t1)).alloc (.cells #[.slice (some ⟨w.heap.size + 1, 0, none⟩) bs.length bs.length] t2)).alloc (.cells #[.slice none 0 0] t3)).frozen? ⟨(((w.alloc (.cells #[bv] t0)).alloc (.cells (Array.replicate bs.length (.bool false)) t1)).alloc (.cells #[.slice (some ⟨w.heap.size + 1, 0, none⟩) bs.length bs.length] t2)).heap.size, 0, none⟩ = false := World.frozen?_alloc_new _ _ _ _
  have k4 := CellsAt.new ((((w.alloc (.cells #[bv] t0)).alloc (.cells (Array.replicate bs.length (.bool false)) t1)).alloc (.cells #[.slice (some ⟨w.heap.size + 1, 0, none⟩) bs.length bs.length] t2)).alloc (.cells #[.slice none 0 0] t3)) [orderF (w.heap.size + 1 + 1) w.heap.size (w.heap.size + 1 + 1 + 1 + 1) (w.heap.size + 1 + 1 + 1)] t4 0 _ rfl
  rw [e1] at k1
  rw [e1, e1] at k2
  rw [e1, e1, e1] at k3 z3
  rw [e1, e1, e1, e1] at k4
  have f1 : ∀ (w : World) o, Fr No w (w.alloc o) := fun w o => (Fr.refl _ _).alloc _
  have g0 := f1 w (.cells #[bv] t0)
  have g1 := f1 (w.alloc (.cells #[bv] t0)) (.cells (Array.replicate bs.length (.bool false)) t1)
  have g2 := f1 ((w.alloc (.cells #[bv] t0)).alloc (.cells (Array.replicate bs.length (.bool false)) t1)) (.cells #[.slice (some ⟨w.heap.size + 1, 0, none⟩) bs.length bs.length] t2)
  have g3 := f1 (((w.alloc (.cells #[bv] t0)).alloc (.cells (Array.replicate bs.length (.bool false)) t1)).alloc (.cells #[.slice (some ⟨w.heap.size + 1, 0, none⟩) bs.length bs.length] t2)) (.cells #[.slice none 0 0] t3)
  have g4 := f1 ((((w.alloc (.cells #[bv] t0)).alloc (.cells (Array.replicate bs.length (.bool false)) t1)).alloc (.cells #[.slice (some ⟨w.heap.size + 1, 0, none⟩) bs.length bs.length] t2)).alloc (.cells #[.slice none 0 0] t3)) (.cells #[orderF (w.heap.size + 1 + 1) w.heap.size (w.heap.size + 1 + 1 + 1 + 1) (w.heap.size + 1 + 1 + 1)] t4)
  refine ⟨by simp, (((g0.trans g1).trans g2).trans g3).trans g4, (g3.trans g4).cell k2 id, (((g1.trans g2).trans g3).trans g4).cell k0 id, k4, ⟨.slice none 0 0, g4.cell k3 id, ?_, World.ownsRow_nil _ _ _ _⟩, ?_, ?_⟩
  · rw [g4.frozen k3 id]; exact z3
  · have hb2 := BoolsAt.fr k1 ((g2.trans g3).trans g4)
    intro k hk
    rw [List.length_replicate] at hk
    obtain ⟨m1, m2⟩ := hb2 k hk
    refine ⟨?_, m2⟩
    rw [m1]
    refine congrArg (fun b => some (Value.bool b)) ?_
    show false = (List.replicate bs.length false).getD k true
    rw [List.getD_eq_getElem?_getD, List.getElem?_replicate, if_pos hk]
    rfl
  · rw [e1, e1, e1, e1, e1]; exact Nat.le_refl _
/-- what order tells -/
def OrderTo (bs : List Blk) (w : World) (e : Ending) (w' : World) : Prop := ∃ T g cap, e = .returned (.slice (some ⟨g, 0, none⟩) bs.length cap) ∧ Turn (nxM bs) bs.length T ∧ CellsAt w' g 0 (i64s T) ∧ Fr No w w'

set_option maxRecDepth 100000 in
set_option maxHeartbeats 4000000 in
theorem order_any (bs : List Blk) (bv : Value) (w : World) (hv : BlksAt w bv bs) (hpos : 0 < bs.length) (hlen : bs.length ≤ 1000) (hnx : ∀ k n, n ∈ nxM bs k → n < bs.length) (hn2 : ∀ k, (nxM bs k).length ≤ 2) (hall : ∀ v, v < bs.length → LedTo (nxM bs) (fun _ => False) v) :
    Calls Tryz.prog 65 #[bv] w (OrderTo bs w) := by
  obtain ⟨gb, cb, rfl, hbk⟩ := hv
  have HBK := Lib.hid hbk
  have HALL := Lib.hid hall
  have HNX := Lib.hid hnx
  have HN2 := Lib.hid hn2
  obtain ⟨N, hN⟩ : ∃ N, bs.length = N := ⟨_, rfl⟩
  have HN := Lib.hid hN
  rw [hN] at hlen hpos ⊢
  have HPOS := Lib.hid hpos
  have HLEN := Lib.hid hlen
  have hmk := fun W => make_bools N (by omega) W
  clear hbk hall hnx hn2 hN
  go_enter Tryz.func65, Tryz.ntmps65
  go_upto_region 4 with fail
  have e1 : ∀ (w : World) o, (w.alloc o).heap.size = w.heap.size + 1 := fun w o => Array.size_push _
  have s1 : (((((w.alloc (.cells #[.slice (some ⟨gb, 0, none⟩) N cb] 24)).alloc (.cells (Array.replicate N (.bool false)) 4)).alloc (.cells #[.slice (some ⟨w.heap.size + 1, 0, none⟩) N N] 87)).alloc (.cells #[.slice none 0 0] 31)).alloc (.cells #[.nilFunc] 103)).cell? ⟨w.heap.size + 1 + 1 + 1 + 1, 0, none⟩ = some .nilFunc := by
    have := CellsAt.new ((((w.alloc (.cells #[.slice (some ⟨gb, 0, none⟩) N cb] 24)).alloc (.cells (Array.replicate N (.bool false)) 4)).alloc (.cells #[.slice (some ⟨w.heap.size + 1, 0, none⟩) N N] 87)).alloc (.cells #[.slice none 0 0] 31)) [.nilFunc] 103 0 _ rfl
    rw [e1, e1, e1, e1] at this
    exact this
  have s2 : (((((w.alloc (.cells #[.slice (some ⟨gb, 0, none⟩) N cb] 24)).alloc (.cells (Array.replicate N (.bool false)) 4)).alloc (.cells #[.slice (some ⟨w.heap.size + 1, 0, none⟩) N N] 87)).alloc (.cells #[.slice none 0 0] 31)).alloc (.cells #[.nilFunc] 103)).frozen? ⟨w.heap.size + 1 + 1 + 1 + 1, 0, none⟩ = false := by
    have := World.frozen?_alloc_new ((((w.alloc (.cells #[.slice (some ⟨gb, 0, none⟩) N cb] 24)).alloc (.cells (Array.replicate N (.bool false)) 4)).alloc (.cells #[.slice (some ⟨w.heap.size + 1, 0, none⟩) N N] 87)).alloc (.cells #[.slice none 0 0] 31)) #[.nilFunc] 103 0
    rw [e1, e1, e1, e1] at this
    exact this
  obtain ⟨HPP, HOV⟩ := ov_start w bs (.slice (some ⟨gb, 0, none⟩) N cb) N HN.out 24 4 87 31 103
  have HP := Lib.hid HPP
  have HV := Lib.hid HOV
  clear HPP HOV e1
  go_upto_region 5 with fail
  clear s1 s2 hmk
  generalize (((((w.alloc (.cells #[.slice (some ⟨gb, 0, none⟩) N cb] 24)).alloc (.cells (Array.replicate N (.bool false)) 4)).alloc (.cells #[.slice (some ⟨w.heap.size + 1, 0, none⟩) N N] 87)).alloc (.cells #[.slice none 0 0] 31)).alloc (.cells #[.func (.func 84) #[] #[.pointer (some ⟨w.heap.size + 1 + 1, 0, none⟩), .pointer (some ⟨w.heap.size, 0, none⟩), .pointer (some ⟨w.heap.size + 1 + 1 + 1 + 1, 0, none⟩), .pointer (some ⟨w.heap.size + 1 + 1 + 1, 0, none⟩)]] 103)) = W3 at *
  generalize w.heap.size + 1 + 1 + 1 + 1 + 1 = base at *
  generalize w.heap.size + 1 + 1 + 1 + 1 = b3 at *
  generalize w.heap.size + 1 + 1 + 1 = b4 at *
  generalize w.heap.size + 1 + 1 = b1 at *
  generalize w.heap.size + 1 = gs at *
  have HWS : Hid (w.heap.size ≤ base) := by have h1 := HP.out.n4; exact Lib.hid (by omega)
  generalize hb2 : w.heap.size = b2 at *
  have HB2 := Lib.hid hb2
  clear hb2
  have c3 : W3.cell? ⟨b3, 0, none⟩ = some (.func (.func 84) #[] #[.pointer (some ⟨b1, 0, none⟩), .pointer (some ⟨b2, 0, none⟩), .pointer (some ⟨b3, 0, none⟩), .pointer (some ⟨b4, 0, none⟩)]) := HV.out.c3
  have HC : Hid (Calls Tryz.prog 84 #[.int .i64 0, .pointer (some ⟨b1, 0, none⟩), .pointer (some ⟨b2, 0, none⟩), .pointer (some ⟨b3, 0, none⟩), .pointer (some ⟨b4, 0, none⟩)] W3 (OrdTo w bs (.slice (some ⟨gb, 0, none⟩) bs.length cb) b1 b2 b3 b4 gs base (orderF b1 b2 b3 b4) W3 (List.replicate N false) [] 0)) := by
    refine order1_any w bs gb cb b1 b2 b3 b4 gs base HP.out HBK.out HNX.out (by rw [HN.out]; exact HLEN.out) HN2.out (N + 1) (List.replicate N false) [] 0 W3 (by unfold unseen; rw [List.countP_replicate]; simp) (by rw [HN.out]; exact HPOS.out) (by rw [List.getElem?_replicate, if_pos HPOS.out]) (by unfold unseen; rw [List.countP_replicate]; have := HLEN.out; simp; omega) ?_
    rw [HN.out]
    exact HV.out
  go_upto_region 6 with (go_at_call 84; (with_reducible refine (HC.out).mono ?_); rintro e w5 ⟨rfl, K, s', hov, hseg, -, -, -⟩; rw [List.nil_append] at hov; have HOV5 := Lib.hid hov; have HSEG := Lib.hid hseg; clear hov hseg)
  have HT : Hid (Turn (nxM bs) N K.reverse) := by
    have h1 := HSEG.out.congr (q := fun _ => False) (fun k => ⟨fun h => by unfold seenP at h; rw [List.getElem?_replicate] at h; split at h <;> simp at h, fun h => h.elim⟩)
    have h2 := h1.turn HALL.out
    rw [HN.out] at h2
    exact h2
  have HKL : Hid (K.length = N) := by have h := HT.out.len; rw [List.length_reverse] at h; exact h
  obtain ⟨ov, z1, z2, z3⟩ := HOV5.out.c4
  rw [HKL.out] at z3
  obtain ⟨go, co, rfl⟩ := ownsRow_form z3 HPOS.out
  have hoc := ownsRow_cells z3
  have HIF : Hid (IntF w5 go N (fun p => K.getD p 0)) := fun p hp => by
    have h1 := hoc.1 p (.int .i64 ((K.getD p 0 : Nat) : Int)) (i64s_get (by rw [List.getD_eq_getElem?_getD, List.getElem?_eq_getElem (by rw [HKL.out]; exact hp)]; rfl))
    rw [Nat.zero_add] at h1
    exact ⟨h1, hoc.2.2.2 p⟩
  have HGO : Hid (base ≤ go ∧ b4 ≠ go) := ⟨hoc.2.1, by have h1 := HP.out.n4; have h2 := hoc.2.1; omega⟩
  have HRV : Hid (Calls Tryz.prog 85 #[.slice (some ⟨go, 0, none⟩) N co] w5 fun e w' => e = .returned (.tuple #[]) ∧ IntF w' go N (fun p => K.getD (N - 1 - p) 0) ∧ Fr (Isb go) w5 w') := reverse_any go N co (fun p => K.getD p 0) w5 (by have := HLEN.out; omega) HIF.out
  have HZ1 : Hid (∀ W, Fr (Isb go) w5 W → W.cell? ⟨b4, 0, none⟩ = some (.slice (some ⟨go, 0, none⟩) N co)) := fun W hf => hf.cell z1 (fun e => HGO.out.2 e)
  clear z2 z3 hoc
  go_wp2_with (go_at_call 85; (with_reducible refine (HRV.out).mono ?_); rintro e w6 ⟨rfl, hif, hf6⟩; have z6 := HZ1.out w6 hf6; have HIF6 := Lib.hid hif; have HF6 := Lib.hid hf6; clear hif hf6)
  go_ret
  refine ⟨K.reverse, go, co, by rw [HN.out]; rfl, by rw [HN.out]; exact HT.out, fun j v hj => ?_, ((HOV5.out.fr.any.trans (HF6.out.mono (fun k _ hk => by rw [show k = go from hk]; show w.heap.size ≤ go; rw [HB2.out]; exact Nat.le_trans HWS.out HGO.out.1))) : Fr (From w) w w6).ours⟩
  rw [Nat.zero_add]
  unfold i64s at hj
  rw [List.getElem?_map] at hj
  cases hk : K.reverse[j]? with
  | none => rw [hk] at hj; simp at hj
  | some x =>
    rw [hk] at hj
    simp only [Option.map_some, Option.some.injEq] at hj
    subst hj
    have hjl : j < K.reverse.length := (List.getElem?_eq_some_iff.1 hk).1
    rw [List.length_reverse] at hjl
    have h1 := (HIF6.out j (by rw [← HKL.out]; exact hjl)).1
    rw [h1]
    have h2 := rev_get hjl
    rw [List.getD_eq_getElem?_getD, hk] at h2
    show some (Value.int .i64 ((K.getD (N - 1 - j) 0 : Nat) : Int)) = _
    rw [← HKL.out, ← h2]
    rfl
end Go.Proofs.YtakcdecljfmckaaGreatDoor
