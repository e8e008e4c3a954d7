/- firewallref31: Doms, Loops. firewalllaw03.Same: are two programs the same. lines.words: the words of a slot that may be. lines.double at slots; what a round of lines.Show lays. lines.Show, walked. -/
import Derived.Test.YtakcdecljfmckaaGreatDoorCore23
import Derived.Test.YtakcdecljfmckaaGreatDoorCore13
import Derived.BigQuiet
import Derived.Test.YtakcdecljfmckaaGreatDoorCore12
import Derived.Deep.CutBlock
set_option linter.all false
set_option linter.unusedVariables false
set_option linter.unusedSimpArgs false
namespace Go.Proofs.YtakcdecljfmckaaGreatDoor
open Go.RowKit

def dRow (d : Nat → Int) (y : Nat) : List Value := (List.range y).map fun k => Value.int .i64 (d k)
theorem dRow_succ (d : Nat → Int) (y : Nat) : dRow d (y + 1) = dRow d y ++ [.int .i64 (d y)] := by
  unfold dRow
  rw [List.range_succ, List.map_append]
  rfl
theorem dRow_len (d : Nat → Int) (y : Nat) : (dRow d y).length = y := by simp [dRow]
theorem dRow_get {d : Nat → Int} {n k : Nat} (h : k < n) : (dRow d n)[k]? = some (.int .i64 (d k)) := by
  unfold dRow
  rw [List.getElem?_map, List.getElem?_range h]
  rfl
/-- midway: is a block still taken for the nearest one? -/
def OkTo (nx : Nat → List Nat) (x y z : Nat) : Prop := AheadP nx x y ∧ ∀ z', z' < z → z' = x ∨ ¬ AheadP nx z' y ∨ AheadP nx z' x
theorem OkTo.zero {nx : Nat → List Nat} {x y : Nat} : OkTo nx x y 0 ↔ AheadP nx x y := ⟨fun h => h.1, fun h => ⟨h, fun z hz => absurd hz (Nat.not_lt_zero _)⟩⟩
theorem OkTo.succ {nx : Nat → List Nat} {x y z : Nat} (h : OkTo nx x y z) : OkTo nx x y (z + 1) ↔ (z = x ∨ ¬ AheadP nx z y ∨ AheadP nx z x) := by
  refine ⟨fun h2 => h2.2 z (Nat.lt_succ_self z), fun h2 => ⟨h.1, fun z' hz => ?_⟩⟩
  by_cases e : z' = z
  · exact e ▸ h2
  · exact h.2 z' (by omega)

set_option maxRecDepth 100000 in
set_option maxHeartbeats 4000000 in
theorem rdoms_any (bs : List Blk) (bv : Value) (d : Nat → Int) (w : World) (hv : BlksAt w bv bs) (hG : Graph bs) (hd : Doms (nxM bs) bs.length d) :
    Calls Tryz.prog 15 #[bv] w fun e w' => ∃ g c, e = .returned (.slice (some ⟨g, 0, none⟩) bs.length c) ∧ (∀ k, k < bs.length → w'.cell? ⟨g, k, none⟩ = some (.int .i64 (d k))) ∧ Fr No w w' := by
  have HAH : Hid (∀ W, Fr No w W → ∀ x y : Nat, y < bs.length → Calls Tryz.prog 35 #[bv, .int .i64 (x : Int), .int .i64 (y : Int)] W fun e w' => e = .returned (.bool (aheadB bs x y)) ∧ Fr No W w') := fun W hf x y hy => ahead_any bs bv x y W (hv.fr hf) hG hy
  have HOKQ : Hid (∀ x y, x < bs.length → y < bs.length → (OkTo (nxM bs) x y bs.length ↔ d y = (x : Int))) := fun x y hx hy => hd.ok hx hy
  have HNR : Hid (∀ y, y < bs.length → nearB d bs.length y = d y) := fun y hy => hd.near hy
  have hpos := hG.pos
  have hlen := hG.len
  obtain ⟨gb, cb, rfl, -⟩ := hv
  obtain ⟨N, hN⟩ : ∃ N, bs.length = N := ⟨_, rfl⟩
  rw [hN] at hpos hlen HAH HOKQ HNR ⊢
  have HPL := Lib.hid (And.intro hpos hlen)
  clear hG hd hN hpos hlen
  obtain ⟨nx, hnx⟩ : ∃ nx, nxM bs = nx := ⟨_, rfl⟩
  have HAB : Hid (∀ x y, aheadB bs x y = true ↔ AheadP nx x y) := fun x y => by rw [← hnx]; exact aheadB_iff
  rw [hnx] at HOKQ
  clear hnx
  obtain ⟨i0, hi0, hz0, hz1, hz2⟩ := info_parts Tryz.infoCh_int
  go_enter Tryz.func15, Tryz.ntmps15
  go_wp2_with fail
  go_loopw [3, 4] (fun dv yv wr => ∃ y : Nat, yv = .int .i64 (y : Int) ∧ y ≤ N ∧ Hid (wr.ownsRow w.heap.size 3 1 dv y (dRow d y)) ∧ Hid (Fr No w wr)) (fun _ yv _ => N - (intOf yv).toNat)
  case atStart => exact ⟨0, rfl, Nat.zero_le _, World.ownsRow_nil _ _ _ _, Fr.refl _ _⟩
  case round =>
    obtain ⟨y, rfl, hy, HO, HF⟩ := hrel
    obtain ⟨da, dc, rfl⟩ := ownsRow_any HO.out
    by_cases hlt : y < N
    · have p1 : (y : Int) < (N : Int) := by omega
      have HY := Lib.hid hlt
      clear hlt
      obtain ⟨W1, hW1⟩ : ∃ W1, W1 = wr := ⟨_, rfl⟩
      subst hW1
      have hN1000 := HPL.out.2
      go_wp2_with fail
      have HN0 : Hid (nearB d 0 y = -1) := Lib.hid (nearB_zero d y)
      go_loopw [5, 6] (fun nv xv wr' => ∃ x : Nat, nv = .int .i64 (nearB d x y) ∧ xv = .int .i64 (x : Int) ∧ x ≤ N ∧ Hid (Fr No W1 wr')) (fun _ xv _ => N - (intOf xv).toNat)
      case atStart => exact ⟨0, by rw [HN0.out], rfl, Nat.zero_le _, Fr.refl _ _⟩
      case round =>
        obtain ⟨x, rfl, rfl, hx, HG1⟩ := hrel
        by_cases hlt : x < N
        · have s1 : (x : Int) < (N : Int) := by omega
          have HX := Lib.hid hlt
          have HA1 := Lib.hid (HAH.out _ (HF.out.trans HG1.out) x y HY.out)
          obtain ⟨t0, ht0⟩ : ∃ t0, aheadB bs x y = t0 := ⟨_, rfl⟩
          rw [ht0] at HA1
          have HT0 : Hid (t0 = true ↔ OkTo nx x y 0) := by rw [← ht0]; exact Lib.hid ((HAB.out x y).trans OkTo.zero.symm)
          have HQ := Lib.hid (HOKQ.out x y HX.out HY.out)
          have HNY : Hid (d y = (x : Int) → nearB d (x + 1) y = (x : Int)) := nearB_yes
          have HNN : Hid (d y ≠ (x : Int) → nearB d (x + 1) y = nearB d x y) := nearB_no
          obtain ⟨nr, hnr⟩ : ∃ nr, nearB d x y = nr := ⟨_, rfl⟩
          rw [hnr] at HNN ⊢
          clear ht0 hnr hlt
          go_wp2_with (go_at_call 35; (with_reducible refine (HA1.out).mono ?_); rintro e w5 ⟨rfl, hf5⟩; have HF5 := Lib.hid (HG1.out.trans hf5); clear hf5)
          go_loopw [7, 8] (fun tv zv wr' => ∃ (t : Bool) (z : Nat), tv = .bool t ∧ zv = .int .i64 (z : Int) ∧ z ≤ N ∧ Hid (t = true ↔ OkTo nx x y z) ∧ Hid (Fr No W1 wr')) (fun tv zv _ => N - (intOf zv).toNat)
          case atStart => exact ⟨t0, 0, rfl, rfl, Nat.zero_le _, HT0.out, HF5.out⟩
          case round =>
            obtain ⟨t, z, rfl, rfl, hz, HTZ, HG2⟩ := hrel
            have hxN := HX.out
            by_cases hlt : z < N
            · have z1 : (z : Int) < (N : Int) := by omega
              have HZ := Lib.hid hlt
              cases t with
              | true =>
                have HSU := Lib.hid (OkTo.succ (HTZ.out.1 rfl))
                clear hlt
                by_cases hzx : z = x
                · have q1 : ((z : Int) == (x : Int)) = true := by rw [hzx]; simp
                  have HT2 : Hid (OkTo nx x y (z + 1)) := Lib.hid (HSU.out.2 (.inl hzx))
                  clear hzx
                  go_wp2_with fail
                  go_roundw
                  case rel => exact ⟨true, z + 1, rfl, by go_num, by have := HZ.out; omega, Lib.hid ⟨fun _ => HT2.out, fun _ => rfl⟩, HG2.out⟩
                  case measure => (have := HZ.out; simp [intOf] <;> omega)
                · have q1 : ((z : Int) == (x : Int)) = false := by rw [beq_eq_false_iff_ne]; omega
                  have HA2 := Lib.hid (fun W (hf : Fr No w W) => HAH.out W hf z y HY.out)
                  have HA3 := Lib.hid (fun W (hf : Fr No w W) => HAH.out W hf z x HX.out)
                  have HZX := Lib.hid hzx
                  obtain ⟨a1, ha1⟩ : ∃ a1, aheadB bs z y = a1 := ⟨_, rfl⟩
                  obtain ⟨a2, ha2⟩ : ∃ a2, aheadB bs z x = a2 := ⟨_, rfl⟩
                  rw [ha1] at HA2
                  rw [ha2] at HA3
                  have HB1 : Hid (a1 = true ↔ AheadP nx z y) := by rw [← ha1]; exact HAB.out z y
                  have HB2 : Hid (a2 = true ↔ AheadP nx z x) := by rw [← ha2]; exact HAB.out z x
                  have HFW : Hid (Fr No w wr) := HF.out.trans HG2.out
                  have HFa : Hid (Fr No wr wr) := Fr.refl _ _
                  clear ha1 ha2 hzx
                  cases a1 with
                  | false =>
                    have HT2 : Hid (OkTo nx x y (z + 1)) := Lib.hid (HSU.out.2 (.inr (.inl (fun h => by have := HB1.out.2 h; cases this))))
                    go_wp2_with (go_at_call 35; (with_reducible refine (HA2.out _ (HFW.out.trans HFa.out)).mono ?_); rintro e w6 ⟨rfl, hf6⟩; have HFa := Lib.hid (HFa.out.trans hf6); clear hf6)
                    go_roundw
                    case rel => exact ⟨true, z + 1, rfl, by go_num, by have := HZ.out; omega, Lib.hid ⟨fun _ => HT2.out, fun _ => rfl⟩, HG2.out.trans HFa.out⟩
                    case measure => (have := HZ.out; simp [intOf] <;> omega)
                  | true =>
                    have HT2 : Hid (a2 = true ↔ OkTo nx x y (z + 1)) := Lib.hid ⟨fun h => HSU.out.2 (.inr (.inr (HB2.out.1 h))), fun h => by
                      rcases HSU.out.1 h with h1 | h1 | h1
                      · exact absurd h1 HZX.out
                      · exact absurd (HB1.out.1 rfl) h1
                      · exact HB2.out.2 h1⟩
                    go_wp2_with (first
                      | (go_at_call 35; (with_reducible refine (HA2.out _ (HFW.out.trans HFa.out)).mono ?_); rintro e w6 ⟨rfl, hf6⟩; have HFa := Lib.hid (HFa.out.trans hf6); clear hf6)
                      | (go_at_call 35; (with_reducible refine (HA3.out _ (HFW.out.trans HFa.out)).mono ?_); rintro e w6 ⟨rfl, hf6⟩; have HFa := Lib.hid (HFa.out.trans hf6); clear hf6))
                    go_roundw
                    case rel => exact ⟨a2, z + 1, rfl, by go_num, by have := HZ.out; omega, HT2.out, HG2.out.trans HFa.out⟩
                    case measure => (have := HZ.out; simp [intOf] <;> omega)
              | false =>
                have HNE : Hid (d y ≠ (x : Int)) := fun h => by
                  have h2 := HQ.out.2 h
                  have h3 : OkTo nx x y z := ⟨h2.1, fun z' hz' => h2.2 z' (by have := HZ.out; omega)⟩
                  have := HTZ.out.2 h3
                  cases this
                have HNR2 := Lib.hid (HNN.out HNE.out)
                clear hlt
                go_wp2_with fail
                go_roundw
                case rel => exact ⟨x + 1, by rw [HNR2.out], by go_num, by omega, HG2.out⟩
                case measure => simp [intOf] <;> omega
            · obtain rfl : z = N := by omega
              have z1 : ¬ (z : Int) < (z : Int) := by omega
              clear hlt
              cases t with
              | true =>
                have HNR2 := Lib.hid (HNY.out (HQ.out.1 (HTZ.out.1 rfl)))
                go_wp2_with fail
                go_roundw
                case rel => exact ⟨x + 1, by rw [HNR2.out], by go_num, by omega, HG2.out⟩
                case measure => simp [intOf] <;> omega
              | false =>
                have HNE : Hid (d y ≠ (x : Int)) := fun h => by
                  have := HTZ.out.2 (HQ.out.2 h)
                  cases this
                have HNR2 := Lib.hid (HNN.out HNE.out)
                go_wp2_with fail
                go_roundw
                case rel => exact ⟨x + 1, by rw [HNR2.out], by go_num, by omega, HG2.out⟩
                case measure => simp [intOf] <;> omega
        · obtain rfl : x = N := by omega
          have s1 : ¬ (x : Int) < (x : Int) := by omega
          have HNE := Lib.hid (HNR.out y HY.out)
          have HO2 : Hid (wr.ownsRow w.heap.size 3 1 (.slice da y dc) y (dRow d y)) := ownsRow_fr HO.out HG1.out (fun _ _ => id)
          have HF2 : Hid (Fr No w wr) := HF.out.trans HG1.out
          have hyN := HY.out
          obtain ⟨nr, hnr⟩ : ∃ nr, nearB d x y = nr := ⟨_, rfl⟩
          rw [hnr] at HNE ⊢
          clear hlt hnr
          go_wp2_with (at_builtin; refine wpList_append_src rfl _ _ 31 rfl w.heap.size 3 i0 _ 1 8 Tryz.underlying31 hi0 hz0 hz1 hz2 rfl (by decide) (.slice da y dc) y (dRow d y) rfl (ownsRow_fr HO2.out ((Fr.refl _ _).alloc _) (fun _ _ => id)) _ 1 [.int .i64 nr] rfl (src_new _ [.int .i64 nr] 3) rfl (by simp [Value.oneCell']) (by unfold maxLen; omega) (by omega) (HF2.out.alloc _).size ?_; intro v3 w3 own3 fr3; have HO3 := Lib.hid own3; have HF3 : Hid (Fr No w w3) := (((HF2.out.alloc _).any.trans (fr3.mono fun k _ hk => OwnOf.ge HO2.out hk)) : Fr (From w) w w3).ours; clear own3 fr3)
          go_roundw
          case rel => exact ⟨y + 1, by go_num, by omega, by rw [dRow_succ, ← HNE.out]; exact HO3, HF3.out⟩
          case measure => simp [intOf] <;> omega
    · obtain rfl : y = N := by omega
      have p1 : ¬ (y : Int) < (y : Int) := by omega
      obtain ⟨g, c, hg⟩ := ownsRow_form HO.out HPL.out.1
      injection hg with hg1 _ hg3
      subst hg1 hg3
      clear hlt
      go_wp2_with fail
      go_ret
      exact ⟨g, ⟨_, rfl⟩, fun k hk => by have h := (ownsRow_cells HO.out).1 k _ (dRow_get hk); rw [Nat.zero_add] at h; exact h, HF.out⟩

set_option maxRecDepth 100000 in
set_option maxHeartbeats 4000000 in
theorem rloops_any (bs : List Blk) (bv : Value) (d : Nat → Int) (w : World) (hv : BlksAt w bv bs) (hG : Graph bs) (hd : Doms (nxM bs) bs.length d) :
    Calls Tryz.prog 16 #[bv] w fun e w' => ∃ v, e = .returned v ∧ w'.ownsRow w.heap.size 45 2 v (waysM bs d).length (pflat (waysM bs d)) ∧ Fr No w w' := by
  have HAH : Hid (∀ W, Fr No w W → ∀ x y : Nat, y < bs.length → Calls Tryz.prog 35 #[bv, .int .i64 (x : Int), .int .i64 (y : Int)] W fun e w' => e = .returned (.bool (aheadB bs x y)) ∧ Fr No W w') := fun W hf x y hy => ahead_any bs bv x y W (hv.fr hf) hG hy
  have HUP : Hid (∀ n i, i < bs.length → (Up d n i ↔ n = i ∨ aheadB bs n i = true)) := fun n i hi => by rw [aheadB_iff]; exact hd.upP hi
  have HWL : Hid (∀ i, (waysUp bs d i).length ≤ 2 * i) := fun i => waysUp_len hG.n2 i
  have HRL : Hid (∀ i L, (rowW bs d i L).length ≤ L.length) := fun i L => rowW_len bs d i L
  have hpos := hG.pos
  have hlen := hG.len
  have HN2 := Lib.hid hG.n2
  have HNX := Lib.hid hG.nx
  obtain ⟨gb, cb, rfl, hbk⟩ := hv
  have HBK := Lib.hid hbk
  unfold waysM
  obtain ⟨N, hN⟩ : ∃ N, bs.length = N := ⟨_, rfl⟩
  rw [hN] at hpos hlen HAH HUP HNX ⊢
  have HN := Lib.hid hN
  have HPL := Lib.hid (And.intro hpos hlen)
  clear hG hd hN hpos hlen hbk
  obtain ⟨i0, hi0, hz0, hz1, hz2⟩ := info_parts Tryz.infoCh_pair
  go_enter Tryz.func16, Tryz.ntmps16
  go_wp2_with fail
  go_loopw [3, 4] (fun rv iv wr => ∃ i : Nat, iv = .int .i64 (i : Int) ∧ i ≤ N ∧ Hid (wr.ownsRow w.heap.size 45 2 rv (waysUp bs d i).length (pflat (waysUp bs d i))) ∧ Hid (Fr No w wr)) (fun _ iv _ => N - (intOf iv).toNat)
  case atStart => exact ⟨0, rfl, Nat.zero_le _, World.ownsRow_nil _ _ _ _, Fr.refl _ _⟩
  case round =>
    obtain ⟨i, rfl, hi, HO, HF⟩ := hrel
    obtain ⟨da, dc, hrv⟩ := ownsRow_any HO.out
    by_cases hlt : i < N
    · obtain ⟨b, hb⟩ : ∃ b, bs[i]? = some b := ⟨bs[i]'(by rw [HN.out]; exact hlt), List.getElem?_eq_getElem _⟩
      obtain ⟨m0, m1, nv, m2, m3⟩ := HBK.out i b hb
      have HNI : Hid (nxM bs i = b.next) := by unfold nxM; rw [List.getD_eq_getElem?_getD, hb]; exact Lib.hid rfl
      obtain ⟨an, cn, hnv⟩ := m3.form
      subst hnv
      have hq2 : b.next.length ≤ 2 := by rw [← HNI.out]; exact HN2.out i
      obtain ⟨L, hL⟩ : ∃ L, b.next = L := ⟨_, rfl⟩
      rw [hL] at m2 m3 HNI hq2
      obtain ⟨q, hq⟩ : ∃ q, L.length = q := ⟨_, rfl⟩
      rw [hq] at m2 m3 hq2
      have HQ := Lib.hid hq
      have HIN := Lib.hid hlt
      have HQ2 := Lib.hid hq2
      have HM2 : Hid (∀ W, Fr No w W → W.cell? ⟨gb, i * 3 + 2, none⟩ = some (.slice an q cn)) := fun W hf => hf.cell m2 id
      have HCE : Hid (∀ W, Fr No w W → ∀ (k x : Nat), L[k]? = some x → ∃ g2, an = some ⟨g2, 0, none⟩ ∧ W.cell? ⟨g2, k, none⟩ = some (.int .i64 (x : Int))) := fun W hf k x hx => by
        rcases m3 with ⟨h1, _⟩ | ⟨g2, c2, h2, hc2⟩
        · rw [h1] at hx; simp at hx
        · injection h2 with h2 _ _
          exact ⟨g2, h2, hf.cell (i64_cell hc2 hx) id⟩
      have s1 : (i : Int) < (N : Int) := by omega
      have s0 : (0 : Int) ≤ (i : Int) := by omega
      have HR0 : Hid (rowW bs d i (L.take 0) = []) := Lib.hid (by simp [rowW])
      clear hb m0 m1 m2 m3 hL hq hlt hq2
      go_wp2_with fail
      go_loopw [3, 5] (fun rv kv wr' => ∃ k : Nat, kv = .int .i64 (k : Int) ∧ k ≤ q ∧ Hid (wr'.ownsRow w.heap.size 45 2 rv (waysUp bs d i ++ rowW bs d i (L.take k)).length (pflat (waysUp bs d i ++ rowW bs d i (L.take k)))) ∧ Hid (Fr No w wr')) (fun _ kv _ => q - (intOf kv).toNat)
      case atStart => exact ⟨0, rfl, Nat.zero_le _, by rw [HR0.out, List.append_nil]; exact HO, HF.out⟩
      case round =>
        clear hrv HO HF
        obtain ⟨k, rfl, hk, HO, HF⟩ := hrel
        obtain ⟨W, hW⟩ : ∃ W, waysUp bs d i ++ rowW bs d i (L.take k) = W := ⟨_, rfl⟩
        have HWE := Lib.hid hW
        rw [hW] at HO
        have HWB : Hid (W.length ≤ 2002) := by
          rw [← hW, List.length_append]
          have h1 := HWL.out i
          have h2 := HRL.out i (L.take k)
          rw [List.length_take] at h2
          have h3 := HIN.out
          have h4 := HPL.out.2
          have h5 := HQ2.out
          exact Lib.hid (by omega)
        clear hW
        obtain ⟨da, dc, rfl⟩ := ownsRow_any HO.out
        have c2 := HM2.out _ HF.out
        have hq2 := HQ2.out
        have hin := HIN.out
        have hN1000 := HPL.out.2
        by_cases hlt : k < q
        · obtain ⟨x, hx⟩ : ∃ x, L[k]? = some x := ⟨L[k]'(by rw [HQ.out]; exact hlt), List.getElem?_eq_getElem _⟩
          obtain ⟨g2, hg2, k2⟩ := HCE.out _ HF.out k x hx
          subst hg2
          have k1 : (k : Int) < (q : Int) := by omega
          have kq : (0 : Int) ≤ (k : Int) := by omega
          have HKQ := Lib.hid hlt
          have HTK : Hid (L.take (k + 1) = L.take k ++ [x]) := by rw [List.take_add_one, hx]; exact Lib.hid rfl
          have HA := Lib.hid (fun W (hf : Fr No w W) => HAH.out W hf x i HIN.out)
          have HU := Lib.hid (HUP.out x i HIN.out)
          have HYES : Hid (Up d x i → waysUp bs d i ++ rowW bs d i (L.take (k + 1)) = W ++ [(i, x)]) := fun h => by rw [HTK.out, rowW_yes h, ← List.append_assoc, HWE.out]
          have HNOT : Hid (¬ Up d x i → waysUp bs d i ++ rowW bs d i (L.take (k + 1)) = W) := fun h => by rw [HTK.out, rowW_no h, HWE.out]
          obtain ⟨m, hm⟩ : ∃ m, W.length = m := ⟨_, rfl⟩
          rw [hm] at HO HWB ⊢
          have HM := Lib.hid hm
          have hm2 : m ≤ 2002 := HWB.out
          clear hx hlt hm
          obtain ⟨t, ht⟩ : ∃ t, aheadB bs x i = t := ⟨_, rfl⟩
          rw [ht] at HA HU
          clear ht
          by_cases hxi : x = i
          · have q1 : ((x : Int) == (i : Int)) = true := by rw [hxi]; simp
            have HE := Lib.hid (HYES.out (HU.out.2 (.inl hxi)))
            clear hxi HU HYES HNOT
            go_wp2_with (at_builtin; refine wpList_append_src rfl _ _ 34 rfl w.heap.size 45 i0 _ 2 16 Tryz.underlying34 hi0 hz0 hz1 hz2 rfl (by decide) (.slice da m dc) m (pflat W) rfl (ownsRow_fr HO.out ((Fr.refl _ _).alloc _) (fun _ _ => id)) _ 1 [.int .i64 (i : Int), .int .i64 (x : Int)] rfl (src_new _ [.int .i64 (i : Int), .int .i64 (x : Int)] 45) rfl (by simp [Value.oneCell']) (by unfold maxLen; omega) (by omega) (HF.out.alloc _).size ?_; intro v3 w3 own3 fr3; have HO3 := Lib.hid own3; have HF3 : Hid (Fr No w w3) := (((HF.out.alloc _).any.trans (fr3.mono fun k _ hk => OwnOf.ge HO.out hk)) : Fr (From w) w w3).ours; clear own3 fr3)
            go_roundw
            case rel => exact ⟨k + 1, by go_num, by have := HKQ.out; omega, by rw [HE.out, List.length_append, HM.out, pflat_snoc]; exact HO3, HF3.out⟩
            case measure => (have := HKQ.out; simp [intOf] <;> omega)
          · have q1 : ((x : Int) == (i : Int)) = false := by rw [beq_eq_false_iff_ne]; omega
            have HXI := Lib.hid hxi
            have HFa : Hid (Fr No wr wr) := Fr.refl _ _
            clear hxi
            cases t with
            | true =>
              have HE := Lib.hid (HYES.out (HU.out.2 (.inr rfl)))
              clear HU HYES HNOT
              go_wp2_with (first
                | (go_at_call 35; (with_reducible refine (HA.out _ HF.out).mono ?_); rintro e w6 ⟨rfl, hf6⟩; have HF6 := Lib.hid (HF.out.trans hf6); have HO6 := Lib.hid (ownsRow_fr HO.out hf6 (fun _ _ => id)); clear hf6)
                | (at_builtin; refine wpList_append_src rfl _ _ 34 rfl w.heap.size 45 i0 _ 2 16 Tryz.underlying34 hi0 hz0 hz1 hz2 rfl (by decide) (.slice da m dc) m (pflat W) rfl (ownsRow_fr HO6.out ((Fr.refl _ _).alloc _) (fun _ _ => id)) _ 1 [.int .i64 (i : Int), .int .i64 (x : Int)] rfl (src_new _ [.int .i64 (i : Int), .int .i64 (x : Int)] 45) rfl (by simp [Value.oneCell']) (by unfold maxLen; omega) (by omega) (HF6.out.alloc _).size ?_; intro v3 w3 own3 fr3; have HO3 := Lib.hid own3; have HF3 : Hid (Fr No w w3) := (((HF6.out.alloc _).any.trans (fr3.mono fun k _ hk => OwnOf.ge HO6.out hk)) : Fr (From w) w w3).ours; clear own3 fr3))
              go_roundw
              case rel => exact ⟨k + 1, by go_num, by have := HKQ.out; omega, by rw [HE.out, List.length_append, HM.out, pflat_snoc]; exact HO3, HF3.out⟩
              case measure => (have := HKQ.out; simp [intOf] <;> omega)
            | false =>
              have HE := Lib.hid (HNOT.out (fun h => by rcases HU.out.1 h with h1 | h1; exact HXI.out h1; cases h1))
              clear HU HYES HNOT
              go_wp2_with (go_at_call 35; (with_reducible refine (HA.out _ HF.out).mono ?_); rintro e w6 ⟨rfl, hf6⟩; have HF6 := Lib.hid (HF.out.trans hf6); have HO6 := Lib.hid (ownsRow_fr HO.out hf6 (fun _ _ => id)); clear hf6)
              go_roundw
              case rel => exact ⟨k + 1, by go_num, by have := HKQ.out; omega, by rw [HE.out, HM.out]; exact HO6, HF6.out⟩
              case measure => (have := HKQ.out; simp [intOf] <;> omega)
        · obtain rfl : k = q := by omega
          have k1 : ¬ (k : Int) < (k : Int) := by omega
          have HE : Hid (waysUp bs d (i + 1) = W) := by
            rw [waysUp_succ, HNI.out, ← HWE.out]
            have e1 : L.take k = L := by rw [← HQ.out]; exact List.take_length
            rw [e1]
            exact Lib.hid rfl
          clear hlt
          go_wp2_with fail
          go_roundw
          case rel => exact ⟨i + 1, by go_num, by omega, by rw [HE.out]; exact HO, HF.out⟩
          case measure => simp [intOf] <;> omega
    · obtain rfl : i = N := by omega
      have s1 : ¬ (i : Int) < (i : Int) := by omega
      subst hrv
      clear hlt
      go_wp2_with fail
      go_ret
      exact ⟨_, rfl, HO.out, HF.out⟩
end Go.Proofs.YtakcdecljfmckaaGreatDoor

namespace Go.Proofs.YtakcdecljfmckaaGreatDoor
open Go.RowKit

def insEqB (x y : Ins) : Bool := (x.op : Int) == y.op && ((x.dst : Int) == y.dst && ((x.src : Int) == y.src && (x.off == y.off && x.imm == y.imm)))
theorem insEqB_iff (x y : Ins) : insEqB x y = true ↔ x = y := by
  cases x; cases y
  simp [insEqB]
  omega
theorem neq_insL (x y : Ins) (w : World) : (binOp .neq 51 (.agg #[.int .u8 x.op, .int .u8 x.dst, .int .u8 x.src, .int .i16 x.off, .int .i32 x.imm]) (.agg #[.int .u8 y.op, .int .u8 y.dst, .int .u8 y.src, .int .i16 y.off, .int .i32 y.imm])).run Tryz.prog w = .ok (.bool (!insEqB x y)) w := neq_ins _ _ _ _ _ _ _ _ _ _ w

end Go.Proofs.YtakcdecljfmckaaGreatDoor

namespace Go.Proofs.YtakcdecljfmckaaGreatDoor
open Go.RowKit

def wcls (op : Nat) : Bool :=
  !knownB op true || (op == 24 || op == 194 || op == 133 || op == 149 || op == 5 ||
    (op % 8 == 1 && !arithB op && !specB op && !jumpB op && loadB op) ||
    (op % 8 == 2 && !arithB op && !specB op && !jumpB op && !loadB op && storeB op) ||
    (op % 8 == 3 && !arithB op && !specB op && !jumpB op && !loadB op && !storeB op) ||
    ((op % 8 == 5 || op % 8 == 6) && !arithB op && !specB op && jumpB op && decide (op / 16 < 14)) ||
    ((op % 8 == 4 || op % 8 == 7) && arithB op && codeN op == 128) ||
    ((op % 8 == 4 || op % 8 == 7) && arithB op && codeN op != 128 && decide (op / 16 < 13)))
theorem wcls_all : (List.range 256).all wcls = true := by decide +kernel

end Go.Proofs.YtakcdecljfmckaaGreatDoor

namespace Go.Proofs.YtakcdecljfmckaaGreatDoor
open Go.RowKit

def dblB (x y : Ins) : Bool := x.op == 24 && checkI x true == 0 && halfB y (x.src == 1)
def pairW (x y : Ins) : List (List UInt8) := if x.src = 1 then [[108, 100, 109, 97, 112], regN x.dst, itoaN x.imm] else [[108, 100, 105, 109, 109], regN x.dst, decN (wideN x y)]
theorem pairW_join (x y : Ins) : joinW (pairW x y) = pairI x y := by unfold pairW pairI; split <;> rfl
def rawW (x : Ins) : List (List UInt8) := [[114, 97, 119], itoaN x.op, itoaN x.dst, itoaN x.src, itoaN x.off, itoaN x.imm]
/-- a slice, and not -/
def SlNo (w : World) (e : Ending) (w' : World) : Prop := ∃ a n c, e = .returned (.tuple #[.slice a n c, .bool false]) ∧ Fr No w w'

theorem nb {a b : Nat} (h : a ≠ b) : ((a : Int) == (b : Int)) = false := by rw [beq_nat]; simpa using h
theorem yb {a b : Nat} (h : a = b) : ((a : Int) == (b : Int)) = true := by rw [beq_nat]; simpa using h

end Go.Proofs.YtakcdecljfmckaaGreatDoor

namespace Go.Proofs.YtakcdecljfmckaaGreatDoor
open Go.RowKit

/-- how far a text is laid -/
def ShowTo (l : List Ins) (k : Nat) (S : List UInt8) : Prop := S ++ showL (l.drop k) = showL l
theorem strCells_bA (s : List UInt8) : Lib.strCells (bA s) = Lib.byteCells s := rfl
theorem byteCells_app (a b : List UInt8) : Lib.byteCells a ++ Lib.byteCells b = Lib.byteCells (a ++ b) := by simp [Lib.byteCells]
theorem Fr.ofB {w W W' : World} (h : Fr No w W) (hb : Below w.heap.size W W') : Fr No w W' := Fr.of_below (h.below.trans hb)
theorem builder_fr {T e : TypeId} {B b : Nat} {bs : List Value} {w w' : World} (h : Lib.IsBuilder T e B b bs w) (hf : Fr No w w') : Lib.IsBuilder T e B b bs w' := by
  have key : ∀ p, Lib.BuilderAt T e B b p bs w → Lib.BuilderAt T e B b p bs w' := by
    intro p h
    have hlt := Lib.BuilderAt.lt h
    obtain ⟨hB, v, hb, hown, hne⟩ := h
    refine ⟨hB, v, (hf.block b hlt id).trans hb, ⟨hown.1, ?_⟩, hne⟩
    rcases hown.2 with h2 | ⟨g, cap, cur, hv, hb2, hg, h3⟩
    · exact .inl h2
    · have hgl : g < w.heap.size := by
        rcases Nat.lt_or_ge g w.heap.size with h | h
        · exact h
        · rw [Array.getElem?_eq_none h] at hg; cases hg
      exact .inr ⟨g, cap, cur, hv, hb2, by rw [hf.block g hgl id]; exact hg, h3⟩
  rcases h with h | h
  · exact .inl (key _ h)
  · exact .inr (key _ h)
theorem rawW_join (x : Ins) : joinW (rawW x) = rawI x := rfl
/-- the words of a round, and where it stops -/
def RoundTo (l : List Ins) (k n : Nat) (S : List UInt8) (v : Value) (k2 : Nat) (w : World) : Prop := ∃ ws, StrsAt w v ws ∧ ws.length ≤ 100 ∧ (joinW ws).length ≤ 1000 ∧ k2 < n ∧ k ≤ k2 ∧ ShowTo l (k2 + 1) (S ++ joinW ws ++ [10])
theorem RoundTo.fr {l : List Ins} {k n k2 : Nat} {S : List UInt8} {v : Value} {w w' : World} (h : RoundTo l k n S v k2 w) (hf : Fr No w w') : RoundTo l k n S v k2 w' := by
  obtain ⟨ws, h1, h2⟩ := h
  exact ⟨ws, h1.fr hf, h2⟩
theorem raw_room (x : Ins) (hx : x.ok) : (joinW (rawW x)).length ≤ 1000 := by
  have := raw_len x hx
  rw [rawW_join]
  omega
theorem pair_room (x y : Ins) (hx : x.ok) : (joinW (pairW x y)).length ≤ 1000 := by
  have h1 := dec_len20 (n := x.dst) (by have := hx.dst; omega)
  have h2 := itoa_len_le (n := x.imm) (m := 19) (by have := hx.imm; omega) (by omega)
  have h3 := dec_len20 (wide_lt x y)
  unfold pairW
  split
  · have := join3 [108, 100, 109, 97, 112] (regN x.dst) (itoaN x.imm)
    simp only [regN, List.length_cons, List.length_nil] at this ⊢
    omega
  · have := join3 [108, 100, 105, 109, 109] (regN x.dst) (decN (wideN x y))
    simp only [regN, List.length_cons, List.length_nil] at this ⊢
    omega

end Go.Proofs.YtakcdecljfmckaaGreatDoor
