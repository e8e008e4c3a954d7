/- charts.ways. charts.Doms, charts.Loops. What progs.Check sees is all that the program leads to. -/
import Derived.Test.YtakcdecljfmckaaGreatDoorCore21
import Derived.Test.YtakcdecljfmckaaGreatDoorCore19
set_option linter.all false
set_option linter.unusedVariables false
set_option linter.unusedSimpArgs false
namespace Go.Proofs.YtakcdecljfmckaaGreatDoor
open Go.RowKit

/-- a block lies on the way that d tells, or is that block -/
def Up (d : Nat → Int) (n i : Nat) : Prop := n = i ∨ Anc d n i
open Classical in
noncomputable def rowW (bs : List Blk) (d : Nat → Int) (i : Nat) (L : List Nat) : List (Nat × Nat) := (L.filter fun n => decide (Up d n i)).map fun n => (i, n)
noncomputable def waysUp (bs : List Blk) (d : Nat → Int) (i : Nat) : List (Nat × Nat) := (List.range i).flatMap fun i => rowW bs d i (nxM bs i)
noncomputable def waysM (bs : List Blk) (d : Nat → Int) : List (Nat × Nat) := waysUp bs d bs.length
theorem waysUp_succ (bs : List Blk) (d : Nat → Int) (i : Nat) : waysUp bs d (i + 1) = waysUp bs d i ++ rowW bs d i (nxM bs i) := by
  unfold waysUp
  rw [List.range_succ, List.flatMap_append]
  simp
theorem rowW_yes {bs : List Blk} {d : Nat → Int} {i n : Nat} {L : List Nat} (h : Up d n i) : rowW bs d i (L ++ [n]) = rowW bs d i L ++ [(i, n)] := by
  unfold rowW
  rw [List.filter_append, List.map_append, List.filter_cons, if_pos (by simpa using h)]
  rfl
theorem rowW_no {bs : List Blk} {d : Nat → Int} {i n : Nat} {L : List Nat} (h : ¬ Up d n i) : rowW bs d i (L ++ [n]) = rowW bs d i L := by
  unfold rowW
  rw [List.filter_append, List.map_append, List.filter_cons, if_neg (by simpa using h)]
  simp
def pflat (W : List (Nat × Nat)) : List Value := W.flatMap fun p : Nat × Nat => [.int .i64 (p.1 : Int), .int .i64 (p.2 : Int)]
theorem pflat_snoc (W : List (Nat × Nat)) (i n : Nat) : pflat (W ++ [(i, n)]) = pflat W ++ [.int .i64 (i : Int), .int .i64 (n : Int)] := by simp [pflat]
theorem rowW_len (bs : List Blk) (d : Nat → Int) (i : Nat) (L : List Nat) : (rowW bs d i L).length ≤ L.length := by
  unfold rowW
  rw [List.length_map]
  exact List.length_filter_le _ _
theorem waysUp_len {bs : List Blk} {d : Nat → Int} (hn2 : ∀ k, (nxM bs k).length ≤ 2) : ∀ i, (waysUp bs d i).length ≤ 2 * i
  | 0 => by simp [waysUp]
  | i + 1 => by
    have := waysUp_len hn2 (bs := bs) (d := d) i
    rw [waysUp_succ, List.length_append]
    have h1 := rowW_len bs d i (nxM bs i)
    have h2 := hn2 i
    omega
theorem Tryz.infoCh_pair : (Tryz.prog.info? 45).map (fun i => (i.zero, i.size, i.bytes)) = some (some (.agg #[.int .i64 0, .int .i64 0]), 2, 16) := by kernel_rfl
theorem Up.step {d : Nat → Int} {n a y : Nat} (hne : n ≠ a) (hd : d a = (y : Int)) : Up d n a ↔ Up d n y := by
  unfold Up
  constructor
  · rintro (h | h)
    · exact absurd h hne
    · exact h.split hd
  · rintro (rfl | h)
    · exact .inr (.one hd)
    · exact .inr (.more hd h)
theorem Up.stop {d : Nat → Int} {n a : Nat} (hne : n ≠ a) (hd : d a < 0) : ¬ Up d n a := by
  rintro (h | h)
  · exact hne h
  · have := h.has; omega
def climbMu (pl : Nat → Nat) (v : Int) : Nat := if v < 0 then 0 else pl v.toNat + 1
theorem climbMu_neg (pl : Nat → Nat) : climbMu pl (-1) = 0 := rfl
theorem climbMu_nat (pl : Nat → Nat) (y : Nat) : climbMu pl (y : Int) = pl y + 1 := by unfold climbMu; rw [if_neg (by omega), Int.toNat_natCast]
/-- what ways finds -/
structure WN (bs : List Blk) (d : Nat → Int) (pl : Nat → Nat) : Prop where
  low : ∀ v, v < bs.length → d v = -1 ∨ ∃ y : Nat, d v = (y : Int) ∧ y < bs.length ∧ pl y < pl v

set_option maxRecDepth 100000 in
set_option maxHeartbeats 4000000 in
theorem ways_any (bs : List Blk) (bv : Value) (d : Nat → Int) (pl : Nat → Nat) (gd cd : Nat) (w : World) (hv : BlksAt w bv bs) (hd : ZF w gd bs.length d) (hlen : bs.length ≤ 1000) (hnx : ∀ k n, n ∈ nxM bs k → n < bs.length) (hn2 : ∀ k, (nxM bs k).length ≤ 2) (hw : WN bs d pl) :
    Calls Tryz.prog 31 #[bv, .slice (some ⟨gd, 0, none⟩) bs.length cd] w fun e w' => ∃ v, e = .returned v ∧ Gath w 45 2 (waysM bs d).length (pflat (waysM bs d)) v w' := by
  obtain ⟨gb, cb, rfl, hbk⟩ := hv
  have HBK := Lib.hid hbk
  have HNX := Lib.hid hnx
  have HN2 := Lib.hid hn2
  have HW := Lib.hid hw
  have HD := Lib.hid hd
  unfold waysM
  obtain ⟨N, hN⟩ : ∃ N, bs.length = N := ⟨_, rfl⟩
  have HN := Lib.hid hN
  rw [hN] at hlen HD ⊢
  have HLEN := Lib.hid hlen
  clear hbk hnx hn2 hw hd hN
  obtain ⟨j0, hj0, jz0, jz1, jz2⟩ := info_parts Tryz.infoCh_pair
  go_enter Tryz.func31, Tryz.ntmps31
  go_wp2_with fail
  go_loopw [4, 12] (fun v ix wr => ∃ i : Nat, ix = .int .i64 i ∧ i ≤ N ∧ Hid (Gath w 45 2 (waysUp bs d i).length (pflat (waysUp bs d i)) v wr)) (fun _ ix _ => N - (intOf ix).toNat)
  case atStart => exact ⟨0, rfl, Nat.zero_le _, Gath.start w _ _⟩
  case round =>
    obtain ⟨i, rfl, hi, HG⟩ := hrel
    obtain ⟨va, vc, rfl⟩ := ownsRow_any HG.out.own
    by_cases hlt : i < N
    · obtain ⟨b, hb⟩ : ∃ b, bs[i]? = some b := ⟨bs[i]'(by rw [HN.out]; exact hlt), List.getElem?_eq_getElem _⟩
      obtain ⟨m0, m1, nv, m2, m3⟩ := (HBK.out i b hb).fr HG.out.fr
      obtain ⟨-, -, nv', m2', m3'⟩ := HBK.out i b hb
      have env : nv' = nv := Option.some.inj ((HG.out.fr.cell m2' id).symm.trans m2)
      subst env
      have HNW0 := Lib.hid m3'
      have HBN : Hid (nxM bs i = b.next) := by unfold nxM; rw [List.getD_eq_getElem?_getD, hb]; exact Lib.hid rfl
      obtain ⟨an, cn, rfl⟩ := m3.form
      have HNV := Lib.hid m3
      have HIL := Lib.hid hlt
      have r1 : (i : Int) < (N : Int) := by omega
      have r0 : (0 : Int) ≤ (i : Int) := by omega
      obtain ⟨L0, hL0⟩ : ∃ L0, b.next = L0 := ⟨_, rfl⟩
      rw [hL0] at HNV m2 HBN HNW0
      have HNW := HNW0
      have HNL : Hid (L0.length ≤ 2) := by rw [← HBN.out]; exact Lib.hid (HN2.out i)
      obtain ⟨m, hm⟩ : ∃ m, L0.length = m := ⟨_, rfl⟩
      rw [hm] at m2 HNL
      have HM := Lib.hid hm
      have hm2 : m ≤ 2 := HNL.out
      have HUL := Lib.hid (waysUp_len HN2.out (d := d) i)
      obtain ⟨U, hU⟩ : ∃ U, waysUp bs d i = U := ⟨_, rfl⟩
      have HSU : Hid (waysUp bs d (i + 1) = U ++ rowW bs d i L0) := by rw [waysUp_succ, hU, HBN.out]; exact Lib.hid rfl
      rw [hU] at HG HUL ⊢
      obtain ⟨q, hq⟩ : ∃ q, U.length = q := ⟨_, rfl⟩
      rw [hq] at HG HUL ⊢
      have HQ := Lib.hid hq
      clear hb hL0 hm m3 m3' m2' hU hq hlt HNW0
      go_wp2_with fail
      have HF1 : Hid (Fr No wr (wr.alloc (.cells #[.int .i64 (b.fr : Int), .int .i64 (b.to : Int), .slice an m cn] 48))) := (Fr.refl _ _).alloc _
      have HG1 : Hid (Gath w 45 2 q (pflat U) (.slice va q vc) (wr.alloc (.cells #[.int .i64 (b.fr : Int), .int .i64 (b.to : Int), .slice an m cn] 48))) := HG.out.to HF1.out
      have HNV1 : Hid (NatsAt (wr.alloc (.cells #[.int .i64 (b.fr : Int), .int .i64 (b.to : Int), .slice an m cn] 48)) (.slice an L0.length cn) L0) := HNV.out.fr HF1.out
      generalize wr.alloc (.cells #[.int .i64 (b.fr : Int), .int .i64 (b.to : Int), .slice an m cn] 48) = W1 at *
      clear HNV HF1 HG
      go_loopw [4, 20] (fun v ix wr => ∃ k : Nat, ix = .int .i64 k ∧ k ≤ m ∧ Hid (Gath w 45 2 (U ++ rowW bs d i (L0.take k)).length (pflat (U ++ rowW bs d i (L0.take k))) v wr)) (fun _ ix _ => m - (intOf ix).toNat)
      case atStart => exact ⟨0, rfl, Nat.zero_le _, by have h := HG1.out; simp only [List.take_zero]; unfold rowW; simp only [List.filter_nil, List.map_nil, List.append_nil]; rw [HQ.out]; exact Lib.hid h⟩
      case round =>
        obtain ⟨k, rfl, hk, HG2⟩ := hrel
        obtain ⟨va2, vc2, rfl⟩ := ownsRow_any HG2.out.own
        by_cases hlt2 : k < m
        · obtain ⟨x, hx⟩ : ∃ x, L0[k]? = some x := ⟨L0[k]'(by rw [HM.out]; exact hlt2), List.getElem?_eq_getElem _⟩
          have HX := Lib.hid hx
          have hnat := HNW.out
          rcases hnat with ⟨h1, _⟩ | ⟨g2, c2, h2, hc2⟩
          · rw [h1] at hx; simp at hx
          injection h2 with h2 _ h4
          subst h2 h4
          have k0 : wr.cell? ⟨g2, k, none⟩ = some (.int .i64 (x : Int)) := HG2.out.fr.cell (i64_cell hc2 hx) id
          have HTK : Hid (L0.take (k + 1) = L0.take k ++ [x]) := by rw [List.take_add_one, hx]; exact Lib.hid rfl
          have HXL : Hid (x < N) := by have h := HNX.out i x (by rw [HBN.out]; exact List.mem_of_getElem? hx); rw [HN.out] at h; exact h
          have HUB : Hid ((U ++ rowW bs d i (L0.take k)).length ≤ 3000) := by
            have h1 := rowW_len bs d i (L0.take k)
            have h2 := HUL.out
            have h3 := HLEN.out
            have h4 := HNL.out
            have h5 := HIL.out
            rw [List.length_take] at h1
            rw [List.length_append, HQ.out]
            exact Lib.hid (by rw [HM.out] at h1; omega)
          obtain ⟨X, hX⟩ : ∃ X, U ++ rowW bs d i (L0.take k) = X := ⟨_, rfl⟩
          have HY : Hid (Up d x i → U ++ rowW bs d i (L0.take (k + 1)) = X ++ [(i, x)]) := fun h => by rw [HTK.out, rowW_yes h, ← List.append_assoc, hX]
          have HNO : Hid (¬ Up d x i → U ++ rowW bs d i (L0.take (k + 1)) = X) := fun h => by rw [HTK.out, rowW_no h, hX]
          rw [hX] at HG2 HUB ⊢
          obtain ⟨qx, hqx⟩ : ∃ qx, X.length = qx := ⟨_, rfl⟩
          have HQX := Lib.hid hqx
          rw [hqx] at HG2 HUB ⊢
          have HK2 := Lib.hid hlt2
          clear hx hc2 hX hqx hlt2
          go_wp2_with fail
          clear k0
          go_loopw [9] (fun av wr => ∃ a : Int, av = .int .i64 a ∧ ((∃ y : Nat, a = (y : Int) ∧ y < N ∧ Hid (Up d x i ↔ Up d x y)) ∨ (a = -1 ∧ Hid (¬ Up d x i))) ∧ Hid (Gath w 45 2 qx (pflat X) (.slice va2 qx vc2) wr)) (fun av _ => climbMu pl (intOf av))
          case atStart => exact ⟨(i : Int), rfl, .inl ⟨i, rfl, HIL.out, Iff.rfl⟩, HG2.out⟩
          case round =>
            obtain ⟨a, rfl, ha, HG3⟩ := hrel
            rcases ha with ⟨y, rfl, hy, HUY⟩ | ⟨rfl, HNU⟩
            · have HD2 := (HD.out.fr HG3.out.fr) y hy
              have d0 := HD2.1
              have s1 : (y : Int) < (N : Int) := by omega
              have s0 : (0 : Int) ≤ (y : Int) := by omega
              by_cases hyx : y = x
              · subst hyx
                have HYES : Hid (U ++ rowW bs d i (L0.take (k + 1)) = X ++ [(i, y)]) := HY.out (HUY.out.2 (.inl rfl))
                have hqb : qx ≤ 3000 := HUB.out
                clear HD2 d0 HY HNO
                go_wp2_with (at_builtin; refine wpList_append_src rfl _ _ 34 rfl w.heap.size 45 j0 _ 2 16 Tryz.underlying34 hj0 jz0 jz1 jz2 rfl (by decide) (.slice va2 qx vc2) qx (pflat X) rfl (HG3.out.to ((Fr.refl _ _).alloc _)).own _ 1 [.int .i64 (i : Int), .int .i64 (y : Int)] rfl (src_new _ [.int .i64 (i : Int), .int .i64 (y : Int)] 45) rfl (by simp [Value.oneCell']) (by unfold maxLen; omega) (by omega) (HG3.out.to ((Fr.refl _ _).alloc _)).fr.size ?_; intro v4 w4 own4 fr4; have HG4 := Lib.hid ((HG3.out.to ((Fr.refl _ _).alloc _)).step own4 fr4); clear own4 fr4)
                go_roundw
                case rel => exact ⟨k + 1, by go_num, by have := HK2.out; omega, by rw [HYES.out, List.length_append, HQX.out, pflat_snoc]; exact HG4⟩
                case measure => (have := HK2.out; simp [intOf] <;> omega)
              · have q1 : ((y : Int) != (x : Int)) = true := by rw [bne_iff_ne]; omega
                rcases HW.out.low y (by rw [HN.out]; exact hy) with h1 | ⟨z, hz, hzN, hzp⟩
                · rw [h1] at d0
                  have HST : Hid (¬ Up d x i) := fun h => Up.stop (n := x) (a := y) (fun e => hyx e.symm) (by rw [h1]; decide) (HUY.out.1 h)
                  clear h1 hyx HD2
                  go_wp2_with fail
                  go_roundw
                  case rel => exact ⟨-1, rfl, .inr ⟨rfl, HST⟩, HG3.out⟩
                  case measure => (simp [intOf, climbMu_neg, climbMu_nat])
                · rw [hz] at d0
                  have HST : Hid (Up d x i ↔ Up d x z) := HUY.out.trans (Up.step (fun e => hyx e.symm) hz)
                  have HZN : Hid (z < N) := by rw [← HN.out]; exact hzN
                  have HZP := Lib.hid hzp
                  clear hz hyx HD2 hzN hzp
                  go_wp2_with fail
                  go_roundw
                  case rel => exact ⟨(z : Int), rfl, .inl ⟨z, rfl, HZN.out, HST⟩, HG3.out⟩
                  case measure => (have := HZP.out; simp [intOf, climbMu_neg, climbMu_nat]; omega)
            · have HNE : Hid (U ++ rowW bs d i (L0.take (k + 1)) = X) := HNO.out HNU.out
              have q1 : ((-1 : Int) == (x : Int)) = false := by rw [beq_eq_false_iff_ne]; omega
              clear HY HNO
              go_wp2_with fail
              go_roundw
              case rel => exact ⟨k + 1, by go_num, by have := HK2.out; omega, by rw [HNE.out, HQX.out]; exact HG3⟩
              case measure => (have := HK2.out; simp [intOf] <;> omega)
        · obtain rfl : k = m := by omega
          have e1 : L0.take k = L0 := by rw [← HM.out]; exact List.take_length
          have HEND : Hid (Gath w 45 2 (waysUp bs d (i + 1)).length (pflat (waysUp bs d (i + 1))) (.slice va2 (U ++ rowW bs d i (L0.take k)).length vc2) wr) := by rw [HSU.out]; have h := HG2.out; rw [e1] at h ⊢; exact Lib.hid h
          have hib : i < N := HIL.out
          clear e1 hlt2
          go_wp2_with fail
          go_roundw
          case rel => exact ⟨i + 1, by go_num, by omega, HEND⟩
          case measure => simp [intOf] <;> omega
    · obtain rfl : i = N := by omega
      go_wp2_with fail
      go_ret
      exact ⟨_, rfl, HG.out⟩
end Go.Proofs.YtakcdecljfmckaaGreatDoor

namespace Go.Proofs.YtakcdecljfmckaaGreatDoor
open Go.RowKit

open Classical in
noncomputable def ancN (d : Nat → Int) (N v : Nat) : Nat := ((List.range N).map fun x => if Anc d x v then 1 else 0).sum
theorem Doms.wn {bs : List Blk} {d : Nat → Int} (h : Doms (nxM bs) bs.length d) : WN bs d (ancN d bs.length) := by
  refine ⟨fun v hv => ?_⟩
  by_cases h0 : v = 0
  · left; rw [h0]; exact h.root
  · right
    obtain ⟨y, h1, h2, h3⟩ := h.up v hv h0
    refine ⟨y, h1, h2, ?_⟩
    unfold ancN
    refine sum_lt _ (List.mem_range.2 h2) (fun x _ => ?_) ?_
    · by_cases ha : Anc d x y
      · rw [if_pos ha, if_pos (.more h1 ha)]; exact Nat.le_refl _
      · rw [if_neg ha]; exact Nat.zero_le _
    · rw [if_neg (fun ha => (h.cut y y h2 ha).2.1 rfl), if_pos (.one h1)]
      exact Nat.one_pos
/-- what is told of the blocks' graph -/
structure Graph (bs : List Blk) : Prop where
  pos : 0 < bs.length
  len : bs.length ≤ 1000
  nx : ∀ k n, n ∈ nxM bs k → n < bs.length
  n2 : ∀ k, (nxM bs k).length ≤ 2
  all : ∀ v, v < bs.length → LedTo (nxM bs) (fun _ => False) v
theorem Whole.graph {l : List Ins} {maps : Int} (h : Whole l maps) : Graph (blocksM l) := by
  have h2 := cutM_len (l := l) (F := frontB l) (starts l)
  have h3 : (starts l).length ≤ l.length := firstsM_len
  have h4 := h.most
  have h5 : (cutsM l).length ≤ (starts l).length := h2
  refine ⟨?_, by rw [blocksM_len]; omega, fun k n hn => h.nx_lt hn, fun k => ?_, fun v hv => h.reach hv⟩
  · rw [blocksM_len]
    rcases Nat.eq_zero_or_pos (cutsM l).length with e | e
    · exfalso
      have h7 := h.cut.none (List.eq_nil_of_length_eq_zero e)
      have h8 := starts_zero h.pos
      rw [h7] at h8
      simp at h8
    · exact e
  · cases hk : (cutsM l)[k]? with
    | none =>
      unfold nxM blocksM
      rw [List.getD_eq_getElem?_getD, List.getElem?_map, hk]
      simp
    | some c =>
      rw [nxM_get hk]
      exact Nat.le_trans (nextsM_len _ _ _) (nextM_len _ _)
theorem near_of (bs : List Blk) (bv : Value) (w : World) (hv : BlksAt w bv bs) (g : Graph bs) : Calls Tryz.prog 30 #[bv] w (NearTo bs w) := near_any bs bv w hv g.pos g.len g.nx g.n2 g.all
theorem ways_of (bs : List Blk) (bv : Value) (d : Nat → Int) (gd cd : Nat) (w : World) (hv : BlksAt w bv bs) (g : Graph bs) (hd : ZF w gd bs.length d) (hm : Doms (nxM bs) bs.length d) :
    Calls Tryz.prog 31 #[bv, .slice (some ⟨gd, 0, none⟩) bs.length cd] w fun e w' => ∃ v, e = .returned v ∧ Gath w 45 2 (waysM bs d).length (pflat (waysM bs d)) v w' :=
  ways_any bs bv d _ gd cd w hv hd g.len g.nx g.n2 hm.wn
theorem BlksAt.form {w : World} {v : Value} {bs : List Blk} (h : BlksAt w v bs) : ∃ g c, v = .slice (some ⟨g, 0, none⟩) bs.length c := by
  obtain ⟨g, c, h1, -⟩ := h
  exact ⟨g, c, h1⟩
/-- what Doms tells -/
def DomsTo (l : List Ins) (maps : Int) (w : World) (e : Ending) (w' : World) : Prop :=
  ((checkM l maps false).2 ≠ 0 ∧ e = .returned (.tuple #[.slice none 0 0, .int .i64 (checkM l maps false).2]) ∧ Fr No w w') ∨
  ((checkM l maps false).2 = 0 ∧ ∃ (d : Nat → Int) (g cap : Nat), e = .returned (.tuple #[.slice (some ⟨g, 0, none⟩) (blocksM l).length cap, .int .i64 0]) ∧ Doms (nxM (blocksM l)) (blocksM l).length d ∧ ZF w' g (blocksM l).length d ∧ Fr No w w')
/-- what Loops tells -/
def LoopsTo (l : List Ins) (maps : Int) (w : World) (e : Ending) (w' : World) : Prop :=
  ((checkM l maps false).2 ≠ 0 ∧ e = .returned (.tuple #[.slice none 0 0, .int .i64 (checkM l maps false).2]) ∧ Fr No w w') ∨
  ((checkM l maps false).2 = 0 ∧ ∃ (d : Nat → Int) (v : Value), e = .returned (.tuple #[v, .int .i64 0]) ∧ Doms (nxM (blocksM l)) (blocksM l).length d ∧ (∃ g cap, v = .slice g (waysM (blocksM l) d).length cap) ∧ (∀ base, base ≤ w.heap.size → w'.ownsRow base 45 2 v (waysM (blocksM l) d).length (pflat (waysM (blocksM l) d))) ∧ Fr No w w')
theorem ownsRow_lower {w : World} {base base' size n : Nat} {e : TypeId} {v : Value} {xs : List Value} (h : w.ownsRow base e size v n xs) (hb : base' ≤ base) : w.ownsRow base' e size v n xs := by
  refine ⟨h.1, ?_⟩
  rcases h.2 with h2 | ⟨g, cap, cur, hv, h3, h4⟩
  · exact .inl h2
  · exact .inr ⟨g, cap, cur, hv, Nat.le_trans hb h3, h4⟩

set_option maxRecDepth 100000 in
set_option maxHeartbeats 1000000 in
theorem doms_any (l : List Ins) (v : Value) (maps : Int) (w : World) (hv : InsAt w v l) (hok : ∀ i ∈ l, i.ok) (hl : l.length ≤ 100000) : Calls Tryz.prog 9 #[v, .int .i64 maps] w (DomsTo l maps w) := by
  have HB := Lib.hid (blocks_any l v maps w hv hok hl)
  obtain ⟨a0, c0, rfl⟩ := hv.form
  unfold DomsTo
  unfold BlocksTo at HB
  obtain ⟨q2, hq2⟩ : ∃ q, (checkM l maps false).2 = q := ⟨_, rfl⟩
  rw [hq2] at HB ⊢
  by_cases hz : q2 = 0
  · subst hz
    have HG : Hid (Graph (blocksM l)) := (whole hq2).graph
    have HB1 : Hid (Calls Tryz.prog 7 #[.slice a0 l.length c0, .int .i64 maps] w fun e w' => ∃ g c, e = .returned (.tuple #[.slice (some ⟨g, 0, none⟩) (blocksM l).length c, .int .i64 0]) ∧ BlksAt w' (.slice (some ⟨g, 0, none⟩) (blocksM l).length c) (blocksM l) ∧ Fr No w w') := (HB.out).mono fun e w' h => by
      rcases h with ⟨h1, -⟩ | ⟨-, bv, h2, h3, h4⟩
      · exact absurd rfl h1
      · obtain ⟨g, c, rfl⟩ := h3.form
        exact ⟨g, c, h2, h3, h4⟩
    generalize blocksM l = bs at *
    obtain ⟨N, hN⟩ : ∃ N, bs.length = N := ⟨_, rfl⟩
    have HN := Lib.hid hN
    have HNR : Hid (∀ g c W, BlksAt W (.slice (some ⟨g, 0, none⟩) N c) bs → Calls Tryz.prog 30 #[.slice (some ⟨g, 0, none⟩) N c] W fun e w' => ∃ (d : Nat → Int) (g cap : Nat), e = .returned (.slice (some ⟨g, 0, none⟩) N cap) ∧ Doms (nxM bs) N d ∧ ZF w' g N d ∧ Fr No W w') := fun g c W h => by
      have h2 := near_of bs _ W h HG.out
      unfold NearTo at h2
      rw [hN] at h2
      exact h2
    rw [hN] at HB1 ⊢
    clear HB hv hok hl hq2 hN
    go_enter Tryz.func9, Tryz.ntmps9
    go_wp2_with (first
      | (go_at_call 7; (with_reducible refine (HB1.out).mono ?_); rintro e w1 ⟨g1, c1, rfl, hb1, hf1⟩)
      | (go_at_call 30; (with_reducible refine (HNR.out _ _ _ hb1).mono ?_); rintro e w2 ⟨d, gd, cd, rfl, hd1, hd2, hf2⟩))
    go_ret2
    exact .inr ⟨by first | rfl | trivial, d, gd, cd, rfl, hd1, hd2, hf1.trans hf2⟩
  · have HZ := Lib.hid hz
    have e1 : (q2 != 0) = true := by simpa using hz
    have HB1 : Hid (Calls Tryz.prog 7 #[.slice a0 l.length c0, .int .i64 maps] w fun e w' => e = .returned (.tuple #[.slice none 0 0, .int .i64 q2]) ∧ Fr No w w') := (HB.out).mono fun e w' h => by
      rcases h with ⟨-, h2⟩ | ⟨h1, -⟩
      · exact h2
      · exact absurd h1 hz
    clear HB hv hok hl hq2 hz
    go_enter Tryz.func9, Tryz.ntmps9
    go_wp2_with (go_at_call 7; (with_reducible refine (HB1.out).mono ?_); rintro e w1 ⟨rfl, hf1⟩)
    go_ret2
    exact .inl ⟨HZ.out, rfl, hf1⟩

set_option maxRecDepth 100000 in
set_option maxHeartbeats 1000000 in
theorem loops_any (l : List Ins) (v : Value) (maps : Int) (w : World) (hv : InsAt w v l) (hok : ∀ i ∈ l, i.ok) (hl : l.length ≤ 100000) : Calls Tryz.prog 10 #[v, .int .i64 maps] w (LoopsTo l maps w) := by
  have HB := Lib.hid (blocks_any l v maps w hv hok hl)
  obtain ⟨a0, c0, rfl⟩ := hv.form
  unfold LoopsTo
  unfold BlocksTo at HB
  obtain ⟨q2, hq2⟩ : ∃ q, (checkM l maps false).2 = q := ⟨_, rfl⟩
  rw [hq2] at HB ⊢
  by_cases hz : q2 = 0
  · subst hz
    have HG : Hid (Graph (blocksM l)) := (whole hq2).graph
    have HB1 : Hid (Calls Tryz.prog 7 #[.slice a0 l.length c0, .int .i64 maps] w fun e w' => ∃ g c, e = .returned (.tuple #[.slice (some ⟨g, 0, none⟩) (blocksM l).length c, .int .i64 0]) ∧ BlksAt w' (.slice (some ⟨g, 0, none⟩) (blocksM l).length c) (blocksM l) ∧ Fr No w w') := (HB.out).mono fun e w' h => by
      rcases h with ⟨h1, -⟩ | ⟨-, bv, h2, h3, h4⟩
      · exact absurd rfl h1
      · obtain ⟨g, c, rfl⟩ := h3.form
        exact ⟨g, c, h2, h3, h4⟩
    generalize blocksM l = bs at *
    obtain ⟨N, hN⟩ : ∃ N, bs.length = N := ⟨_, rfl⟩
    have HN := Lib.hid hN
    have HNR : Hid (∀ g c W, BlksAt W (.slice (some ⟨g, 0, none⟩) N c) bs → Calls Tryz.prog 30 #[.slice (some ⟨g, 0, none⟩) N c] W fun e w' => ∃ (d : Nat → Int) (g cap : Nat), e = .returned (.slice (some ⟨g, 0, none⟩) N cap) ∧ Doms (nxM bs) N d ∧ ZF w' g N d ∧ Fr No W w') := fun g c W h => by
      have h2 := near_of bs _ W h HG.out
      unfold NearTo at h2
      rw [hN] at h2
      exact h2
    have HWY : Hid (∀ g c gd cd d W, BlksAt W (.slice (some ⟨g, 0, none⟩) N c) bs → ZF W gd N d → Doms (nxM bs) N d → Calls Tryz.prog 31 #[.slice (some ⟨g, 0, none⟩) N c, .slice (some ⟨gd, 0, none⟩) N cd] W fun e w' => ∃ a c, e = .returned (.slice a (waysM bs d).length c) ∧ w'.ownsRow W.heap.size 45 2 (.slice a (waysM bs d).length c) (waysM bs d).length (pflat (waysM bs d)) ∧ Fr No W w') := fun g c gd cd d W h1 h2 h3 => by
      rw [← hN] at h2 h3
      have h4 := ways_of bs _ d gd cd W h1 HG.out h2 h3
      rw [hN] at h4
      refine h4.mono fun e w' h => ?_
      obtain ⟨v, h5, h6⟩ := h
      obtain ⟨a, c, rfl⟩ := ownsRow_any h6.own
      exact ⟨a, c, h5, h6.own, h6.fr⟩
    rw [hN] at HB1 ⊢
    clear HB hv hok hl hq2 hN
    go_enter Tryz.func10, Tryz.ntmps10
    go_wp2_with (first
      | (go_at_call 7; (with_reducible refine (HB1.out).mono ?_); rintro e w1 ⟨g1, c1, rfl, hb1, hf1⟩)
      | (go_at_call 30; (with_reducible refine (HNR.out _ _ _ hb1).mono ?_); rintro e w2 ⟨d, gd, cd, rfl, hd1, hd2, hf2⟩)
      | (go_at_call 31; (with_reducible refine (HWY.out _ _ _ _ d _ (hb1.fr hf2) hd2 hd1).mono ?_); rintro e w3 ⟨a3, c3, rfl, ho3, hf3⟩))
    go_ret2
    exact .inr ⟨by first | rfl | trivial, d, _, rfl, hd1, ⟨_, _, rfl⟩, fun base hb => ownsRow_lower ho3 (Nat.le_trans hb (hf1.trans hf2).size), (hf1.trans hf2).trans hf3⟩
  · have HZ := Lib.hid hz
    have e1 : (q2 != 0) = true := by simpa using hz
    have HB1 : Hid (Calls Tryz.prog 7 #[.slice a0 l.length c0, .int .i64 maps] w fun e w' => e = .returned (.tuple #[.slice none 0 0, .int .i64 q2]) ∧ Fr No w w') := (HB.out).mono fun e w' h => by
      rcases h with ⟨-, h2⟩ | ⟨h1, -⟩
      · exact h2
      · exact absurd h1 hz
    clear HB hv hok hl hq2 hz
    go_enter Tryz.func10, Tryz.ntmps10
    go_wp2_with (go_at_call 7; (with_reducible refine (HB1.out).mono ?_); rintro e w1 ⟨rfl, hf1⟩)
    go_ret2
    exact .inl ⟨HZ.out, rfl, hf1⟩
end Go.Proofs.YtakcdecljfmckaaGreatDoor

namespace Go.Proofs.YtakcdecljfmckaaGreatDoor
open Go.RowKit

theorem nextM_low {l : List Ins} {u v : Nat} (h : v ∈ nextM l u) : v < l.length := by
  unfold nextM at h
  simp only at h
  split at h
  · simp at h
  · rcases List.mem_append.1 h with h | h
    · split at h
      · rename_i hc
        rw [List.mem_singleton.1 h]
        exact hc.2
      · simp at h
    · split at h
      · rename_i hc
        rw [List.mem_singleton.1 h]
        omega
      · simp at h
/-- what a search leaves: what it marks leads to what is marked -/
structure Vis (l : List Ins) (s s' : List Bool) : Prop where
  mono : ∀ p, seenP s p → seenP s' p
  next : ∀ u, seenP s' u → ¬ seenP s u → ∀ v ∈ nextM l u, seenP s' v
theorem Vis.refl (l : List Ins) (s : List Bool) : Vis l s s := ⟨fun _ h => h, fun _ h1 h2 => absurd h1 h2⟩
theorem Vis.trans {l : List Ins} {s t u : List Bool} (h1 : Vis l s t) (h2 : Vis l t u) : Vis l s u := by
  refine ⟨fun p hp => h2.mono p (h1.mono p hp), fun k hk hn v hv => ?_⟩
  by_cases e : seenP t k
  · exact h2.mono v (h1.next k e hn v hv)
  · exact h2.next k hk e v hv
theorem visitM_vis {l : List Ins} : ∀ {fuel : Nat} {s : List Bool} {pc : Nat}, s.length = l.length → pc < l.length → unseen s < fuel → Vis l s (visitM l fuel s pc) ∧ seenP (visitM l fuel s pc) pc
  | 0, _, _, _, _, h => absurd h (by omega)
  | fuel + 1, s, pc, hl, hp, hf => by
    rw [visitM]
    split
    · rename_i h
      exact ⟨Vis.refl _ _, (seen_get (by omega)).1 h⟩
    · rename_i h
      have h0 : s[pc]? = some false := seen_not (by omega) (by simpa using h)
      have hu := unseen_set s pc h0
      have key : ∀ (L : List Nat) (t : List Bool), (∀ v ∈ L, v < l.length) → t.length = l.length → unseen t < fuel → Vis l t (L.foldl (visitM l fuel) t) ∧ ∀ v ∈ L, seenP (L.foldl (visitM l fuel) t) v := by
        intro L
        induction L with
        | nil => intro t _ _ _; exact ⟨Vis.refl _ _, by simp⟩
        | cons v L ih =>
          intro t hL ht hf
          rw [List.foldl_cons]
          have h1 := visitM_vis (l := l) (fuel := fuel) ht (hL v List.mem_cons_self) hf
          have h2 := ih (visitM l fuel t v) (fun v hv => hL v (List.mem_cons_of_mem _ hv)) (by rw [visitM_len]; exact ht) (Nat.lt_of_le_of_lt visitM_unseen hf)
          refine ⟨h1.1.trans h2.1, fun w hw => ?_⟩
          rcases List.mem_cons.1 hw with rfl | hw
          · exact h2.1.mono _ h1.2
          · exact h2.2 w hw
      obtain ⟨k1, k2⟩ := key (nextM l pc) (s.set pc true) (fun v hv => nextM_low hv) (by rw [List.length_set]; exact hl) (by omega)
      have hps : seenP (s.set pc true) pc := (seenP_set (by omega)).2 (.inr rfl)
      refine ⟨⟨fun p hp2 => k1.mono p ((seenP_set (by omega)).2 (.inl hp2)), fun u h1 h2 v hv => ?_⟩, k1.mono _ hps⟩
      by_cases e : u = pc
      · subst e; exact k2 v hv
      · refine k1.next u h1 (fun h3 => ?_) v hv
        rcases (seenP_set (by omega)).1 h3 with h4 | h4
        · exact h2 h4
        · exact e h4
theorem seenP_none (n p : Nat) : ¬ seenP (List.replicate n false) p := fun h => by
  unfold seenP at h
  rw [List.getElem?_replicate] at h
  split at h <;> simp at h
theorem seenM_all {l : List Ins} (hpos : 0 < l.length) {p : Nat} (h : SlotLed l p) : seenP (seenM l) p := by
  have hv := visitM_vis (l := l) (fuel := l.length + 1) (s := List.replicate l.length false) (pc := 0) (by simp) hpos (by unfold unseen; rw [List.countP_replicate]; simp)
  induction h with
  | zero => exact hv.2
  | step _ hn ih => exact hv.1.next _ ih (seenP_none _ _) _ hn
theorem seenM_iff {l : List Ins} {p : Nat} (hp : p < l.length) : (seenM l).getD p true = true ↔ SlotLed l p := by
  refine ⟨seenM_led hp, fun h => (seen_get ?_).2 (seenM_all (by omega) h)⟩
  unfold seenM
  rw [visitM_len, List.length_replicate]
  exact hp
/-- what the document's Check marks, midway: `old` was marked when the turn began, `more` tells whether that changed -/
structure Marks (l : List Ins) (old : List Bool) (s : List Bool) (more : Bool) (pc : Nat) : Prop where
  len : s.length = l.length
  led : ∀ p, seenP s p → SlotLed l p
  zero : seenP s 0
  same : more = false → s = old ∧ ∀ q, q < pc → seenP s q → ∀ v ∈ nextM l q, seenP s v
  fewer : more = true → unseen s < unseen old
theorem Marks.turn {l : List Ins} {old s : List Bool} {more : Bool} {pc : Nat} (h : Marks l old s more pc) : Marks l s s false 0 :=
  ⟨h.len, h.led, h.zero, fun _ => ⟨rfl, fun q hq => absurd hq (Nat.not_lt_zero _)⟩, fun h => by cases h⟩
theorem Marks.end {l : List Ins} {old s : List Bool} (h : Marks l old s false l.length) {p : Nat} : seenP s p ↔ SlotLed l p := by
  refine ⟨h.led p, fun hs => ?_⟩
  obtain ⟨-, hc⟩ := h.same rfl
  induction hs with
  | zero => exact h.zero
  | @step u v hu hv ih =>
    refine hc u ?_ ih v hv
    unfold nextM at hv
    simp only at hv
    split at hv
    · simp at hv
    · rename_i h2; exact Nat.not_le.1 fun h3 => h2 (.inl h3)
/-- a slot's next ones, midway -/
structure Marking (l : List Ins) (old : List Bool) (s : List Bool) (more : Bool) (pc k : Nat) : Prop where
  len : s.length = l.length
  led : ∀ p, seenP s p → SlotLed l p
  zero : seenP s 0
  same : more = false → s = old ∧ (∀ q, q < pc → seenP s q → ∀ v ∈ nextM l q, seenP s v) ∧ (∀ j v, j < k → (nextM l pc)[j]? = some v → seenP s pc → seenP s v)
  fewer : more = true → unseen s < unseen old
theorem Marks.go {l : List Ins} {old s : List Bool} {more : Bool} {pc : Nat} (h : Marks l old s more pc) : Marking l old s more pc 0 :=
  ⟨h.len, h.led, h.zero, fun e => ⟨(h.same e).1, (h.same e).2, fun j v hj => absurd hj (Nat.not_lt_zero _)⟩, h.fewer⟩
theorem Marking.stop {l : List Ins} {old s : List Bool} {more : Bool} {pc k : Nat} (h : Marking l old s more pc k) (hk : (nextM l pc).length ≤ k ∨ ¬ seenP s pc) : Marks l old s more (pc + 1) := by
  refine ⟨h.len, h.led, h.zero, fun e => ⟨(h.same e).1, fun q hq hs v hv => ?_⟩, h.fewer⟩
  obtain ⟨-, h2, h3⟩ := h.same e
  by_cases e2 : q = pc
  · subst e2
    rcases hk with hk | hk
    · obtain ⟨j, hj, rfl⟩ := List.getElem_of_mem hv
      exact h3 j _ (by omega) (List.getElem?_eq_getElem hj) hs
    · exact absurd hs hk
  · exact h2 q (by omega) hs v hv
theorem Marking.mark {l : List Ins} {old s : List Bool} {more : Bool} {pc k v : Nat} (h : Marking l old s more pc k) (hs : seenP s pc) (hv : (nextM l pc)[k]? = some v) : Marking l old (s.set v true) (more || !s.getD v true) pc (k + 1) := by
  have hm := List.mem_of_getElem? hv
  have hlt : v < s.length := by rw [h.len]; exact nextM_low hm
  refine ⟨by rw [List.length_set]; exact h.len, fun p hp => ?_, (seenP_set hlt).2 (.inl h.zero), fun e => ?_, fun e => ?_⟩
  · rcases (seenP_set hlt).1 hp with h1 | rfl
    · exact h.led p h1
    · exact (h.led pc hs).step hm
  · obtain ⟨e1, e2⟩ := Bool.or_eq_false_iff.1 e
    have hsv : s.getD v true = true := by simpa using e2
    have hsame : s.set v true = s := by
      have h1 := (seen_get hlt).1 hsv
      unfold seenP at h1
      obtain ⟨h2, h3⟩ := List.getElem?_eq_some_iff.1 h1
      rw [← h3]
      exact List.set_getElem_self h2
    rw [hsame]
    obtain ⟨h1, h2, h3⟩ := h.same e1
    refine ⟨h1, h2, fun j x hj hx hp => ?_⟩
    by_cases e3 : j = k
    · subst e3
      rw [hv] at hx
      obtain rfl := Option.some.inj hx
      exact (seen_get hlt).1 hsv
    · exact h3 j x (by omega) hx hp
  · cases hmo : more with
    | true =>
      have := h.fewer hmo
      have := unseen_set_le s v
      omega
    | false =>
      rw [hmo] at e
      have e2 : s.getD v true = false := by simpa using e
      have := unseen_set s v (seen_not hlt e2)
      rw [(h.same hmo).1] at this ⊢
      omega
theorem Marks.start {l : List Ins} (hpos : 0 < l.length) : Marks l ((List.replicate l.length false).set 0 true) ((List.replicate l.length false).set 0 true) false 0 := by
  refine ⟨by simp, fun p hp => ?_, (seenP_set (by simpa using hpos)).2 (.inr rfl), fun _ => ⟨rfl, fun q hq => absurd hq (Nat.not_lt_zero _)⟩, fun h => by cases h⟩
  rcases (seenP_set (by simpa using hpos)).1 hp with h | rfl
  · exact absurd h (seenP_none _ _)
  · exact .zero
end Go.Proofs.YtakcdecljfmckaaGreatDoor
