/- charts.Blocks. charts.order: its search. charts.order: its search, walked. -/
import Derived.Test.YtakcdecljfmckaaGreatDoorCore18
import Derived.Test.YtakcdecljfmckaaGreatDoorCore7
set_option linter.all false
set_option linter.unusedVariables false
set_option linter.unusedSimpArgs false
namespace Go.Proofs.YtakcdecljfmckaaGreatDoor
open Go.RowKit

theorem BI.ready {W2 W W3 : World} {gb i : Nat} {cur : List Nat} {nv : Value} (h : BI W2 W gb i cur) (hc : W.cell? ⟨gb, i * 3 + 2, none⟩ = some nv) (hown : W.ownsRow W2.heap.size 3 1 nv cur.length (i64s cur)) (hgb : gb < W2.heap.size) (hf : Fr (OwnOf nv) W W3) (hz : W2.frozen? ⟨gb, i * 3 + 2, none⟩ = false) :
    W3.cell? ⟨gb, i * 3 + 2, none⟩ = some nv ∧ W3.frozen? ⟨gb, i * 3 + 2, none⟩ = false := by
  have hlt : gb < W.heap.size := World.block_lt_of_cell? W _ hc
  have hn : ¬ OwnOf nv gb := fun hk => by have := OwnOf.ge hown hk; omega
  have hb : W3.heap[gb]? = W.heap[gb]? := hf.block gb hlt hn
  exact ⟨by rw [World.cell?_of_block (w := W) hb]; exact hc, by rw [World.frozen?_of_block (w := W) hb, h.frz]; exact hz⟩
/-- what Blocks tells -/
def BlocksTo (l : List Ins) (maps : Int) (w : World) (e : Ending) (w' : World) : Prop :=
  ((checkM l maps false).2 ≠ 0 ∧ e = .returned (.tuple #[.slice none 0 0, .int .i64 (checkM l maps false).2]) ∧ Fr No w w') ∨
  ((checkM l maps false).2 = 0 ∧ ∃ bv, e = .returned (.tuple #[bv, .int .i64 0]) ∧ BlksAt w' bv (blocksM l) ∧ Fr No w w')

set_option maxRecDepth 100000 in
set_option maxHeartbeats 4000000 in
theorem blocks_any (l : List Ins) (v : Value) (maps : Int) (w : World) (hv : InsAt w v l) (hok : ∀ i ∈ l, i.ok) (hl : l.length ≤ 100000) : Calls Tryz.prog 7 #[v, .int .i64 maps] w (BlocksTo l maps w) := by
  have HCK := Lib.hid (check_any l v maps w hv hok hl)
  obtain ⟨a0, c0, rfl⟩ := hv.form
  unfold BlocksTo
  obtain ⟨q1, hq1⟩ : ∃ q, (checkM l maps false).1 = q := ⟨_, rfl⟩
  obtain ⟨q2, hq2⟩ : ∃ q, (checkM l maps false).2 = q := ⟨_, rfl⟩
  rw [hq1, hq2] at HCK
  rw [hq2]
  by_cases hz : q2 = 0
  case neg =>
    have e1 : (q2 != 0) = true := by simpa using hz
    have HZ := Lib.hid hz
    clear hv hok hl hq1 hq2 hz
    go_enter Tryz.func7, Tryz.ntmps7
    go_wp2_with (go_at_call 22; (with_reducible refine (HCK.out).mono ?_); rintro e w1 ⟨rfl, hf1⟩)
    go_ret2
    exact .inl ⟨HZ.out, rfl, hf1⟩
  subst hz
  have hW : Whole l maps := whole hq2
  have HWH := Lib.hid hW
  have HOK := Lib.hid hok
  have HV := Lib.hid hv
  have HCT : Hid (∀ W, Fr No w W → Calls Tryz.prog 23 #[.slice a0 l.length c0] W (CutTo l W)) := fun W hf => cut_any l _ maps W (hv.fr hf) hok hW
  obtain ⟨n, hn⟩ : ∃ n, l.length = n := ⟨_, rfl⟩
  rw [hn] at HCK HCT HV ⊢
  have HN := Lib.hid hn
  clear hv hok hl hq1 hq2 hW hn
  obtain ⟨j0, hj0, jz0, jz1, jz2⟩ := info_parts Tryz.infoCh_int
  go_enter Tryz.func7, Tryz.ntmps7
  go_upto_region 4 with (go_at_call 22; (with_reducible refine (HCK.out).mono ?_); rintro e w1 ⟨rfl, hf1⟩)
  have HF1 := Lib.hid hf1
  clear hf1 HCK
  obtain ⟨B, hB⟩ : ∃ B, cutsM l = B := ⟨_, rfl⟩
  obtain ⟨K, hK⟩ : ∃ K, B.length = K := ⟨_, rfl⟩
  have HB := Lib.hid hB
  have HK := Lib.hid hK
  have hKpos : 0 < K ∧ K ≤ 1000 := by
    have h1 := HWH.out.cut
    have h2 := cutM_len (l := l) (F := frontB l) (starts l)
    have h3 : (starts l).length ≤ l.length := firstsM_len
    have h4 := HWH.out.most
    have h5 : cutM l (frontB l) (starts l) = B := hB
    rw [h5, hK] at h2
    refine ⟨?_, by omega⟩
    rcases Nat.eq_zero_or_pos K with h | h
    · exfalso
      have h6 : cutsM l = [] := by rw [hB]; exact List.eq_nil_of_length_eq_zero (by rw [hK]; exact h)
      have h7 := h1.none h6
      have h8 := starts_zero HWH.out.pos
      rw [h7] at h8
      simp at h8
    · exact h
  have HKP := Lib.hid hKpos
  clear hB hK hKpos
  go_upto_region 5 with (go_at_call 23; (with_reducible refine (HCT.out _ HF1.out).mono ?_); rintro e W1 ⟨v1, v2, base, rfl, hbase, duo, hf2⟩; rw [HB.out, HK.out] at duo; obtain ⟨gb, cb, rfl⟩ := ownsRow_form duo.o1 HKP.out.1; obtain ⟨gl, cl, rfl⟩ := ownsRow_form duo.o2 HKP.out.1; have HD := Lib.hid duo; have HF2 := Lib.hid (HF1.out.trans hf2); have HBS := Lib.hid (Nat.le_trans HF1.out.size hbase); clear duo hf2 hbase)
  have HGB : Hid (gb < W1.heap.size ∧ w.heap.size ≤ gb) := by have h := ownsRow_cells HD.out.o1; exact ⟨h.2.2.1, Nat.le_trans HBS.out h.2.1⟩
  have HGL : Hid (CellsAt W1 gl 0 (i64s (B.map Cb.la)) ∧ gl ≠ gb) := ⟨(ownsRow_cells HD.out.o2).1, fun e => HD.out.ap gb rfl (by rw [← e]; rfl)⟩
  have HBO : Hid (BO l W1 gb B 0) := BO.start HD.out.o1
  have HOWN : Hid (∀ W W', Fr No w W → Fr (Isb gb) W W' → Fr No w W') := fun W W' h1 h2 => ((h1.any.trans (h2.mono fun k _ hk => by rw [show k = gb from hk]; exact HGB.out.2)) : Fr (From w) w W').ours
  clear HD HBS HF1 HCT
  have hk1 : 0 < K := HKP.out.1
  have hk2 : K ≤ 1000 := HKP.out.2
  go_wp2_with fail
  go_loopw [31] (fun ix wr => ∃ i : Nat, ix = .int .i64 i ∧ i ≤ K ∧ Hid (BO l wr gb B i) ∧ Hid (Fr (Isb gb) W1 wr)) (fun ix _ => K - (intOf ix).toNat)
  case atStart => exact ⟨0, rfl, Nat.zero_le _, HBO.out, Fr.refl _ _⟩
  case round =>
    obtain ⟨i, rfl, hi, HS, HF⟩ := hrel
    by_cases hlt : i < K
    · obtain ⟨c, hc⟩ : ∃ c, B[i]? = some c := ⟨B[i]'(by rw [HK.out]; exact hlt), List.getElem?_eq_getElem _⟩
      have HC := Lib.hid hc
      have HIB : Hid (i < K) := hlt
      have HLA : Hid (c.la ∈ starts l) := by
        have h1 := HWH.out.cut.la c (by rw [HB.out]; exact List.mem_of_getElem? hc)
        exact h1.2.2.1
      have k0 : wr.cell? ⟨gl, i, none⟩ = some (.int .i64 (c.la : Int)) := HF.out.cell (i64_cell HGL.out.1 (by rw [List.getElem?_map, hc]; rfl)) HGL.out.2
      have HFW : Hid (Fr No w wr) := HOWN.out _ _ HF2.out HF.out
      have HNX : Hid (∀ W, Fr No w W → Calls Tryz.prog 18 #[.slice a0 n c0, .int .i64 (c.la : Int)] W fun e w' => ∃ v', e = .returned v' ∧ NatsAt w' v' (nextM l c.la) ∧ (∀ k, v'.ownBlock = some k → W.heap.size ≤ k) ∧ Fr No W w') := fun W hf => HWH.out.ins_next HLA.out (HV.out.fr hf) HOK.out
      have HLD : Hid (∀ x ∈ nextM l c.la, ∃ m : Nat, atM B (x : Int) = (m : Int)) := fun x hx => by
        obtain ⟨h1, h2⟩ := HWH.out.lead (by rw [HB.out]; exact List.mem_of_getElem? hc) hx
        obtain ⟨m, d, -, -, h3⟩ := HWH.out.block h1 h2
        exact ⟨m, by rw [← HB.out]; exact h3⟩
      have HN2 := Lib.hid (nextM_len l c.la)
      have HNS : Hid (nextsM l B c.la = ((nextM l c.la).map fun z : Nat => (atM B (z : Int)).toNat).foldl addNew []) := Lib.hid rfl
      obtain ⟨L, hL⟩ : ∃ L, nextM l c.la = L := ⟨_, rfl⟩
      rw [hL] at HNX HLD HN2 HNS
      obtain ⟨la, hla⟩ : ∃ la, c.la = la := ⟨_, rfl⟩
      rw [hla] at k0 HNX
      have HLAE := Lib.hid hla
      have p1 : (i : Int) < (K : Int) := by omega
      have p0 : (0 : Int) ≤ (i : Int) := by omega
      clear hL hla hc hlt
      go_wp2_with (go_at_call 18; (with_reducible refine (HNX.out _ HFW.out).mono ?_); rintro e W2 ⟨v', rfl, nat, own, hf2⟩; obtain ⟨a2, q2, rfl⟩ := nat.form; have HNA := Lib.hid nat; have HOW := Lib.hid own; have HF3 := Lib.hid hf2; clear nat own hf2)
      have HB2 : Hid (BO l W2 gb B i) := HS.out.fr HF3.out
      have HG2 : Hid (gb < W2.heap.size) := Nat.lt_of_lt_of_le HGB.out.1 (Nat.le_trans HF.out.size HF3.out.size)
      have HGW : Hid (gb < wr.heap.size) := Nat.lt_of_lt_of_le HGB.out.1 HF.out.size
      have HFW2 : Hid (Fr No w W2) := HFW.out.trans HF3.out
      have HF22 : Hid (Fr (Isb gb) W1 W2) := HF.out.trans HF3.out.any
      have HZ2 : Hid (W2.frozen? ⟨gb, i * 3 + 2, none⟩ = false) := (HB2.out.row i c HC.out).2.2.2
      obtain ⟨m, hm⟩ : ∃ m, L.length = m := ⟨_, rfl⟩
      rw [hm]
      rw [hm] at HN2
      have HM := Lib.hid hm
      have hm2 : m ≤ 2 := HN2.out
      clear hm k0
      go_loopw [40] (fun ix wr => ∃ k : Nat, ix = .int .i64 k ∧ k ≤ m ∧ Hid (BI W2 wr gb i (((L.take k).map fun z : Nat => (atM B (z : Int)).toNat).foldl addNew []))) (fun ix _ => m - (intOf ix).toNat)
      case atStart => exact ⟨0, rfl, Nat.zero_le _, BI.start HB2.out HC.out⟩
      case round =>
        obtain ⟨k, rfl, hk, HI⟩ := hrel
        by_cases hlt : k < m
        · obtain ⟨x, hx⟩ : ∃ x, L[k]? = some x := ⟨L[k]'(by rw [HM.out]; exact hlt), List.getElem?_eq_getElem _⟩
          have HX := Lib.hid hx
          have hnat := HNA.out
          rcases hnat with ⟨h1, _⟩ | ⟨g2, c2, h2, hc2⟩
          · rw [h1] at hx; simp at hx
          injection h2 with h2 _ h4
          subst h2 h4
          have hg2 : ¬ Isb gb g2 := fun e => by have h5 := HOW.out g2 rfl; have h6 := HGW.out; have e : g2 = gb := e; omega
          have k0 := i64_cell (HI.out.fr.cells hc2 hg2) hx
          obtain ⟨nn, hnn⟩ := HLD.out x (List.mem_of_getElem? hx)
          have HNEW := Lib.hid (nexts_take (B := B) hx)
          rw [hnn, Int.toNat_natCast] at HNEW
          have HAT : Hid (∀ W, Fr No wr W → Calls Tryz.prog 13 #[.slice (some ⟨gb, 0, none⟩) K cb, .int .i64 (x : Int)] W fun e w' => e = .returned (.int .i64 (nn : Int)) ∧ Fr No W w') := fun W hf => by
            have h := at_row gb K cb (x : Int) (B.map bare) W (by rw [List.length_map]; exact HK.out) (by have := HKP.out.2; omega) ((HI.out.to hf).row HB2.out).at
            rw [atB_bare, hnn] at h
            exact h
          obtain ⟨cur, hcur⟩ : ∃ cur, ((L.take k).map fun z : Nat => (atM B (z : Int)).toNat).foldl addNew [] = cur := ⟨_, rfl⟩
          rw [hcur] at HI HNEW
          have HCL : Hid (cur.length ≤ 2) := by
            have h1 := foldl_addNew_len (L := (L.take k).map fun z : Nat => (atM B (z : Int)).toNat) (acc := [])
            rw [hcur, List.length_map, List.length_take] at h1
            simp only [List.length_nil, Nat.zero_add] at h1
            exact Lib.hid (by omega)
          clear hx hc2 hg2 hnn hcur
          go_upto_region 12 with (go_at_call 13; (with_reducible refine (HAT.out _ (Fr.refl _ _)).mono ?_); rintro e w5 ⟨rfl, hf5⟩; have HI5 := Lib.hid (HI.out.to hf5); clear hf5)
          obtain ⟨nv, hc5, ho5⟩ := HI5.out.cur
          obtain ⟨an, cn, rfl⟩ := ownsRow_any ho5
          have HO5 := Lib.hid ho5
          have HCT : Hid (Calls Tryz.prog 24 #[.slice an cur.length cn, .int .i64 (nn : Int)] w5 fun e w' => e = .returned (.bool (cur.contains nn)) ∧ Fr No w5 w') := contains_ints cur _ nn w5 (.of_own ho5) (by have := HCL.out; omega)
          obtain ⟨t, ht⟩ : ∃ t, cur.contains nn = t := ⟨_, rfl⟩
          rw [ht] at HCT
          have HT := Lib.hid ht
          clear ho5 ht
          have hcl : cur.length ≤ 2 := HCL.out
          obtain ⟨q, hq⟩ : ∃ q, cur.length = q := ⟨_, rfl⟩
          have HQ := Lib.hid hq
          rw [hq] at HCT HO5 hc5 hcl
          clear hq
          cases t with
          | true =>
            go_wp2_with (go_at_call 24; (with_reducible refine (HCT.out).mono ?_); rintro e w6 ⟨rfl, hf6⟩)
            go_roundw
            case rel => exact ⟨k + 1, by go_num, by omega, by rw [HNEW.out]; unfold addNew; rw [if_pos HT.out]; exact Lib.hid (HI5.out.to hf6)⟩
            case measure => simp [intOf] <;> omega
          | false =>
            go_upto_region 13 with (go_at_call 24; (with_reducible refine (HCT.out).mono ?_); rintro e w6 ⟨rfl, hf6⟩; have HI6 := Lib.hid (HI5.out.to hf6); have HC6 := Lib.hid (hf6.cell hc5 id); have HO6 := Lib.hid (ownsRow_fr HO5.out hf6 (fun _ _ => id)); clear hf6)
            have c6 := HC6.out
            have HA : Hid (∀ W, Fr No w6 W → W.cell? ⟨gb, i * 3 + 2, none⟩ = some (.slice an q cn) ∧ W.ownsRow W2.heap.size 3 1 (.slice an q cn) q (i64s cur) ∧ BI W2 W gb i cur) := fun W hf => ⟨hf.cell HC6.out id, ownsRow_fr HO6.out hf (fun _ _ => id), HI6.out.to hf⟩
            have HSZ : Hid (∀ W, Fr No w6 W → W2.heap.size ≤ W.heap.size) := fun W hf => Nat.le_trans HI6.out.fr.size hf.size
            clear hc5
            go_wp2_with (at_builtin; refine wpList_append_at2 rfl _ _ 31 rfl W2.heap.size 3 j0 _ 1 8 Tryz.underlying31 hj0 jz0 jz1 jz2 rfl (by decide) (.slice an q cn) q (i64s cur) rfl (HA.out _ ((Fr.refl _ _).alloc _)).2.1 _ 1 [.int .i64 (nn : Int)] rfl (src_new _ [.int .i64 (nn : Int)] 3) rfl (by simp [Value.oneCell']) (by unfold maxLen; omega) (by omega) (HSZ.out _ ((Fr.refl _ _).alloc _)) ?_; intro v4 w4 own4 fr4 at4; have HBI := Lib.hid ((HA.out _ ((Fr.refl _ _).alloc _)).2.2.step (n := nn) (HA.out _ ((Fr.refl _ _).alloc _)).1 (by rw [HQ.out]; exact (HA.out _ ((Fr.refl _ _).alloc _)).2.1) HG2.out (by rw [HQ.out]; exact own4) fr4); obtain ⟨z1, z2⟩ := (HA.out _ ((Fr.refl _ _).alloc _)).2.2.ready (HA.out _ ((Fr.refl _ _).alloc _)).1 (by rw [HQ.out]; exact (HA.out _ ((Fr.refl _ _).alloc _)).2.1) HG2.out fr4 HZ2.out; obtain ⟨a4, c4, rfl⟩ := ownsRow_any own4; clear own4 fr4 at4)
            go_roundw
            case rel => exact ⟨k + 1, by go_num, by omega, by rw [HNEW.out]; unfold addNew; rw [if_neg (by rw [HT.out]; simp)]; exact HBI⟩
            case measure => simp [intOf] <;> omega
        · obtain rfl : k = m := by omega
          have e1 : L.take k = L := by rw [← HM.out]; exact List.take_length
          rw [e1] at HI
          have HEND : Hid (BO l wr gb B (i + 1)) := HI.out.end HB2.out HC.out HNS.out HG2.out
          have HFE : Hid (Fr (Isb gb) W1 wr) := HF22.out.trans HI.out.fr
          have hib : i < K := HIB.out
          clear e1 hlt
          go_wp2_with fail
          go_roundw
          case rel => exact ⟨i + 1, by go_num, by omega, HEND, HFE⟩
          case measure => simp [intOf] <;> omega
    · obtain rfl : i = K := by omega
      go_wp2_with fail
      go_ret2
      exact .inr ⟨by first | rfl | trivial, _, rfl, by have h := HS.out; rw [← HB.out] at h; have h2 := h.all (cap := cb) (by rw [HB.out, HK.out]; exact Nat.le_refl _); rw [HB.out, HK.out] at h2; exact h2, HOWN.out _ _ HF2.out HF.out⟩
end Go.Proofs.YtakcdecljfmckaaGreatDoor

namespace Go.Proofs.YtakcdecljfmckaaGreatDoor
open Go.RowKit

def seenP (s : List Bool) (k : Nat) : Prop := s[k]? = some true
theorem unseen_mono : ∀ {s t : List Bool}, s.length = t.length → (∀ k : Nat, s[k]? = some true → t[k]? = some true) → unseen t ≤ unseen s
  | [], [], _, _ => Nat.le_refl _
  | a :: s, b :: t, hl, h => by
    have h1 := unseen_mono (s := s) (t := t) (by simpa using hl) (fun k hk => by have := h (k + 1) (by simpa using hk); simpa using this)
    have h0 := h 0
    unfold unseen at *
    rw [List.countP_cons, List.countP_cons]
    cases a <;> cases b <;> simp_all <;> omega
theorem Seg.congr {nx : Nat → List Nat} {N : Nat} {p q : Nat → Prop} {i : Nat} {L : List Nat} (h : Seg nx N p i L) (he : ∀ k, p k ↔ q k) : Seg nx N q i L := by
  have : p = q := funext fun k => propext (he k)
  exact this ▸ h
/-- what the search finds in memory -/
structure OV (w0 : World) (bs : List Blk) (bv : Value) (b1 b2 b3 b4 gs base : Nat) (fv : Value) (W : World) (s : List Bool) (O : List Nat) : Prop where
  len : s.length = bs.length
  fr : Fr No w0 W
  c1 : W.cell? ⟨b1, 0, none⟩ = some (.slice (some ⟨gs, 0, none⟩) bs.length bs.length)
  c2 : W.cell? ⟨b2, 0, none⟩ = some bv
  c3 : W.cell? ⟨b3, 0, none⟩ = some fv
  c4 : ∃ ov, W.cell? ⟨b4, 0, none⟩ = some ov ∧ W.frozen? ⟨b4, 0, none⟩ = false ∧ W.ownsRow base 3 1 ov O.length (i64s O)
  seen : SeenAt W gs s
  size : base ≤ W.heap.size
/-- how the places lie -/
structure OP (w0 : World) (b1 b2 b3 b4 gs base : Nat) : Prop where
  n1 : b1 < base ∧ b1 ≠ gs ∧ b1 ≠ b4
  n2 : b2 < base ∧ b2 ≠ gs ∧ b2 ≠ b4
  n3 : b3 < base ∧ b3 ≠ gs ∧ b3 ≠ b4
  n4 : b4 < base ∧ b4 ≠ gs ∧ w0.heap.size ≤ b4
  ng : gs < base ∧ w0.heap.size ≤ gs
def OS (b4 gs base : Nat) : Nat → Prop := fun k => k = gs ∨ k = b4 ∨ base ≤ k
theorem OP.old {w0 : World} {b1 b2 b3 b4 gs base : Nat} (p : OP w0 b1 b2 b3 b4 gs base) {W W' : World} (h0 : Fr No w0 W) (hf : Fr (OS b4 gs base) W W') : Fr No w0 W' := by
  have := p.n4; have := p.ng
  exact ((h0.any.trans (hf.mono fun k _ hk => by rcases hk with rfl | rfl | hk; exact p.ng.2; exact p.n4.2.2; exact Nat.le_trans (by omega) hk)) : Fr (From w0) w0 W').ours
theorem OV.kept {w0 : World} {bs : List Blk} {bv : Value} {b1 b2 b3 b4 gs base : Nat} {fv : Value} {W W' : World} {s : List Bool} {O : List Nat} (h : OV w0 bs bv b1 b2 b3 b4 gs base fv W s O) (hf : Fr No W W') : OV w0 bs bv b1 b2 b3 b4 gs base fv W' s O := by
  obtain ⟨ov, h1, h2, h3⟩ := h.c4
  exact ⟨h.len, h.fr.trans hf, hf.cell h.c1 id, hf.cell h.c2 id, hf.cell h.c3 id, ⟨ov, hf.cell h1 id, by rw [hf.frozen h1 id]; exact h2, ownsRow_fr h3 hf (fun _ _ => id)⟩, h.seen.fr hf, Nat.le_trans h.size hf.size⟩
/-- a node is marked -/
theorem OV.mark {w0 : World} {bs : List Blk} {bv : Value} {b1 b2 b3 b4 gs base : Nat} {fv : Value} {W : World} {s : List Bool} {O : List Nat} (h : OV w0 bs bv b1 b2 b3 b4 gs base fv W s O) (p : OP w0 b1 b2 b3 b4 gs base) {i : Nat} (hi : i < s.length) :
    OV w0 bs bv b1 b2 b3 b4 gs base fv (W.setCell ⟨gs, i, none⟩ (.bool true)) (s.set i true) O := by
  obtain ⟨ov, h1, h2, h3⟩ := h.c4
  have ne : ∀ b : Nat, b ≠ gs → ∀ x, (W.setCell ⟨gs, i, none⟩ x).cell? ⟨b, 0, none⟩ = W.cell? ⟨b, 0, none⟩ := fun b hb x => World.cell?_setCell_other _ _ _ _ (by intro hc; injection hc with hc _ _; exact hb hc.symm)
  refine ⟨by rw [List.length_set]; exact h.len, p.old h.fr ((Fr.refl _ _).setCell (p := ⟨gs, i, none⟩) (.inr (.inl rfl)) _), by rw [ne _ p.n1.2.1]; exact h.c1, by rw [ne _ p.n2.2.1]; exact h.c2, by rw [ne _ p.n3.2.1]; exact h.c3, ⟨ov, by rw [ne _ p.n4.2.1]; exact h1, by rw [World.frozen?_setCell]; exact h2, ownsRow_setCell_below h3 p.ng.1 _⟩, h.seen.set hi, by simpa using h.size⟩
/-- a node is put behind -/
theorem OV.put {w0 : World} {bs : List Blk} {bv : Value} {b1 b2 b3 b4 gs base : Nat} {fv : Value} {W W3 : World} {s : List Bool} {O : List Nat} {ov ov' : Value} {i : Nat} (h : OV w0 bs bv b1 b2 b3 b4 gs base fv W s O) (p : OP w0 b1 b2 b3 b4 gs base)
    (hown : W.ownsRow base 3 1 ov O.length (i64s O)) (ho : W3.ownsRow base 3 1 ov' (O.length + 1) (i64s O ++ [.int .i64 (i : Int)])) (hf : Fr (OwnOf ov) W W3) :
    OV w0 bs bv b1 b2 b3 b4 gs base fv (W3.setCell ⟨b4, 0, none⟩ ov') s (O ++ [i]) ∧ Fr (OS b4 gs base) W (W3.setCell ⟨b4, 0, none⟩ ov') ∧ (∃ z, W3.cell? ⟨b4, 0, none⟩ = some z) ∧ W3.frozen? ⟨b4, 0, none⟩ = false := by
  obtain ⟨ov0, h1, h2, -⟩ := h.c4
  have hn : ∀ b, b < base → ¬ OwnOf ov b := fun b hb hk => by have := OwnOf.ge hown hk; omega
  have hS : Fr (OS b4 gs base) W W3 := hf.mono fun k _ hk => .inr (.inr (OwnOf.ge hown hk))
  have hS2 : Fr (OS b4 gs base) W (W3.setCell ⟨b4, 0, none⟩ ov') := hS.setCell (p := ⟨b4, 0, none⟩) (.inr (.inr (.inl rfl))) _
  have hc4 : W3.cell? ⟨b4, 0, none⟩ = some ov0 := hf.cell h1 (hn _ p.n4.1)
  have hz4 : W3.frozen? ⟨b4, 0, none⟩ = false := by rw [hf.frozen h1 (hn _ p.n4.1)]; exact h2
  have ne : ∀ b o : Nat, b ≠ b4 → ∀ x, (W3.setCell ⟨b4, 0, none⟩ x).cell? ⟨b, o, none⟩ = W3.cell? ⟨b, o, none⟩ := fun b o hb x => World.cell?_setCell_other _ _ _ _ (by intro hc; injection hc with hc _ _; exact hb hc.symm)
  refine ⟨⟨h.len, p.old h.fr hS2, ?_, ?_, ?_, ⟨ov', World.cell?_setCell_same _ _ _ hc4, by rw [World.frozen?_setCell]; exact hz4, ?_⟩, ?_, Nat.le_trans h.size hS2.size⟩, hS2, ⟨_, hc4⟩, hz4⟩
  · rw [ne _ _ p.n1.2.2]; exact hf.cell h.c1 (hn _ p.n1.1)
  · rw [ne _ _ p.n2.2.2]; exact hf.cell h.c2 (hn _ p.n2.1)
  · rw [ne _ _ p.n3.2.2]; exact hf.cell h.c3 (hn _ p.n3.1)
  · have h4 : W3.ownsRow base 3 1 ov' (O ++ [i]).length (i64s (O ++ [i])) := by rw [List.length_append, i64s_snoc]; exact ho
    exact ownsRow_setCell_below h4 p.n4.1 _
  · intro j hj
    obtain ⟨m1, m2⟩ := h.seen j hj
    refine ⟨?_, ?_⟩
    · rw [ne _ _ (Ne.symm p.n4.2.1)]; exact hf.cell m1 (hn _ p.ng.1)
    · rw [World.frozen?_setCell, hf.frozen m1 (hn _ p.ng.1)]; exact m2
abbrev orderF (b1 b2 b3 b4 : Nat) : Value := .func (.func 84) #[] #[.pointer (some ⟨b1, 0, none⟩), .pointer (some ⟨b2, 0, none⟩), .pointer (some ⟨b3, 0, none⟩), .pointer (some ⟨b4, 0, none⟩)]
/-- what the search leaves -/
def OrdTo (w0 : World) (bs : List Blk) (bv : Value) (b1 b2 b3 b4 gs base : Nat) (fv : Value) (W : World) (s : List Bool) (O : List Nat) (i : Nat) (e : Ending) (w' : World) : Prop :=
  e = .returned (.tuple #[]) ∧ ∃ K s', OV w0 bs bv b1 b2 b3 b4 gs base fv w' s' (O ++ K) ∧ Seg (nxM bs) bs.length (seenP s) i K ∧ (∀ k, seenP s' k ↔ seenP s k ∨ k ∈ K) ∧ K.length + unseen s' ≤ unseen s ∧ Fr (OS b4 gs base) W w'
/-- midway -/
structure OM (w0 : World) (bs : List Blk) (bv : Value) (b1 b2 b3 b4 gs base : Nat) (fv : Value) (W2 : World) (s : List Bool) (O : List Nat) (i : Nat) (done : List Nat) (W : World) (s2 : List Bool) (L : List Nat) : Prop where
  ov : OV w0 bs bv b1 b2 b3 b4 gs base fv W s2 (O ++ L)
  part : Part (nxM bs) bs.length (seenP s) i done L
  mem : ∀ k, seenP s2 k ↔ seenP s k ∨ k = i ∨ k ∈ L
  cnt : L.length + unseen s2 + 1 ≤ unseen s
  fr : Fr (OS b4 gs base) W2 W
theorem seen_get {s : List Bool} {k : Nat} (hk : k < s.length) : s.getD k true = true ↔ seenP s k := by
  unfold seenP
  rw [List.getD_eq_getElem?_getD, List.getElem?_eq_getElem hk]
  simp
theorem seen_not {s : List Bool} {k : Nat} (hk : k < s.length) (h : s.getD k true = false) : s[k]? = some false := by
  rw [List.getD_eq_getElem?_getD, List.getElem?_eq_getElem hk] at h
  rw [List.getElem?_eq_getElem hk]
  exact congrArg some h
theorem seenP_set {s : List Bool} {i k : Nat} (hi : i < s.length) : seenP (s.set i true) k ↔ seenP s k ∨ k = i := by
  unfold seenP
  by_cases e : k = i
  · subst e
    rw [List.getElem?_set_self hi]
    simp
  · rw [List.getElem?_set_ne (Ne.symm e)]
    simp [e]
end Go.Proofs.YtakcdecljfmckaaGreatDoor

namespace Go.Proofs.YtakcdecljfmckaaGreatDoor
open Go.RowKit

theorem enters_order1 : ∀ args w, (callFunc 84 args).run Tryz.prog w = .ok (.enter 84 args) w := enters_of Tryz.func84 (by kernel_rfl) rfl

set_option maxRecDepth 100000 in
set_option maxHeartbeats 4000000 in
theorem order1_any (w0 : World) (bs : List Blk) (gb cb b1 b2 b3 b4 gs base : Nat) (p : OP w0 b1 b2 b3 b4 gs base) (hbk : ∀ k b, bs[k]? = some b → BlkCells w0 gb k b) (hnx : ∀ k n, n ∈ nxM bs k → n < bs.length) (hlen : bs.length ≤ 1000) (hn2 : ∀ k, (nxM bs k).length ≤ 2) :
    ∀ (fuel : Nat) (s : List Bool) (O : List Nat) (i : Nat) (W : World), unseen s < fuel → i < bs.length → s[i]? = some false → O.length + unseen s ≤ 1000000 → OV w0 bs (.slice (some ⟨gb, 0, none⟩) bs.length cb) b1 b2 b3 b4 gs base (orderF b1 b2 b3 b4) W s O →
      Calls Tryz.prog 84 #[.int .i64 i, .pointer (some ⟨b1, 0, none⟩), .pointer (some ⟨b2, 0, none⟩), .pointer (some ⟨b3, 0, none⟩), .pointer (some ⟨b4, 0, none⟩)] W (OrdTo w0 bs (.slice (some ⟨gb, 0, none⟩) bs.length cb) b1 b2 b3 b4 gs base (orderF b1 b2 b3 b4) W s O i) := by
  intro fuel
  induction fuel with
  | zero => intro s O i W h; omega
  | succ fuel ih =>
    intro s O i W hu hi hsi hO hS
    have HIH := Lib.hid ih
    have HP := Lib.hid p
    have HS := Lib.hid hS
    have HBK := Lib.hid hbk
    have HNX := Lib.hid hnx
    have HU := Lib.hid hu
    have HO := Lib.hid hO
    have HI := Lib.hid hi
    have HSI := Lib.hid hsi
    have c1 := hS.c1
    have hsl : i < s.length := by rw [hS.len]; exact hi
    have HSL := Lib.hid hsl
    have s1 : W.cell? ⟨gs, i, none⟩ = some (.bool (s.getD i true)) := (hS.seen i hsl).1
    have s2 : W.frozen? ⟨gs, i, none⟩ = false := (hS.seen i hsl).2
    generalize s.getD i true = sb at s1
    obtain ⟨b, hb⟩ : ∃ b, bs[i]? = some b := ⟨bs[i], List.getElem?_eq_getElem hi⟩
    have HB := Lib.hid hb
    have HBN : Hid (nxM bs i = b.next) := by unfold nxM; rw [List.getD_eq_getElem?_getD, hb]; exact Lib.hid rfl
    have HN2 : Hid (b.next.length ≤ 2) := by rw [← HBN.out]; exact Lib.hid (hn2 i)
    have p1 : (i : Int) < (bs.length : Int) := by omega
    have p0 : (0 : Int) ≤ (i : Int) := by omega
    obtain ⟨N, hN⟩ : ∃ N, bs.length = N := ⟨_, rfl⟩
    have HN := Lib.hid hN
    rw [hN] at c1 p1
    clear ih p hbk hnx hu hO hi hsi hS hsl hb hN hlen hn2
    obtain ⟨j0, hj0, jz0, jz1, jz2⟩ := info_parts Tryz.infoCh_int
    go_enter Tryz.func84, Tryz.ntmps84
    go_upto_region 1 with fail
    obtain ⟨W1, hW1⟩ : ∃ W1, W1 = W.setCell ⟨gs, i, none⟩ (.bool true) := ⟨_, rfl⟩
    have HS1 : Hid (OV w0 bs (.slice (some ⟨gb, 0, none⟩) bs.length cb) b1 b2 b3 b4 gs base (orderF b1 b2 b3 b4) W1 (s.set i true) O) := by rw [hW1]; exact HS.out.mark HP.out HSL.out
    have HF1 : Hid (Fr (OS b4 gs base) W W1) := by rw [hW1]; exact (Fr.refl _ _).setCell (p := ⟨gs, i, none⟩) (.inr (.inl rfl)) _
    have HU1 : Hid (unseen (s.set i true) + 1 = unseen s) := unseen_set s i HSI.out
    rw [← hW1]
    clear hW1 s1 s2 c1
    have HNS : Hid (¬ seenP s i) := fun h => by have h1 := HSI.out; unfold seenP at h; rw [h1] at h; cases h
    have HM1 : Hid (OM w0 bs (.slice (some ⟨gb, 0, none⟩) bs.length cb) b1 b2 b3 b4 gs base (orderF b1 b2 b3 b4) W s O i [] W1 (s.set i true) []) := ⟨by rw [List.append_nil]; exact HS1.out, Part.start, fun k => by rw [seenP_set HSL.out]; simp, by have := HU1.out; simp; omega, HF1.out⟩
    obtain ⟨m0, m1, nv, m2, m3⟩ := HBK.out i b HB.out
    obtain ⟨an, cn, rfl⟩ := m3.form
    have k2 := HS1.out.fr.cell m2 id
    have HNV := Lib.hid m3
    have x2 := HS1.out.c2
    rw [HN.out] at x2
    obtain ⟨L0, hL0⟩ : ∃ L0, b.next = L0 := ⟨_, rfl⟩
    rw [hL0] at HNV k2 HBN HN2
    obtain ⟨m, hm⟩ : ∃ m, L0.length = m := ⟨_, rfl⟩
    rw [hm] at k2 HN2
    have HM := Lib.hid hm
    have hm2 : m ≤ 2 := HN2.out
    clear m0 m1 m2 m3 hL0 hm
    go_wp2_with fail
    clear k2 x2
    go_loopw [17] (fun ix wr => ∃ (k : Nat) (s2 : List Bool) (L : List Nat), ix = .int .i64 k ∧ k ≤ m ∧ Hid (OM w0 bs (.slice (some ⟨gb, 0, none⟩) bs.length cb) b1 b2 b3 b4 gs base (orderF b1 b2 b3 b4) W s O i (L0.take k) wr s2 L)) (fun ix _ => m - (intOf ix).toNat)
    case atStart => exact ⟨0, _, _, rfl, Nat.zero_le _, HM1.out⟩
    case round =>
      obtain ⟨k, s2, L, rfl, hk, HI2⟩ := hrel
      by_cases hlt : k < m
      · obtain ⟨x, hx⟩ : ∃ x, L0[k]? = some x := ⟨L0[k]'(by rw [HM.out]; exact hlt), List.getElem?_eq_getElem _⟩
        have HX := Lib.hid hx
        have hnat := HNV.out
        rcases hnat with ⟨h1, _⟩ | ⟨g2, c2, h2, hc2⟩
        · rw [h1] at hx; simp at hx
        injection h2 with h2 _ h4
        subst h2 h4
        have k0 := i64_cell (HI2.out.ov.fr.cells hc2 id) hx
        have HXN : Hid (x ∈ nxM bs i) := by rw [HBN.out]; exact List.mem_of_getElem? hx
        have HXL : Hid (x < bs.length) := HNX.out i x HXN.out
        have HTK : Hid (L0.take (k + 1) = L0.take k ++ [x]) := by rw [List.take_add_one, hx]; exact Lib.hid rfl
        have q1 : (x : Int) < (N : Int) := by have := HXL.out; rw [HN.out] at this; omega
        have q0 : (0 : Int) ≤ (x : Int) := by omega
        have x1 := HI2.out.ov.c1
        rw [HN.out] at x1
        have x3 : wr.cell? ⟨b3, 0, none⟩ = some (.func (.func 84) #[] #[.pointer (some ⟨b1, 0, none⟩), .pointer (some ⟨b2, 0, none⟩), .pointer (some ⟨b3, 0, none⟩), .pointer (some ⟨b4, 0, none⟩)]) := HI2.out.ov.c3
        have hxl2 : x < s2.length := by rw [HI2.out.ov.len]; exact HXL.out
        have y1 : wr.cell? ⟨gs, x, none⟩ = some (.bool (s2.getD x true)) := (HI2.out.ov.seen x hxl2).1
        have HXL2 := Lib.hid hxl2
        obtain ⟨t, ht⟩ : ∃ t, s2.getD x true = t := ⟨_, rfl⟩
        rw [ht] at y1
        have HT := Lib.hid ht
        clear hx hc2 hxl2 ht
        cases t with
        | true =>
          have HSK : Hid (OM w0 bs (.slice (some ⟨gb, 0, none⟩) bs.length cb) b1 b2 b3 b4 gs base (orderF b1 b2 b3 b4) W s O i (L0.take (k + 1)) wr s2 L) := by
            rw [HTK.out]
            refine ⟨HI2.out.ov, HI2.out.part.skip ?_, HI2.out.mem, HI2.out.cnt, HI2.out.fr⟩
            exact (HI2.out.mem x).1 ((seen_get HXL2.out).1 HT.out)
          go_wp2_with fail
          go_roundw
          case rel => exact ⟨k + 1, _, _, by go_num, by omega, HSK⟩
          case measure => simp [intOf] <;> omega
        | false =>
          have HC : Hid (Calls Tryz.prog 84 #[.int .i64 x, .pointer (some ⟨b1, 0, none⟩), .pointer (some ⟨b2, 0, none⟩), .pointer (some ⟨b3, 0, none⟩), .pointer (some ⟨b4, 0, none⟩)] wr (OrdTo w0 bs (.slice (some ⟨gb, 0, none⟩) bs.length cb) b1 b2 b3 b4 gs base (orderF b1 b2 b3 b4) wr s2 (O ++ L) x)) := HIH.out s2 (O ++ L) x wr (by have h1 := HI2.out.cnt; have h2 := HU.out; omega) HXL.out (seen_not HXL2.out HT.out) (by have h1 := HI2.out.cnt; have h2 := HO.out; rw [List.length_append]; omega) HI2.out.ov
          go_wp2_with (go_at_call 84; (with_reducible refine (HC.out).mono ?_); rintro e w3 ⟨rfl, K, s3, hov3, hseg, hmem, hcnt, hf3⟩; have HSK : Hid (OM w0 bs (.slice (some ⟨gb, 0, none⟩) bs.length cb) b1 b2 b3 b4 gs base (orderF b1 b2 b3 b4) W s O i (L0.take (k + 1)) w3 s3 (L ++ K)) := (by rw [HTK.out]; refine ⟨by rw [← List.append_assoc]; exact hov3, HI2.out.part.child HXN.out (hseg.congr HI2.out.mem), fun j => ?_, ?_, HI2.out.fr.trans hf3⟩; (· rw [hmem, HI2.out.mem, List.mem_append]; constructor; (· rintro ((h | h | h) | h); exact .inl h; exact .inr (.inl h); exact .inr (.inr (.inl h)); exact .inr (.inr (.inr h))); (· rintro (h | h | h | h); exact .inl (.inl h); exact .inl (.inr (.inl h)); exact .inl (.inr (.inr h)); exact .inr h)); (· have := HI2.out.cnt; rw [List.length_append]; omega)); clear hov3 hseg hmem hcnt hf3)
          go_roundw
          case rel => exact ⟨k + 1, _, _, by go_num, by omega, HSK⟩
          case measure => simp [intOf] <;> omega
      · obtain rfl : k = m := by omega
        have e1 : L0.take k = L0 := by rw [← HM.out]; exact List.take_length
        rw [e1] at HI2
        obtain ⟨ov, z1, z2, z3⟩ := HI2.out.ov.c4
        obtain ⟨ao, co, rfl⟩ := ownsRow_any z3
        have HZ3 := Lib.hid z3
        have hq : (O ++ L).length ≤ 1000000 := by have h1 := HI2.out.cnt; have h2 := HO.out; rw [List.length_append]; omega
        have HZS : Hid (base ≤ wr.heap.size) := HI2.out.ov.size
        obtain ⟨q, hq2⟩ : ∃ q, (O ++ L).length = q := ⟨_, rfl⟩
        have HQ := Lib.hid hq2
        have HZ4 : Hid (∀ W, Fr No wr W → W.ownsRow base 3 1 (.slice ao q co) q (i64s (O ++ L)) ∧ OV w0 bs (.slice (some ⟨gb, 0, none⟩) bs.length cb) b1 b2 b3 b4 gs base (orderF b1 b2 b3 b4) W s2 (O ++ L) ∧ base ≤ W.heap.size ∧ Fr (OS b4 gs base) wr W) := fun W hf => ⟨by have := ownsRow_fr HZ3.out hf (fun _ _ => id); rw [HQ.out] at this; exact this, HI2.out.ov.kept hf, Nat.le_trans HZS.out hf.size, hf.any⟩
        rw [hq2] at z1 hq
        clear e1 hlt z3 hq2
        go_wp2_with (at_builtin; refine wpList_append_at2 rfl _ _ 31 rfl base 3 j0 _ 1 8 Tryz.underlying31 hj0 jz0 jz1 jz2 rfl (by decide) (.slice ao q co) q (i64s (O ++ L)) rfl (HZ4.out _ ((Fr.refl _ _).alloc _)).1 _ 1 [.int .i64 (i : Int)] rfl (src_new _ [.int .i64 (i : Int)] 3) rfl (by simp [Value.oneCell']) (by unfold maxLen; omega) (by omega) (HZ4.out _ ((Fr.refl _ _).alloc _)).2.2.1 ?_; intro v4 w4 own4 fr4 at4; obtain ⟨hov, hfr, ⟨z5, z6⟩, z7⟩ := (HZ4.out _ ((Fr.refl _ _).alloc _)).2.1.put HP.out (i := i) (by rw [HQ.out]; exact (HZ4.out _ ((Fr.refl _ _).alloc _)).1) (by rw [HQ.out]; exact own4) fr4; have HOV := Lib.hid hov; have HFR := Lib.hid ((HZ4.out _ ((Fr.refl _ _).alloc _)).2.2.2.trans hfr); obtain ⟨a4, c4, rfl⟩ := ownsRow_any own4; clear hov hfr own4 fr4 at4)
        first | go_end0 | refine bodyPost_ret (results_none rfl _ _ _) rfl ?_
        refine ⟨rfl, L ++ [i], s2, by rw [← List.append_assoc]; exact HOV.out, ?_, fun j => ?_, ?_, HI2.out.fr.trans HFR.out⟩
        · have h1 := HI2.out.part
          rw [← HBN.out] at h1
          exact h1.done HI.out HNS.out
        · rw [HI2.out.mem, List.mem_append, List.mem_singleton]
          constructor
          · rintro (h | h | h)
            · exact .inl h
            · exact .inr (.inr h)
            · exact .inr (.inl h)
          · rintro (h | h | h)
            · exact .inl h
            · exact .inr (.inr h)
            · exact .inr (.inl h)
        · have := HI2.out.cnt
          rw [List.length_append]
          simp only [List.length_cons, List.length_nil]
          omega
end Go.Proofs.YtakcdecljfmckaaGreatDoor
