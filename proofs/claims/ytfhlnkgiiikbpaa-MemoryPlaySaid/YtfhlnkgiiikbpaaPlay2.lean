/- firewalllaw07.MemoryPlay: the walk. -/
import Derived.Test.YtfhlnkgiiikbpaaPlay1
import Derived.Test.YtfhlnkgiiikbpaaRef5
import Derived.Test.YtfhlnkgiiikbpaaGreat7
import Derived.Deep.DeepCutAuto
import Derived.Deep.CutBlock
import Derived.Deep.RegionHeld3
import Derived.Outline
namespace Go.Proofs.Ytfhlnkgiiikbpaa
open Go.RowKit

/-- an act -/
structure ActD where
  kind : Nat
  addr : Nat
  v : Nat
  n : Int

structure ActD.ok (x : ActD) : Prop where
  kind : x.kind < 256
  addr : x.addr < 2 ^ 64
  v : x.v < 2 ^ 64
  lo : -9223372036854775808 ≤ x.n
  hi : x.n ≤ 9223372036854775807

def ActD.cells (x : ActD) : List Value := [.int .u8 x.kind, .int .u64 x.addr, .int .u64 x.v, .int .i64 x.n]
def actflat (l : List ActD) : List Value := l.flatMap ActD.cells

theorem actflat_get (l : List ActD) (i c : Nat) (hi : i < l.length) (hc : c < 4) : (actflat l)[i * 4 + c]? = some (l[i].cells[c]'(by simpa [ActD.cells] using hc)) := by
  induction l generalizing i with
  | nil => simp at hi
  | cons x l ih =>
    simp only [actflat, List.flatMap_cons]
    cases i with
    | zero =>
      rw [List.getElem?_append_left (by simp [ActD.cells]; omega)]
      simp only [Nat.zero_mul, Nat.zero_add, List.getElem_cons_zero]
      exact List.getElem?_eq_getElem _
    | succ i =>
      rw [List.getElem?_append_right (by simp [ActD.cells]; omega)]
      have := ih i (by simpa using hi)
      simp only [actflat] at this
      rw [show (i + 1) * 4 + c - x.cells.length = i * 4 + c by simp [ActD.cells]; omega, this]
      simp

theorem act_cells {w : World} {g off : Nat} {l : List ActD} (h : CellsAt w g off (actflat l)) {k : Nat} {x : ActD} (hr : l[k]? = some x) :
    w.cell? ⟨g, off + k * 4, none⟩ = some (.int .u8 x.kind) ∧ w.cell? ⟨g, off + k * 4 + 1, none⟩ = some (.int .u64 x.addr) ∧ w.cell? ⟨g, off + k * 4 + 2, none⟩ = some (.int .u64 x.v) ∧ w.cell? ⟨g, off + k * 4 + 3, none⟩ = some (.int .i64 x.n) := by
  obtain ⟨hk, hx⟩ := List.getElem?_eq_some_iff.1 hr
  have c0 := h (k * 4 + 0) _ (actflat_get l k 0 hk (by omega))
  have c1 := h (k * 4 + 1) _ (actflat_get l k 1 hk (by omega))
  have c2 := h (k * 4 + 2) _ (actflat_get l k 2 hk (by omega))
  have c3 := h (k * 4 + 3) _ (actflat_get l k 3 hk (by omega))
  rw [hx] at c0 c1 c2 c3
  exact ⟨c0, c1, c2, c3⟩

theorem regs_of_owns {w : World} {base : Nat} {v : Value} {rs : List Reg} (h : w.ownsRow base 26 3 v rs.length (aflat rs)) (hm : ∀ r ∈ rs, r.typed) : RegsAt w v rs := by
  rcases Nat.eq_zero_or_pos rs.length with h0 | h0
  · obtain rfl := List.eq_nil_of_length_eq_zero h0
    rcases h.2 with ⟨rfl, _⟩ | ⟨g, cap, cur, rfl, _⟩
    · exact ⟨hm, .inl ⟨rfl, _, _, rfl⟩⟩
    · exact ⟨hm, .inl ⟨rfl, _, _, rfl⟩⟩
  · obtain ⟨g, cap, rfl, _, hc⟩ := cells_of_owns h h0
    exact ⟨hm, .inr ⟨g, 0, cap, rfl, hc⟩⟩

theorem aflat_one (l : List Reg) : ∀ u ∈ aflat l, u.oneCell' = true := fun v hv => by
  obtain ⟨x, _, hx⟩ := List.mem_flatMap.1 hv
  simp [Reg.cells] at hx
  rcases hx with rfl | rfl | rfl <;> simp [Value.oneCell']

theorem RefAt.narrow {w' : World} {b : Nat} {m : List Reg} {S : Nat → Prop} (h : RefAt w' b m S) : RefAt w' b m (fun k => S k ∧ k < w'.heap.size) := by
  obtain ⟨v, hc, hl⟩ := h.list
  refine ⟨h.wf, ⟨v, hc, ?_⟩, h.openb, h.own, World.block_lt_of_cell? w' _ hc⟩
  rcases hl with hl | ⟨g, cap, rfl, hcap, h0, hc2, ho, hne, hS⟩
  · exact .inl hl
  · exact .inr ⟨g, cap, rfl, hcap, h0, hc2, ho, hne, hS, World.block_lt_of_cell? w' _ (hc2 (0 * 3 + 0) _ (aflat_get m 0 0 h0 (by omega)))⟩

/-- what the two New's come to -/
def BothNew (w : World) (rs : List Reg) (p1 e1 p2 e2 : Value) (W : World) : Prop :=
  (∃ b rb m S T, p1 = .pointer (some ⟨b, 0, none⟩) ∧ p2 = .pointer (some ⟨rb, 0, none⟩) ∧ e1 = .int .i64 0 ∧ e2 = .int .i64 0 ∧ PlayS w b rb m m S T W) ∨ (p1 = .pointer none ∧ p2 = .pointer none ∧ e1 = .int .i64 2 ∧ e2 = .int .i64 2)

def New1 (w : World) (rs : List Reg) (p1 e1 : Value) (w1 : World) : Prop :=
  (∃ b m S, p1 = .pointer (some ⟨b, 0, none⟩) ∧ e1 = .int .i64 0 ∧ MemAt w1 b m S ∧ (∀ k, S k → From w k ∧ k < w1.heap.size) ∧ m.Perm rs ∧ WF m) ∨ ((¬ ∃ m, m.Perm rs ∧ WF m) ∧ p1 = .pointer none ∧ e1 = .int .i64 2)

theorem play_new1 {w W : World} {rs : List Reg} {v : Value} (hs : SmallM rs) (h : RegsAt W v rs) (hf : Fr No w W) :
    Calls Try.prog 8 #[v] W fun e w1 => ∃ p1 e1, e = .returned (.tuple #[p1, e1]) ∧ Hid (New1 w rs p1 e1 w1) ∧ Hid (Fr No w w1) ∧ Hid (∀ W', Fr No w1 W' → RegsAt W' v rs) := by
  refine (new_any rs v W h hs.1).mono ?_
  rintro e w1 ⟨hf1, ⟨m, b, hp, hw, rfl, hm⟩ | ⟨hno, rfl⟩⟩
  · exact ⟨_, _, rfl, .inl ⟨b, m, _, rfl, rfl, hm, fun k hk => ⟨by have := hk.1; have := hf.size; unfold From; omega, hk.2⟩, hp, hw⟩, hf.trans hf1, fun W' hW => h.fr (hf1.trans hW)⟩
  · exact ⟨_, _, rfl, .inr ⟨hno, rfl, rfl⟩, hf.trans hf1, fun W' hW => h.fr (hf1.trans hW)⟩

theorem SmallM.perm {m rs : List Reg} (h : SmallM rs) (hp : m.Perm rs) : SmallM m := ⟨by rw [hp.length_eq]; exact h.1, fun r hr => h.2 r (hp.subset hr)⟩

theorem play_new2 {w W : World} {rs : List Reg} {v p1 e1 : Value} (hs : SmallM rs) (h : RegsAt W v rs) (hf : Fr No w W) (h1 : Hid (New1 w rs p1 e1 W)) :
    Calls Try.prog 19 #[v] W fun e w2 => ∃ p2 e2, e = .returned (.tuple #[p2, e2]) ∧ Hid (BothNew w rs p1 e1 p2 e2 w2) ∧ Hid (Fr No w w2) ∧ Hid (Fr No W w2) := by
  refine (refnew_any rs v W h (by have := hs.1; omega)).mono ?_
  rintro e w2 (⟨m, hp, hw, rfl, hf2, hm⟩ | ⟨hno, rfl, hf2⟩)
  · refine ⟨_, _, rfl, ?_, hf.trans hf2, hf2⟩
    rcases h1.out with ⟨b, m', S, rfl, rfl, hm', hS, hp', hw'⟩ | ⟨hno, rfl, rfl⟩
    · obtain rfl := hw.unique hw' (hp'.trans hp.symm)
      exact .inl ⟨b, _, m', S, _, rfl, rfl, rfl, rfl, hm'.fr hf2 (fun _ _ => id), hm.narrow, fun k hk => ⟨(hS k hk).1, by have := (hS k hk).2; have := hf2.size; omega⟩, fun k hk => ⟨by have := hk.1; have := hf.size; unfold From at *; omega, hk.2⟩,
        fun k hk ht => by have := (hS k hk).2; have := ht.1; unfold From at *; omega, (hf.trans hf2).any, hs.perm hp', hs.perm hp'⟩
    · exact absurd ⟨m, hp, hw⟩ hno
  · refine ⟨_, _, rfl, ?_, hf.trans hf2, hf2⟩
    rcases h1.out with ⟨b, m', S, rfl, rfl, hm', hS, hp', hw'⟩ | ⟨_, rfl, rfl⟩
    · exact absurd ⟨m', hp', hw'⟩ hno
    · exact .inr ⟨rfl, rfl, rfl, rfl⟩

set_option maxRecDepth 100000 in
set_option maxHeartbeats 1000000 in
theorem play_walk (rs : List Reg) (acts : List ActD) (v0 : Value) (ad : Option Addr) (ga oa L cap : Nat) (w : World) (hsrc : SrcAt w v0 rs.length (aflat rs)) (hr : RegsAt w v0 rs) (hs : SmallM rs) (hL : acts.length = L) (hL2 : L ≤ 100)
    (hac : 0 < L → ad = some ⟨ga, oa, none⟩ ∧ CellsAt w ga oa (actflat acts)) (hok : ∀ x ∈ acts, x.ok) :
    Calls Try.prog 6 #[v0, .slice ad L cap] w fun e w' => e = .returned (.bool true) ∧ Fr No w w' := by
  obtain ⟨i0, hi, hz0, hz1, hz2⟩ := info_parts Try.info_areg
  have HR : Hid (∀ W, Fr No w W → RegsAt W v0 rs) := fun W hW => hr.fr hW
  have HSr := Lib.hid hsrc
  have HS := Lib.hid hs
  have HL := Lib.hid hL
  have HAC := Lib.hid hac
  have HOK : Hid (∀ x ∈ acts, x.ok) := hok
  have HGr : Hid (∀ W, Fr No w W → Calls Try.prog 18 #[v0, .int .i64 12] W fun e w' => e = .returned (.bool false) ∧ W = w') := fun W hW => by
    refine (great_any rs v0 12 W (hr.fr hW) (by have := hs.1; omega)).mono ?_
    rintro e w' ⟨⟨t, rfl, ht⟩, rfl⟩
    cases t with
    | false => exact ⟨rfl, rfl⟩
    | true => 
      exfalso
      rcases ht.1 rfl with ⟨r, hr1, hr2⟩ | h
      · have := hs.2 r hr1; omega
      · have := hs.1; omega
  clear hsrc hr hs hL hac hok
  go_enter Try.func6, Try.ntmps6
  go_upto_region 3 with (go_at_call 18; (with_reducible refine (HGr.out _ (Fr.refl _ _)).mono ?_); rintro e w1 ⟨rfl, rfl⟩)
  have hown0 : w.ownsRow w.heap.size 26 3 (.slice none 0 0) 0 [] := World.ownsRow_nil _ _ _ _
  have hsz12 := HS.out.1
  have HAP := Lib.hid hown0
  clear hown0
  go_upto_region 4 with (at_builtin; refine wpList_append_src rfl _ _ 31 rfl w.heap.size 26 i0 _ 3 32 Try.underlying31 hi hz0 hz1 hz2 rfl (by decide) (.slice none 0 0) 0 [] rfl HAP.out _ rs.length (aflat rs) rfl HSr.out (aflat_length _) (aflat_one _) (by unfold maxLen; omega) (by omega) (Nat.le_refl _) ?_; intro vo w1 own1 fr1; have hw1 : Hid (Fr No w w1) := fr1.mono (fun k _ hk => by simp [OwnOf, Value.ownBlock] at hk); have hv1 : Hid (RegsAt w1 vo rs) := regs_of_owns (by simpa using own1) (HR.out _ (Fr.refl _ _)).1; clear own1 fr1)
  go_upto_region 6 with (first
    | (go_at_call 8; (with_reducible refine (play_new1 HS.out hv1.out hw1.out).mono ?_); rintro e w2 ⟨p1, e1, rfl, HN1, hw2, HV⟩)
    | (go_at_call 19; (with_reducible refine (play_new2 HS.out (HR.out _ hw2.out) hw2.out HN1).mono ?_); rintro e w3 ⟨p2, e2, rfl, HN2, hw3, hw23⟩))
  have HSm : Hid (∀ W, Fr No w3 W → Calls Try.prog 10 #[vo, v0] W fun e w' => e = .returned (.bool true) ∧ Fr No W w') := fun W hW => same_true (HV.out _ (hw23.out.trans hW)) (HR.out _ (hw3.out.trans hW)) (by omega)
  clear hv1 hw1 HN1 hw2 HV hsz12 hi hz0 hz1 hz2 HAP
  rcases HN2.out with ⟨b, rb, m, S, T, rfl, rfl, rfl, rfl, hp⟩ | ⟨rfl, rfl, rfl, rfl⟩
  · have HP := Lib.hid hp
    clear hp HN2
    go_upto_region 8 with (go_at_call 10; (with_reducible refine (HSm.out _ (Fr.refl _ _)).mono ?_); rintro e w4 ⟨rfl, hf4⟩)
    have HP4 : Hid (PlayS w b rb m m S T w4) := HP.out.to hf4
    clear HP hf4 HSm hw23 hw3
    go_wp2_with fail
    have HPe : Hid (∃ m S, PlayS w b rb m m S T w4) := ⟨_, _, HP4.out⟩
    clear HP4
    go_loopw [6, 10] (fun s6 s10 wr => ∃ (k b : Nat), k ≤ L ∧ s6 = .pointer (some ⟨b, 0, none⟩) ∧ s10 = .int .i64 k ∧ Hid (∃ m S, PlayS w b rb m m S T wr)) (fun _ s10 _ => L - (intOf s10).toNat)
    case atStart => exact ⟨0, b, Nat.zero_le _, rfl, rfl, HPe⟩
    case round =>
      obtain ⟨k, b, hk, rfl, rfl, HI⟩ := hrel
      clear HPe HGr HSr HR
      by_cases hlt : k < L
      · obtain ⟨rfl, hac⟩ := HAC.out (by omega)
        obtain ⟨x, hx⟩ : ∃ x, acts[k]? = some x := ⟨acts[k]'(by rw [HL.out]; exact hlt), List.getElem?_eq_getElem _⟩
        have ho := HOK.out x (List.mem_of_getElem? hx)
        obtain ⟨m, S, hp⟩ := HI.out
        have HP := Lib.hid hp
        obtain ⟨k0, k1, k2, k3⟩ := act_cells hac hx
        have hf0 := hp.fr.ours
        replace k0 := hf0.cell k0 id
        replace k1 := hf0.cell k1 id
        replace k2 := hf0.cell k2 id
        replace k3 := hf0.cell k3 id
        obtain ⟨kd, a, V, n⟩ := x
        simp only at k0 k1 k2 k3
        have o1 := ho.kind
        have HA : Hid (a < 2 ^ 64) := ho.addr
        have HVV : Hid (V < 2 ^ 64) := ho.v
        have Hhi : Hid (n ≤ 9223372036854775807) := ho.hi
        simp only at o1
        have hgl : ga < wr.heap.size := World.block_lt_of_cell? wr _ k0
        obtain ⟨Q, hq⟩ : ∃ Q : Int, (kd : Int) % 7 = Q := ⟨_, rfl⟩
        have HQ : Hid (Q = 0 ∨ Q = 1 ∨ Q = 2 ∨ Q = 3 ∨ Q = 4 ∨ Q = 5 ∨ Q = 6) := Lib.hid (by omega)
        clear hx ho hp hac hf0 HI
        go_upto_block 2 with fail
        rw [hq]
        clear hq
        have HB : Hid (PlayOn w b rb wr.heap.size kd a V n m m S T (wr.alloc (.cells #[.int .u8 kd, .int .u64 a, .int .u64 V, .int .i64 n] 44))) :=
          ⟨HP.out.to ((Fr.refl _ _).alloc _), ⟨fun h => Nat.lt_irrefl _ (HP.out.sw _ h).2, fun h => Nat.lt_irrefl _ (HP.out.tw _ h).2⟩, by rw [World.cell?_alloc_new]; rfl, by rw [World.cell?_alloc_new]; rfl, by rw [World.cell?_alloc_new]; rfl, by rw [World.cell?_alloc_new]; rfl⟩
        generalize wr.alloc (.cells #[.int .u8 kd, .int .u64 a, .int .u64 V, .int .i64 n] 44) = W1 at *
        generalize wr.heap.size = bx at *
        clear k0 k1 k2 k3 hgl HP
        obtain ⟨d0, d1, d2, d3⟩ := And.intro HB.out.c0 (And.intro HB.out.c1 (And.intro HB.out.c2 HB.out.c3))
        go_cut [6] (fun s wx => ∃ b m S, s = .pointer (some ⟨b, 0, none⟩) ∧ Hid (PlayOn w b rb bx kd a V n m m S T wx))
        case first =>
          rcases HQ.out with h | h | h | h | h | h | h
          · have e0 : (Q == 0) = true := by rw [beq_iff_eq]; omega
            clear h
            go_wp2_with (first
              | (go_at_call 12; (with_reducible refine (HB.out.read HA).mono ?_); rintro e w5 ⟨rfl, h5⟩; have H5 := Lib.hid h5; obtain ⟨-, -, g0, g1, g2, g3⟩ := h5)
              | (go_at_call 20; (with_reducible refine (H5.out.rread HA).mono ?_); rintro e w6 ⟨rfl, h6⟩; have H6 := Lib.hid h6; obtain ⟨-, -, g0, g1, g2, g3⟩ := h6))
            go_meet
            exact ⟨b, m, S, rfl, H6⟩
          · have e0 : (Q == 0) = false := by rw [beq_eq_false_iff_ne]; omega
            have e1 : (Q == 1) = true := by rw [beq_iff_eq]; omega
            clear h
            go_wp2_with (first
              | (go_at_call 12; (with_reducible refine (HB.out.read HA).mono ?_); rintro e w5 ⟨rfl, h5⟩; have H5 := Lib.hid h5; obtain ⟨-, -, g0, g1, g2, g3⟩ := h5)
              | (go_at_call 20; (with_reducible refine (H5.out.rread HA).mono ?_); rintro e w6 ⟨rfl, h6⟩; have H6 := Lib.hid h6; obtain ⟨-, -, g0, g1, g2, g3⟩ := h6))
            go_meet
            exact ⟨b, m, S, rfl, H6⟩
          · have e0 : (Q == 0) = false := by rw [beq_eq_false_iff_ne]; omega
            have e1 : (Q == 1) = false := by rw [beq_eq_false_iff_ne]; omega
            have e2 : (Q == 2) = true := by rw [beq_iff_eq]; omega
            clear h
            go_upto_region 27 with fail
            have HBd : Hid (PlayOn w b rb bx kd a V n m m S T W1.drew) := HB.out.to ((Fr.refl _ _).drew)
            go_region_held3 (fun W => W.cell? ⟨bx, 0, none⟩ = some (.int .u8 kd) ∧ W.cell? ⟨bx, 1, none⟩ = some (.int .u64 a) ∧ W.cell? ⟨bx, 2, none⟩ = some (.int .u64 V) ∧ W.cell? ⟨bx, 3, none⟩ = some (.int .i64 n)) (first | exact ⟨g0, g1, g2, g3⟩ | go_keep) (first
              | (go_at_call 13; (with_reducible refine (Hid.out (by assumption : Hid (PlayOn w b rb bx kd a V n m _ S T _))).write HA HVV |>.mono ?_); rintro e w5 ⟨rfl, h5⟩; have H5 := Lib.hid h5; obtain ⟨-, -, g0, g1, g2, g3⟩ := h5)
              | (go_at_call 21; (with_reducible refine (Hid.out (by assumption : Hid (PlayOn w b rb bx kd a V n _ m S T _))).rwrite HA HVV |>.mono ?_); rintro e w6 ⟨rfl, h6⟩; have H6 := Lib.hid h6; obtain ⟨-, -, g0, g1, g2, g3⟩ := h6))
            all_goals go_wp2_with fail
            all_goals go_meet
            all_goals exact ⟨b, _, S, rfl, H6⟩
          · have e0 : (Q == 0) = false := by rw [beq_eq_false_iff_ne]; omega
            have e1 : (Q == 1) = false := by rw [beq_eq_false_iff_ne]; omega
            have e2 : (Q == 2) = false := by rw [beq_eq_false_iff_ne]; omega
            have e3 : (Q == 3) = true := by rw [beq_iff_eq]; omega
            clear h
            go_upto_region 27 with fail
            have HBd : Hid (PlayOn w b rb bx kd a V n m m S T W1.drew) := HB.out.to ((Fr.refl _ _).drew)
            go_region_held3 (fun W => W.cell? ⟨bx, 0, none⟩ = some (.int .u8 kd) ∧ W.cell? ⟨bx, 1, none⟩ = some (.int .u64 a) ∧ W.cell? ⟨bx, 2, none⟩ = some (.int .u64 V) ∧ W.cell? ⟨bx, 3, none⟩ = some (.int .i64 n)) (first | exact ⟨g0, g1, g2, g3⟩ | go_keep) (first
              | (go_at_call 13; (with_reducible refine (Hid.out (by assumption : Hid (PlayOn w b rb bx kd a V n m _ S T _))).write HA HVV |>.mono ?_); rintro e w5 ⟨rfl, h5⟩; have H5 := Lib.hid h5; obtain ⟨-, -, g0, g1, g2, g3⟩ := h5)
              | (go_at_call 21; (with_reducible refine (Hid.out (by assumption : Hid (PlayOn w b rb bx kd a V n _ m S T _))).rwrite HA HVV |>.mono ?_); rintro e w6 ⟨rfl, h6⟩; have H6 := Lib.hid h6; obtain ⟨-, -, g0, g1, g2, g3⟩ := h6))
            all_goals go_wp2_with fail
            all_goals go_meet
            all_goals exact ⟨b, _, S, rfl, H6⟩
          · have e0 : (Q == 0) = false := by rw [beq_eq_false_iff_ne]; omega
            have e1 : (Q == 1) = false := by rw [beq_eq_false_iff_ne]; omega
            have e2 : (Q == 2) = false := by rw [beq_eq_false_iff_ne]; omega
            have e3 : (Q == 3) = false := by rw [beq_eq_false_iff_ne]; omega
            have e4 : (Q == 4) = true := by rw [beq_iff_eq]; omega
            clear h
            go_wp2_with (first
              | (go_at_call 14; (with_reducible refine (HB.out.text HA Hhi).mono ?_); rintro e w5 ⟨rfl, h5⟩; have H5 := Lib.hid h5; obtain ⟨-, -, g0, g1, g2, g3⟩ := h5)
              | (go_at_call 22; (with_reducible refine (H5.out.rtext HA Hhi).mono ?_); rintro e w6 ⟨rfl, h6⟩; have H6 := Lib.hid h6; obtain ⟨-, -, g0, g1, g2, g3⟩ := h6))
            go_meet
            exact ⟨b, m, S, rfl, H6⟩
          · have e0 : (Q == 0) = false := by rw [beq_eq_false_iff_ne]; omega
            have e1 : (Q == 1) = false := by rw [beq_eq_false_iff_ne]; omega
            have e2 : (Q == 2) = false := by rw [beq_eq_false_iff_ne]; omega
            have e3 : (Q == 3) = false := by rw [beq_eq_false_iff_ne]; omega
            have e4 : (Q == 4) = false := by rw [beq_eq_false_iff_ne]; omega
            have e5 : (Q == 5) = true := by rw [beq_iff_eq]; omega
            clear h
            go_wp2_with (go_at_call 15; (with_reducible refine (HB.out.copy).mono ?_); rintro e w5 ⟨b', S', rfl, h5, _, _⟩; have H5 := Lib.hid h5; clear h5)
            go_meet
            exact ⟨b', m, S', rfl, H5⟩
          · have e0 : (Q == 0) = false := by rw [beq_eq_false_iff_ne]; omega
            have e1 : (Q == 1) = false := by rw [beq_eq_false_iff_ne]; omega
            have e2 : (Q == 2) = false := by rw [beq_eq_false_iff_ne]; omega
            have e3 : (Q == 3) = false := by rw [beq_eq_false_iff_ne]; omega
            have e4 : (Q == 4) = false := by rw [beq_eq_false_iff_ne]; omega
            have e5 : (Q == 5) = false := by rw [beq_eq_false_iff_ne]; omega
            clear h
            go_upto_region 16 with (go_at_call 15; (with_reducible refine (HB.out.copy).mono ?_); rintro e w5 ⟨c, S', rfl, h5, h6, hd⟩; have H5 := Lib.hid h5; have H6 := Lib.hid h6; clear h5 h6)
            obtain ⟨LV, hLV, HLV⟩ := H6.out.list
            have H5d : Hid (PlayOn w c rb bx kd a V n m m S' T w5.drew) := H5.out.to ((Fr.refl _ _).drew)
            have hm12 : m.length ≤ 4294967296 := by have := H5.out.at'.out.s1.1; omega
            go_region_held3 (fun W => W.cell? ⟨rb, 0, none⟩ = some LV) (first | go_keep | exact (HLV.out _ (((Fr.refl _ _).drew).trans hf6.out)).1 | exact (HLV.out _ ((((Fr.refl _ _).drew).trans hf6.out).trans hf7.out)).1) (first
              | (go_at_call 11; (with_reducible refine (H5d.out.regions).mono ?_); rintro e w6 ⟨v, rfl, _, HVr, hf6⟩)
              | (go_at_call 10; (with_reducible refine (same_true (HVr.out _ (Fr.refl _ _)) (HLV.out _ (((Fr.refl _ _).drew).trans hf6.out)).2 hm12).mono ?_); rintro e w7 ⟨rfl, hf7'⟩; have hf7 := Lib.hid hf7'; clear hf7'))
            have hf57 : Hid (Fr No w5 w7) := (((Fr.refl _ _).drew).trans hf6.out).trans hf7.out
            have H57 := Lib.hid (H5.out.to hf57.out)
            have H67 := Lib.hid (H6.out.to hf57.out)
            obtain ⟨-, -, g0, g1, g2, g3⟩ := H6.out.to hf57.out
            clear H5 H6 HLV hLV H5d hf6 hf7 HVr
            have hST : Hid (∀ k, S' k → ¬ T k) := H57.out.at'.out.st
            go_wp2_with (go_at_call 13; (with_reducible refine (H67.out.other H57.out hd hST _ HA HVV).mono ?_); rintro e w8 ⟨y, rfl, h8⟩; have H8 := Lib.hid h8; clear h8)
            go_meet
            exact ⟨b, m, S, rfl, H8⟩
        case rest =>
          obtain ⟨b2, m2, S2, rfl, H5⟩ := hcut
          obtain ⟨LV, hLV, HLV⟩ := H5.out.list
          have H5d : Hid (PlayOn w b2 rb bx kd a V n m2 m2 S2 T wc.drew) := H5.out.to ((Fr.refl _ _).drew)
          have hm12 : m2.length ≤ 4294967296 := by have := H5.out.at'.out.s1.1; omega
          clear HB d0 d1 d2 d3
          go_upto_region 36 with fail
          go_region_held3 (fun W => W.cell? ⟨rb, 0, none⟩ = some LV) (first | go_keep | exact (HLV.out _ (((Fr.refl _ _).drew).trans hf6.out)).1 | exact (HLV.out _ ((((Fr.refl _ _).drew).trans hf6.out).trans hf7.out)).1) (first
            | (go_at_call 11; (with_reducible refine (H5d.out.regions).mono ?_); rintro e w6 ⟨v, rfl, _, HVr, hf6⟩)
            | (go_at_call 10; (with_reducible refine (same_true (HVr.out _ (Fr.refl _ _)) (HLV.out _ (((Fr.refl _ _).drew).trans hf6.out)).2 hm12).mono ?_); rintro e w7 ⟨rfl, hf7'⟩; have hf7 := Lib.hid hf7'; clear hf7'))
          have HN : Hid (∃ m S, PlayS w b2 rb m m S T w7) := ⟨m2, S2, H5.out.at'.out.to ((((Fr.refl _ _).drew).trans hf6.out).trans hf7.out)⟩
          clear H5 HLV hLV H5d hf6 hf7 HVr
          go_wp2_with fail
          go_roundw
          case rel => exact ⟨k + 1, b2, by omega, rfl, by go_num, HN⟩
          case measure => simp [intOf] <;> omega
      · obtain rfl : k = L := by omega
        obtain ⟨m, S, hp⟩ := HI.out
        have HP := Lib.hid hp
        clear hp HI
        go_wp2_with (go_at_call 9; (with_reducible refine (laid_any _).mono ?_); rintro e w5 ⟨rfl, hf5⟩)
        go_ret
        exact ⟨rfl, HP.out.fr.ours.trans hf5⟩
  · go_wp2_with (first
      | (go_at_call 10; (with_reducible refine (HSm.out _ (Fr.refl _ _)).mono ?_); rintro e w4 ⟨rfl, hf4⟩)
      | (go_at_call 9; (with_reducible refine (laid_any _).mono ?_); rintro e w5 ⟨rfl, hf5⟩))
    go_ret
    exact ⟨rfl, (hw3.out.trans hf4).trans hf5⟩

end Go.Proofs.Ytfhlnkgiiikbpaa
