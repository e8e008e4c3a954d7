/- firewallref07.New: the walk. -/
import Derived.Test.YtlinnhaodkiolaaGreatBundle13
import Derived.Test.YtlinnhaodkiolaaGreatBundle5
import Derived.Deep.QuietTactic
import Derived.BigQuiet
import Derived.Deep.DeepCutAuto
import Derived.Deep.CutBlock
import Derived.Deep.RegionHeld3
namespace Go.Proofs.YtlinnhaodkiolaaGreat
open Go.RowKit

set_option maxHeartbeats 400000 in
theorem refapart_walk (b1 b2 : Int) (d1 d2 : ByteArray) (l1 l2 : Nat) (f1 f2 : Bool) (w : World) (s1 : d1.size = l1) (s2 : d2.size = l2) (e1 : IntKind.u64.wrap (l1 : Int) = l1) (e2 : IntKind.u64.wrap (l2 : Int) = l2)
    (e3 : IntKind.u64.wrap (b1 + l1) = b1 + l1) (e4 : IntKind.u64.wrap (b2 + l2) = b2 + l2) :
    Calls Tryz.prog 38 #[.agg #[.int .u64 b1, .string d1, .bool f1], .agg #[.int .u64 b2, .string d2, .bool f2]] w fun e w' => e = .returned (.bool (decide (b1 + l1 ≤ b2 ∨ b2 + l2 ≤ b1))) ∧ Fr No w w' := by
  by_cases h : b1 + l1 ≤ b2
  · go_enter Tryz.func38, Tryz.ntmps38
    go_wp2_with fail
    go_ret
    exact ⟨by simp [h], ((Fr.refl No w).alloc _).alloc _⟩
  · by_cases h2 : b2 + l2 ≤ b1
    · go_enter Tryz.func38, Tryz.ntmps38
      go_wp2_with fail
      go_ret
      exact ⟨by simp, ((Fr.refl No w).alloc _).alloc _⟩
    · go_enter Tryz.func38, Tryz.ntmps38
      go_wp2_with fail
      go_ret
      exact ⟨by simp [h, h2], ((Fr.refl No w).alloc _).alloc _⟩

theorem refapart_any (x y : Reg) (hx : x.ok) (hy : y.ok) (w : World) :
    Calls Tryz.prog 38 #[.agg #[.int .u64 x.base, .string ⟨x.data.toArray⟩, .bool x.free], .agg #[.int .u64 y.base, .string ⟨y.data.toArray⟩, .bool y.free]] w fun e w' => (∃ t : Bool, e = .returned (.bool t) ∧ (t = true ↔ apartR x y)) ∧ Fr No w w' := by
  have a1 := hx.low
  have a2 := hx.high
  have a3 := hx.small
  have c1 := hy.low
  have c2 := hy.high
  have c3 := hy.small
  unfold Reg.len at a2 c2
  refine (refapart_walk x.base y.base ⟨x.data.toArray⟩ ⟨y.data.toArray⟩ x.data.length y.data.length x.free y.free w rfl rfl (IntWalk.u64_in _ (by omega)) (IntWalk.u64_in _ (by omega)) (IntWalk.u64_in _ (by omega)) (IntWalk.u64_in _ (by omega))).mono ?_
  rintro e w' ⟨rfl, hf⟩
  exact ⟨⟨_, rfl, by unfold apartR Reg.len; simp⟩, hf⟩

/-- after i regions -/
structure RNew (w : World) (rs : List Reg) (i : Nat) (m : List Reg) (wr : World) : Prop where
  fr : Fr No w wr
  ref : RefAt wr w.heap.size m (From w)
  perm : m.Perm (rs.take i)

theorem RNew.to {w : World} {rs : List Reg} {i : Nat} {m : List Reg} {wr w' : World} (h : RNew w rs i m wr) (hf : Fr No wr w') : RNew w rs i m w' :=
  ⟨h.fr.trans hf, h.ref.fr hf (fun _ _ => id), h.perm⟩

theorem RNew.step {w wr w3 : World} {rs : List Reg} {k j g3 N cap3 : Nat} {m : List Reg} {r : Reg} {XS : List Value} (h : RNew w rs k m wr) (hr : rs[k]? = some r) (hf : Fr No wr w3) (hwf : WF (ins m j r))
    (own : w3.ownsRow wr.heap.size 69 3 (.slice (some ⟨g3, 0, none⟩) N cap3) N XS) (hX : XS = aflat (ins m j r)) (hN : N = (ins m j r).length) (hb : w.heap.size < wr.heap.size) :
    RNew w rs (k + 1) (ins m j r) (w3.setCell ⟨w.heap.size, 0, none⟩ (.slice (some ⟨g3, 0, none⟩) N cap3)) := by
  subst hX hN
  obtain ⟨v0, hv0, _⟩ := (h.ref.fr hf (fun _ _ => id)).list
  rcases own.2 with ⟨e, _⟩ | ⟨g', cap', cur, hv, hbg, hg, hnc, _, hsz, hx⟩
  · cases e
  cases hv
  have hne : g3 ≠ w.heap.size := by omega
  refine ⟨(h.fr.trans hf).setCell (.inl (Nat.le_refl _)) _, ⟨hwf, ⟨_, World.cell?_setCell_same _ _ _ (by rw [hv0]; try rfl), .inr ⟨g3, cap3, rfl, hnc, by simp [ins]; omega, fun t u ht => ?_, fun t ht => ?_, hne, by unfold From; omega⟩⟩, by rw [World.frozen?_setCell]; exact (h.ref.fr hf (fun _ _ => id)).openb, Nat.le_refl _⟩, ins_perm h.perm hr⟩
  · rw [World.cell?_setCell_other _ _ _ _ (by simp; try omega), Nat.zero_add, cell_of_row w3 g3 t cur _ _ hg]
    rw [← hx, List.getElem?_take] at ht
    split at ht
    · simpa using ht
    · cases ht
  · rw [World.frozen?_setCell, Nat.zero_add]
    simp [World.frozen?, hg]

def RefNewPost (w : World) (rs : List Reg) (e : Ending) (w' : World) : Prop :=
  (∃ m, m.Perm rs ∧ WF m ∧ e = .returned (.tuple #[.pointer (some ⟨w.heap.size, 0, none⟩), .int .i64 0]) ∧ Fr No w w' ∧ RefAt w' w.heap.size m (From w)) ∨
  ((¬ ∃ m, m.Perm rs ∧ WF m) ∧ e = .returned (.tuple #[.pointer none, .int .i64 2]) ∧ Fr No w w')

set_option maxRecDepth 100000 in
set_option maxHeartbeats 10000000 in
theorem refnew_walk (g off n cap : Nat) (rs : List Reg) (w : World) (hn : rs.length = n) (hc : CellsAt w g off (aflat rs)) (h1 : 1 ≤ n) (hm : n ≤ 100000) (hty : ∀ r ∈ rs, r.typed) :
    Calls Tryz.prog 10 #[.slice (some ⟨g, off, none⟩) n cap] w (RefNewPost w rs) := by
  have HN := Lib.hid hn
  have HC := Lib.hid hc
  have HT : Hid _ := hty
  have HB : Hid (RNew w rs 0 [] (w.alloc (.cells #[.slice none 0 0] 58))) := by
    have hf : Fr No w (w.alloc (.cells #[.slice none 0 0] 58)) := (Fr.refl _ _).alloc _
    refine ⟨hf, ⟨⟨by simp, List.Pairwise.nil, by simp⟩, ⟨_, by rw [World.cell?_alloc_new]; rfl, .inl ⟨rfl, rfl⟩⟩, World.frozen?_alloc_new _ _ _ _, Nat.le_refl _⟩, by simp⟩
  clear hn hc hty
  go_enter Tryz.func10, Tryz.ntmps10
  go_wp2_with fail
  generalize w.alloc (.cells #[.slice none 0 0] 58) = w0 at *
  go_loopw [5] (fun i wr => ∃ k : Nat, k ≤ n ∧ i = .int .i64 k ∧ Hid (∃ m, RNew w rs k m wr)) (fun i _ => n - (intOf i).toNat)
  case atStart => exact ⟨0, Nat.zero_le _, rfl, _, HB.out⟩
  case round =>
    obtain ⟨k, hk, rfl, HM⟩ := hrel
    by_cases hlt : k < n
    · obtain ⟨r, hr⟩ : ∃ r, rs[k]? = some r := ⟨rs[k]'(by rw [HN.out]; exact hlt), List.getElem?_eq_getElem _⟩
      obtain ⟨m, hI0⟩ := HM.out
      have HI := Lib.hid hI0
      clear hI0
      have hrm := List.mem_of_getElem? hr
      have rt := HT.out r hrm
      obtain ⟨k0, k1, k2⟩ := areg_cells (HI.out.fr.cells HC.out id) hr
      have HR := Lib.hid hr
      have HRT := Lib.hid rt
      obtain ⟨base, data, free⟩ := r
      simp only at k0 k1 k2
      have HG : Hid (Reg.good ⟨base, data, free⟩ = true ↔ (data ≠ [] ∧ base + (data.length : Int) ≤ 18446744073709551615)) := Reg.good_iff _
      obtain ⟨dl, hdl⟩ : ∃ dl, dl = data.length := ⟨_, rfl⟩
      have sz : (⟨data.toArray⟩ : ByteArray).size = dl := by rw [hdl]; rfl
      have HD := Lib.hid hdl
      have x1 : IntKind.u64.wrap (dl : Int) = dl := IntWalk.u64_in _ (by have := rt.small; simp at this; omega)
      obtain ⟨G, hG⟩ : ∃ G : Int, G = 18446744073709551615 - (dl : Int) := ⟨_, rfl⟩
      have hgl : g < wr.heap.size := World.block_lt_of_cell? wr _ k0
      have HGG := Lib.hid hG
      have HE : IntKind.u64.wrap (18446744073709551615 - (dl : Int)) = G := by rw [hG]; exact IntWalk.u64_in _ (by have := rt.small; simp at this; omega)
      clear hr hrm rt hG hdl HM
      by_cases hz : dl = 0
      · have q1 : ((dl : Int) == 0) = true := by simp [hz]
        have HNO : Hid (¬ ∃ m, m.Perm rs ∧ WF m) := new_bad (List.mem_of_getElem? HR.out) (fun h => (HG.out.1 h).1 (List.eq_nil_of_length_eq_zero (by rw [← HD.out]; exact hz)))
        have HZ := Lib.hid hz
        clear hz
        go_wp2_with fail
        go_quiet (fail)
        go_wp2_with fail
        go_ret2
        exact .inr ⟨HNO.out, rfl, HI.out.fr.drewN _⟩
      by_cases hg : G < base
      · have q1 : ((dl : Int) == 0) = false := by rw [beq_eq_false_iff_ne]; omega
        have HNO : Hid (¬ ∃ m, m.Perm rs ∧ WF m) := new_bad (List.mem_of_getElem? HR.out) (fun h => by have := (HG.out.1 h).2; have := HGG.out; have := HD.out; omega)
        go_wp2_with fail
        go_quiet (fail)
        go_wp2_with fail
        go_ret2
        exact .inr ⟨HNO.out, rfl, HI.out.fr.drewN _⟩
      have q1 : ((dl : Int) == 0) = false := by rw [beq_eq_false_iff_ne]; omega
      have HOK : Hid (Reg.ok ⟨base, data, free⟩) := good_ok (HG.out.2 ⟨fun e => hz (by rw [HD.out, e]; rfl), by have := HGG.out; have := HD.out; omega⟩) HRT.out
      go_upto_region 5 with fail
      go_quiet (fail)
      go_upto_block 2 with fail
      have HI2 : Hid (RNew w rs k m (wr.drewN nq)) := HI.out.to ((Fr.refl _ _).drewN _)
      have HRg : Hid (∀ W, Fr No (wr.drewN nq) W → W.cell? ⟨g, off + k * 3, none⟩ = some (.int .u64 base) ∧ W.cell? ⟨g, off + k * 3 + 1, none⟩ = some (.string ⟨data.toArray⟩) ∧ W.cell? ⟨g, off + k * 3 + 2, none⟩ = some (.bool free)) := fun W hW => by
        have hf := ((Fr.refl No wr).drewN nq).trans hW
        exact ⟨hf.cell k0 id, hf.cell k1 id, hf.cell k2 id⟩
      generalize wr.drewN nq = wq at *
      clear k0 k1 k2 hgl
      obtain ⟨V, hV, hform⟩ := HI2.out.ref.list
      obtain ⟨ml, hml⟩ : ∃ ml, m.length = ml := ⟨_, rfl⟩
      have hmk : ml ≤ n := by
        have := HI2.out.perm.length_eq
        have h2 : (rs.take k).length ≤ k := List.length_take_le _ _
        omega
      rcases hform with ⟨rfl, rfl⟩ | ⟨g2, cap2, rfl, hcap, hm0, hc2, ho2, hne, hS2⟩
      · have HV := Lib.hid hV
        have hw0 : w.heap.size < wq.heap.size := World.block_lt_of_cell? wq _ hV
        clear hml hV HI
        go_wp2_with fail
        refine wp_loop_rounds 1 ?_
        rw [rounds_succ]
        have hv0 : wq.cell? ⟨w.heap.size, 0, none⟩ = some (.slice none 0 0) := HV.out
        go_wp2_with fail
        go_quiet (fail)
        go_wp2_with fail
        refine wp_loop_rounds 1 ?_
        rw [rounds_succ]
        go_upto_region 15 with fail
        have HF2 : Hid (Fr No wq (wq.drewN nq)) := (Fr.refl _ _).drewN _
        generalize wq.drewN nq = wr at *
        obtain ⟨k0, k1, k2⟩ := HRg.out _ HF2.out
        have hv : wr.cell? ⟨w.heap.size, 0, none⟩ = some (.slice none 0 0) := HF2.out.cell HV.out id
        have HCF : Hid (∀ W, Fr No wr W → W.cell? ⟨w.heap.size, 0, none⟩ = some (.slice none 0 0) ∧ W.cell? ⟨g, off + k * 3, none⟩ = some (.int .u64 base) ∧ W.cell? ⟨g, off + k * 3 + 1, none⟩ = some (.string ⟨data.toArray⟩) ∧ W.cell? ⟨g, off + k * 3 + 2, none⟩ = some (.bool free) ∧ W.frozen? ⟨w.heap.size, 0, none⟩ = false ∧ W.heap.size ≠ w.heap.size ∧ W.heap.size ≠ g) := fun W hW =>
          ⟨hW.cell hv id, hW.cell k0 id, hW.cell k1 id, hW.cell k2 id, (HI2.out.ref.fr (HF2.out.trans hW) (fun _ _ => id)).openb, World.new_ne W ⟨w.heap.size, 0, none⟩ (hW.cell hv id), World.new_ne W ⟨g, off + k * 3, none⟩ (hW.cell k0 id)⟩
        have HWF : Hid (WF (ins [] 0 ⟨base, data, free⟩)) := ins_wf HI2.out.ref.wf HOK.out (fun x hx => by cases hx) (by simp) (fun t ht => absurd ht (Nat.not_lt_zero _)) (fun x hx => by simp at hx)
        have HST : Hid (∀ (w3 : World) (g3 N cap3 : Nat) (XS : List Value), Fr No wr w3 → w3.ownsRow wr.heap.size 69 3 (.slice (some ⟨g3, 0, none⟩) N cap3) N XS → XS = aflat (ins [] 0 ⟨base, data, free⟩) → N = (ins [] 0 ⟨base, data, free⟩).length → RNew w rs (k + 1) (ins [] 0 ⟨base, data, free⟩) (w3.setCell ⟨w.heap.size, 0, none⟩ (.slice (some ⟨g3, 0, none⟩) N cap3))) := fun w3 g3 N cap3 XS h1 h2 h3 h4 =>
          (HI2.out.to HF2.out).step HR.out h1 HWF.out h2 h3 h4 (World.block_lt_of_cell? wr _ hv)
        have HXS : Hid ([] ++ [] ++ [.int .u64 base, .string ⟨data.toArray⟩, .bool free] ++ [] = aflat (ins [] 0 ⟨base, data, free⟩)) := Lib.hid (by rw [ins_flat]; simp [Reg.cells, aflat])
        obtain ⟨i0, hi, hz0, hz1, hz2⟩ := info_parts Tryz.info_areg
        have HW0 : Hid (Fr No wr wr.drew) := (Fr.refl _ _).drew
        have HW1 : Hid (∀ o, Fr No wr (wr.alloc o).drew) := fun o => ((Fr.refl _ _).alloc o).drew
        generalize hB : wr.heap.size = B at *
        have HB2 := Lib.hid hB
        obtain ⟨f1, _, _, _, f5, f6, f7⟩ := HCF.out wr (Fr.refl _ _)
        have f8 := fun o => (HCF.out (wr.alloc o) ((Fr.refl _ _).alloc o)).1
        have b3 : (0 : Int) ≤ (k : Int) := by omega
        have b4 : (k : Int) < (n : Int) := by omega
        clear hB
        have HA1 : Hid (∀ (W W0 w' : World) (v : Value) (q : Nat) (xs : List Value), Fr No wr W → W0.ownsRow B 69 3 v q xs → Fr (OwnOf v) W w' → Fr No wr w') := fun W W0 w' v q xs h1 h2 h3 =>
          ((h1.any.trans (h3.mono fun k _ hk => by have := OwnOf.ge h2 hk; have := HB2.out; unfold From; omega)) : Fr (From wr) wr w').ours
        have HSA : Hid (∀ W : World, SrcAt (W.alloc (.cells #[.int .u64 base, .string ⟨data.toArray⟩, .bool free] 69)) (.slice (some ⟨W.heap.size, 0, none⟩) 1 1) 1 [.int .u64 base, .string ⟨data.toArray⟩, .bool free]) := fun W => .inr ⟨_, _, rfl, World.news_of_block (heap_alloc_new W _)⟩
        have HSB : Hid (∀ w1, Fr (OwnOf (.slice none 0 0)) (wr.alloc (.cells #[.int .u64 base, .string ⟨data.toArray⟩, .bool free] 69)).drew w1 → SrcAt w1 (.slice (some ⟨wr.heap.size, 0, none⟩) 1 1) 1 [.int .u64 base, .string ⟨data.toArray⟩, .bool free]) := fun w1 h => by
          have h0 := HSA.out wr
          exact (h0.fr ((Fr.refl No _).drew) (fun _ _ => id)).fr h (fun k _ hk => by simp [OwnOf, Value.ownBlock] at hk)
        clear HN HC HT HB HR HRT HG HD x1 HGG HE hz hg q1 HOK HRg HV hw0 hmk HI2 HF2 k0 k1 k2 HWF sz
        have HSW : Hid (∀ W, Fr No wr W → (fun W => W.cell? ⟨w.heap.size, 0, none⟩ = some (.slice none 0 0) ∧ W.cell? ⟨g, off + k * 3, none⟩ = some (.int .u64 base) ∧ W.cell? ⟨g, off + k * 3 + 1, none⟩ = some (.string ⟨data.toArray⟩) ∧ W.cell? ⟨g, off + k * 3 + 2, none⟩ = some (.bool free)) W) := fun W hW => ⟨(HCF.out W hW).1, (HCF.out W hW).2.1, (HCF.out W hW).2.2.1, (HCF.out W hW).2.2.2.1⟩
        have hHeld : (fun W => W.cell? ⟨w.heap.size, 0, none⟩ = some (.slice none 0 0) ∧ W.cell? ⟨g, off + k * 3, none⟩ = some (.int .u64 base) ∧ W.cell? ⟨g, off + k * 3 + 1, none⟩ = some (.string ⟨data.toArray⟩) ∧ W.cell? ⟨g, off + k * 3 + 2, none⟩ = some (.bool free)) wr.drew := HSW.out _ HW0.out
        refine wp_region_z 23 (S := (fun W => W.cell? ⟨w.heap.size, 0, none⟩ = some (.slice none 0 0) ∧ W.cell? ⟨g, off + k * 3, none⟩ = some (.int .u64 base) ∧ W.cell? ⟨g, off + k * 3 + 1, none⟩ = some (.string ⟨data.toArray⟩) ∧ W.cell? ⟨g, off + k * 3 + 2, none⟩ = some (.bool free))) (by kernel_rfl) ?_
        refine wpAnyZ_take (i := 0) (v := ?_) (by (try simp only [List.getElem?_toArray]); (try simp only [List.getElem?_cons_succ]); (try simp only [List.getElem?_cons_zero]); rfl) (by kernel_rfl) (by kernel_rfl) (by kernel_rfl) (by kernel_rfl) (by kernel_rfl) (by exact fun _ _ _ h => h) (Or.inl ⟨by rfl, ?_⟩) (by assumption) ?_
        rotate_left
        focus (intro w hSw; (try dsimp only at hSw); go_simp; try with_reducible rfl)
        ((try simp only [Act.put]); (try simp only [List.setIfInBounds_toArray]); (try simp only [List.set_cons_succ]); (try simp only [List.set_cons_zero]))
        refine wpAnyZ_take (i := 1) (v := ?_) (by (try simp only [List.getElem?_toArray]); (try simp only [List.getElem?_cons_succ]); (try simp only [List.getElem?_cons_zero]); rfl) (by kernel_rfl) (by kernel_rfl) (by kernel_rfl) (by kernel_rfl) (by kernel_rfl) (by exact fun _ _ _ h => h) (Or.inl ⟨by rfl, ?_⟩) (by assumption) ?_
        rotate_left
        focus (intro w hSw; (try dsimp only at hSw); go_simp; try with_reducible rfl)
        ((try simp only [Act.put]); (try simp only [List.setIfInBounds_toArray]); (try simp only [List.set_cons_succ]); (try simp only [List.set_cons_zero]))
        refine wpAnyZ_take (i := 2) (v := ?_) (by (try simp only [List.getElem?_toArray]); (try simp only [List.getElem?_cons_succ]); (try simp only [List.getElem?_cons_zero]); rfl) (by kernel_rfl) (by kernel_rfl) (by kernel_rfl) (by kernel_rfl) (by kernel_rfl) (by exact fun _ _ _ h => h) (Or.inl ⟨by rfl, ?_⟩) (by assumption) ?_
        rotate_left
        focus (intro w hSw; (try dsimp only at hSw); go_simp; try with_reducible rfl)
        ((try simp only [Act.put]); (try simp only [List.setIfInBounds_toArray]); (try simp only [List.set_cons_succ]); (try simp only [List.set_cons_zero]))
        refine wpAnyZ_take (i := 3) (v := ?_) (by (try simp only [List.getElem?_toArray]); (try simp only [List.getElem?_cons_succ]); (try simp only [List.getElem?_cons_zero]); rfl) (by kernel_rfl) (by kernel_rfl) (by kernel_rfl) (by kernel_rfl) (by kernel_rfl) (by exact fun _ _ _ h => h) (Or.inl ⟨by rfl, ?_⟩) (by assumption) ?_
        rotate_left
        focus (intro w hSw; (try dsimp only at hSw); go_simp; try with_reducible rfl)
        ((try simp only [Act.put]); (try simp only [List.setIfInBounds_toArray]); (try simp only [List.set_cons_succ]); (try simp only [List.set_cons_zero]))
        refine wpAnyZ_take (i := 4) (v := ?_) (by (try simp only [List.getElem?_toArray]); (try simp only [List.getElem?_cons_succ]); (try simp only [List.getElem?_cons_zero]); rfl) (by kernel_rfl) (by kernel_rfl) (by kernel_rfl) (by kernel_rfl) (by kernel_rfl) (by exact fun _ _ _ h => h) (Or.inl ⟨by rfl, ?_⟩) (by assumption) ?_
        rotate_left
        focus (intro w hSw; (try dsimp only at hSw); go_simp; try with_reducible rfl)
        ((try simp only [Act.put]); (try simp only [List.setIfInBounds_toArray]); (try simp only [List.set_cons_succ]); (try simp only [List.set_cons_zero]))
        refine wpAnyZ_take (i := 5) (v := ?_) (by (try simp only [List.getElem?_toArray]); (try simp only [List.getElem?_cons_succ]); (try simp only [List.getElem?_cons_zero]); rfl) (by kernel_rfl) (by kernel_rfl) (by kernel_rfl) (by kernel_rfl) (by kernel_rfl) (by exact fun _ _ _ h => h) (Or.inl ⟨by rfl, ?_⟩) (by assumption) ?_
        rotate_left
        focus (intro w hSw; (try dsimp only at hSw); go_simp; try with_reducible rfl)
        ((try simp only [Act.put]); (try simp only [List.setIfInBounds_toArray]); (try simp only [List.set_cons_succ]); (try simp only [List.set_cons_zero]))
        refine wpAnyZ_take (i := 6) (v := ?_) (by (try simp only [List.getElem?_toArray]); (try simp only [List.getElem?_cons_succ]); (try simp only [List.getElem?_cons_zero]); rfl) (by kernel_rfl) (by kernel_rfl) (by kernel_rfl) (by kernel_rfl) (by kernel_rfl) (by exact fun _ _ _ h => h) (Or.inl ⟨by rfl, ?_⟩) (by assumption) ?_
        rotate_left
        focus (intro w hSw; (try dsimp only at hSw); go_simp; try with_reducible rfl)
        ((try simp only [Act.put]); (try simp only [List.setIfInBounds_toArray]); (try simp only [List.set_cons_succ]); (try simp only [List.set_cons_zero]))
        refine wpAnyZ_take (i := 8) (v := ?_) (by (try simp only [List.getElem?_toArray]); (try simp only [List.getElem?_cons_succ]); (try simp only [List.getElem?_cons_zero]); rfl) (by kernel_rfl) (by kernel_rfl) (by kernel_rfl) (by kernel_rfl) (by kernel_rfl) (by exact fun _ _ _ h => h) (Or.inl ⟨by rfl, ?_⟩) (by assumption) ?_
        rotate_left
        focus (intro w hSw; (try dsimp only at hSw); go_simp; try with_reducible rfl)
        ((try simp only [Act.put]); (try simp only [List.setIfInBounds_toArray]); (try simp only [List.set_cons_succ]); (try simp only [List.set_cons_zero]))
        refine wpAnyZ_take (i := 9) (v := ?_) (by (try simp only [List.getElem?_toArray]); (try simp only [List.getElem?_cons_succ]); (try simp only [List.getElem?_cons_zero]); rfl) (by kernel_rfl) (by kernel_rfl) (by kernel_rfl) (by kernel_rfl) (by kernel_rfl) (by exact fun _ _ _ h => h) (Or.inl ⟨by rfl, ?_⟩) (by assumption) ?_
        rotate_left
        focus (intro w hSw; (try dsimp only at hSw); go_simp; try with_reducible rfl)
        ((try simp only [Act.put]); (try simp only [List.setIfInBounds_toArray]); (try simp only [List.set_cons_succ]); (try simp only [List.set_cons_zero]))
        refine wpAnyZ_take (i := 10) (v := ?_) (by (try simp only [List.getElem?_toArray]); (try simp only [List.getElem?_cons_succ]); (try simp only [List.getElem?_cons_zero]); rfl) (by kernel_rfl) (by kernel_rfl) (by kernel_rfl) (by kernel_rfl) (by kernel_rfl) (by exact fun _ _ _ h => h) (Or.inl ⟨by rfl, ?_⟩) (by assumption) ?_
        rotate_left
        focus (intro w hSw; (try dsimp only at hSw); go_simp; try with_reducible rfl)
        ((try simp only [Act.put]); (try simp only [List.setIfInBounds_toArray]); (try simp only [List.set_cons_succ]); (try simp only [List.set_cons_zero]))
        refine wpAnyZ_take (i := 11) (v := ?_) (by (try simp only [List.getElem?_toArray]); (try simp only [List.getElem?_cons_succ]); (try simp only [List.getElem?_cons_zero]); rfl) (by kernel_rfl) (by kernel_rfl) (by kernel_rfl) (by kernel_rfl) (by kernel_rfl) (by exact fun _ _ _ h => h) (Or.inl ⟨by rfl, ?_⟩) (by assumption) ?_
        rotate_left
        focus (intro w hSw; (try dsimp only at hSw); go_simp; try with_reducible rfl)
        ((try simp only [Act.put]); (try simp only [List.setIfInBounds_toArray]); (try simp only [List.set_cons_succ]); (try simp only [List.set_cons_zero]))
        refine wpAnyZ_take (i := 14) (v := ?_) (by (try simp only [List.getElem?_toArray]); (try simp only [List.getElem?_cons_succ]); (try simp only [List.getElem?_cons_zero]); rfl) (by kernel_rfl) (by kernel_rfl) (by kernel_rfl) (by kernel_rfl) (by kernel_rfl) (by exact fun _ _ _ h => h) (Or.inl ⟨by rfl, ?_⟩) (by assumption) ?_
        rotate_left
        focus (intro w hSw; (try dsimp only at hSw); go_simp; try with_reducible rfl)
        ((try simp only [Act.put]); (try simp only [List.setIfInBounds_toArray]); (try simp only [List.set_cons_succ]); (try simp only [List.set_cons_zero]))
        refine wpAnyZ_take (i := 15) (v := ?_) (by (try simp only [List.getElem?_toArray]); (try simp only [List.getElem?_cons_succ]); (try simp only [List.getElem?_cons_zero]); rfl) (by kernel_rfl) (by kernel_rfl) (by kernel_rfl) (by kernel_rfl) (by kernel_rfl) (by exact fun _ _ _ h => h) (Or.inl ⟨by rfl, ?_⟩) (by assumption) ?_
        rotate_left
        focus (intro w hSw; (try dsimp only at hSw); go_simp; try with_reducible rfl)
        ((try simp only [Act.put]); (try simp only [List.setIfInBounds_toArray]); (try simp only [List.set_cons_succ]); (try simp only [List.set_cons_zero]))
        refine wpAnyZ_take (i := 16) (v := ?_) (by (try simp only [List.getElem?_toArray]); (try simp only [List.getElem?_cons_succ]); (try simp only [List.getElem?_cons_zero]); rfl) (by kernel_rfl) (by kernel_rfl) (by kernel_rfl) (by kernel_rfl) (by kernel_rfl) (by exact fun _ _ _ h => h) (Or.inl ⟨by rfl, ?_⟩) (by assumption) ?_
        rotate_left
        focus (intro w hSw; (try dsimp only at hSw); go_simp; try with_reducible rfl)
        ((try simp only [Act.put]); (try simp only [List.setIfInBounds_toArray]); (try simp only [List.set_cons_succ]); (try simp only [List.set_cons_zero]))
        refine wpAnyZ_take (i := 17) (v := ?_) (by (try simp only [List.getElem?_toArray]); (try simp only [List.getElem?_cons_succ]); (try simp only [List.getElem?_cons_zero]); rfl) (by kernel_rfl) (by kernel_rfl) (by kernel_rfl) (by kernel_rfl) (by kernel_rfl) (by exact fun _ _ _ h => h) (Or.inl ⟨by rfl, ?_⟩) (by assumption) ?_
        rotate_left
        focus (intro w hSw; (try dsimp only at hSw); go_simp; try with_reducible rfl)
        ((try simp only [Act.put]); (try simp only [List.setIfInBounds_toArray]); (try simp only [List.set_cons_succ]); (try simp only [List.set_cons_zero]))
        refine wpAnyZ_take (i := 18) (v := ?_) (by (try simp only [List.getElem?_toArray]); (try simp only [List.getElem?_cons_succ]); (try simp only [List.getElem?_cons_zero]); rfl) (by kernel_rfl) (by kernel_rfl) (by kernel_rfl) (by kernel_rfl) (by kernel_rfl) (by exact fun _ _ _ h => h) (Or.inl ⟨by rfl, ?_⟩) (by assumption) ?_
        rotate_left
        focus (intro w hSw; (try dsimp only at hSw); go_simp; try with_reducible rfl)
        ((try simp only [Act.put]); (try simp only [List.setIfInBounds_toArray]); (try simp only [List.set_cons_succ]); (try simp only [List.set_cons_zero]))
        refine wpAnyZ_take (i := 19) (v := ?_) (by (try simp only [List.getElem?_toArray]); (try simp only [List.getElem?_cons_succ]); (try simp only [List.getElem?_cons_zero]); rfl) (by kernel_rfl) (by kernel_rfl) (by kernel_rfl) (by kernel_rfl) (by kernel_rfl) (by exact fun _ _ _ h => h) (Or.inl ⟨by rfl, ?_⟩) (by assumption) ?_
        rotate_left
        focus (intro w hSw; (try dsimp only at hSw); go_simp; try with_reducible rfl)
        ((try simp only [Act.put]); (try simp only [List.setIfInBounds_toArray]); (try simp only [List.set_cons_succ]); (try simp only [List.set_cons_zero]))
        refine wpAnyZ_ready (rs := [7, 12]) (by kernel_rfl) (by simp) ?_
        refine AllReadyZ.cons (by (try simp only [List.getElem?_toArray]); (try simp only [List.getElem?_cons_succ]); (try simp only [List.getElem?_cons_zero]); rfl) (fun K hK => ?_) (AllReadyZ.cons (by (try simp only [List.getElem?_toArray]); (try simp only [List.getElem?_cons_succ]); (try simp only [List.getElem?_cons_zero]); rfl) (fun K hK => ?_) AllReadyZ.nil)
        · skip
          refine step_append_src (by rfl) (.const (.slice none 0 0)) (.tmp 92) 26 (by rfl) B 69 i0 _ 3 32 Tryz.underlying26 hi hz0 hz1 hz2 rfl (by decide) (.slice none 0 0) 0 [] (by rfl) (by exact World.ownsRow_nil _ _ _ _) (.slice none 0 0) 0 ([]) (by rfl) (by exact .inl ⟨rfl, rfl, rfl⟩) (by rfl) (fun u hu => by cases hu) (by unfold maxLen; omega) (by omega) (by exact HB2.out ▸ HW0.out.size) ?_
          intro v1 w1 own1 fr1
          have hw1 : Hid (Fr No wr w1) := HA1.out _ wr _ _ _ _ HW0.out (World.ownsRow_nil _ _ _ _) fr1
          have HOwn1 := Lib.hid own1
          have HFr1 := Lib.hid fr1
          clear own1 fr1
          refine hK _ _ (fun _ => HSW.out _ hw1.out) ?_
          clear hK K
          (try simp only [Act.put, List.setIfInBounds_toArray, List.set_cons_zero, List.set_cons_succ])
          refine wpAnyZ_ready (rs := [12]) (by kernel_rfl) (by simp) ?_
          refine AllReadyZ.cons (by (try simp only [List.getElem?_toArray]); (try simp only [List.getElem?_cons_succ]); (try simp only [List.getElem?_cons_zero]); rfl) (fun K hK => ?_) AllReadyZ.nil
          go_simp
          refine hK _ _ (fun _ => HSW.out _ (hw1.out.alloc _)) ?_
          clear hK K
          (try simp only [Act.put, List.setIfInBounds_toArray, List.set_cons_zero, List.set_cons_succ])
          refine wpAnyZ_ready (rs := [13]) (by kernel_rfl) (by simp) ?_
          refine AllReadyZ.cons (by (try simp only [List.getElem?_toArray]); (try simp only [List.getElem?_cons_succ]); (try simp only [List.getElem?_cons_zero]); rfl) (fun K hK => ?_) AllReadyZ.nil
          skip
          refine step_append_src (by rfl) (.tmp 93) (.tmp 98) 26 (by rfl) B 69 i0 _ 3 32 Tryz.underlying26 hi hz0 hz1 hz2 rfl (by decide) v1 (0 + 0) ([] ++ []) (by rfl) (by exact World.ownsRow.alloc HOwn1.out _) _ 1 [.int .u64 base, .string ⟨data.toArray⟩, .bool free] (by rfl) (by exact HSA.out _) (by rfl) (by simp [Value.oneCell']) (by unfold maxLen; omega) (by omega) (by exact HB2.out ▸ (hw1.out.alloc (.cells #[.int .u64 base, .string ⟨data.toArray⟩, .bool free] 69)).size) ?_
          intro v2 w2 own2 fr2
          have hw2 : Hid (Fr No wr w2) := HA1.out _ _ _ _ _ _ (hw1.out.alloc (.cells #[.int .u64 base, .string ⟨data.toArray⟩, .bool free] 69)) HOwn1.out fr2
          have HOwn2 := Lib.hid own2
          clear own2 fr2
          refine hK _ _ (fun _ => HSW.out _ hw2.out) ?_
          clear hK K
          (try simp only [Act.put, List.setIfInBounds_toArray, List.set_cons_zero, List.set_cons_succ])
          refine wpAnyZ_ready (rs := [20]) (by kernel_rfl) (by simp) ?_
          refine AllReadyZ.cons (by (try simp only [List.getElem?_toArray]); (try simp only [List.getElem?_cons_succ]); (try simp only [List.getElem?_cons_zero]); rfl) (fun K hK => ?_) AllReadyZ.nil
          skip
          refine step_append_src (by rfl) (.tmp 99) (.tmp 105) 26 (by rfl) B 69 i0 _ 3 32 Tryz.underlying26 hi hz0 hz1 hz2 rfl (by decide) v2 (0 + 0 + 1) ([] ++ [] ++ [.int .u64 base, .string ⟨data.toArray⟩, .bool free]) (by rfl) (by exact HOwn2.out) (.slice none 0 0) 0 [] (by rfl) (by exact .inl ⟨rfl, rfl, rfl⟩) (by rfl) (fun u hu => by cases hu) (by unfold maxLen; omega) (by omega) (by exact HB2.out ▸ hw2.out.size) ?_
          intro v3 w3 own3 fr3
          have hw3 : Hid (Fr No wr w3) := HA1.out _ _ _ _ _ _ hw2.out HOwn2.out fr3
          obtain ⟨g3, cap3, rfl, _, _⟩ := World.ownsRow.form own3 (by omega)
          simp only [Nat.zero_add] at own3
          have HOwn3 := Lib.hid own3
          clear own3 fr3
          refine hK _ _ (fun _ => HSW.out _ hw3.out) ?_
          clear hK K
          (try simp only [Act.put, List.setIfInBounds_toArray, List.set_cons_zero, List.set_cons_succ])
          obtain ⟨p1, p2, p3, p4, p5, p6, p7⟩ := HCF.out w3 hw3.out
          have hHeld3 := HSW.out _ hw3.out
          refine wpAnyZ_take (i := 21) (v := ?_) (by (try simp only [List.getElem?_toArray]); (try simp only [List.getElem?_cons_succ]); (try simp only [List.getElem?_cons_zero]); rfl) (by kernel_rfl) (by kernel_rfl) (by kernel_rfl) (by kernel_rfl) (by kernel_rfl) (by exact fun _ _ _ h => h) (Or.inl ⟨by rfl, ?_⟩) (by assumption) ?_
          rotate_left
          focus (intro w hSw; (try dsimp only at hSw); go_simp; try with_reducible rfl)
          ((try simp only [Act.put]); (try simp only [List.setIfInBounds_toArray]); (try simp only [List.set_cons_succ]); (try simp only [List.set_cons_zero]))
          refine wpAnyZ_take (i := 22) (v := ?_) (by (try simp only [List.getElem?_toArray]); (try simp only [List.getElem?_cons_succ]); (try simp only [List.getElem?_cons_zero]); rfl) (by kernel_rfl) (by kernel_rfl) (by kernel_rfl) (by kernel_rfl) (by kernel_rfl) (by exact fun _ _ _ h => h) (Or.inl ⟨by rfl, ?_⟩) (by assumption) ?_
          rotate_left
          focus (intro w hSw; (try dsimp only at hSw); go_simp; try with_reducible rfl)
          ((try simp only [Act.put]); (try simp only [List.setIfInBounds_toArray]); (try simp only [List.set_cons_succ]); (try simp only [List.set_cons_zero]))
          refine wpAnyZ_ready (rs := [23]) (by kernel_rfl) (by simp) ?_
          refine AllReadyZ.cons (by (try simp only [List.getElem?_toArray]); (try simp only [List.getElem?_cons_succ]); (try simp only [List.getElem?_cons_zero]); rfl) (fun K hK => ?_) AllReadyZ.nil
          go_simp
          refine hK _ _ (fun h => absurd rfl h) ?_
          clear hK K
          (try simp only [Act.put, List.setIfInBounds_toArray, List.set_cons_zero, List.set_cons_succ])
          refine wpAnyZ_done (by kernel_rfl) ?_ _
          go_wp2_with fail
          go_roundw
          case rel => exact ⟨k + 1, by omega, by go_num, _, HST.out _ _ _ _ _ hw3.out (HB2.out.symm ▸ HOwn3.out) HXS.out rfl⟩
          case measure => simp [intOf] <;> omega
        · go_simp
          refine hK _ _ (fun _ => HSW.out _ (HW1.out _)) ?_
          clear hK K
          (try simp only [Act.put, List.setIfInBounds_toArray, List.set_cons_zero, List.set_cons_succ])
          refine wpAnyZ_ready (rs := [7]) (by kernel_rfl) (by simp) ?_
          refine AllReadyZ.cons (by (try simp only [List.getElem?_toArray]); (try simp only [List.getElem?_cons_succ]); (try simp only [List.getElem?_cons_zero]); rfl) (fun K hK => ?_) AllReadyZ.nil
          skip
          refine step_append_src (by rfl) (.const (.slice none 0 0)) (.tmp 92) 26 (by rfl) B 69 i0 _ 3 32 Tryz.underlying26 hi hz0 hz1 hz2 rfl (by decide) (.slice none 0 0) 0 [] (by rfl) (by exact World.ownsRow_nil _ _ _ _) (.slice none 0 0) 0 ([]) (by rfl) (by exact .inl ⟨rfl, rfl, rfl⟩) (by rfl) (fun u hu => by cases hu) (by unfold maxLen; omega) (by omega) (by exact HB2.out ▸ (HW1.out (.cells #[.int .u64 base, .string ⟨data.toArray⟩, .bool free] 69)).size) ?_
          intro v1 w1 own1 fr1
          have hw1 : Hid (Fr No wr w1) := HA1.out _ wr _ _ _ _ (HW1.out (.cells #[.int .u64 base, .string ⟨data.toArray⟩, .bool free] 69)) (World.ownsRow_nil _ _ _ _) fr1
          have HOwn1 := Lib.hid own1
          have HFr1 := Lib.hid fr1
          clear own1 fr1
          refine hK _ _ (fun _ => HSW.out _ hw1.out) ?_
          clear hK K
          (try simp only [Act.put, List.setIfInBounds_toArray, List.set_cons_zero, List.set_cons_succ])
          refine wpAnyZ_ready (rs := [13]) (by kernel_rfl) (by simp) ?_
          refine AllReadyZ.cons (by (try simp only [List.getElem?_toArray]); (try simp only [List.getElem?_cons_succ]); (try simp only [List.getElem?_cons_zero]); rfl) (fun K hK => ?_) AllReadyZ.nil
          skip
          refine step_append_src (by rfl) (.tmp 93) (.tmp 98) 26 (by rfl) B 69 i0 _ 3 32 Tryz.underlying26 hi hz0 hz1 hz2 rfl (by decide) v1 (0 + 0) ([] ++ []) (by rfl) (by exact HOwn1.out) _ 1 [.int .u64 base, .string ⟨data.toArray⟩, .bool free] (by rfl) (by exact HSB.out _ HFr1.out) (by rfl) (by simp [Value.oneCell']) (by unfold maxLen; omega) (by omega) (by exact HB2.out ▸ hw1.out.size) ?_
          intro v2 w2 own2 fr2
          have hw2 : Hid (Fr No wr w2) := HA1.out _ _ _ _ _ _ hw1.out HOwn1.out fr2
          have HOwn2 := Lib.hid own2
          clear own2 fr2
          refine hK _ _ (fun _ => HSW.out _ hw2.out) ?_
          clear hK K
          (try simp only [Act.put, List.setIfInBounds_toArray, List.set_cons_zero, List.set_cons_succ])
          refine wpAnyZ_ready (rs := [20]) (by kernel_rfl) (by simp) ?_
          refine AllReadyZ.cons (by (try simp only [List.getElem?_toArray]); (try simp only [List.getElem?_cons_succ]); (try simp only [List.getElem?_cons_zero]); rfl) (fun K hK => ?_) AllReadyZ.nil
          skip
          refine step_append_src (by rfl) (.tmp 99) (.tmp 105) 26 (by rfl) B 69 i0 _ 3 32 Tryz.underlying26 hi hz0 hz1 hz2 rfl (by decide) v2 (0 + 0 + 1) ([] ++ [] ++ [.int .u64 base, .string ⟨data.toArray⟩, .bool free]) (by rfl) (by exact HOwn2.out) (.slice none 0 0) 0 [] (by rfl) (by exact .inl ⟨rfl, rfl, rfl⟩) (by rfl) (fun u hu => by cases hu) (by unfold maxLen; omega) (by omega) (by exact HB2.out ▸ hw2.out.size) ?_
          intro v3 w3 own3 fr3
          have hw3 : Hid (Fr No wr w3) := HA1.out _ _ _ _ _ _ hw2.out HOwn2.out fr3
          obtain ⟨g3, cap3, rfl, _, _⟩ := World.ownsRow.form own3 (by omega)
          simp only [Nat.zero_add] at own3
          have HOwn3 := Lib.hid own3
          clear own3 fr3
          refine hK _ _ (fun _ => HSW.out _ hw3.out) ?_
          clear hK K
          (try simp only [Act.put, List.setIfInBounds_toArray, List.set_cons_zero, List.set_cons_succ])
          obtain ⟨p1, p2, p3, p4, p5, p6, p7⟩ := HCF.out w3 hw3.out
          have hHeld3 := HSW.out _ hw3.out
          refine wpAnyZ_take (i := 21) (v := ?_) (by (try simp only [List.getElem?_toArray]); (try simp only [List.getElem?_cons_succ]); (try simp only [List.getElem?_cons_zero]); rfl) (by kernel_rfl) (by kernel_rfl) (by kernel_rfl) (by kernel_rfl) (by kernel_rfl) (by exact fun _ _ _ h => h) (Or.inl ⟨by rfl, ?_⟩) (by assumption) ?_
          rotate_left
          focus (intro w hSw; (try dsimp only at hSw); go_simp; try with_reducible rfl)
          ((try simp only [Act.put]); (try simp only [List.setIfInBounds_toArray]); (try simp only [List.set_cons_succ]); (try simp only [List.set_cons_zero]))
          refine wpAnyZ_take (i := 22) (v := ?_) (by (try simp only [List.getElem?_toArray]); (try simp only [List.getElem?_cons_succ]); (try simp only [List.getElem?_cons_zero]); rfl) (by kernel_rfl) (by kernel_rfl) (by kernel_rfl) (by kernel_rfl) (by kernel_rfl) (by exact fun _ _ _ h => h) (Or.inl ⟨by rfl, ?_⟩) (by assumption) ?_
          rotate_left
          focus (intro w hSw; (try dsimp only at hSw); go_simp; try with_reducible rfl)
          ((try simp only [Act.put]); (try simp only [List.setIfInBounds_toArray]); (try simp only [List.set_cons_succ]); (try simp only [List.set_cons_zero]))
          refine wpAnyZ_ready (rs := [23]) (by kernel_rfl) (by simp) ?_
          refine AllReadyZ.cons (by (try simp only [List.getElem?_toArray]); (try simp only [List.getElem?_cons_succ]); (try simp only [List.getElem?_cons_zero]); rfl) (fun K hK => ?_) AllReadyZ.nil
          go_simp
          refine hK _ _ (fun h => absurd rfl h) ?_
          clear hK K
          (try simp only [Act.put, List.setIfInBounds_toArray, List.set_cons_zero, List.set_cons_succ])
          refine wpAnyZ_done (by kernel_rfl) ?_ _
          go_wp2_with fail
          go_roundw
          case rel => exact ⟨k + 1, by omega, by go_num, _, HST.out _ _ _ _ _ hw3.out (HB2.out.symm ▸ HOwn3.out) HXS.out rfl⟩
          case measure => simp [intOf] <;> omega
      · rw [hml] at hV hcap hm0 ho2
        have HL := Lib.hid hml
        have HV := Lib.hid hV
        have HC2 := Lib.hid hc2
        have hw0 : w.heap.size < wq.heap.size := World.block_lt_of_cell? wq _ hV
        clear hml hV hc2 ho2 HI
        go_cut [6] (fun s wx => ∃ j : Nat, j ≤ ml ∧ s = .int .i64 j ∧ Hid (∀ t, t < j → ∀ x, m[t]? = some x → x.base < base) ∧ Hid (∀ x, m[j]? = some x → base ≤ x.base) ∧ Hid (Fr No wq wx))
        case first =>
          go_wp2_with fail
          go_loopw [6] (fun s wx => ∃ j : Nat, j ≤ ml ∧ s = .int .i64 j ∧ Hid (∀ t, t < j → ∀ x, m[t]? = some x → x.base < base) ∧ Hid (Fr No wq wx)) (fun s _ => ml - (intOf s).toNat)
          case atStart => exact ⟨0, Nat.zero_le _, rfl, fun t ht => absurd ht (Nat.not_lt_zero _), Fr.refl _ _⟩
          case round =>
            obtain ⟨j, hj, rfl, HJ, HF⟩ := hrel
            have hv : wr.cell? ⟨w.heap.size, 0, none⟩ = some (.slice (some ⟨g2, 0, none⟩) ml cap2) := HF.out.cell HV.out id
            obtain ⟨k0, k1, k2⟩ := HRg.out _ HF.out
            by_cases hjl : j < ml
            · obtain ⟨x, hx⟩ : ∃ x, m[j]? = some x := ⟨m[j]'(by rw [HL.out]; exact hjl), List.getElem?_eq_getElem _⟩
              obtain ⟨y0, y1, y2⟩ := areg_cells0 (HF.out.cells HC2.out id) hx
              have HX := Lib.hid hx
              clear hx
              by_cases hb : x.base < base
              · have HJ2 : Hid (∀ t, t < j + 1 → ∀ x, m[t]? = some x → x.base < base) := fun t ht y hy => by
                  by_cases e : t = j
                  · subst e; rw [HX.out] at hy; exact Option.some.inj hy ▸ hb
                  · exact HJ.out t (by omega) y hy
                go_wp2_with fail
                go_quiet (fail)
                go_wp2_with fail
                go_roundw
                case rel => exact ⟨j + 1, by omega, by go_num, HJ2, HF.out.drewN _⟩
                case measure => simp [intOf] <;> omega
              · go_wp2_with fail
                go_quiet (fail)
                go_wp2_with fail
                go_meet
                exact ⟨j, hj, rfl, HJ, (fun y hy => by rw [HX.out] at hy; exact Option.some.inj hy ▸ (by omega)), HF.out.drewN _⟩
            · obtain rfl : j = ml := by omega
              go_wp2_with fail
              go_quiet (fail)
              go_wp2_with fail
              go_meet
              exact ⟨_, hj, rfl, HJ, (fun y hy => by rw [List.getElem?_eq_none (by rw [HL.out]; exact Nat.le_refl _)] at hy; cases hy), HF.out.drewN _⟩
        case rest =>
          obtain ⟨j, hj, rfl, HJ1, HJ2, HF⟩ := hcut
          have HAP : Hid (∀ x, x ∈ m → ∀ W, Calls Tryz.prog 38 #[.agg #[.int .u64 x.base, .string ⟨x.data.toArray⟩, .bool x.free], .agg #[.int .u64 base, .string ⟨data.toArray⟩, .bool free]] W fun e w' => (∃ t : Bool, e = .returned (.bool t) ∧ (t = true ↔ apartR x ⟨base, data, free⟩)) ∧ Fr No W w') :=
            fun x hx W => refapart_any x ⟨base, data, free⟩ (HI2.out.ref.wf.ok x hx) HOK.out W
          go_wp2_with fail
          go_loopw [7] (fun s wx => ∃ u : Nat, u ≤ ml ∧ s = .int .i64 u ∧ Hid (∀ t, t < u → ∀ x, m[t]? = some x → apartR x ⟨base, data, free⟩) ∧ Hid (Fr No wq wx)) (fun s _ => ml - (intOf s).toNat)
          case atStart => exact ⟨0, Nat.zero_le _, rfl, fun t ht => absurd ht (Nat.not_lt_zero _), HF⟩
          case round =>
            obtain ⟨u, hu, rfl, HU, HF2⟩ := hrel
            have hv : wr.cell? ⟨w.heap.size, 0, none⟩ = some (.slice (some ⟨g2, 0, none⟩) ml cap2) := HF2.out.cell HV.out id
            obtain ⟨k0, k1, k2⟩ := HRg.out _ HF2.out
            by_cases hul : u < ml
            · obtain ⟨x, hx⟩ : ∃ x, m[u]? = some x := ⟨m[u]'(by rw [HL.out]; exact hul), List.getElem?_eq_getElem _⟩
              obtain ⟨y0, y1, y2⟩ := areg_cells0 (HF2.out.cells HC2.out id) hx
              have HX := Lib.hid hx
              have HPX : Hid _ := HAP.out x (List.mem_of_getElem? hx)
              have b1 : (0 : Int) ≤ (u : Int) := by omega
              have b2 : (u : Int) < (ml : Int) := by omega
              have b3 : (0 : Int) ≤ (k : Int) := by omega
              have b4 : (k : Int) < (n : Int) := by omega
              clear hx
              go_upto_region 13 with fail
              go_region_held3 (fun W => (W.cell? ⟨w.heap.size, 0, none⟩ = some (.slice (some ⟨g2, 0, none⟩) ml cap2) ∧ W.cell? ⟨g2, u * 3, none⟩ = some (.int .u64 x.base) ∧ W.cell? ⟨g2, u * 3 + 1, none⟩ = some (.string ⟨x.data.toArray⟩) ∧ W.cell? ⟨g2, u * 3 + 2, none⟩ = some (.bool x.free)) ∧ W.cell? ⟨g, off + k * 3, none⟩ = some (.int .u64 base) ∧ W.cell? ⟨g, off + k * 3 + 1, none⟩ = some (.string ⟨data.toArray⟩) ∧ W.cell? ⟨g, off + k * 3 + 2, none⟩ = some (.bool free))
                (first | go_keep | exact ⟨⟨hf5.cell hv id, hf5.cell y0 id, hf5.cell y1 id, hf5.cell y2 id⟩, hf5.cell k0 id, hf5.cell k1 id, hf5.cell k2 id⟩)
                (first | (go_at_call 38; (with_reducible refine (HPX.out _).mono ?_); rintro e w5 ⟨⟨t, rfl, ht⟩, hf5⟩))
              have HF5 := Lib.hid hf5
              cases t with
              | false =>
                have HNO : Hid (¬ ∃ m, m.Perm rs ∧ WF m) := no_memory HR.out (HI2.out.perm.subset (List.mem_of_getElem? HX.out)) (fun h => Bool.noConfusion (ht.2 h))
                clear ht
                go_wp2_with fail
                go_ret2
                exact .inr ⟨HNO.out, rfl, HI2.out.fr.trans (HF2.out.trans (((Fr.refl _ _).drew).trans HF5.out))⟩
              | true =>
                have HU2 : Hid (∀ t, t < u + 1 → ∀ x, m[t]? = some x → apartR x ⟨base, data, free⟩) := fun t ht' y hy => by
                  by_cases e : t = u
                  · subst e; rw [HX.out] at hy; exact Option.some.inj hy ▸ ht.1 rfl
                  · exact HU.out t (by omega) y hy
                clear ht
                go_wp2_with fail
                go_roundw
                case rel => exact ⟨u + 1, by omega, by go_num, HU2, HF2.out.trans (((Fr.refl _ _).drew).trans HF5.out)⟩
                case measure => simp [intOf] <;> omega
            · obtain rfl : u = ml := by omega
              go_upto_region 15 with fail
              have hlen : (m.take j).length = j := by rw [List.length_take, HL.out]; omega
              have hlen2 : (m.drop j).length = u - j := by rw [List.length_drop, HL.out]
              have HF3 : Hid (∀ W, Fr No wr W → SrcAt W (.slice (some ⟨g2, 0, none⟩) j cap2) j (aflat (m.take j))) := fun W hW => by
                refine .inr ⟨_, _, rfl, fun t v ht => ?_⟩
                rw [addr_add]
                refine (HF2.out.trans hW).cell (HC2.out t v ?_) id
                rw [aflat_take] at ht
                rw [List.getElem?_take] at ht
                split at ht
                · exact ht
                · cases ht
              have HS3 : Hid (∀ W, Fr No wr W → SrcAt W (.slice (if cap2 = j then some ⟨g2, 0, none⟩ else some ⟨g2, j * 3, none⟩) (u - j) (cap2 - j)) (u - j) (aflat (m.drop j))) := fun W hW => by
                split
                · refine .inr ⟨_, _, rfl, fun t v ht => ?_⟩
                  rw [List.drop_of_length_le (by rw [HL.out]; omega)] at ht
                  cases ht
                · refine .inr ⟨_, _, rfl, fun t v ht => ?_⟩
                  rw [addr_add]
                  rw [aflat_drop, List.getElem?_drop] at ht
                  have := (HF2.out.trans hW).cell (HC2.out _ v ht) id
                  rwa [Nat.zero_add] at this
              have HLd : Hid ((aflat (m.drop j)).length = (u - j) * 3) := (aflat_length _).trans (by rw [hlen2])
              have HLa : Hid ((aflat (m.take j)).length = j * 3) := (aflat_length _).trans (by rw [hlen])
              have HO1 : Hid (∀ l : List Reg, ∀ u ∈ aflat l, u.oneCell' = true) := fun l v hv => by
                obtain ⟨x, _, hx⟩ := List.mem_flatMap.1 hv
                simp [Reg.cells] at hx
                rcases hx with rfl | rfl | rfl <;> simp [Value.oneCell']
              have HCF : Hid (∀ W, Fr No wr W → W.cell? ⟨w.heap.size, 0, none⟩ = some (.slice (some ⟨g2, 0, none⟩) u cap2) ∧ W.cell? ⟨g, off + k * 3, none⟩ = some (.int .u64 base) ∧ W.cell? ⟨g, off + k * 3 + 1, none⟩ = some (.string ⟨data.toArray⟩) ∧ W.cell? ⟨g, off + k * 3 + 2, none⟩ = some (.bool free) ∧ W.frozen? ⟨w.heap.size, 0, none⟩ = false ∧ W.heap.size ≠ w.heap.size ∧ W.heap.size ≠ g) := fun W hW =>
                ⟨hW.cell hv id, hW.cell k0 id, hW.cell k1 id, hW.cell k2 id, (HI2.out.ref.fr (HF2.out.trans hW) (fun _ _ => id)).openb, World.new_ne W ⟨w.heap.size, 0, none⟩ (hW.cell hv id), World.new_ne W ⟨g, off + k * 3, none⟩ (hW.cell k0 id)⟩
              have HWF : Hid (WF (ins m j ⟨base, data, free⟩)) := ins_wf HI2.out.ref.wf HOK.out (fun x hx => by obtain ⟨t, ht, rfl⟩ := List.getElem_of_mem hx; exact HU.out t (by rw [← HL.out]; exact ht) _ (List.getElem?_eq_getElem ht)) (by rw [HL.out]; omega) HJ1.out HJ2.out
              have HST : Hid (∀ (w3 : World) (g3 N cap3 : Nat) (XS : List Value), Fr No wr w3 → w3.ownsRow wr.heap.size 69 3 (.slice (some ⟨g3, 0, none⟩) N cap3) N XS → XS = aflat (ins m j ⟨base, data, free⟩) → N = (ins m j ⟨base, data, free⟩).length → RNew w rs (k + 1) (ins m j ⟨base, data, free⟩) (w3.setCell ⟨w.heap.size, 0, none⟩ (.slice (some ⟨g3, 0, none⟩) N cap3))) := fun w3 g3 N cap3 XS h1 h2 h3 h4 =>
                (HI2.out.to HF2.out).step HR.out h1 HWF.out h2 h3 h4 (World.block_lt_of_cell? wr _ hv)
              have HXS : Hid ([] ++ aflat (m.take j) ++ [.int .u64 base, .string ⟨data.toArray⟩, .bool free] ++ aflat (m.drop j) = aflat (ins m j ⟨base, data, free⟩)) := Lib.hid (by rw [ins_flat]; simp [Reg.cells])
              have HNS : Hid (j + 1 + (u - j) = (ins m j ⟨base, data, free⟩).length) := Lib.hid (by unfold ins; rw [List.length_append, List.length_cons, hlen, hlen2]; omega)
              obtain ⟨i0, hi, hz0, hz1, hz2⟩ := info_parts Tryz.info_areg
              have HW0 : Hid (Fr No wr wr.drew) := (Fr.refl _ _).drew
              have HW1 : Hid (∀ o, Fr No wr (wr.alloc o).drew) := fun o => ((Fr.refl _ _).alloc o).drew
              generalize hB : wr.heap.size = B at *
              have HB2 := Lib.hid hB
              obtain ⟨f1, _, _, _, f5, f6, f7⟩ := HCF.out wr (Fr.refl _ _)
              have f8 := fun o => (HCF.out (wr.alloc o) ((Fr.refl _ _).alloc o)).1
              have b1 : (0 : Int) ≤ (j : Int) := by omega
              have b2 : (j : Int) ≤ (cap2 : Int) := by omega
              have b3 : (0 : Int) ≤ (k : Int) := by omega
              have b4 : (k : Int) < (n : Int) := by omega
              have b5 : (j : Int) ≤ (u : Int) := by omega
              clear hB hlen hlen2
              have HA1 : Hid (∀ (W W0 w' : World) (v : Value) (q : Nat) (xs : List Value), Fr No wr W → W0.ownsRow B 69 3 v q xs → Fr (OwnOf v) W w' → Fr No wr w') := fun W W0 w' v q xs h1 h2 h3 =>
                ((h1.any.trans (h3.mono fun k _ hk => by have := OwnOf.ge h2 hk; have := HB2.out; unfold From; omega)) : Fr (From wr) wr w').ours
              have HSA : Hid (∀ W : World, SrcAt (W.alloc (.cells #[.int .u64 base, .string ⟨data.toArray⟩, .bool free] 69)) (.slice (some ⟨W.heap.size, 0, none⟩) 1 1) 1 [.int .u64 base, .string ⟨data.toArray⟩, .bool free]) := fun W => .inr ⟨_, _, rfl, World.news_of_block (heap_alloc_new W _)⟩
              have HSB : Hid (∀ w1, Fr (OwnOf (.slice none 0 0)) (wr.alloc (.cells #[.int .u64 base, .string ⟨data.toArray⟩, .bool free] 69)).drew w1 → SrcAt w1 (.slice (some ⟨wr.heap.size, 0, none⟩) 1 1) 1 [.int .u64 base, .string ⟨data.toArray⟩, .bool free]) := fun w1 h => by
                have h0 := HSA.out wr
                exact (h0.fr ((Fr.refl No _).drew) (fun _ _ => id)).fr h (fun k _ hk => by simp [OwnOf, Value.ownBlock] at hk)
              clear HN HC HT HB HR HRT HG HD x1 HGG HE hz q1 HOK HRg hw0 HI2 HF HF2 HAP HC2 HV HL HJ1 HJ2 HU HWF sz hg hne hS2 hj hu hul
              have HSW : Hid (∀ W, Fr No wr W → (fun W => W.cell? ⟨w.heap.size, 0, none⟩ = some (.slice (some ⟨g2, 0, none⟩) u cap2) ∧ W.cell? ⟨g, off + k * 3, none⟩ = some (.int .u64 base) ∧ W.cell? ⟨g, off + k * 3 + 1, none⟩ = some (.string ⟨data.toArray⟩) ∧ W.cell? ⟨g, off + k * 3 + 2, none⟩ = some (.bool free)) W) := fun W hW => ⟨(HCF.out W hW).1, (HCF.out W hW).2.1, (HCF.out W hW).2.2.1, (HCF.out W hW).2.2.2.1⟩
              have hHeld : (fun W => W.cell? ⟨w.heap.size, 0, none⟩ = some (.slice (some ⟨g2, 0, none⟩) u cap2) ∧ W.cell? ⟨g, off + k * 3, none⟩ = some (.int .u64 base) ∧ W.cell? ⟨g, off + k * 3 + 1, none⟩ = some (.string ⟨data.toArray⟩) ∧ W.cell? ⟨g, off + k * 3 + 2, none⟩ = some (.bool free)) wr.drew := HSW.out _ HW0.out
              refine wp_region_z 23 (S := (fun W => W.cell? ⟨w.heap.size, 0, none⟩ = some (.slice (some ⟨g2, 0, none⟩) u cap2) ∧ W.cell? ⟨g, off + k * 3, none⟩ = some (.int .u64 base) ∧ W.cell? ⟨g, off + k * 3 + 1, none⟩ = some (.string ⟨data.toArray⟩) ∧ W.cell? ⟨g, off + k * 3 + 2, none⟩ = some (.bool free))) (by kernel_rfl) ?_
              refine wpAnyZ_take (i := 0) (v := ?_) (by (try simp only [List.getElem?_toArray]); (try simp only [List.getElem?_cons_succ]); (try simp only [List.getElem?_cons_zero]); rfl) (by kernel_rfl) (by kernel_rfl) (by kernel_rfl) (by kernel_rfl) (by kernel_rfl) (by exact fun _ _ _ h => h) (Or.inl ⟨by rfl, ?_⟩) (by assumption) ?_
              rotate_left
              focus (intro w hSw; (try dsimp only at hSw); go_simp; try with_reducible rfl)
              ((try simp only [Act.put]); (try simp only [List.setIfInBounds_toArray]); (try simp only [List.set_cons_succ]); (try simp only [List.set_cons_zero]))
              refine wpAnyZ_take (i := 1) (v := ?_) (by (try simp only [List.getElem?_toArray]); (try simp only [List.getElem?_cons_succ]); (try simp only [List.getElem?_cons_zero]); rfl) (by kernel_rfl) (by kernel_rfl) (by kernel_rfl) (by kernel_rfl) (by kernel_rfl) (by exact fun _ _ _ h => h) (Or.inl ⟨by rfl, ?_⟩) (by assumption) ?_
              rotate_left
              focus (intro w hSw; (try dsimp only at hSw); go_simp; try with_reducible rfl)
              ((try simp only [Act.put]); (try simp only [List.setIfInBounds_toArray]); (try simp only [List.set_cons_succ]); (try simp only [List.set_cons_zero]))
              refine wpAnyZ_take (i := 2) (v := ?_) (by (try simp only [List.getElem?_toArray]); (try simp only [List.getElem?_cons_succ]); (try simp only [List.getElem?_cons_zero]); rfl) (by kernel_rfl) (by kernel_rfl) (by kernel_rfl) (by kernel_rfl) (by kernel_rfl) (by exact fun _ _ _ h => h) (Or.inl ⟨by rfl, ?_⟩) (by assumption) ?_
              rotate_left
              focus (intro w hSw; (try dsimp only at hSw); go_simp; try with_reducible rfl)
              ((try simp only [Act.put]); (try simp only [List.setIfInBounds_toArray]); (try simp only [List.set_cons_succ]); (try simp only [List.set_cons_zero]))
              refine wpAnyZ_take (i := 3) (v := ?_) (by (try simp only [List.getElem?_toArray]); (try simp only [List.getElem?_cons_succ]); (try simp only [List.getElem?_cons_zero]); rfl) (by kernel_rfl) (by kernel_rfl) (by kernel_rfl) (by kernel_rfl) (by kernel_rfl) (by exact fun _ _ _ h => h) (Or.inl ⟨by rfl, ?_⟩) (by assumption) ?_
              rotate_left
              focus (intro w hSw; (try dsimp only at hSw); go_simp; try with_reducible rfl)
              ((try simp only [Act.put]); (try simp only [List.setIfInBounds_toArray]); (try simp only [List.set_cons_succ]); (try simp only [List.set_cons_zero]))
              refine wpAnyZ_take (i := 4) (v := ?_) (by (try simp only [List.getElem?_toArray]); (try simp only [List.getElem?_cons_succ]); (try simp only [List.getElem?_cons_zero]); rfl) (by kernel_rfl) (by kernel_rfl) (by kernel_rfl) (by kernel_rfl) (by kernel_rfl) (by exact fun _ _ _ h => h) (Or.inl ⟨by rfl, ?_⟩) (by assumption) ?_
              rotate_left
              focus (intro w hSw; (try dsimp only at hSw); go_simp; try with_reducible rfl)
              ((try simp only [Act.put]); (try simp only [List.setIfInBounds_toArray]); (try simp only [List.set_cons_succ]); (try simp only [List.set_cons_zero]))
              refine wpAnyZ_take (i := 5) (v := ?_) (by (try simp only [List.getElem?_toArray]); (try simp only [List.getElem?_cons_succ]); (try simp only [List.getElem?_cons_zero]); rfl) (by kernel_rfl) (by kernel_rfl) (by kernel_rfl) (by kernel_rfl) (by kernel_rfl) (by exact fun _ _ _ h => h) (Or.inl ⟨by rfl, ?_⟩) (by assumption) ?_
              rotate_left
              focus (intro w hSw; (try dsimp only at hSw); go_simp; try with_reducible rfl)
              ((try simp only [Act.put]); (try simp only [List.setIfInBounds_toArray]); (try simp only [List.set_cons_succ]); (try simp only [List.set_cons_zero]))
              refine wpAnyZ_take (i := 6) (v := ?_) (by (try simp only [List.getElem?_toArray]); (try simp only [List.getElem?_cons_succ]); (try simp only [List.getElem?_cons_zero]); rfl) (by kernel_rfl) (by kernel_rfl) (by kernel_rfl) (by kernel_rfl) (by kernel_rfl) (by exact fun _ _ _ h => h) (Or.inl ⟨by rfl, ?_⟩) (by assumption) ?_
              rotate_left
              focus (intro w hSw; (try dsimp only at hSw); go_simp; try with_reducible rfl)
              ((try simp only [Act.put]); (try simp only [List.setIfInBounds_toArray]); (try simp only [List.set_cons_succ]); (try simp only [List.set_cons_zero]))
              refine wpAnyZ_take (i := 8) (v := ?_) (by (try simp only [List.getElem?_toArray]); (try simp only [List.getElem?_cons_succ]); (try simp only [List.getElem?_cons_zero]); rfl) (by kernel_rfl) (by kernel_rfl) (by kernel_rfl) (by kernel_rfl) (by kernel_rfl) (by exact fun _ _ _ h => h) (Or.inl ⟨by rfl, ?_⟩) (by assumption) ?_
              rotate_left
              focus (intro w hSw; (try dsimp only at hSw); go_simp; try with_reducible rfl)
              ((try simp only [Act.put]); (try simp only [List.setIfInBounds_toArray]); (try simp only [List.set_cons_succ]); (try simp only [List.set_cons_zero]))
              refine wpAnyZ_take (i := 9) (v := ?_) (by (try simp only [List.getElem?_toArray]); (try simp only [List.getElem?_cons_succ]); (try simp only [List.getElem?_cons_zero]); rfl) (by kernel_rfl) (by kernel_rfl) (by kernel_rfl) (by kernel_rfl) (by kernel_rfl) (by exact fun _ _ _ h => h) (Or.inl ⟨by rfl, ?_⟩) (by assumption) ?_
              rotate_left
              focus (intro w hSw; (try dsimp only at hSw); go_simp; try with_reducible rfl)
              ((try simp only [Act.put]); (try simp only [List.setIfInBounds_toArray]); (try simp only [List.set_cons_succ]); (try simp only [List.set_cons_zero]))
              refine wpAnyZ_take (i := 10) (v := ?_) (by (try simp only [List.getElem?_toArray]); (try simp only [List.getElem?_cons_succ]); (try simp only [List.getElem?_cons_zero]); rfl) (by kernel_rfl) (by kernel_rfl) (by kernel_rfl) (by kernel_rfl) (by kernel_rfl) (by exact fun _ _ _ h => h) (Or.inl ⟨by rfl, ?_⟩) (by assumption) ?_
              rotate_left
              focus (intro w hSw; (try dsimp only at hSw); go_simp; try with_reducible rfl)
              ((try simp only [Act.put]); (try simp only [List.setIfInBounds_toArray]); (try simp only [List.set_cons_succ]); (try simp only [List.set_cons_zero]))
              refine wpAnyZ_take (i := 11) (v := ?_) (by (try simp only [List.getElem?_toArray]); (try simp only [List.getElem?_cons_succ]); (try simp only [List.getElem?_cons_zero]); rfl) (by kernel_rfl) (by kernel_rfl) (by kernel_rfl) (by kernel_rfl) (by kernel_rfl) (by exact fun _ _ _ h => h) (Or.inl ⟨by rfl, ?_⟩) (by assumption) ?_
              rotate_left
              focus (intro w hSw; (try dsimp only at hSw); go_simp; try with_reducible rfl)
              ((try simp only [Act.put]); (try simp only [List.setIfInBounds_toArray]); (try simp only [List.set_cons_succ]); (try simp only [List.set_cons_zero]))
              refine wpAnyZ_take (i := 14) (v := ?_) (by (try simp only [List.getElem?_toArray]); (try simp only [List.getElem?_cons_succ]); (try simp only [List.getElem?_cons_zero]); rfl) (by kernel_rfl) (by kernel_rfl) (by kernel_rfl) (by kernel_rfl) (by kernel_rfl) (by exact fun _ _ _ h => h) (Or.inl ⟨by rfl, ?_⟩) (by assumption) ?_
              rotate_left
              focus (intro w hSw; (try dsimp only at hSw); go_simp; try with_reducible rfl)
              ((try simp only [Act.put]); (try simp only [List.setIfInBounds_toArray]); (try simp only [List.set_cons_succ]); (try simp only [List.set_cons_zero]))
              refine wpAnyZ_take (i := 15) (v := ?_) (by (try simp only [List.getElem?_toArray]); (try simp only [List.getElem?_cons_succ]); (try simp only [List.getElem?_cons_zero]); rfl) (by kernel_rfl) (by kernel_rfl) (by kernel_rfl) (by kernel_rfl) (by kernel_rfl) (by exact fun _ _ _ h => h) (Or.inl ⟨by rfl, ?_⟩) (by assumption) ?_
              rotate_left
              focus (intro w hSw; (try dsimp only at hSw); go_simp; try with_reducible rfl)
              ((try simp only [Act.put]); (try simp only [List.setIfInBounds_toArray]); (try simp only [List.set_cons_succ]); (try simp only [List.set_cons_zero]))
              refine wpAnyZ_take (i := 16) (v := ?_) (by (try simp only [List.getElem?_toArray]); (try simp only [List.getElem?_cons_succ]); (try simp only [List.getElem?_cons_zero]); rfl) (by kernel_rfl) (by kernel_rfl) (by kernel_rfl) (by kernel_rfl) (by kernel_rfl) (by exact fun _ _ _ h => h) (Or.inl ⟨by rfl, ?_⟩) (by assumption) ?_
              rotate_left
              focus (intro w hSw; (try dsimp only at hSw); go_simp; try with_reducible rfl)
              ((try simp only [Act.put]); (try simp only [List.setIfInBounds_toArray]); (try simp only [List.set_cons_succ]); (try simp only [List.set_cons_zero]))
              refine wpAnyZ_take (i := 17) (v := ?_) (by (try simp only [List.getElem?_toArray]); (try simp only [List.getElem?_cons_succ]); (try simp only [List.getElem?_cons_zero]); rfl) (by kernel_rfl) (by kernel_rfl) (by kernel_rfl) (by kernel_rfl) (by kernel_rfl) (by exact fun _ _ _ h => h) (Or.inl ⟨by rfl, ?_⟩) (by assumption) ?_
              rotate_left
              focus (intro w hSw; (try dsimp only at hSw); go_simp; try with_reducible rfl)
              ((try simp only [Act.put]); (try simp only [List.setIfInBounds_toArray]); (try simp only [List.set_cons_succ]); (try simp only [List.set_cons_zero]))
              refine wpAnyZ_take (i := 18) (v := ?_) (by (try simp only [List.getElem?_toArray]); (try simp only [List.getElem?_cons_succ]); (try simp only [List.getElem?_cons_zero]); rfl) (by kernel_rfl) (by kernel_rfl) (by kernel_rfl) (by kernel_rfl) (by kernel_rfl) (by exact fun _ _ _ h => h) (Or.inl ⟨by rfl, ?_⟩) (by assumption) ?_
              rotate_left
              focus (intro w hSw; (try dsimp only at hSw); go_simp; try with_reducible rfl)
              ((try simp only [Act.put]); (try simp only [List.setIfInBounds_toArray]); (try simp only [List.set_cons_succ]); (try simp only [List.set_cons_zero]))
              refine wpAnyZ_take (i := 19) (v := ?_) (by (try simp only [List.getElem?_toArray]); (try simp only [List.getElem?_cons_succ]); (try simp only [List.getElem?_cons_zero]); rfl) (by kernel_rfl) (by kernel_rfl) (by kernel_rfl) (by kernel_rfl) (by kernel_rfl) (by exact fun _ _ _ h => h) (Or.inl ⟨by rfl, ?_⟩) (by assumption) ?_
              rotate_left
              focus (intro w hSw; (try dsimp only at hSw); go_simp; try with_reducible rfl)
              ((try simp only [Act.put]); (try simp only [List.setIfInBounds_toArray]); (try simp only [List.set_cons_succ]); (try simp only [List.set_cons_zero]))
              refine wpAnyZ_ready (rs := [7, 12]) (by kernel_rfl) (by simp) ?_
              refine AllReadyZ.cons (by (try simp only [List.getElem?_toArray]); (try simp only [List.getElem?_cons_succ]); (try simp only [List.getElem?_cons_zero]); rfl) (fun K hK => ?_) (AllReadyZ.cons (by (try simp only [List.getElem?_toArray]); (try simp only [List.getElem?_cons_succ]); (try simp only [List.getElem?_cons_zero]); rfl) (fun K hK => ?_) AllReadyZ.nil)
              · skip
                refine step_append_src (by rfl) (.const (.slice none 0 0)) (.tmp 92) 26 (by rfl) B 69 i0 _ 3 32 Tryz.underlying26 hi hz0 hz1 hz2 rfl (by decide) (.slice none 0 0) 0 [] (by rfl) (by exact World.ownsRow_nil _ _ _ _) (.slice (some ⟨g2, 0, none⟩) j cap2) j (aflat (m.take j)) (by rfl) (by exact HF3.out _ HW0.out) (HLa.out) (HO1.out _) (by unfold maxLen; omega) (by omega) (by exact HB2.out ▸ HW0.out.size) ?_
                intro v1 w1 own1 fr1
                have hw1 : Hid (Fr No wr w1) := HA1.out _ wr _ _ _ _ HW0.out (World.ownsRow_nil _ _ _ _) fr1
                have HOwn1 := Lib.hid own1
                have HFr1 := Lib.hid fr1
                clear own1 fr1
                refine hK _ _ (fun _ => HSW.out _ hw1.out) ?_
                clear hK K
                (try simp only [Act.put, List.setIfInBounds_toArray, List.set_cons_zero, List.set_cons_succ])
                refine wpAnyZ_ready (rs := [12]) (by kernel_rfl) (by simp) ?_
                refine AllReadyZ.cons (by (try simp only [List.getElem?_toArray]); (try simp only [List.getElem?_cons_succ]); (try simp only [List.getElem?_cons_zero]); rfl) (fun K hK => ?_) AllReadyZ.nil
                go_simp
                refine hK _ _ (fun _ => HSW.out _ (hw1.out.alloc _)) ?_
                clear hK K
                (try simp only [Act.put, List.setIfInBounds_toArray, List.set_cons_zero, List.set_cons_succ])
                refine wpAnyZ_ready (rs := [13]) (by kernel_rfl) (by simp) ?_
                refine AllReadyZ.cons (by (try simp only [List.getElem?_toArray]); (try simp only [List.getElem?_cons_succ]); (try simp only [List.getElem?_cons_zero]); rfl) (fun K hK => ?_) AllReadyZ.nil
                skip
                refine step_append_src (by rfl) (.tmp 93) (.tmp 98) 26 (by rfl) B 69 i0 _ 3 32 Tryz.underlying26 hi hz0 hz1 hz2 rfl (by decide) v1 (0 + j) ([] ++ aflat (m.take j)) (by rfl) (by exact World.ownsRow.alloc HOwn1.out _) _ 1 [.int .u64 base, .string ⟨data.toArray⟩, .bool free] (by rfl) (by exact HSA.out _) (by rfl) (by simp [Value.oneCell']) (by unfold maxLen; omega) (by omega) (by exact HB2.out ▸ (hw1.out.alloc (.cells #[.int .u64 base, .string ⟨data.toArray⟩, .bool free] 69)).size) ?_
                intro v2 w2 own2 fr2
                have hw2 : Hid (Fr No wr w2) := HA1.out _ _ _ _ _ _ (hw1.out.alloc (.cells #[.int .u64 base, .string ⟨data.toArray⟩, .bool free] 69)) HOwn1.out fr2
                have HOwn2 := Lib.hid own2
                clear own2 fr2
                refine hK _ _ (fun _ => HSW.out _ hw2.out) ?_
                clear hK K
                (try simp only [Act.put, List.setIfInBounds_toArray, List.set_cons_zero, List.set_cons_succ])
                refine wpAnyZ_ready (rs := [20]) (by kernel_rfl) (by simp) ?_
                refine AllReadyZ.cons (by (try simp only [List.getElem?_toArray]); (try simp only [List.getElem?_cons_succ]); (try simp only [List.getElem?_cons_zero]); rfl) (fun K hK => ?_) AllReadyZ.nil
                skip
                refine step_append_src (by rfl) (.tmp 99) (.tmp 105) 26 (by rfl) B 69 i0 _ 3 32 Tryz.underlying26 hi hz0 hz1 hz2 rfl (by decide) v2 (0 + j + 1) ([] ++ aflat (m.take j) ++ [.int .u64 base, .string ⟨data.toArray⟩, .bool free]) (by rfl) (by exact HOwn2.out) _ (u - j) (aflat (m.drop j)) (by rfl) (by exact HS3.out _ hw2.out) HLd.out (HO1.out _) (by unfold maxLen; omega) (by omega) (by exact HB2.out ▸ hw2.out.size) ?_
                intro v3 w3 own3 fr3
                have hw3 : Hid (Fr No wr w3) := HA1.out _ _ _ _ _ _ hw2.out HOwn2.out fr3
                obtain ⟨g3, cap3, rfl, _, _⟩ := World.ownsRow.form own3 (by omega)
                simp only [Nat.zero_add] at own3
                have HOwn3 := Lib.hid own3
                clear own3 fr3
                refine hK _ _ (fun _ => HSW.out _ hw3.out) ?_
                clear hK K
                (try simp only [Act.put, List.setIfInBounds_toArray, List.set_cons_zero, List.set_cons_succ])
                obtain ⟨p1, p2, p3, p4, p5, p6, p7⟩ := HCF.out w3 hw3.out
                have hHeld3 := HSW.out _ hw3.out
                refine wpAnyZ_take (i := 21) (v := ?_) (by (try simp only [List.getElem?_toArray]); (try simp only [List.getElem?_cons_succ]); (try simp only [List.getElem?_cons_zero]); rfl) (by kernel_rfl) (by kernel_rfl) (by kernel_rfl) (by kernel_rfl) (by kernel_rfl) (by exact fun _ _ _ h => h) (Or.inl ⟨by rfl, ?_⟩) (by assumption) ?_
                rotate_left
                focus (intro w hSw; (try dsimp only at hSw); go_simp; try with_reducible rfl)
                ((try simp only [Act.put]); (try simp only [List.setIfInBounds_toArray]); (try simp only [List.set_cons_succ]); (try simp only [List.set_cons_zero]))
                refine wpAnyZ_take (i := 22) (v := ?_) (by (try simp only [List.getElem?_toArray]); (try simp only [List.getElem?_cons_succ]); (try simp only [List.getElem?_cons_zero]); rfl) (by kernel_rfl) (by kernel_rfl) (by kernel_rfl) (by kernel_rfl) (by kernel_rfl) (by exact fun _ _ _ h => h) (Or.inl ⟨by rfl, ?_⟩) (by assumption) ?_
                rotate_left
                focus (intro w hSw; (try dsimp only at hSw); go_simp; try with_reducible rfl)
                ((try simp only [Act.put]); (try simp only [List.setIfInBounds_toArray]); (try simp only [List.set_cons_succ]); (try simp only [List.set_cons_zero]))
                refine wpAnyZ_ready (rs := [23]) (by kernel_rfl) (by simp) ?_
                refine AllReadyZ.cons (by (try simp only [List.getElem?_toArray]); (try simp only [List.getElem?_cons_succ]); (try simp only [List.getElem?_cons_zero]); rfl) (fun K hK => ?_) AllReadyZ.nil
                go_simp
                refine hK _ _ (fun h => absurd rfl h) ?_
                clear hK K
                (try simp only [Act.put, List.setIfInBounds_toArray, List.set_cons_zero, List.set_cons_succ])
                refine wpAnyZ_done (by kernel_rfl) ?_ _
                go_wp2_with fail
                go_roundw
                case rel => exact ⟨k + 1, by omega, by go_num, _, HST.out _ _ _ _ _ hw3.out (HB2.out.symm ▸ HOwn3.out) HXS.out HNS.out⟩
                case measure => simp [intOf] <;> omega
              · go_simp
                refine hK _ _ (fun _ => HSW.out _ (HW1.out _)) ?_
                clear hK K
                (try simp only [Act.put, List.setIfInBounds_toArray, List.set_cons_zero, List.set_cons_succ])
                refine wpAnyZ_ready (rs := [7]) (by kernel_rfl) (by simp) ?_
                refine AllReadyZ.cons (by (try simp only [List.getElem?_toArray]); (try simp only [List.getElem?_cons_succ]); (try simp only [List.getElem?_cons_zero]); rfl) (fun K hK => ?_) AllReadyZ.nil
                skip
                refine step_append_src (by rfl) (.const (.slice none 0 0)) (.tmp 92) 26 (by rfl) B 69 i0 _ 3 32 Tryz.underlying26 hi hz0 hz1 hz2 rfl (by decide) (.slice none 0 0) 0 [] (by rfl) (by exact World.ownsRow_nil _ _ _ _) (.slice (some ⟨g2, 0, none⟩) j cap2) j (aflat (m.take j)) (by rfl) (by exact HF3.out _ (HW1.out (.cells #[.int .u64 base, .string ⟨data.toArray⟩, .bool free] 69))) (HLa.out) (HO1.out _) (by unfold maxLen; omega) (by omega) (by exact HB2.out ▸ (HW1.out (.cells #[.int .u64 base, .string ⟨data.toArray⟩, .bool free] 69)).size) ?_
                intro v1 w1 own1 fr1
                have hw1 : Hid (Fr No wr w1) := HA1.out _ wr _ _ _ _ (HW1.out (.cells #[.int .u64 base, .string ⟨data.toArray⟩, .bool free] 69)) (World.ownsRow_nil _ _ _ _) fr1
                have HOwn1 := Lib.hid own1
                have HFr1 := Lib.hid fr1
                clear own1 fr1
                refine hK _ _ (fun _ => HSW.out _ hw1.out) ?_
                clear hK K
                (try simp only [Act.put, List.setIfInBounds_toArray, List.set_cons_zero, List.set_cons_succ])
                refine wpAnyZ_ready (rs := [13]) (by kernel_rfl) (by simp) ?_
                refine AllReadyZ.cons (by (try simp only [List.getElem?_toArray]); (try simp only [List.getElem?_cons_succ]); (try simp only [List.getElem?_cons_zero]); rfl) (fun K hK => ?_) AllReadyZ.nil
                skip
                refine step_append_src (by rfl) (.tmp 93) (.tmp 98) 26 (by rfl) B 69 i0 _ 3 32 Tryz.underlying26 hi hz0 hz1 hz2 rfl (by decide) v1 (0 + j) ([] ++ aflat (m.take j)) (by rfl) (by exact HOwn1.out) _ 1 [.int .u64 base, .string ⟨data.toArray⟩, .bool free] (by rfl) (by exact HSB.out _ HFr1.out) (by rfl) (by simp [Value.oneCell']) (by unfold maxLen; omega) (by omega) (by exact HB2.out ▸ hw1.out.size) ?_
                intro v2 w2 own2 fr2
                have hw2 : Hid (Fr No wr w2) := HA1.out _ _ _ _ _ _ hw1.out HOwn1.out fr2
                have HOwn2 := Lib.hid own2
                clear own2 fr2
                refine hK _ _ (fun _ => HSW.out _ hw2.out) ?_
                clear hK K
                (try simp only [Act.put, List.setIfInBounds_toArray, List.set_cons_zero, List.set_cons_succ])
                refine wpAnyZ_ready (rs := [20]) (by kernel_rfl) (by simp) ?_
                refine AllReadyZ.cons (by (try simp only [List.getElem?_toArray]); (try simp only [List.getElem?_cons_succ]); (try simp only [List.getElem?_cons_zero]); rfl) (fun K hK => ?_) AllReadyZ.nil
                skip
                refine step_append_src (by rfl) (.tmp 99) (.tmp 105) 26 (by rfl) B 69 i0 _ 3 32 Tryz.underlying26 hi hz0 hz1 hz2 rfl (by decide) v2 (0 + j + 1) ([] ++ aflat (m.take j) ++ [.int .u64 base, .string ⟨data.toArray⟩, .bool free]) (by rfl) (by exact HOwn2.out) _ (u - j) (aflat (m.drop j)) (by rfl) (by exact HS3.out _ hw2.out) HLd.out (HO1.out _) (by unfold maxLen; omega) (by omega) (by exact HB2.out ▸ hw2.out.size) ?_
                intro v3 w3 own3 fr3
                have hw3 : Hid (Fr No wr w3) := HA1.out _ _ _ _ _ _ hw2.out HOwn2.out fr3
                obtain ⟨g3, cap3, rfl, _, _⟩ := World.ownsRow.form own3 (by omega)
                simp only [Nat.zero_add] at own3
                have HOwn3 := Lib.hid own3
                clear own3 fr3
                refine hK _ _ (fun _ => HSW.out _ hw3.out) ?_
                clear hK K
                (try simp only [Act.put, List.setIfInBounds_toArray, List.set_cons_zero, List.set_cons_succ])
                obtain ⟨p1, p2, p3, p4, p5, p6, p7⟩ := HCF.out w3 hw3.out
                have hHeld3 := HSW.out _ hw3.out
                refine wpAnyZ_take (i := 21) (v := ?_) (by (try simp only [List.getElem?_toArray]); (try simp only [List.getElem?_cons_succ]); (try simp only [List.getElem?_cons_zero]); rfl) (by kernel_rfl) (by kernel_rfl) (by kernel_rfl) (by kernel_rfl) (by kernel_rfl) (by exact fun _ _ _ h => h) (Or.inl ⟨by rfl, ?_⟩) (by assumption) ?_
                rotate_left
                focus (intro w hSw; (try dsimp only at hSw); go_simp; try with_reducible rfl)
                ((try simp only [Act.put]); (try simp only [List.setIfInBounds_toArray]); (try simp only [List.set_cons_succ]); (try simp only [List.set_cons_zero]))
                refine wpAnyZ_take (i := 22) (v := ?_) (by (try simp only [List.getElem?_toArray]); (try simp only [List.getElem?_cons_succ]); (try simp only [List.getElem?_cons_zero]); rfl) (by kernel_rfl) (by kernel_rfl) (by kernel_rfl) (by kernel_rfl) (by kernel_rfl) (by exact fun _ _ _ h => h) (Or.inl ⟨by rfl, ?_⟩) (by assumption) ?_
                rotate_left
                focus (intro w hSw; (try dsimp only at hSw); go_simp; try with_reducible rfl)
                ((try simp only [Act.put]); (try simp only [List.setIfInBounds_toArray]); (try simp only [List.set_cons_succ]); (try simp only [List.set_cons_zero]))
                refine wpAnyZ_ready (rs := [23]) (by kernel_rfl) (by simp) ?_
                refine AllReadyZ.cons (by (try simp only [List.getElem?_toArray]); (try simp only [List.getElem?_cons_succ]); (try simp only [List.getElem?_cons_zero]); rfl) (fun K hK => ?_) AllReadyZ.nil
                go_simp
                refine hK _ _ (fun h => absurd rfl h) ?_
                clear hK K
                (try simp only [Act.put, List.setIfInBounds_toArray, List.set_cons_zero, List.set_cons_succ])
                refine wpAnyZ_done (by kernel_rfl) ?_ _
                go_wp2_with fail
                go_roundw
                case rel => exact ⟨k + 1, by omega, by go_num, _, HST.out _ _ _ _ _ hw3.out (HB2.out.symm ▸ HOwn3.out) HXS.out HNS.out⟩
                case measure => simp [intOf] <;> omega
    · obtain rfl : k = n := by omega
      go_wp2_with fail
      go_ret2
      obtain ⟨m, hm⟩ := HM.out
      have hp := hm.perm
      rw [List.take_of_length_le (by rw [HN.out]; exact Nat.le_refl _)] at hp
      exact .inl ⟨m, hp, hm.ref.wf, rfl, hm.fr, hm.ref⟩

set_option maxHeartbeats 400000 in
theorem refnew_empty (a : Option Addr) (cap : Nat) (w : World) : Calls Tryz.prog 10 #[.slice a 0 cap] w (RefNewPost w []) := by
  have HB : Hid (RNew w [] 0 [] (w.alloc (.cells #[.slice none 0 0] 58))) := by
    have hf : Fr No w (w.alloc (.cells #[.slice none 0 0] 58)) := (Fr.refl _ _).alloc _
    refine ⟨hf, ⟨⟨by simp, List.Pairwise.nil, by simp⟩, ⟨_, by rw [World.cell?_alloc_new]; rfl, .inl ⟨rfl, rfl⟩⟩, World.frozen?_alloc_new _ _ _ _, Nat.le_refl _⟩, by simp⟩
  go_enter Tryz.func10, Tryz.ntmps10
  go_wp2_with fail
  refine wp_loop_rounds 1 ?_
  rw [rounds_succ]
  go_wp2_with fail
  go_ret2
  exact .inl ⟨[], List.Perm.refl _, HB.out.ref.wf, rfl, HB.out.fr, HB.out.ref⟩

theorem refnew_any (rs : List Reg) (v : Value) (w : World) (h : RegsAt w v rs) (hm : rs.length ≤ 100000) : Calls Tryz.prog 10 #[v] w (RefNewPost w rs) := by
  obtain ⟨hty, ⟨rfl, a, c, rfl⟩ | ⟨g, off, cap, rfl, hc⟩⟩ := h
  · exact refnew_empty a c w
  · rcases Nat.eq_zero_or_pos rs.length with h0 | h0
    · obtain rfl : rs = [] := List.eq_nil_of_length_eq_zero h0
      exact refnew_empty _ _ w
    · exact refnew_walk g off rs.length cap rs w rfl hc h0 hm hty

end Go.Proofs.YtlinnhaodkiolaaGreat
