/- slices.Reverse of a row of numbers; charts.order. charts.near: its meeting of two blocks. -/
import Derived.Test.YtakcdecljfmckaaGreatDoorCore19
set_option linter.all false
set_option linter.unusedVariables false
set_option linter.unusedSimpArgs false
namespace Go.Proofs.YtakcdecljfmckaaGreatDoor
open Go.RowKit

def IntF (w : World) (g n : Nat) (f : Nat → Nat) : Prop := ∀ p, p < n → w.cell? ⟨g, p, none⟩ = some (.int .i64 (f p : Int)) ∧ w.frozen? ⟨g, p, none⟩ = false
theorem IntF.set {w : World} {g n : Nat} {f : Nat → Nat} (h : IntF w g n f) {k : Nat} (hk : k < n) (x : Nat) : IntF (w.setCell ⟨g, k, none⟩ (.int .i64 (x : Int))) g n (fun p => if p = k then x else f p) := fun p hp => by
  obtain ⟨h1, h2⟩ := h p hp
  refine ⟨?_, by simpa using h2⟩
  show _ = some (Value.int .i64 ((if p = k then x else f p : Nat) : Int))
  by_cases e : p = k
  · subst e
    rw [if_pos rfl]
    exact World.cell?_setCell_same _ _ _ h1
  · rw [if_neg e, World.cell?_setCell_other _ _ _ _ (by intro hc; injection hc with _ hc _; exact e hc.symm)]
    exact h1
theorem IntF.congr {w : World} {g n : Nat} {f f' : Nat → Nat} (h : IntF w g n f) (he : ∀ p, p < n → f p = f' p) : IntF w g n f' := fun p hp => by rw [← he p hp]; exact h p hp
theorem IntF.fr {w w' : World} {g n : Nat} {f : Nat → Nat} (h : IntF w g n f) (hf : Fr No w w') : IntF w' g n f := fun p hp => by
  obtain ⟨h1, h2⟩ := h p hp
  exact ⟨hf.cell h1 id, by rw [hf.frozen h1 id]; exact h2⟩
/-- turned round from both ends as far as k -/
def revF (A : Nat → Nat) (n k p : Nat) : Nat := if p < k ∨ n - 1 - p < k then A (n - 1 - p) else A p
theorem revF_step {A : Nat → Nat} {n k j : Nat} (hj : j = n - 1 - k) (hlt : k < j) (p : Nat) (hp : p < n) : (if p = j then revF A n k k else if p = k then revF A n k j else revF A n k p) = revF A n (k + 1) p := by
  subst hj
  unfold revF
  by_cases e1 : p = n - 1 - k
  · subst e1
    rw [if_pos rfl, if_neg (by omega), if_pos (by omega), show n - 1 - (n - 1 - k) = k by omega]
  · rw [if_neg e1]
    by_cases e2 : p = k
    · subst e2
      rw [if_pos rfl, if_neg (by omega), if_pos (by omega)]
    · rw [if_neg e2]
      by_cases e3 : p < k ∨ n - 1 - p < k
      · rw [if_pos e3, if_pos (by omega)]
      · rw [if_neg e3, if_neg (by omega)]

set_option maxRecDepth 100000 in
set_option maxHeartbeats 2000000 in
theorem reverse_any (g n c : Nat) (A : Nat → Nat) (w : World) (hn : n ≤ 1000000) (hc : IntF w g n A) :
    Calls Tryz.prog 85 #[.slice (some ⟨g, 0, none⟩) n c] w fun e w' => e = .returned (.tuple #[]) ∧ IntF w' g n (fun p => A (n - 1 - p)) ∧ Fr (Isb g) w w' := by
  have HC := Lib.hid hc
  have HNB := Lib.hid hn
  have w1 : wrap64 ((n : Int) - 1) = (n : Int) - 1 := IntWalk.wrap64_in _ (by omega)
  clear hc
  go_enter Tryz.func85, Tryz.ntmps85
  go_wp2_with fail
  go_loopw [2, 3] (fun ix jx wr => ∃ k : Nat, ix = .int .i64 (k : Int) ∧ jx = .int .i64 ((n : Int) - 1 - (k : Int)) ∧ (k = 0 ∨ k + k ≤ n) ∧ Hid (IntF wr g n (revF A n k)) ∧ Hid (Fr (Isb g) w wr)) (fun ix _ _ => n - (intOf ix).toNat)
  case atStart => exact ⟨0, rfl, by simp, .inl rfl, HC.out.congr (fun p hp => by unfold revF; rw [if_neg (by omega)]), Fr.refl _ _⟩
  case round =>
    obtain ⟨k, rfl, rfl, hk, HF, HR⟩ := hrel
    by_cases hlt : (k : Int) < (n : Int) - 1 - (k : Int)
    · obtain ⟨j, hj⟩ : ∃ j : Nat, (n : Int) - 1 - (k : Int) = (j : Int) := ⟨n - 1 - k, by omega⟩
      have HJ := Lib.hid hj
      rw [hj] at hlt ⊢
      have HJ2 : Hid (j = n - 1 - k ∧ k < j ∧ j < n) := Lib.hid (by omega)
      have r1 : (k : Int) < (n : Int) := by omega
      have r2 : (0 : Int) ≤ (k : Int) := by omega
      have r3 : (j : Int) < (n : Int) := by omega
      have r4 : (0 : Int) ≤ (j : Int) := by omega
      have wa : wrap64 ((k : Int) + 1) = (k : Int) + 1 := IntWalk.wrap64_in _ (by have := HNB.out; omega)
      have wb : wrap64 ((j : Int) - 1) = (j : Int) - 1 := IntWalk.wrap64_in _ (by have := HNB.out; omega)
      obtain ⟨a1, a2⟩ := HF.out k (by have := HJ2.out; omega)
      obtain ⟨b1, b2⟩ := HF.out j HJ2.out.2.2
      generalize hx : revF A n k k = x at a1
      generalize hy : revF A n k j = y at b1
      have HX := Lib.hid hx
      have HY := Lib.hid hy
      clear hx hy hk hj w1
      go_upto_region 3 with fail
      go_region
      obtain ⟨W1, hW1⟩ : ∃ W1, W1 = ((wr.setCell ⟨g, k, none⟩ (.int .i64 (y : Int))).setCell ⟨g, j, none⟩ (.int .i64 (x : Int))).drew := ⟨_, rfl⟩
      have HF1 : Hid (IntF W1 g n (revF A n (k + 1))) := by
        rw [hW1]
        have h1 := (HF.out.set (show k < n by have := HJ2.out; omega) y).set HJ2.out.2.2 x
        have h2 := h1.congr (f' := revF A n (k + 1)) (fun p hp => by
          rw [← revF_step HJ2.out.1 HJ2.out.2.1 p hp, HX.out, HY.out])
        exact fun p hp => h2 p hp
      have HR1 : Hid (Fr (Isb g) w W1) := by rw [hW1]; exact ((HR.out.setB _ _).setB _ _).drew
      rw [← hW1]
      clear hW1 a1 a2 b1 b2
      go_wp2_with fail
      go_roundw
      case rel => exact ⟨k + 1, by go_num, by congr 1; have := HJ.out; omega, .inr (by have := HJ2.out; omega), HF1, HR1⟩
      case measure => (have := HJ2.out; simp [intOf] <;> omega)
    · have HE : Hid (IntF wr g n (fun p => A (n - 1 - p))) := HF.out.congr (fun p hp => by
        unfold revF
        by_cases e : p < k ∨ n - 1 - p < k
        · rw [if_pos e]
        · rw [if_neg e]
          rw [show n - 1 - p = p by omega])
      clear hk
      go_wp2_with fail
      first | go_end0 | refine bodyPost_ret (results_none rfl _ _ _) rfl ?_
      exact ⟨rfl, HE.out, HR.out⟩

theorem rev_get {L : List Nat} {p : Nat} (h : p < L.length) : L.reverse.getD p 0 = L.getD (L.length - 1 - p) 0 := by
  rw [List.getD_eq_getElem?_getD, List.getD_eq_getElem?_getD, List.getElem?_reverse h]
theorem ov_start (w : World) (bs : List Blk) (bv : Value) (N : Nat) (hN : bs.length = N) (t0 t1 t2 t3 t4 : TypeId) :
    OP w (w.heap.size + 1 + 1) w.heap.size (w.heap.size + 1 + 1 + 1 + 1) (w.heap.size + 1 + 1 + 1) (w.heap.size + 1) (w.heap.size + 1 + 1 + 1 + 1 + 1) ∧
    OV w bs bv (w.heap.size + 1 + 1) w.heap.size (w.heap.size + 1 + 1 + 1 + 1) (w.heap.size + 1 + 1 + 1) (w.heap.size + 1) (w.heap.size + 1 + 1 + 1 + 1 + 1) (orderF (w.heap.size + 1 + 1) w.heap.size (w.heap.size + 1 + 1 + 1 + 1) (w.heap.size + 1 + 1 + 1)) (((((w.alloc (.cells #[bv] t0)).alloc (.cells (Array.replicate N (.bool false)) t1)).alloc (.cells #[.slice (some ⟨w.heap.size + 1, 0, none⟩) N N] t2)).alloc (.cells #[.slice none 0 0] t3)).alloc (.cells #[orderF (w.heap.size + 1 + 1) w.heap.size (w.heap.size + 1 + 1 + 1 + 1) (w.heap.size + 1 + 1 + 1)] t4)) (List.replicate N false) [] := by
  subst hN
  have e1 : ∀ (w : World) o, (w.alloc o).heap.size = w.heap.size + 1 := fun w o => Array.size_push _
  have eR : (Array.replicate bs.length (Value.bool false)) = (List.replicate bs.length (Value.bool false)).toArray := by simp
  refine ⟨⟨by omega, by omega, by omega, by omega, by omega⟩, ?_⟩
  have k0 := CellsAt.new w [bv] t0 0 _ rfl
  have k1 := BoolsAt.new (w.alloc (.cells #[bv] t0)) bs.length t1
  rw [← eR] at k1
  have k2 := CellsAt.new ((w.alloc (.cells #[bv] t0)).alloc (.cells (Array.replicate bs.length (.bool false)) t1)) [.slice (some ⟨w.heap.size + 1, 0, none⟩) bs.length bs.length] t2 0 _ rfl
  have k3 := CellsAt.new (((w.alloc (.cells #[bv] t0)).alloc (.cells (Array.replicate bs.length (.bool false)) t1)).alloc (.cells #[.slice (some ⟨w.heap.size + 1, 0, none⟩) bs.length bs.length] t2)) [.slice none 0 0] t3 0 _ rfl
  have z3 : ((((w.alloc (.cells #[bv] t0)).alloc (.cells (Array.replicate bs.length (.bool false)) t1)).alloc (.cells #[.slice (some ⟨w.heap.size + 1, 0, none⟩) bs.length bs.length] t2)).alloc (.cells #[.slice none 0 0] t3)).frozen? ⟨(((w.alloc (.cells #[bv] t0)).alloc (.cells (Array.replicate bs.length (.bool false)) t1)).alloc (.cells #[.slice (some ⟨w.heap.size + 1, 0, none⟩) bs.length bs.length] t2)).heap.size, 0, none⟩ = false := World.frozen?_alloc_new _ _ _ _
  have k4 := CellsAt.new ((((w.alloc (.cells #[bv] t0)).alloc (.cells (Array.replicate bs.length (.bool false)) t1)).alloc (.cells #[.slice (some ⟨w.heap.size + 1, 0, none⟩) bs.length bs.length] t2)).alloc (.cells #[.slice none 0 0] t3)) [orderF (w.heap.size + 1 + 1) w.heap.size (w.heap.size + 1 + 1 + 1 + 1) (w.heap.size + 1 + 1 + 1)] t4 0 _ rfl
  rw [e1] at k1
  rw [e1, e1] at k2
  rw [e1, e1, e1] at k3 z3
  rw [e1, e1, e1, e1] at k4
  have f1 : ∀ (w : World) o, Fr No w (w.alloc o) := fun w o => (Fr.refl _ _).alloc _
  have g0 := f1 w (.cells #[bv] t0)
  have g1 := f1 (w.alloc (.cells #[bv] t0)) (.cells (Array.replicate bs.length (.bool false)) t1)
  have g2 := f1 ((w.alloc (.cells #[bv] t0)).alloc (.cells (Array.replicate bs.length (.bool false)) t1)) (.cells #[.slice (some ⟨w.heap.size + 1, 0, none⟩) bs.length bs.length] t2)
  have g3 := f1 (((w.alloc (.cells #[bv] t0)).alloc (.cells (Array.replicate bs.length (.bool false)) t1)).alloc (.cells #[.slice (some ⟨w.heap.size + 1, 0, none⟩) bs.length bs.length] t2)) (.cells #[.slice none 0 0] t3)
  have g4 := f1 ((((w.alloc (.cells #[bv] t0)).alloc (.cells (Array.replicate bs.length (.bool false)) t1)).alloc (.cells #[.slice (some ⟨w.heap.size + 1, 0, none⟩) bs.length bs.length] t2)).alloc (.cells #[.slice none 0 0] t3)) (.cells #[orderF (w.heap.size + 1 + 1) w.heap.size (w.heap.size + 1 + 1 + 1 + 1) (w.heap.size + 1 + 1 + 1)] t4)
  refine ⟨by simp, (((g0.trans g1).trans g2).trans g3).trans g4, (g3.trans g4).cell k2 id, (((g1.trans g2).trans g3).trans g4).cell k0 id, k4, ⟨.slice none 0 0, g4.cell k3 id, ?_, World.ownsRow_nil _ _ _ _⟩, ?_, ?_⟩
  · rw [g4.frozen k3 id]; exact z3
  · have hb2 := BoolsAt.fr k1 ((g2.trans g3).trans g4)
    intro k hk
    rw [List.length_replicate] at hk
    obtain ⟨m1, m2⟩ := hb2 k hk
    refine ⟨?_, m2⟩
    rw [m1]
    refine congrArg (fun b => some (Value.bool b)) ?_
    show false = (List.replicate bs.length false).getD k true
    rw [List.getD_eq_getElem?_getD, List.getElem?_replicate, if_pos hk]
    rfl
  · rw [e1, e1, e1, e1, e1]; exact Nat.le_refl _
/-- what order tells -/
def OrderTo (bs : List Blk) (w : World) (e : Ending) (w' : World) : Prop := ∃ T g cap, e = .returned (.slice (some ⟨g, 0, none⟩) bs.length cap) ∧ Turn (nxM bs) bs.length T ∧ CellsAt w' g 0 (i64s T) ∧ Fr No w w'

set_option maxRecDepth 100000 in
set_option maxHeartbeats 4000000 in
theorem order_any (bs : List Blk) (bv : Value) (w : World) (hv : BlksAt w bv bs) (hpos : 0 < bs.length) (hlen : bs.length ≤ 1000) (hnx : ∀ k n, n ∈ nxM bs k → n < bs.length) (hn2 : ∀ k, (nxM bs k).length ≤ 2) (hall : ∀ v, v < bs.length → LedTo (nxM bs) (fun _ => False) v) :
    Calls Tryz.prog 65 #[bv] w (OrderTo bs w) := by
  obtain ⟨gb, cb, rfl, hbk⟩ := hv
  have HBK := Lib.hid hbk
  have HALL := Lib.hid hall
  have HNX := Lib.hid hnx
  have HN2 := Lib.hid hn2
  obtain ⟨N, hN⟩ : ∃ N, bs.length = N := ⟨_, rfl⟩
  have HN := Lib.hid hN
  rw [hN] at hlen hpos ⊢
  have HPOS := Lib.hid hpos
  have HLEN := Lib.hid hlen
  have hmk := fun W => make_bools N (by omega) W
  clear hbk hall hnx hn2 hN
  go_enter Tryz.func65, Tryz.ntmps65
  go_upto_region 4 with fail
  have e1 : ∀ (w : World) o, (w.alloc o).heap.size = w.heap.size + 1 := fun w o => Array.size_push _
  have s1 : (((((w.alloc (.cells #[.slice (some ⟨gb, 0, none⟩) N cb] 24)).alloc (.cells (Array.replicate N (.bool false)) 4)).alloc (.cells #[.slice (some ⟨w.heap.size + 1, 0, none⟩) N N] 87)).alloc (.cells #[.slice none 0 0] 31)).alloc (.cells #[.nilFunc] 103)).cell? ⟨w.heap.size + 1 + 1 + 1 + 1, 0, none⟩ = some .nilFunc := by
    have := CellsAt.new ((((w.alloc (.cells #[.slice (some ⟨gb, 0, none⟩) N cb] 24)).alloc (.cells (Array.replicate N (.bool false)) 4)).alloc (.cells #[.slice (some ⟨w.heap.size + 1, 0, none⟩) N N] 87)).alloc (.cells #[.slice none 0 0] 31)) [.nilFunc] 103 0 _ rfl
    rw [e1, e1, e1, e1] at this
    exact this
  have s2 : (((((w.alloc (.cells #[.slice (some ⟨gb, 0, none⟩) N cb] 24)).alloc (.cells (Array.replicate N (.bool false)) 4)).alloc (.cells #[.slice (some ⟨w.heap.size + 1, 0, none⟩) N N] 87)).alloc (.cells #[.slice none 0 0] 31)).alloc (.cells #[.nilFunc] 103)).frozen? ⟨w.heap.size + 1 + 1 + 1 + 1, 0, none⟩ = false := by
    have := World.frozen?_alloc_new ((((w.alloc (.cells #[.slice (some ⟨gb, 0, none⟩) N cb] 24)).alloc (.cells (Array.replicate N (.bool false)) 4)).alloc (.cells #[.slice (some ⟨w.heap.size + 1, 0, none⟩) N N] 87)).alloc (.cells #[.slice none 0 0] 31)) #[.nilFunc] 103 0
    rw [e1, e1, e1, e1] at this
    exact this
  obtain ⟨HPP, HOV⟩ := ov_start w bs (.slice (some ⟨gb, 0, none⟩) N cb) N HN.out 24 4 87 31 103
  have HP := Lib.hid HPP
  have HV := Lib.hid HOV
  clear HPP HOV e1
  go_upto_region 5 with fail
  clear s1 s2 hmk
  generalize (((((w.alloc (.cells #[.slice (some ⟨gb, 0, none⟩) N cb] 24)).alloc (.cells (Array.replicate N (.bool false)) 4)).alloc (.cells #[.slice (some ⟨w.heap.size + 1, 0, none⟩) N N] 87)).alloc (.cells #[.slice none 0 0] 31)).alloc (.cells #[.func (.func 84) #[] #[.pointer (some ⟨w.heap.size + 1 + 1, 0, none⟩), .pointer (some ⟨w.heap.size, 0, none⟩), .pointer (some ⟨w.heap.size + 1 + 1 + 1 + 1, 0, none⟩), .pointer (some ⟨w.heap.size + 1 + 1 + 1, 0, none⟩)]] 103)) = W3 at *
  generalize w.heap.size + 1 + 1 + 1 + 1 + 1 = base at *
  generalize w.heap.size + 1 + 1 + 1 + 1 = b3 at *
  generalize w.heap.size + 1 + 1 + 1 = b4 at *
  generalize w.heap.size + 1 + 1 = b1 at *
  generalize w.heap.size + 1 = gs at *
  have HWS : Hid (w.heap.size ≤ base) := by have h1 := HP.out.n4; exact Lib.hid (by omega)
  generalize hb2 : w.heap.size = b2 at *
  have HB2 := Lib.hid hb2
  clear hb2
  have c3 : W3.cell? ⟨b3, 0, none⟩ = some (.func (.func 84) #[] #[.pointer (some ⟨b1, 0, none⟩), .pointer (some ⟨b2, 0, none⟩), .pointer (some ⟨b3, 0, none⟩), .pointer (some ⟨b4, 0, none⟩)]) := HV.out.c3
  have HC : Hid (Calls Tryz.prog 84 #[.int .i64 0, .pointer (some ⟨b1, 0, none⟩), .pointer (some ⟨b2, 0, none⟩), .pointer (some ⟨b3, 0, none⟩), .pointer (some ⟨b4, 0, none⟩)] W3 (OrdTo w bs (.slice (some ⟨gb, 0, none⟩) bs.length cb) b1 b2 b3 b4 gs base (orderF b1 b2 b3 b4) W3 (List.replicate N false) [] 0)) := by
    refine order1_any w bs gb cb b1 b2 b3 b4 gs base HP.out HBK.out HNX.out (by rw [HN.out]; exact HLEN.out) HN2.out (N + 1) (List.replicate N false) [] 0 W3 (by unfold unseen; rw [List.countP_replicate]; simp) (by rw [HN.out]; exact HPOS.out) (by rw [List.getElem?_replicate, if_pos HPOS.out]) (by unfold unseen; rw [List.countP_replicate]; have := HLEN.out; simp; omega) ?_
    rw [HN.out]
    exact HV.out
  go_upto_region 6 with (go_at_call 84; (with_reducible refine (HC.out).mono ?_); rintro e w5 ⟨rfl, K, s', hov, hseg, -, -, -⟩; rw [List.nil_append] at hov; have HOV5 := Lib.hid hov; have HSEG := Lib.hid hseg; clear hov hseg)
  have HT : Hid (Turn (nxM bs) N K.reverse) := by
    have h1 := HSEG.out.congr (q := fun _ => False) (fun k => ⟨fun h => by unfold seenP at h; rw [List.getElem?_replicate] at h; split at h <;> simp at h, fun h => h.elim⟩)
    have h2 := h1.turn HALL.out
    rw [HN.out] at h2
    exact h2
  have HKL : Hid (K.length = N) := by have h := HT.out.len; rw [List.length_reverse] at h; exact h
  obtain ⟨ov, z1, z2, z3⟩ := HOV5.out.c4
  rw [HKL.out] at z3
  obtain ⟨go, co, rfl⟩ := ownsRow_form z3 HPOS.out
  have hoc := ownsRow_cells z3
  have HIF : Hid (IntF w5 go N (fun p => K.getD p 0)) := fun p hp => by
    have h1 := hoc.1 p (.int .i64 ((K.getD p 0 : Nat) : Int)) (i64s_get (by rw [List.getD_eq_getElem?_getD, List.getElem?_eq_getElem (by rw [HKL.out]; exact hp)]; rfl))
    rw [Nat.zero_add] at h1
    exact ⟨h1, hoc.2.2.2 p⟩
  have HGO : Hid (base ≤ go ∧ b4 ≠ go) := ⟨hoc.2.1, by have h1 := HP.out.n4; have h2 := hoc.2.1; omega⟩
  have HRV : Hid (Calls Tryz.prog 85 #[.slice (some ⟨go, 0, none⟩) N co] w5 fun e w' => e = .returned (.tuple #[]) ∧ IntF w' go N (fun p => K.getD (N - 1 - p) 0) ∧ Fr (Isb go) w5 w') := reverse_any go N co (fun p => K.getD p 0) w5 (by have := HLEN.out; omega) HIF.out
  have HZ1 : Hid (∀ W, Fr (Isb go) w5 W → W.cell? ⟨b4, 0, none⟩ = some (.slice (some ⟨go, 0, none⟩) N co)) := fun W hf => hf.cell z1 (fun e => HGO.out.2 e)
  clear z2 z3 hoc
  go_wp2_with (go_at_call 85; (with_reducible refine (HRV.out).mono ?_); rintro e w6 ⟨rfl, hif, hf6⟩; have z6 := HZ1.out w6 hf6; have HIF6 := Lib.hid hif; have HF6 := Lib.hid hf6; clear hif hf6)
  go_ret
  refine ⟨K.reverse, go, co, by rw [HN.out]; rfl, by rw [HN.out]; exact HT.out, fun j v hj => ?_, ((HOV5.out.fr.any.trans (HF6.out.mono (fun k _ hk => by rw [show k = go from hk]; show w.heap.size ≤ go; rw [HB2.out]; exact Nat.le_trans HWS.out HGO.out.1))) : Fr (From w) w w6).ours⟩
  rw [Nat.zero_add]
  unfold i64s at hj
  rw [List.getElem?_map] at hj
  cases hk : K.reverse[j]? with
  | none => rw [hk] at hj; simp at hj
  | some x =>
    rw [hk] at hj
    simp only [Option.map_some, Option.some.injEq] at hj
    subst hj
    have hjl : j < K.reverse.length := (List.getElem?_eq_some_iff.1 hk).1
    rw [List.length_reverse] at hjl
    have h1 := (HIF6.out j (by rw [← HKL.out]; exact hjl)).1
    rw [h1]
    have h2 := rev_get hjl
    rw [List.getD_eq_getElem?_getD, hk] at h2
    show some (Value.int .i64 ((K.getD (N - 1 - j) 0 : Nat) : Int)) = _
    rw [← HKL.out, ← h2]
    rfl
end Go.Proofs.YtakcdecljfmckaaGreatDoor

namespace Go.Proofs.YtakcdecljfmckaaGreatDoor
open Go.RowKit

/-- a row of numbers, whatever sign they have -/
def ZF (w : World) (g n : Nat) (f : Nat → Int) : Prop := ∀ p, p < n → w.cell? ⟨g, p, none⟩ = some (.int .i64 (f p)) ∧ w.frozen? ⟨g, p, none⟩ = false
theorem ZF.set {w : World} {g n : Nat} {f : Nat → Int} (h : ZF w g n f) {k : Nat} (hk : k < n) (x : Int) : ZF (w.setCell ⟨g, k, none⟩ (.int .i64 x)) g n (setAt f k x) := fun p hp => by
  obtain ⟨h1, h2⟩ := h p hp
  refine ⟨?_, by simpa using h2⟩
  unfold setAt
  by_cases e : p = k
  · subst e
    rw [if_pos rfl]
    exact World.cell?_setCell_same _ _ _ h1
  · rw [if_neg e, World.cell?_setCell_other _ _ _ _ (by intro hc; injection hc with _ hc _; exact e hc.symm)]
    exact h1
theorem ZF.congr {w : World} {g n : Nat} {f f' : Nat → Int} (h : ZF w g n f) (he : ∀ p, p < n → f p = f' p) : ZF w g n f' := fun p hp => by rw [← he p hp]; exact h p hp
theorem ZF.frS {S : Nat → Prop} {w w' : World} {g n : Nat} {f : Nat → Int} (h : ZF w g n f) (hf : Fr S w w') (hs : ¬ S g) : ZF w' g n f := fun p hp => by
  obtain ⟨h1, h2⟩ := h p hp
  exact ⟨hf.cell h1 hs, by rw [hf.frozen h1 hs]; exact h2⟩
theorem ZF.fr {w w' : World} {g n : Nat} {f : Nat → Int} (h : ZF w g n f) (hf : Fr No w w') : ZF w' g n f := h.frS hf id
/-- what meet finds in memory -/
structure MT (W : World) (N : Nat) (pl : Nat → Nat) (d : Nat → Int) (bp bd gp gd : Nat) : Prop where
  c1 : W.cell? ⟨bp, 0, none⟩ = some (.slice (some ⟨gp, 0, none⟩) N N)
  c2 : W.cell? ⟨bd, 0, none⟩ = some (.slice (some ⟨gd, 0, none⟩) N N)
  p1 : ZF W gp N (fun v => (pl v : Int))
  d1 : ZF W gd N d
theorem MT.fr {W W' : World} {N : Nat} {pl : Nat → Nat} {d : Nat → Int} {bp bd gp gd : Nat} (h : MT W N pl d bp bd gp gd) (hf : Fr No W W') : MT W' N pl d bp bd gp gd := ⟨hf.cell h.c1 id, hf.cell h.c2 id, h.p1.fr hf, h.d1.fr hf⟩
/-- where two meet -/
def MeetTo (N : Nat) (d : Nat → Int) (i m : Nat) (w : World) (e : Ending) (w' : World) : Prop := ∃ r : Nat, e = .returned (.int .i64 (r : Int)) ∧ Meets N d i m r r ∧ Fr No w w'

set_option maxRecDepth 100000 in
set_option maxHeartbeats 4000000 in
theorem meet_any (nx : Nat → List Nat) (N : Nat) (pl : Nat → Nat) (d : Nat → Int) (bp bd gp gd i m : Nat) (w : World) (h : Nears nx N pl d) (hN : N ≤ 1000) (hi : i < N) (hm : m < N) (si : 0 ≤ d i) (sm : 0 ≤ d m) (hmt : MT w N pl d bp bd gp gd) :
    Calls Tryz.prog 66 #[.int .i64 (i : Int), .int .i64 (m : Int), .pointer (some ⟨bp, 0, none⟩), .pointer (some ⟨bd, 0, none⟩)] w (MeetTo N d i m w) := by
  have HNR := Lib.hid h
  have HST : Hid (Meets N d i m i m) := Meets.start hi hm si sm
  have HMT := Lib.hid hmt
  clear h hi hm si sm hmt
  go_enter Tryz.func66, Tryz.ntmps66
  go_wp2_with fail
  go_loopw [0, 1] (fun xv yv wr => ∃ x y : Nat, xv = .int .i64 (x : Int) ∧ yv = .int .i64 (y : Int) ∧ Hid (Meets N d i m x y) ∧ Hid (Fr No w wr)) (fun xv yv _ => pl (intOf xv).toNat + pl (intOf yv).toNat)
  case atStart => exact ⟨i, m, rfl, rfl, HST.out, Fr.refl _ _⟩
  case round =>
    obtain ⟨x, y, rfl, rfl, HX, HF⟩ := hrel
    by_cases hxy : x = y
    · subst hxy
      go_wp2_with fail
      go_ret
      exact ⟨x, rfl, HX.out, HF.out⟩
    · have q : ((x : Int) != (y : Int)) = true := by rw [bne_iff_ne]; omega
      have HXY := Lib.hid hxy
      clear hxy
      go_wp2_with fail
      go_loopw [0] (fun xv wr => ∃ x2 : Nat, xv = .int .i64 (x2 : Int) ∧ Hid (Meets N d i m x2 y) ∧ Hid (pl x2 ≤ pl x) ∧ Hid (Fr No w wr)) (fun xv _ => pl (intOf xv).toNat)
      case atStart => exact ⟨x, rfl, HX.out, Nat.le_refl _, HF.out⟩
      case round =>
        obtain ⟨x2, rfl, HX2, HLE2, HF2⟩ := hrel
        have hx3 := HX2.out.xN
        have hy3 := HX2.out.yN
        have M := HMT.out.fr HF2.out
        have e1 := M.c1
        have e2 := M.c2
        have e3 : wr.cell? ⟨gp, x2, none⟩ = some (.int .i64 (pl x2 : Int)) := (M.p1 x2 hx3).1
        have e4 : wr.cell? ⟨gp, y, none⟩ = some (.int .i64 (pl y : Int)) := (M.p1 y hy3).1
        have b1 : (x2 : Int) < (N : Int) := by omega
        have b2 : (0 : Int) ≤ (x2 : Int) := by omega
        have b3 : (y : Int) < (N : Int) := by omega
        have b4 : (0 : Int) ≤ (y : Int) := by omega
        by_cases hlt : pl y < pl x2
        · obtain ⟨u, hu1, hu2, hu3⟩ := HX2.out.left HNR.out hlt
          have HU2 := Lib.hid hu2
          have HU3 := Lib.hid hu3
          have e5 : wr.cell? ⟨gd, x2, none⟩ = some (.int .i64 (u : Int)) := by rw [← hu1]; exact (M.d1 x2 hx3).1
          have e6 : pl x2 ≤ pl x := HLE2.out
          have HLE3 : Hid (pl u ≤ pl x) := Lib.hid (Nat.le_trans (Nat.le_of_lt hu2) HLE2.out)
          have g : (pl y : Int) < (pl x2 : Int) := by omega
          clear hu1 hu2 hu3 M hlt e6 hx3 hy3
          go_upto_region 2 with fail
          go_quiet (fail)
          go_wp2_with fail
          go_roundw
          case rel => exact ⟨u, rfl, HU3, HLE3, HF2.out.drewN _⟩
          case measure => (have := HU2.out; simp [intOf] <;> omega)
        · have g : ¬ (pl y : Int) < (pl x2 : Int) := by omega
          have HGE : Hid (pl x2 ≤ pl y) := Lib.hid (by omega)
          go_upto_region 2 with fail
          go_quiet (fail)
          go_wp2_with fail
          have HF3 : Hid (Fr No w (wr.drewN nq)) := HF2.out.drewN _
          generalize wr.drewN nq = W3 at *
          clear e1 e2 e3 e4 b1 b2 b3 b4 g hlt M
          go_loopw [1] (fun yv wr => ∃ y2 : Nat, yv = .int .i64 (y2 : Int) ∧ Hid (Meets N d i m x2 y2) ∧ Hid (pl y2 ≤ pl y) ∧ Hid (Fr No w wr)) (fun yv _ => pl (intOf yv).toNat)
          case atStart => exact ⟨y, rfl, HX2.out, Nat.le_refl _, HF3.out⟩
          case round =>
            obtain ⟨y2, rfl, HY2, HLY2, HF4⟩ := hrel
            have hx3 := HY2.out.xN
            have hy3 := HY2.out.yN
            have M := HMT.out.fr HF4.out
            have e1 := M.c1
            have e2 := M.c2
            have e3 : wr.cell? ⟨gp, x2, none⟩ = some (.int .i64 (pl x2 : Int)) := (M.p1 x2 hx3).1
            have e4 : wr.cell? ⟨gp, y2, none⟩ = some (.int .i64 (pl y2 : Int)) := (M.p1 y2 hy3).1
            have b1 : (x2 : Int) < (N : Int) := by omega
            have b2 : (0 : Int) ≤ (x2 : Int) := by omega
            have b3 : (y2 : Int) < (N : Int) := by omega
            have b4 : (0 : Int) ≤ (y2 : Int) := by omega
            by_cases hlt : pl x2 < pl y2
            · obtain ⟨u, hu1, hu2, hu3⟩ := HY2.out.right HNR.out hlt
              have HU2 := Lib.hid hu2
              have HU3 := Lib.hid hu3
              have e5 : wr.cell? ⟨gd, y2, none⟩ = some (.int .i64 (u : Int)) := by rw [← hu1]; exact (M.d1 y2 hy3).1
              have HLE3 : Hid (pl u ≤ pl y) := Lib.hid (Nat.le_trans (Nat.le_of_lt hu2) HLY2.out)
              have g : (pl x2 : Int) < (pl y2 : Int) := by omega
              clear hu1 hu2 hu3 M hlt hx3 hy3
              go_upto_region 4 with fail
              go_quiet (fail)
              go_wp2_with fail
              go_roundw
              case rel => exact ⟨u, rfl, HU3, HLE3, HF4.out.drewN _⟩
              case measure => (have := HU2.out; simp [intOf] <;> omega)
            · have g : ¬ (pl x2 : Int) < (pl y2 : Int) := by omega
              have HGE2 : Hid (pl y2 ≤ pl x2) := Lib.hid (by omega)
              clear hlt M hx3 hy3
              go_upto_region 4 with fail
              go_quiet (fail)
              go_wp2_with fail
              go_roundw
              case rel => exact ⟨x2, y2, rfl, rfl, HY2.out, HF4.out.drewN _⟩
              case measure =>
                have h1 : pl x2 ≤ pl x := HLE2.out
                have h2 : pl x2 ≤ pl y := HGE.out
                have h3 : pl y2 ≤ pl y := HLY2.out
                have h4 : pl y2 ≤ pl x2 := HGE2.out
                have h5 : pl x ≠ pl y := fun e => HXY.out (HNR.out.inj x y HX.out.xN HX.out.yN e)
                simp [intOf] <;> omega
end Go.Proofs.YtakcdecljfmckaaGreatDoor
