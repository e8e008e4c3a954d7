/- lines.slots: what it defers. -/
import Derived.Test.YtakcdecljfmckaaGreatDoorCore32
import Derived.Tactics
import Derived.Tactics2
import Derived.Defers
import Derived.Recover
set_option linter.all false
set_option linter.unusedVariables false
set_option linter.unusedSimpArgs false
namespace Go.Proofs.YtakcdecljfmckaaGreatDoor
open Go.RowKit

theorem err_assert {v : Value} (hv : IsErr v) (W : World) : (Instr.typeAssert v 20 124 false).run Tryz.prog W = .ok v W := by
  rcases hv with ⟨x, rfl⟩ | ⟨x, rfl⟩
  · kernel_rfl
  · kernel_rfl
theorem err_iface {v : Value} (hv : IsErr v) : ∃ t x, v = .iface t x := by
  rcases hv with ⟨x, rfl⟩ | ⟨x, rfl⟩ <;> exact ⟨_, _, rfl⟩
set_option maxRecDepth 100000 in
theorem catch_panicking (p q : Addr) (hpq : p ≠ q) (x y v : Value) (hv : IsErr v) (w : World) (hc : w.cell? p = some x) (hz : w.frozen? p = false) (hc2 : w.cell? q = some y) (hz2 : w.frozen? q = false) :
    CallsD Tryz.prog 73 #[.pointer (some p), .pointer (some q)] (.panicking [{ v := v, recovered := false }]) w fun e u' w' =>
      e = .returned (.tuple #[]) ∧ u' = .panicking [{ v := v, recovered := true }] ∧ w' = (w.setCell p (.slice none 0 0)).setCell q (.bool false) := by
  have ha := err_assert hv
  obtain ⟨t, x1, rfl⟩ := err_iface hv
  clear hv
  refine callsD_of_wpS Tryz.func73 rfl fun c₀ cs hu => ?_
  apply wpS_seq
  apply wpS_region
  simp [wpOpsS, go_sem, recoverD, hu, Tryz.ntmps73, Exit.thenS]
  apply wpS_seq
  apply wpS_region
  simp [wpOpsS, go_sem, recoverD, hu, Exit.thenS, ha]
  refine wpS_cond (t := true) (by simp [Act.eval, Array.replicate]) ?_
  simp only [if_true]
  apply wpS_seq
  apply wpS_region
  simp [wpOpsS, go_sem, ha, Exit.thenS]
  have hc3 : (w.setCell p (.slice none 0 0)).cell? q = some y := by rw [World.cell?_setCell_other _ _ _ _ hpq]; exact hc2
  have hz3 : (w.setCell p (.slice none 0 0)).frozen? q = false := by simpa using hz2
  apply wpS_region
  simp [wpOpsS, go_sem, hc, hz, hc3, hz3, bodyPostS, results, Tryz.results73]
set_option maxRecDepth 100000 in
theorem catch_idle (p q : Addr) (w : World) :
    CallsD Tryz.prog 73 #[.pointer (some p), .pointer (some q)] .returning w fun e u' w' => e = .returned (.tuple #[]) ∧ u' = .returning ∧ w' = w := by
  refine callsD_of_wpS Tryz.func73 rfl fun c₀ cs hu => ?_
  apply wpS_seq
  apply wpS_region
  simp [wpOpsS, go_sem, recoverD, hu, Tryz.ntmps73, Exit.thenS]
  apply wpS_seq
  apply wpS_region
  simp [wpOpsS, go_sem, recoverD, hu, Exit.thenS]
  refine wpS_cond (t := false) (by simp [Act.eval, Array.replicate]) ?_
  simp only [Bool.false_eq_true, if_false]
  refine wpS_of_wp (wp_skip ?_)
  cases c₀
  simp_all [bodyPostS, results, Tryz.results73]
theorem Tryz.infoL_any : (Tryz.prog.info? 20).map (fun i => (i.zero, i.size, i.bytes)) = some (some .nilIface, 1, 16) := by kernel_rfl
/-- the meanings' cells -/
def mvs (l : List (List UInt8)) : List Value := l.map fun s => (meanM s).v
theorem mvs_snoc (l : List (List UInt8)) (a : List UInt8) : mvs (l ++ [a]) = mvs l ++ [(meanM a).v] := by simp [mvs]
theorem digV_lt : ∀ (l : List UInt8) (n v : Nat), n < 18446744073709551616 → digV l n = some v → v < 18446744073709551616
  | [], n, v, hn, h => by obtain rfl := Option.some.inj h; exact hn
  | c :: t, n, v, hn, h => by
    unfold digV at h
    split at h
    · cases h
    · rename_i hc
      split at h
      · cases h
      · rename_i hb
        refine digV_lt t _ v ?_ h
        have h1 : c.toNat ≤ 57 := by
          have := (not_or.1 hc).2
          rw [UInt8.lt_iff_toNat_lt] at this
          simpa using this
        have h2 := (Nat.le_div_iff_mul_le (by decide : 0 < 10)).1 (Nat.le_of_not_lt hb)
        omega
theorem digL_lt {l : List UInt8} {v : Nat} (h : digL l = some v) : v < 18446744073709551616 := by
  unfold digL at h
  split at h
  · cases h
  · exact digV_lt l 0 v (by decide) h
theorem numW_lt {s : List UInt8} {m : Bool} {n : Nat} (h : numW s = some (m, n)) : n < 18446744073709551616 := by
  unfold numW at h
  have key : ∀ (b : Bool) (l : List UInt8), (digL l).map (b, ·) = some (m, n) → n < 18446744073709551616 := fun b l hl => by
    obtain ⟨v, hv, he⟩ := Option.map_eq_some_iff.1 hl
    simp only [Prod.mk.injEq] at he
    obtain ⟨_, rfl⟩ := he
    exact digL_lt hv
  split at h
  · exact key _ _ h
  · split at h
    · exact key _ _ h
    · split at h
      · exact key _ _ h
      · exact key _ _ h
theorem meanM_ok (s : List UInt8) : (meanM s).ok := by
  unfold meanM
  split
  · split
    · rename_i n h
      have := regW_le h
      show n < 256
      omega
    · trivial
  · split
    · trivial
    · rename_i m n h
      exact numW_lt h
theorem Gath.xs {w w' : World} {t : TypeId} {v : Value} {l : List (List UInt8)} (h : Gath w t 1 l.length (mvs l) v w') (hl : l.length ≤ 1000000) : ∃ b, XsAt w' v b (l.map meanM) := by
  rcases h.cells with ⟨h0, _, a, c, rfl⟩ | ⟨g, cap, rfl, hc, _⟩
  · have : l = [] := List.eq_nil_of_length_eq_zero h0
    subst this
    exact ⟨0, ⟨a, c, rfl, fun h => absurd rfl h⟩, fun j u hj => by simp at hj, fun m hm => by simp at hm, by simp⟩
  · refine ⟨g, ⟨_, cap, by rw [List.length_map], fun _ => rfl⟩, ?_, ?_, ?_⟩
    · rw [List.map_map]; exact hc
    · intro m hm
      obtain ⟨s, _, rfl⟩ := List.mem_map.1 hm
      exact meanM_ok s
    · rw [List.length_map]; omega
/-- a block that holds no number -/
def NoInt (W : World) (p : Nat) : Prop := ∀ off k n, W.cell? ⟨p, off, none⟩ ≠ some (.int k n)
theorem NoInt.fr {W W' : World} {p : Nat} (h : NoInt W p) (hf : Fr No W W') (hp : p < W.heap.size) : NoInt W' p := fun off k n hc => by
  refine h off k n ?_
  unfold World.cell? at hc ⊢
  rw [← hf.block p hp id]
  exact hc
theorem noInt_new (w : World) (x : Value) (t : TypeId) (hx : ∀ k n, x ≠ .int k n) : NoInt (w.alloc (.cells #[x] t)) w.heap.size := fun off k n hc => by
  have hb : (w.alloc (.cells #[x] t)).heap[w.heap.size]? = some (.cells #[x] t) := by
    show (w.heap.push _)[w.heap.size]? = _
    exact Array.getElem?_push_size
  unfold World.cell? at hc
  rw [hb] at hc
  cases off with
  | zero => exact hx k n (Option.some.inj hc)
  | succ j => cases hc
theorem insAt_keep {W : World} {v : Value} {l : List Ins} (h : InsAt W v l) {p q : Nat} (hp : NoInt W p) (hq : NoInt W q) (x y z : Value) : InsAt (((W.setCell ⟨p, 0, none⟩ x).setCell ⟨p, 0, none⟩ y).setCell ⟨q, 0, none⟩ z) v l := by
  rcases h with h | ⟨g, off, cap, rfl, hc⟩
  · exact .inl h
  · refine .inr ⟨g, off, cap, rfl, fun j u hj => ?_⟩
    cases l with
    | nil => simp [iflat] at hj
    | cons i l =>
      have h0 := hc 0 (.int .u8 i.op) rfl
      have gp : p ≠ g := by rintro rfl; exact hp _ _ _ h0
      have gq : q ≠ g := by rintro rfl; exact hq _ _ _ h0
      rw [World.cell?_setCell_other _ _ _ _ (by simp [gq]), World.cell?_setCell_other _ _ _ _ (by simp [gp]), World.cell?_setCell_other _ _ _ _ (by simp [gp])]
      exact hc j u hj
/-- slots of a line's words -/
def slotsO (ws : List (List UInt8)) : Option (List Ins × Bool) := match ws with
  | [] => none
  | first :: rest => (buildO first (rest.map meanM)).map fun (l, k) => (l, decide (k = (rest.length : Int)))
def SlotsTo (w : World) (r : Option (List Ins × Bool)) (e : Ending) (w' : World) : Prop := match r with
  | some (l, ok) => ∃ lv, e = .returned (.tuple #[lv, .bool ok]) ∧ InsAt w' lv l ∧ Fr No w w'
  | none => e = .returned (.tuple #[.slice none 0 0, .bool false]) ∧ Fr No w w'
set_option maxRecDepth 100000 in
set_option maxHeartbeats 2000000 in
theorem slots_more (g o m c : Nat) (first : List UInt8) (rest : List (List UInt8)) (hm : rest.length = m) (hc : m ≤ c + 1) (hlen : ∀ s ∈ first :: rest, s.length ≤ 1000000) (hm2 : m ≤ 1000000) (w : World) (hT : LT w) (hw : CellsAt w g o (strs (first :: rest))) : Calls Tryz.prog 50 #[.slice (some ⟨g, o, none⟩) (m + 1) (c + 2)] w (SlotsTo w (slotsO (first :: rest))) := by
  have hmf : ∀ (fn : Fn) (first cap : Array Value) (w : World), (Instr.makeFunc fn first cap).run Tryz.prog w = .ok (.func fn first cap) w := fun _ _ _ _ => rfl
  obtain ⟨i0, hi0, hz0, hz1, hz2⟩ := info_parts Tryz.infoL_any
  have HW : Hid (∀ W, Fr No w W → ∀ k y, rest[k]? = some y → W.cell? ⟨g, o + 1 + k, none⟩ = some (.string (bA y))) := fun W hf k y hk => by
    have := (hf.cells hw id) (k + 1) (.string (bA y)) (by simp [strs, hk])
    rwa [show o + (k + 1) = o + 1 + k by omega] at this
  have HW0 : Hid (∀ W, Fr No w W → W.cell? ⟨g, o, none⟩ = some (.string (bA first))) := fun W hf => (hf.cells hw id) 0 (.string (bA first)) rfl
  have HM : Hid (∀ W, Fr No w W → ∀ k y, rest[k]? = some y → Calls Tryz.prog 74 #[.string (bA y)] W fun e w' => e = .returned (meanM y).v ∧ Fr No W w') := fun W hf k y hk => mean_any y (hlen y (List.mem_cons_of_mem _ (List.mem_of_getElem? hk))) W (hT.fr hf)
  have HB : Hid (∀ W xv b, Fr No w W → XsAt W xv b (rest.map meanM) → Calls Tryz.prog 75 #[.string (bA first), xv] W (BuildTo W (buildO first (rest.map meanM)))) := fun W xv b hf hX => build_any first (hlen first List.mem_cons_self) _ xv b W hX (hT.fr hf)
  have HMM := Lib.hid hm
  clear hw hlen hT hm
  go_enter_defers Tryz.func50, Tryz.ntmps50
  go_wp2_with fail
  obtain ⟨W0, hW0⟩ : ∃ W0, W0 = (w.alloc (.cells #[.slice none 0 0] 22)).alloc (.cells #[.bool false] 4) := ⟨_, rfl⟩
  have HA : Hid (∀ W, Fr No W0 W → (W.cell? ⟨w.heap.size, 0, none⟩ = some (.slice none 0 0) ∧ W.frozen? ⟨w.heap.size, 0, none⟩ = false) ∧ W.cell? ⟨w.heap.size + 1, 0, none⟩ = some (.bool false) ∧ W.frozen? ⟨w.heap.size + 1, 0, none⟩ = false) := fun W hf => by
    have c1 : W0.cell? ⟨w.heap.size, 0, none⟩ = some (.slice none 0 0) := by rw [hW0]; simp [go_sem]
    have c2 : W0.cell? ⟨w.heap.size + 1, 0, none⟩ = some (.bool false) := by rw [hW0]; simp [go_sem]
    have z1 : W0.frozen? ⟨w.heap.size, 0, none⟩ = false := by rw [hW0]; simp [go_sem]
    have z2 : W0.frozen? ⟨w.heap.size + 1, 0, none⟩ = false := by rw [hW0]; simp [go_sem]
    exact ⟨⟨hf.cell c1 id, (hf.frozen c1 id).trans z1⟩, hf.cell c2 id, (hf.frozen c2 id).trans z2⟩
  have HFW : Hid (Fr No w W0) := by rw [hW0]; exact ((Fr.refl No w).alloc _).alloc _
  rw [← hW0]
  have HSZ : Hid (w.heap.size ≤ W0.heap.size) := Lib.hid HFW.out.size
  have HN : Hid (∀ W, Fr No W0 W → NoInt W w.heap.size ∧ NoInt W (w.heap.size + 1)) := fun W hf => by
    have hs1 : (w.alloc (.cells #[.slice none 0 0] 22)).heap.size = w.heap.size + 1 := (heap_alloc_size _ _).symm
    have hs2 : W0.heap.size = w.heap.size + 1 + 1 := by rw [hW0, ← heap_alloc_size, hs1]
    refine ⟨NoInt.fr ?_ hf (by omega), NoInt.fr ?_ hf (by omega)⟩
    · rw [hW0]
      exact NoInt.fr (noInt_new w _ _ (fun k n h => by cases h)) ((Fr.refl _ _).alloc _) (by omega)
    · rw [hW0, ← hs1]
      exact noInt_new _ _ _ (fun k n h => by cases h)
  clear hW0
  go_loopw [4, 6, 12] (fun s4 s6 s12 wr => ∃ k : Nat, k ≤ m ∧ s12 = .int .i64 k ∧ Hid (Gath W0 20 1 k (mvs (rest.take k)) s4 wr)) (fun _ _ s12 _ => m - (intOf s12).toNat)
  case atStart => exact ⟨0, Nat.zero_le _, rfl, Gath.start W0 _ _⟩
  case round =>
    obtain ⟨k, hk, rfl, HG⟩ := hrel
    obtain ⟨va, vc, rfl⟩ := ownL_form HG.out.own
    by_cases hlt : k < m
    · obtain ⟨y, hy⟩ : ∃ y, rest[k]? = some y := ⟨_, List.getElem?_eq_getElem (by rw [HMM.out]; exact hlt)⟩
      have hfw := HFW.out.trans HG.out.fr
      have hcell := HW.out _ hfw k y hy
      have HMY := Lib.hid (HM.out _ hfw k y hy)
      have HY := Lib.hid hy
      have HV1 : Hid (∀ u ∈ [(meanM y).v], u.oneCell' = true) := by
        intro u hu
        rw [List.mem_singleton] at hu
        subst hu
        cases meanM y <;> rfl
      have hfm : (meanM y).v = .nilIface ∨ ∃ t x, (meanM y).v = .iface t x := by
        cases meanM y
        · exact .inl rfl
        · exact .inr ⟨_, _, rfl⟩
        · exact .inr ⟨_, _, rfl⟩
      have HMN : Hid (mvs (rest.take (k + 1)) = mvs (rest.take k) ++ [(meanM y).v]) := by
        rw [← mvs_snoc, List.take_add_one, hy]; rfl
      clear hy hfw
      generalize (meanM y).v = mv at *
      have hk1 : (k : Int) < (m : Int) := by omega
      rcases hfm with rfl | ⟨mt, mx, rfl⟩
      · go_wp2_with (first
          | (go_at_call 74; (with_reducible refine HMY.out.mono ?_); rintro e w2 ⟨rfl, hf2⟩; have HG2 := Lib.hid (HG.out.to (hf2.alloc (.cells #[.nilIface] 20))); clear hf2)
          | (at_builtin; refine wpList_append_src rfl _ _ 107 rfl W0.heap.size 20 i0 _ 1 16 Tryz.underlying107 hi0 hz0 hz1 hz2 rfl (by decide) (.slice va k vc) k (mvs (rest.take k)) rfl HG2.out.own _ 1 [.nilIface] rfl (src_new _ [.nilIface] 20) rfl HV1.out (by unfold maxLen; omega) (by omega) HG2.out.fr.size ?_; intro v' w3 own3 fr3; have HG3 := Lib.hid (HG2.out.step own3 fr3); clear own3 fr3))
        go_roundw
        case rel => exact ⟨k + 1, hlt, rfl, by rw [HMN.out]; exact HG3.out⟩
        case measure => show m - (k + 1) < m - k; omega
      · go_wp2_with (first
          | (go_at_call 74; (with_reducible refine HMY.out.mono ?_); rintro e w2 ⟨rfl, hf2⟩; have HG2 := Lib.hid (HG.out.to (hf2.alloc (.cells #[.iface mt mx] 20))); clear hf2)
          | (at_builtin; refine wpList_append_src rfl _ _ 107 rfl W0.heap.size 20 i0 _ 1 16 Tryz.underlying107 hi0 hz0 hz1 hz2 rfl (by decide) (.slice va k vc) k (mvs (rest.take k)) rfl HG2.out.own _ 1 [.iface mt mx] rfl (src_new _ [.iface mt mx] 20) rfl HV1.out (by unfold maxLen; omega) (by omega) HG2.out.fr.size ?_; intro v' w3 own3 fr3; have HG3 := Lib.hid (HG2.out.step own3 fr3); clear own3 fr3))
        go_roundw
        case rel => exact ⟨k + 1, hlt, rfl, by rw [HMN.out]; exact HG3.out⟩
        case measure => show m - (k + 1) < m - k; omega
    · obtain rfl : k = m := by omega
      have htk : rest.take k = rest := List.take_of_length_le (by rw [HMM.out]; exact Nat.le_refl _)
      rw [htk] at HG
      obtain ⟨b, hX⟩ : ∃ b, XsAt wr (.slice va k vc) b (rest.map meanM) := by
        refine Gath.xs (w := W0) (t := 20) ?_ (by rw [HMM.out]; exact hm2)
        rw [HMM.out]; exact HG.out
      have hfw := HFW.out.trans HG.out.fr
      have hcell := HW0.out _ hfw
      have HBW := Lib.hid (HB.out _ _ b hfw hX)
      have HFR := Lib.hid hfw
      have HA5 : Hid (∀ W, Fr No wr W → (W.cell? ⟨w.heap.size, 0, none⟩ = some (.slice none 0 0) ∧ W.frozen? ⟨w.heap.size, 0, none⟩ = false) ∧ W.cell? ⟨w.heap.size + 1, 0, none⟩ = some (.bool false) ∧ W.frozen? ⟨w.heap.size + 1, 0, none⟩ = false) := fun W hf => HA.out W (HG.out.fr.trans hf)
      have hlt2 : ¬ ((k : Int) < (k : Int)) := by omega
      have hrl : (rest.length : Int) = (k : Int) := by rw [HMM.out]
      have HO : Hid (slotsO (first :: rest) = (buildO first (rest.map meanM)).map fun (l, n) => (l, decide (n = (k : Int)))) := by
        rw [← hrl]; rfl
      clear hX hfw htk hrl
      cases hb : buildO first (rest.map meanM) with
      | none =>
        rw [hb] at HBW HO
        have HBD : Hid (Calls Tryz.prog 75 #[.string (bA first), .slice va k vc] wr (Died wr)) := HBW.out
        clear hb HBW
        go_wp2_with (go_at_call 75; (with_reducible refine HBD.out.mono ?_); rintro e w5 ⟨v1, rfl, hv1⟩; have HV := Lib.hid hv1; clear hv1)
        obtain ⟨⟨c1, z1⟩, c2, z2⟩ := HA5.out _ HV.out.2
        have HC1 := Lib.hid (And.intro c1 z1)
        have HC2 := Lib.hid (And.intro c2 z2)
        refine leaves_cons (f := 73) (args := #[.pointer (some ⟨w.heap.size, 0, none⟩), .pointer (some ⟨w.heap.size + 1, 0, none⟩)]) (by simp) (by simp [go_sem]) ?_
        refine (catch_panicking ⟨w.heap.size, 0, none⟩ ⟨w.heap.size + 1, 0, none⟩ (by simp) _ _ v1 HV.out.1 _ c1 z1 c2 z2).mono ?_
        rintro e u' w'' ⟨rfl, rfl, rfl⟩
        have d1 : (w5.setCell ⟨w.heap.size, 0, none⟩ (.slice none 0 0)).cell? ⟨w.heap.size, 0, none⟩ = some (.slice none 0 0) := World.cell?_setCell_same _ _ _ c1
        have d2 : ((w5.setCell ⟨w.heap.size, 0, none⟩ (.slice none 0 0)).setCell ⟨w.heap.size + 1, 0, none⟩ (.bool false)).cell? ⟨w.heap.size + 1, 0, none⟩ = some (.bool false) := World.cell?_setCell_same _ _ _ ((World.cell?_setCell_other _ _ _ _ (by simp)).trans c2)
        simp [Leaves, settle, results, Tryz.results50, go_sem, d1, d2]
        rw [HO.out]
        exact ⟨rfl, ((HFR.out.trans HV.out.2).setCell (.inl (Nat.le_refl _)) _).setCell (.inl (Nat.le_succ _)) _⟩
      | some r =>
        obtain ⟨l, n⟩ := r
        rw [hb] at HBW HO
        have HBD : Hid (Calls Tryz.prog 75 #[.string (bA first), .slice va k vc] wr fun e w' => ∃ lv, e = .returned (.tuple #[lv, .int .i64 n]) ∧ InsAt w' lv l ∧ Fr No wr w') := HBW.out
        clear hb HBW
        go_wp2_with (go_at_call 75; (with_reducible refine HBD.out.mono ?_); rintro e w5 ⟨lv, rfl, hv1, hf5⟩; obtain ⟨la, lc, rfl⟩ := hv1.form; have HV := Lib.hid hv1; have HF5 := Lib.hid hf5; obtain ⟨⟨c1, z1⟩, c2, z2⟩ := HA5.out _ hf5; clear hv1 hf5)
        refine leaves_cons (f := 73) (args := #[.pointer (some ⟨w.heap.size, 0, none⟩), .pointer (some ⟨w.heap.size + 1, 0, none⟩)]) (by simp) (by simp [go_sem]) ?_
        refine (catch_idle ⟨w.heap.size, 0, none⟩ ⟨w.heap.size + 1, 0, none⟩ _).mono ?_
        rintro e u' w'' ⟨rfl, rfl, rfl⟩
        have d1 : ((w5.setCell ⟨w.heap.size, 0, none⟩ (.slice la l.length lc)).setCell ⟨w.heap.size, 0, none⟩ (.slice la l.length lc)).cell? ⟨w.heap.size, 0, none⟩ = some (.slice la l.length lc) := World.cell?_setCell_same _ _ _ (World.cell?_setCell_same _ _ _ c1)
        have d2 : (((w5.setCell ⟨w.heap.size, 0, none⟩ (.slice la l.length lc)).setCell ⟨w.heap.size, 0, none⟩ (.slice la l.length lc)).setCell ⟨w.heap.size + 1, 0, none⟩ (.bool (n == (k : Int)))).cell? ⟨w.heap.size + 1, 0, none⟩ = some (.bool (n == (k : Int))) := World.cell?_setCell_same _ _ _ ((World.cell?_setCell_other _ _ _ _ (by simp)).trans ((World.cell?_setCell_other _ _ _ _ (by simp)).trans c2))
        simp [Leaves, settle, results, Tryz.results50, go_sem, d1, d2]
        rw [HO.out]
        have hni := HN.out w5 (HG.out.fr.trans HF5.out)
        exact ⟨_, rfl, insAt_keep HV.out hni.1 hni.2 _ _ _, ((((HFR.out.trans HF5.out).setCell (.inl (Nat.le_refl _)) _).setCell (.inl (Nat.le_refl _)) _).setCell (.inl (Nat.le_succ _)) _)⟩
set_option maxRecDepth 100000 in
set_option maxHeartbeats 2000000 in
theorem slots_one (g o m : Nat) (hm0 : m = 0) (first : List UInt8) (rest : List (List UInt8)) (hm : rest.length = m) (hlen : ∀ s ∈ first :: rest, s.length ≤ 1000000) (hm2 : m ≤ 1000000) (w : World) (hT : LT w) (hw : CellsAt w g o (strs (first :: rest))) : Calls Tryz.prog 50 #[.slice (some ⟨g, o, none⟩) 1 1] w (SlotsTo w (slotsO (first :: rest))) := by
  have hmf : ∀ (fn : Fn) (first cap : Array Value) (w : World), (Instr.makeFunc fn first cap).run Tryz.prog w = .ok (.func fn first cap) w := fun _ _ _ _ => rfl
  obtain ⟨i0, hi0, hz0, hz1, hz2⟩ := info_parts Tryz.infoL_any
  have HW : Hid (∀ W, Fr No w W → ∀ k y, rest[k]? = some y → W.cell? ⟨g, o + 1 + k, none⟩ = some (.string (bA y))) := fun W hf k y hk => by
    have := (hf.cells hw id) (k + 1) (.string (bA y)) (by simp [strs, hk])
    rwa [show o + (k + 1) = o + 1 + k by omega] at this
  have HW0 : Hid (∀ W, Fr No w W → W.cell? ⟨g, o, none⟩ = some (.string (bA first))) := fun W hf => (hf.cells hw id) 0 (.string (bA first)) rfl
  have HM : Hid (∀ W, Fr No w W → ∀ k y, rest[k]? = some y → Calls Tryz.prog 74 #[.string (bA y)] W fun e w' => e = .returned (meanM y).v ∧ Fr No W w') := fun W hf k y hk => mean_any y (hlen y (List.mem_cons_of_mem _ (List.mem_of_getElem? hk))) W (hT.fr hf)
  have HB : Hid (∀ W xv b, Fr No w W → XsAt W xv b (rest.map meanM) → Calls Tryz.prog 75 #[.string (bA first), xv] W (BuildTo W (buildO first (rest.map meanM)))) := fun W xv b hf hX => build_any first (hlen first List.mem_cons_self) _ xv b W hX (hT.fr hf)
  have HMM := Lib.hid hm
  clear hw hlen hT hm
  go_enter_defers Tryz.func50, Tryz.ntmps50
  go_wp2_with fail
  obtain ⟨W0, hW0⟩ : ∃ W0, W0 = (w.alloc (.cells #[.slice none 0 0] 22)).alloc (.cells #[.bool false] 4) := ⟨_, rfl⟩
  have HA : Hid (∀ W, Fr No W0 W → (W.cell? ⟨w.heap.size, 0, none⟩ = some (.slice none 0 0) ∧ W.frozen? ⟨w.heap.size, 0, none⟩ = false) ∧ W.cell? ⟨w.heap.size + 1, 0, none⟩ = some (.bool false) ∧ W.frozen? ⟨w.heap.size + 1, 0, none⟩ = false) := fun W hf => by
    have c1 : W0.cell? ⟨w.heap.size, 0, none⟩ = some (.slice none 0 0) := by rw [hW0]; simp [go_sem]
    have c2 : W0.cell? ⟨w.heap.size + 1, 0, none⟩ = some (.bool false) := by rw [hW0]; simp [go_sem]
    have z1 : W0.frozen? ⟨w.heap.size, 0, none⟩ = false := by rw [hW0]; simp [go_sem]
    have z2 : W0.frozen? ⟨w.heap.size + 1, 0, none⟩ = false := by rw [hW0]; simp [go_sem]
    exact ⟨⟨hf.cell c1 id, (hf.frozen c1 id).trans z1⟩, hf.cell c2 id, (hf.frozen c2 id).trans z2⟩
  have HFW : Hid (Fr No w W0) := by rw [hW0]; exact ((Fr.refl No w).alloc _).alloc _
  rw [← hW0]
  have HSZ : Hid (w.heap.size ≤ W0.heap.size) := Lib.hid HFW.out.size
  have HN : Hid (∀ W, Fr No W0 W → NoInt W w.heap.size ∧ NoInt W (w.heap.size + 1)) := fun W hf => by
    have hs1 : (w.alloc (.cells #[.slice none 0 0] 22)).heap.size = w.heap.size + 1 := (heap_alloc_size _ _).symm
    have hs2 : W0.heap.size = w.heap.size + 1 + 1 := by rw [hW0, ← heap_alloc_size, hs1]
    refine ⟨NoInt.fr ?_ hf (by omega), NoInt.fr ?_ hf (by omega)⟩
    · rw [hW0]
      exact NoInt.fr (noInt_new w _ _ (fun k n h => by cases h)) ((Fr.refl _ _).alloc _) (by omega)
    · rw [hW0, ← hs1]
      exact noInt_new _ _ _ (fun k n h => by cases h)
  clear hW0
  go_loopw [4, 6, 12] (fun s4 s6 s12 wr => ∃ k : Nat, k ≤ m ∧ s12 = .int .i64 k ∧ Hid (Gath W0 20 1 k (mvs (rest.take k)) s4 wr)) (fun _ _ s12 _ => m - (intOf s12).toNat)
  case atStart => exact ⟨0, Nat.zero_le _, rfl, Gath.start W0 _ _⟩
  case round =>
    obtain ⟨k, hk, rfl, HG⟩ := hrel
    obtain ⟨va, vc, rfl⟩ := ownL_form HG.out.own
    have hk0 : k = 0 := by omega
    subst hk0
    subst hm0
    simp only [Int.ofNat_zero, Int.natCast_zero, Int.cast_ofNat_Int] at *
    have htk : rest.take 0 = rest := List.take_of_length_le (by rw [HMM.out]; exact Nat.le_refl _)
    rw [htk] at HG
    obtain ⟨b, hX⟩ : ∃ b, XsAt wr (.slice va 0 vc) b (rest.map meanM) := by
      refine Gath.xs (w := W0) (t := 20) ?_ (by rw [HMM.out]; exact hm2)
      rw [HMM.out]; exact HG.out
    have hfw := HFW.out.trans HG.out.fr
    have hcell := HW0.out _ hfw
    have HBW := Lib.hid (HB.out _ _ b hfw hX)
    have HFR := Lib.hid hfw
    have HA5 : Hid (∀ W, Fr No wr W → (W.cell? ⟨w.heap.size, 0, none⟩ = some (.slice none 0 0) ∧ W.frozen? ⟨w.heap.size, 0, none⟩ = false) ∧ W.cell? ⟨w.heap.size + 1, 0, none⟩ = some (.bool false) ∧ W.frozen? ⟨w.heap.size + 1, 0, none⟩ = false) := fun W hf => HA.out W (HG.out.fr.trans hf)
    have hlt2 : ¬ ((0 : Int) < (0 : Int)) := by decide
    have hrl : (rest.length : Int) = (0 : Int) := by rw [HMM.out]; rfl
    have HO : Hid (slotsO (first :: rest) = (buildO first (rest.map meanM)).map fun (l, n) => (l, decide (n = (0 : Int)))) := by
      rw [← hrl]; rfl
    clear hX hfw htk hrl
    cases hb : buildO first (rest.map meanM) with
    | none =>
      rw [hb] at HBW HO
      have HBD : Hid (Calls Tryz.prog 75 #[.string (bA first), .slice va 0 vc] wr (Died wr)) := HBW.out
      clear hb HBW
      go_wp2_with (go_at_call 75; (with_reducible refine HBD.out.mono ?_); rintro e w5 ⟨v1, rfl, hv1⟩; have HV := Lib.hid hv1; clear hv1)
      obtain ⟨⟨c1, z1⟩, c2, z2⟩ := HA5.out _ HV.out.2
      have HC1 := Lib.hid (And.intro c1 z1)
      have HC2 := Lib.hid (And.intro c2 z2)
      refine leaves_cons (f := 73) (args := #[.pointer (some ⟨w.heap.size, 0, none⟩), .pointer (some ⟨w.heap.size + 1, 0, none⟩)]) (by simp) (by simp [go_sem]) ?_
      refine (catch_panicking ⟨w.heap.size, 0, none⟩ ⟨w.heap.size + 1, 0, none⟩ (by simp) _ _ v1 HV.out.1 _ c1 z1 c2 z2).mono ?_
      rintro e u' w'' ⟨rfl, rfl, rfl⟩
      have d1 : (w5.setCell ⟨w.heap.size, 0, none⟩ (.slice none 0 0)).cell? ⟨w.heap.size, 0, none⟩ = some (.slice none 0 0) := World.cell?_setCell_same _ _ _ c1
      have d2 : ((w5.setCell ⟨w.heap.size, 0, none⟩ (.slice none 0 0)).setCell ⟨w.heap.size + 1, 0, none⟩ (.bool false)).cell? ⟨w.heap.size + 1, 0, none⟩ = some (.bool false) := World.cell?_setCell_same _ _ _ ((World.cell?_setCell_other _ _ _ _ (by simp)).trans c2)
      simp [Leaves, settle, results, Tryz.results50, go_sem, d1, d2]
      rw [HO.out]
      exact ⟨rfl, ((HFR.out.trans HV.out.2).setCell (.inl (Nat.le_refl _)) _).setCell (.inl (Nat.le_succ _)) _⟩
    | some r =>
      obtain ⟨l, n⟩ := r
      rw [hb] at HBW HO
      have HBD : Hid (Calls Tryz.prog 75 #[.string (bA first), .slice va 0 vc] wr fun e w' => ∃ lv, e = .returned (.tuple #[lv, .int .i64 n]) ∧ InsAt w' lv l ∧ Fr No wr w') := HBW.out
      clear hb HBW
      go_wp2_with (go_at_call 75; (with_reducible refine HBD.out.mono ?_); rintro e w5 ⟨lv, rfl, hv1, hf5⟩; obtain ⟨la, lc, rfl⟩ := hv1.form; have HV := Lib.hid hv1; have HF5 := Lib.hid hf5; obtain ⟨⟨c1, z1⟩, c2, z2⟩ := HA5.out _ hf5; clear hv1 hf5)
      refine leaves_cons (f := 73) (args := #[.pointer (some ⟨w.heap.size, 0, none⟩), .pointer (some ⟨w.heap.size + 1, 0, none⟩)]) (by simp) (by simp [go_sem]) ?_
      refine (catch_idle ⟨w.heap.size, 0, none⟩ ⟨w.heap.size + 1, 0, none⟩ _).mono ?_
      rintro e u' w'' ⟨rfl, rfl, rfl⟩
      have d1 : ((w5.setCell ⟨w.heap.size, 0, none⟩ (.slice la l.length lc)).setCell ⟨w.heap.size, 0, none⟩ (.slice la l.length lc)).cell? ⟨w.heap.size, 0, none⟩ = some (.slice la l.length lc) := World.cell?_setCell_same _ _ _ (World.cell?_setCell_same _ _ _ c1)
      have d2 : (((w5.setCell ⟨w.heap.size, 0, none⟩ (.slice la l.length lc)).setCell ⟨w.heap.size, 0, none⟩ (.slice la l.length lc)).setCell ⟨w.heap.size + 1, 0, none⟩ (.bool (n == (0 : Int)))).cell? ⟨w.heap.size + 1, 0, none⟩ = some (.bool (n == (0 : Int))) := World.cell?_setCell_same _ _ _ ((World.cell?_setCell_other _ _ _ _ (by simp)).trans ((World.cell?_setCell_other _ _ _ _ (by simp)).trans c2))
      simp [Leaves, settle, results, Tryz.results50, go_sem, d1, d2]
      rw [HO.out]
      have hni := HN.out w5 (HG.out.fr.trans HF5.out)
      exact ⟨_, rfl, insAt_keep HV.out hni.1 hni.2 _ _ _, ((((HFR.out.trans HF5.out).setCell (.inl (Nat.le_refl _)) _).setCell (.inl (Nat.le_refl _)) _).setCell (.inl (Nat.le_succ _)) _)⟩
/-- lines.slots: the slots of a line's words -/
theorem slots_any (first : List UInt8) (rest : List (List UInt8)) (v : Value) (hlen : ∀ s ∈ first :: rest, s.length ≤ 1000000) (hm2 : rest.length ≤ 1000000) (w : World) (hT : LT w) (hw : StrsAt w v (first :: rest)) : Calls Tryz.prog 50 #[v] w (SlotsTo w (slotsO (first :: rest))) := by
  rcases hw with ⟨h, _⟩ | ⟨g, o, cap, rfl, _, hcap, hc⟩
  · cases h
  · rw [List.length_cons] at hcap ⊢
    by_cases h1 : cap = 1
    · subst h1
      have h0 : rest.length = 0 := by omega
      rw [h0]
      exact slots_one g o 0 rfl first rest h0 hlen (by omega) w hT hc
    · obtain ⟨c, rfl⟩ : ∃ c, cap = c + 2 := ⟨cap - 2, by omega⟩
      exact slots_more g o rest.length c first rest rfl (by omega) hlen hm2 w hT hc
end Go.Proofs.YtakcdecljfmckaaGreatDoor
