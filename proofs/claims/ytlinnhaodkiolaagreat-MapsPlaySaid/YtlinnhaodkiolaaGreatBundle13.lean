/- firewalllaw07.Same: are two lists of regions the same. firewallref07.New, the plain law: a region laid among others. A region that draws its order, whose last operation writes a cell that the region loads: loads may be taken first all the same, where the last operation waits for them (on whatever way). No condition. -/
import Derived.Test.YtlinnhaodkiolaaGreatBundle6
import Derived.Test.YtlinnhaodkiolaaGreatBundle12
import Derived.Test.YtlinnhaodkiolaaGreatRows
import Derived.Deep.RegionHeld3
namespace Go.Proofs.YtlinnhaodkiolaaGreat
open Go.RowKit

theorem bytes_inj (a b : List UInt8) : ((⟨a.toArray⟩ : ByteArray) = ⟨b.toArray⟩) ↔ a = b := by
  constructor
  · intro h
    have := congrArg (fun x : ByteArray => x.data.toList) h
    simpa using this
  · rintro rfl; rfl

theorem neq_areg (b1 b2 : Int) (s1 s2 : ByteArray) (f1 f2 : Bool) (w : World) : (binOp .neq 69 (.agg #[.int .u64 b1, .string s1, .bool f1]) (.agg #[.int .u64 b2, .string s2, .bool f2])).run Tryz.prog w = .ok (.bool (!(b1 == b2 && (s1.toList == s2.toList && f1 == f2)))) w := by
  have u5 := Tryz.underlying44
  have a5 := Tryz.isAgg44
  have z5 := Tryz.sizeOf44
  have u9 := Tryz.underlying9
  have a9 := Tryz.isAgg9
  have z9 := Tryz.sizeOf9
  have u4 := Tryz.underlying4
  have a4 := Tryz.isAgg4
  have z4 := Tryz.sizeOf4
  have hS : Tryz.prog.underlying 69 = some (.struct (Tryz.prog.fieldsOf 69)) := by kernel_rfl
  have hp : Tryz.prog.stoodInHeld 69 = false := by kernel_rfl
  rw [run_neq_struct, show (10000 : Nat) = 9999 + 1 from rfl, run_equalIn_agg w 9999 _ _ _ hS hp]
  simp only [Program.fieldsOf, Tryz.underlying69]
  go_simp
  by_cases h1 : b1 = b2 <;> by_cases h2 : s1.toList = s2.toList <;> by_cases h3 : f1 = f2 <;> simp [h1, h2, h3]

theorem guard_areg (xs ys : Array Value) (op : BinOp) (x y : Operand) (w : World) : (eqGuard op 69 x y (.agg xs) (.agg ys)).run Tryz.prog w = .ok () w := run_eqGuard_agg w op _ x y xs ys (by kernel_rfl)

set_option maxRecDepth 100000 in
set_option maxHeartbeats 1000000 in
theorem same_walk (g1 o1 c1 g2 o2 c2 n : Nat) (l1 l2 : List Reg) (w : World) (h1 : l1.length = n) (h2 : l2.length = n) (hc1 : CellsAt w g1 o1 (aflat l1)) (hc2 : CellsAt w g2 o2 (aflat l2)) (hn : 1 ≤ n) (hm : n ≤ 4294967296) :
    Calls Tryz.prog 7 #[.slice (some ⟨g1, o1, none⟩) n c1, .slice (some ⟨g2, o2, none⟩) n c2] w fun e w' => (∃ r : Bool, e = .returned (.bool r) ∧ (r = true ↔ l1 = l2)) ∧ Fr No w w' := by
  have HC1 := Lib.hid hc1
  have HC2 := Lib.hid hc2
  have HL1 := Lib.hid h1
  have HL2 := Lib.hid h2
  have hb1 : g1 < w.heap.size := World.block_lt_of_cell? w _ (hc1 (0 * 3 + 0) _ (aflat_get l1 0 0 (by omega) (by omega)))
  have hb2 : g2 < w.heap.size := World.block_lt_of_cell? w _ (hc2 (0 * 3 + 0) _ (aflat_get l2 0 0 (by omega) (by omega)))
  clear hc1 hc2 h1 h2
  go_enter Tryz.func7, Tryz.ntmps7
  go_wp2_with fail
  go_loopw [5] (fun i wr => ∃ (k : Nat), k ≤ n ∧ i = .int .i64 k ∧ Hid (l1.take k = l2.take k) ∧ Hid (Fr No w wr)) (fun i _ => n - (intOf i).toNat)
  case atStart => exact ⟨0, Nat.zero_le _, rfl, Lib.hid (by simp), Fr.refl _ _⟩
  case round =>
    obtain ⟨k, hk, rfl, HI, HF⟩ := hrel
    by_cases hlt : k < n
    · obtain ⟨x, hx⟩ : ∃ x, l1[k]? = some x := ⟨l1[k]'(by rw [HL1.out]; exact hlt), List.getElem?_eq_getElem _⟩
      obtain ⟨y, hy⟩ : ∃ y, l2[k]? = some y := ⟨l2[k]'(by rw [HL2.out]; exact hlt), List.getElem?_eq_getElem _⟩
      have kx : wr.cell? ⟨g1, o1 + k * 3, none⟩ = some (.int .u64 x.base) ∧ wr.cell? ⟨g1, o1 + k * 3 + 1, none⟩ = some (.string ⟨x.data.toArray⟩) ∧ wr.cell? ⟨g1, o1 + k * 3 + 2, none⟩ = some (.bool x.free) := by
        have hkl : k < l1.length := by rw [HL1.out]; exact hlt
        have hxk : l1[k] = x := by rw [List.getElem?_eq_getElem hkl] at hx; exact Option.some.inj hx
        have hh := HF.out.cells HC1.out id
        have c0 := hh (k * 3 + 0) _ (aflat_get l1 k 0 hkl (by omega))
        have c1 := hh (k * 3 + 1) _ (aflat_get l1 k 1 hkl (by omega))
        have c2 := hh (k * 3 + 2) _ (aflat_get l1 k 2 hkl (by omega))
        rw [hxk] at c0 c1 c2
        exact ⟨c0, c1, c2⟩
      have ky : wr.cell? ⟨g2, o2 + k * 3, none⟩ = some (.int .u64 y.base) ∧ wr.cell? ⟨g2, o2 + k * 3 + 1, none⟩ = some (.string ⟨y.data.toArray⟩) ∧ wr.cell? ⟨g2, o2 + k * 3 + 2, none⟩ = some (.bool y.free) := by
        have hkl : k < l2.length := by rw [HL2.out]; exact hlt
        have hxk : l2[k] = y := by rw [List.getElem?_eq_getElem hkl] at hy; exact Option.some.inj hy
        have hh := HF.out.cells HC2.out id
        have c0 := hh (k * 3 + 0) _ (aflat_get l2 k 0 hkl (by omega))
        have c1 := hh (k * 3 + 1) _ (aflat_get l2 k 1 hkl (by omega))
        have c2 := hh (k * 3 + 2) _ (aflat_get l2 k 2 hkl (by omega))
        rw [hxk] at c0 c1 c2
        exact ⟨c0, c1, c2⟩
      obtain ⟨k0, k1, k2⟩ := kx
      obtain ⟨m0, m1, m2⟩ := ky
      obtain ⟨r, q1, hr⟩ : ∃ r : Bool, (∀ w, (binOp .neq 69 (.agg #[.int .u64 x.base, .string ⟨x.data.toArray⟩, .bool x.free]) (.agg #[.int .u64 y.base, .string ⟨y.data.toArray⟩, .bool y.free])).run Tryz.prog w = .ok (.bool r) w) ∧ (r = false ↔ x = y) := by
        refine ⟨_, neq_areg _ _ _ _ _ _, ?_⟩
        have := bytes_inj x.data y.data
        rw [Lib.toList_data, Lib.toList_data]
        cases x; cases y; simp
      have HS : Hid ((x = y → l1.take (k + 1) = l2.take (k + 1)) ∧ (x ≠ y → l1 ≠ l2)) := by
        refine ⟨fun e => ?_, fun e h => e ?_⟩
        · rw [List.take_add_one, List.take_add_one, HI.out, hx, hy, e]
        · rw [h, hy] at hx; exact (Option.some.inj hx).symm
      have HR := Lib.hid hr
      generalize (⟨x.data.toArray⟩ : ByteArray) = s1 at *
      generalize (⟨y.data.toArray⟩ : ByteArray) = s2 at *
      generalize hbx : x.base = b1 at *
      generalize hby : y.base = b2 at *
      generalize hfx : x.free = f1 at *
      generalize hfy : y.free = f2 at *
      have hz := HF.out.size
      have hb1' : g1 < wr.heap.size := by omega
      have hb2' : g2 < wr.heap.size := by omega
      clear hx hy hbx hby hfx hfy hr hz hb1 hb2
      have q2 := guard_areg
      go_wp2_with fail
      go_quiet (fail)
      cases r with
      | false =>
        go_wp2_with fail
        go_roundw
        case rel => exact ⟨k + 1, by omega, by go_num, Lib.hid (HS.out.1 (HR.out.1 rfl)), HF.out.drewN _⟩
        case measure => simp [intOf] <;> omega
      | true =>
        go_wp2_with fail
        go_ret
        exact ⟨⟨_, rfl, ⟨fun e => (Bool.noConfusion e), fun e => absurd e (HS.out.2 fun e2 => Bool.noConfusion (HR.out.2 e2))⟩⟩, HF.out.drewN _⟩
    · obtain rfl : k = n := by omega
      go_wp2_with fail
      go_ret
      exact ⟨⟨_, rfl, ⟨fun _ => by
        have := HI.out
        rwa [List.take_of_length_le (by rw [HL1.out]; exact Nat.le_refl _), List.take_of_length_le (by rw [HL2.out]; exact Nat.le_refl _)] at this, fun _ => rfl⟩⟩, HF.out⟩

set_option maxHeartbeats 400000 in
theorem same_unlike (a1 a2 : Option Addr) (c1 c2 n1 n2 : Nat) (w : World) (h : n1 ≠ n2) :
    Calls Tryz.prog 7 #[.slice a1 n1 c1, .slice a2 n2 c2] w fun e w' => e = .returned (.bool false) ∧ w = w' := by
  have h' : ((n1 : Int) == (n2 : Int)) = false := by rw [beq_eq_false_iff_ne]; omega
  go_enter Tryz.func7, Tryz.ntmps7
  go_wp2_with fail
  go_ret
  exact ⟨rfl, rfl⟩

set_option maxHeartbeats 400000 in
theorem same_zero (a1 a2 : Option Addr) (c1 c2 : Nat) (w : World) :
    Calls Tryz.prog 7 #[.slice a1 0 c1, .slice a2 0 c2] w fun e w' => e = .returned (.bool true) ∧ w = w' := by
  go_enter Tryz.func7, Tryz.ntmps7
  go_wp2_with fail
  refine wp_loop_rounds 1 ?_
  rw [rounds_succ]
  go_wp2_with fail
  go_ret
  exact ⟨rfl, rfl⟩

theorem same_any (v1 v2 : Value) (l1 l2 : List Reg) (w : World) (h1 : RegsAt w v1 l1) (h2 : RegsAt w v2 l2) (hm : l1.length ≤ 4294967296) :
    Calls Tryz.prog 7 #[v1, v2] w fun e w' => (∃ r : Bool, e = .returned (.bool r) ∧ (r = true ↔ l1 = l2)) ∧ Fr No w w' := by
  by_cases hl : l1.length = l2.length
  · rcases Nat.eq_zero_or_pos l1.length with h0 | h0
    · have e1 := List.eq_nil_of_length_eq_zero h0
      have e2 := List.eq_nil_of_length_eq_zero (hl ▸ h0)
      subst e1 e2
      obtain ⟨a1, c1, rfl⟩ : ∃ a c, v1 = .slice a 0 c := by
        rcases h1.2 with ⟨_, h⟩ | ⟨g, off, cap, rfl, _⟩
        · exact h
        · exact ⟨_, _, rfl⟩
      obtain ⟨a2, c2, rfl⟩ : ∃ a c, v2 = .slice a 0 c := by
        rcases h2.2 with ⟨_, h⟩ | ⟨g, off, cap, rfl, _⟩
        · exact h
        · exact ⟨_, _, rfl⟩
      exact (same_zero a1 a2 c1 c2 w).mono fun e w' ⟨he, hw⟩ => ⟨⟨true, he, by simp⟩, hw ▸ Fr.refl _ _⟩
    · rcases h1.2 with ⟨rfl, _⟩ | ⟨g1, o1, c1, rfl, hc1⟩
      · simp at h0
      rcases h2.2 with ⟨rfl, _⟩ | ⟨g2, o2, c2, rfl, hc2⟩
      · rw [hl] at h0; simp at h0
      rw [← hl]
      exact same_walk g1 o1 c1 g2 o2 c2 l1.length l1 l2 w rfl hl.symm hc1 hc2 h0 hm
  · have form : ∀ v l, RegsAt w v l → ∃ a c, v = .slice a l.length c := fun v l h => by
      rcases h.2 with ⟨rfl, a, c, rfl⟩ | ⟨g, off, cap, rfl, _⟩
      · exact ⟨a, c, rfl⟩
      · exact ⟨_, _, rfl⟩
    obtain ⟨a1, c1, rfl⟩ := form v1 l1 h1
    obtain ⟨a2, c2, rfl⟩ := form v2 l2 h2
    exact (same_unlike a1 a2 c1 c2 _ _ w hl).mono fun e w' ⟨he, hw⟩ => ⟨⟨false, he, by simp; intro e; exact hl (by rw [e])⟩, hw ▸ Fr.refl _ _⟩

end Go.Proofs.YtlinnhaodkiolaaGreat

namespace Go.Proofs.YtlinnhaodkiolaaGreat
open Go.RowKit

def apartR (a b : Reg) : Prop := a.base + a.len ≤ b.base ∨ b.base + b.len ≤ a.base
theorem apartR.symm {a b : Reg} (h : apartR a b) : apartR b a := h.elim .inr .inl

def ins (m : List Reg) (k : Nat) (r : Reg) : List Reg := m.take k ++ r :: m.drop k

theorem ins_wf {m : List Reg} {r : Reg} {k : Nat} (h : WF m) (hr : r.ok) (ha : ∀ x ∈ m, apartR x r) (hl : m.length ≤ 1000000) (h1 : ∀ j, j < k → ∀ x, m[j]? = some x → x.base < r.base) (h2 : ∀ x, m[k]? = some x → r.base ≤ x.base) : WF (ins m k r) where
  ok := fun x hx => by
    unfold ins at hx
    rcases List.mem_append.1 hx with hx | hx
    · exact h.ok x (List.mem_of_mem_take hx)
    · rcases List.mem_cons.1 hx with rfl | hx
      · exact hr
      · exact h.ok x (List.mem_of_mem_drop hx)
  apart := by
    have hp := len_pos hr
    have hm : m = m.take k ++ m.drop k := (List.take_append_drop k m).symm
    have hpw := h.apart
    rw [hm, List.pairwise_append] at hpw
    obtain ⟨p1, p2, p3⟩ := hpw
    have low : ∀ x ∈ m.take k, x.base + x.len ≤ r.base := fun x hx => by
      obtain ⟨j, hj, rfl⟩ := List.getElem_of_mem hx
      have hjk : j < k := by simp at hj; omega
      have hx2 : m[j]? = some (m.take k)[j] := by rw [List.getElem_take]; exact List.getElem?_eq_getElem _
      have := h1 j hjk _ hx2
      rcases ha _ (List.mem_of_mem_take hx) with h | h <;> omega
    have high : ∀ x ∈ m.drop k, r.base + r.len ≤ x.base := fun x hx => by
      have hge : r.base ≤ x.base := by
        obtain ⟨j, hj, rfl⟩ := List.getElem_of_mem hx
        have hk : k < m.length := by simp at hj; omega
        have h0 := h2 _ (List.getElem?_eq_getElem hk)
        rw [List.getElem_drop]
        rcases Nat.eq_zero_or_pos j with rfl | hj0
        · simpa using h0
        · have hj' : k + j < m.length := by simp at hj; omega
          have := List.pairwise_iff_getElem.1 h.apart k (k + j) hk hj' (by omega)
          have := len_pos (h.ok _ (List.getElem_mem hk))
          omega
      have := len_pos (h.ok x (List.mem_of_mem_drop hx))
      rcases ha _ (List.mem_of_mem_drop hx) with h | h <;> omega
    unfold ins
    rw [List.pairwise_append]
    refine ⟨p1, List.pairwise_cons.2 ⟨high, p2⟩, fun x hx y hy => ?_⟩
    rcases List.mem_cons.1 hy with rfl | hy
    · exact low x hx
    · exact p3 x hx y hy
  many := by simp [ins]; omega

theorem ins_perm {m rs : List Reg} {r : Reg} {i k : Nat} (h : m.Perm (rs.take i)) (hr : rs[i]? = some r) : (ins m k r).Perm (rs.take (i + 1)) := by
  rw [List.take_add_one, hr]
  have e : (ins m k r).Perm (r :: m) := by
    have := (List.perm_middle (a := r) (l₁ := m.take k) (l₂ := m.drop k))
    rw [List.take_append_drop] at this
    exact this
  exact e.trans ((List.Perm.cons r h).trans (List.perm_append_singleton r _).symm)

theorem no_memory {rs : List Reg} {r x : Reg} {i : Nat} (hr : rs[i]? = some r) (hx : x ∈ rs.take i) (hn : ¬ apartR x r) : ¬ ∃ m, m.Perm rs ∧ WF m := by
  rintro ⟨m, hp, hw⟩
  have h1 : m.Pairwise apartR := hw.apart.imp (fun h => .inl h)
  have h2 := (hp.pairwise_iff (fun h => apartR.symm h)).1 h1
  obtain ⟨hi, he⟩ := List.getElem?_eq_some_iff.1 hr
  have hs : rs = rs.take i ++ r :: rs.drop (i + 1) := by
    rw [← he, List.getElem_cons_drop, List.take_append_drop]
  rw [hs, List.pairwise_append] at h2
  exact hn (h2.2.2 x hx r (by simp))

theorem ins_flat (m : List Reg) (k : Nat) (r : Reg) : aflat (ins m k r) = aflat (m.take k) ++ (r.cells ++ aflat (m.drop k)) := by
  simp [ins, aflat]

theorem aflat_take (m : List Reg) (j : Nat) : aflat (m.take j) = (aflat m).take (j * 3) := by
  induction m generalizing j with
  | nil => simp [aflat]
  | cons x m ih =>
    cases j with
    | zero => simp [aflat]
    | succ j =>
      have := ih j
      simp only [aflat] at this
      simp only [aflat, List.take_succ_cons, List.flatMap_cons, this]
      rw [show (j + 1) * 3 = x.cells.length + j * 3 by simp [Reg.cells]; omega, List.take_length_add_append]

theorem aflat_drop (m : List Reg) (j : Nat) : aflat (m.drop j) = (aflat m).drop (j * 3) := by
  induction m generalizing j with
  | nil => simp [aflat]
  | cons x m ih =>
    cases j with
    | zero => simp [aflat]
    | succ j =>
      have := ih j
      simp only [aflat] at this
      simp only [aflat, List.drop_succ_cons, List.flatMap_cons, this]
      rw [show (j + 1) * 3 = x.cells.length + j * 3 by simp [Reg.cells]; omega, List.drop_length_add_append]

theorem good_ok {r : Reg} (h : r.good = true) (ht : r.typed) : r.ok := by
  have := (Reg.good_iff r).1 h
  refine ⟨ht.low, ?_, this.2, ht.small⟩
  exact List.length_pos_iff.2 this.1

end Go.Proofs.YtlinnhaodkiolaaGreat

namespace Go.Proofs.YtlinnhaodkiolaaGreat
open Go

section
variable {P : Program} {ops : Array Oper} {Q : Exit → Act → World → Prop} {md : Region.Mode} {S : World → Prop} {z : Nat}

/-- whatever order is picked, and S holds behind each operation but z -/
def wpAnyZ (P : Program) (md : Region.Mode) (ops : Array Oper) (Q : Exit → Act → World → Prop) (S : World → Prop) (z : Nat) : Nat → Array Bool → Act → World → Prop
  | 0, listed, a, w => Region.ready md ops listed = [] ∧ Q .normal a w
  | fuel + 1, listed, a, w => (Region.ready md ops listed = [] → Q .normal a w) ∧
    ∀ i ∈ Region.ready md ops listed, wpOp P ops Q i (fun a' w' => (i ≠ z → S w') ∧ wpAnyZ P md ops Q S z fuel (listed.setIfInBounds i true) a' w') a w

theorem wpAny_of_z : ∀ (fuel : Nat) (listed : Array Bool) (a : Act) (w : World), wpAnyZ P md ops Q S z fuel listed a w → wpAny P md ops Q fuel listed a w
  | 0, _, _, _, h => h
  | fuel + 1, _, _, _, h => ⟨h.1, fun i hi => wpOp_mono (fun a' w' h' => wpAny_of_z fuel _ a' w' h'.2) (h.2 i hi)⟩

/-- those that wait for i, on whatever way -/
def depsOf (md : Region.Mode) (ops : Array Oper) (i : Nat) : List Nat :=
  (List.range ops.size).foldl (fun R k => if k == i || ((ops[k]?).map (fun o => o.after.any fun e => Region.binds md e && R.contains e.on)).getD false then k :: R else R) []

def depsOk (md : Region.Mode) (ops : Array Oper) (listed : Array Bool) (i z : Nat) (R : List Nat) : Bool :=
  R.contains z && R.all fun k => !listed.getD k true && (k == i || ((ops[k]?).map (fun o => o.after.any fun e => Region.binds md e && R.contains e.on)).getD false)

theorem depsOk_unready {listed : Array Bool} {i z : Nat} {R : List Nat} (h : depsOk md ops listed i z R = true) : z ∈ R ∧ ∀ k ∈ R, listed.getD k true = false ∧ (k ≠ i → k ∉ Region.ready md ops listed) := by
  unfold depsOk at h
  rw [Bool.and_eq_true, List.all_eq_true] at h
  obtain ⟨hz, hall⟩ := h
  have un : ∀ k ∈ R, listed.getD k true = false := fun k hk => by
    have := hall k hk
    rw [Bool.and_eq_true] at this
    simpa using this.1
  refine ⟨by simpa using hz, fun k hk => ⟨un k hk, fun hki hr => ?_⟩⟩
  have h2 := hall k hk
  rw [Bool.and_eq_true, Bool.or_eq_true] at h2
  rcases h2.2 with h3 | h3
  · exact hki (by simpa using h3)
  · obtain ⟨_, o, ho, hr2⟩ := mem_ready.1 hr
    rw [ho] at h3
    simp only [Option.map_some, Option.getD_some, Array.any_eq_true] at h3
    obtain ⟨t, ht, he⟩ := h3
    rw [Bool.and_eq_true] at he
    have hon := hr2 _ (Array.getElem_mem ht) he.1
    have hun := un _ (by simpa using he.2)
    rcases Nat.lt_or_ge (o.after[t]).on listed.size with h' | h'
    · simp [h'] at hon hun; rw [hon] at hun; cases hun
    · simp [Array.getElem?_eq_none h'] at hun

theorem depsOk_set {listed : Array Bool} {i j : Nat} {R : List Nat} (h : depsOk md ops listed i z R = true) (hj : j ∉ R) : depsOk md ops (listed.setIfInBounds j true) i z R = true := by
  unfold depsOk at h ⊢
  rw [Bool.and_eq_true, List.all_eq_true] at h ⊢
  refine ⟨h.1, fun k hk => ?_⟩
  have := h.2 k hk
  rwa [getD_set_ne true (show j ≠ k from fun e => hj (by rw [e]; exact hk))]

theorem wpAnyZ_first {i : Nat} {oi : Oper} {v : Value} {R : List Nat} (hi : ops[i]? = some oi) (hsel : ∀ (j : Nat) (o : Oper) cs b, ops[j]? = some o → o.op ≠ .select cs b)
    (hQ : ∀ c a w, Q (.panic c) (a.put oi.dst v) w → Q (.panic c) a w) :
    ∀ (fuel : Nat) (listed : Array Bool) (a : Act) (w : World),
      (∀ j oj, ops[j]? = some oj → j ≠ i → listed.getD j true = false → (∀ e ∈ oj.after, Region.binds md e = true → e.on ≠ i) → oi.apart ops oj = true) →
      i ∈ Region.ready md ops listed → depsOk md ops listed i z R = true → i ≠ z → YieldsIf P ops S oi v a → S w →
      wpAnyZ P md ops Q S z fuel (listed.setIfInBounds i true) (a.put oi.dst v) w → wpAnyZ P md ops Q S z (fuel + 1) listed a w := by
  intro fuel
  induction fuel with
  | zero =>
    intro listed a w _ hr _ hiz hy hS H
    refine ⟨fun h => (by rw [h] at hr; cases hr), fun j hj => ?_⟩
    by_cases hji : j = i
    · subst hji
      exact hy.wpOp hi hS ⟨fun _ => hS, H⟩
    · have := ready_mono hj hji
      rw [H.1] at this
      cases this
  | succ fuel ih =>
    intro listed a w hfree hr hd hiz hy hS H
    refine ⟨fun h => (by rw [h] at hr; cases hr), fun j hj => ?_⟩
    by_cases hji : j = i
    · subst hji
      exact hy.wpOp hi hS ⟨fun _ => hS, H⟩
    · obtain ⟨hzR, hall⟩ := depsOk_unready hd
      have hjR : j ∉ R := fun hm => (hall j hm).2 hji hj
      have hjz : j ≠ z := fun e => hjR (e ▸ hzR)
      have h1 := H.2 j (ready_mono hj hji)
      obtain ⟨hjun, oj, hoj, haft⟩ := mem_ready.1 hj
      have hnot : ∀ e ∈ oj.after, Region.binds md e = true → e.on ≠ i := fun e he hb heq => by
        have q1 := haft e he hb
        have q0 := (mem_ready.1 hr).1
        rw [heq] at q1
        rcases Nat.lt_or_ge i listed.size with h' | h'
        · simp [h'] at q0 q1; rw [q0] at q1; cases q1
        · simp [Array.getElem?_eq_none h'] at q1
      have h2 := wpOp_putIf hoj (hfree j oj hoj hji hjun hnot) (fun cs b => hsel i oi cs b hi) (fun cs b => hsel j oj cs b hoj) hQ hy h1
      have hfree' : ∀ k ok, ops[k]? = some ok → k ≠ i → (listed.setIfInBounds j true).getD k true = false → (∀ e ∈ ok.after, Region.binds md e = true → e.on ≠ i) → oi.apart ops ok = true := fun k ok hk hki hun hno => by
        refine hfree k ok hk hki ?_ hno
        by_cases hjk : j = k
        · subst hjk; exact hjun
        · rw [getD_set_ne true hjk] at hun; exact hun
      refine wpOp_mono (fun a' w' h3 => ⟨fun _ => h3.2.1 hjz, ih (listed.setIfInBounds j true) a' w' hfree' (ready_mono hr (Ne.symm hji)) (depsOk_set hd hjR) hiz h3.1 (h3.2.1 hjz) ?_⟩) h2
      rw [Array.setIfInBounds_comm _ _ hji]
      exact h3.2.2

theorem wpAnyZ_take {i : Nat} {oi : Oper} {v : Value} {fuel : Nat} {listed : Array Bool} {a : Act} {w : World} (hi : ops[i]? = some oi)
    (hs : Region.noSelect ops = true) (hf : Region.free md ops listed i = true) (hr : (Region.ready md ops listed).contains i = true) (hd : depsOk md ops listed i z (depsOf md ops i) = true) (hiz : (i == z) = false)
    (hQ : ∀ c a w, Q (.panic c) (a.put oi.dst v) w → Q (.panic c) a w) (hy : YieldsIf P ops S oi v a) (hS : S w)
    (h : wpAnyZ P md ops Q S z fuel (listed.setIfInBounds i true) (a.put oi.dst v) w) : wpAnyZ P md ops Q S z (fuel + 1) listed a w :=
  wpAnyZ_first hi (Region.noSelect_spec hs) hQ fuel listed a w (Region.free_spec hi hf) (by simpa using hr) hd (by simpa using hiz) hy hS h

/-- those that may come up -/
def AllReadyZ (P : Program) (md : Region.Mode) (ops : Array Oper) (Q : Exit → Act → World → Prop) (S : World → Prop) (z fuel : Nat) (listed : Array Bool) (a : Act) (w : World) (rs : List Nat) : Prop :=
  ∀ i ∈ rs, wpOp P ops Q i (fun a' w' => (i ≠ z → S w') ∧ wpAnyZ P md ops Q S z fuel (listed.setIfInBounds i true) a' w') a w

theorem AllReadyZ.nil {fuel : Nat} {listed : Array Bool} {a : Act} {w : World} : AllReadyZ P md ops Q S z fuel listed a w [] := fun _ h => by cases h

theorem AllReadyZ.cons {fuel : Nat} {listed : Array Bool} {a : Act} {w : World} {i : Nat} {o : Oper} {rs : List Nat} (ho : ops[i]? = some o)
    (h : ∀ K' : Act → World → Prop, (∀ a w, (i ≠ z → S w) → wpAnyZ P md ops Q S z fuel (listed.setIfInBounds i true) a w → K' a w) → if Region.wanted o (yielded ops a.tmps) = true then Oper.wp P o a w K' Q else K' (a.put o.dst undef) w)
    (hs : AllReadyZ P md ops Q S z fuel listed a w rs) : AllReadyZ P md ops Q S z fuel listed a w (i :: rs) := fun j hj => by
  rcases List.mem_cons.1 hj with rfl | hj
  · exact wpOp_step ho fun K' hK => h K' fun a w hs hz => hK a w ⟨hs, hz⟩
  · exact hs j hj

theorem wpAnyZ_ready {rs : List Nat} {fuel : Nat} {listed : Array Bool} {a : Act} {w : World} (hr : Region.ready md ops listed = rs) (hne : rs ≠ [])
    (h : AllReadyZ P md ops Q S z fuel listed a w rs) : wpAnyZ P md ops Q S z (fuel + 1) listed a w :=
  ⟨fun h0 => absurd (hr ▸ h0) hne, hr ▸ h⟩

theorem wpAnyZ_done {listed : Array Bool} {a : Act} {w : World} (hr : Region.ready md ops listed = []) (h : Q .normal a w) : ∀ fuel, wpAnyZ P md ops Q S z fuel listed a w
  | 0 => ⟨hr, h⟩
  | _ + 1 => ⟨fun _ => h, by rw [hr]; simp⟩

theorem wp_region_z (z : Nat) {id : Nat} {a : Act} {w : World} (hm : P.follows .mixedOrders = true)
    (h : wpAnyZ P .any ops Q S z ops.size (Array.replicate ops.size false) a w.drew) : (Code.region id ops true).wp P Q a w :=
  wp_region_any hm (wpAny_of_z _ _ _ _ h)

end
end Go.Proofs.YtlinnhaodkiolaaGreat
