/- firewalllaw08.Same: are two lists of entries the same. -/
import Derived.Test.YtlinnhaodkiolaaMapS2
namespace Go.Proofs.Ytlinnhaodkiolaa
open Go.RowKit

theorem neq_entry (s1 s2 t1 t2 : ByteArray) (w : World) : (binOp .neq 72 (.agg #[.string s1, .string t1]) (.agg #[.string s2, .string t2])).run Try.prog w = .ok (.bool (!(s1.toList == s2.toList && t1.toList == t2.toList))) w := by
  have u9 := Try.underlying9
  have a9 := Try.isAgg9
  have z9 := Try.sizeOf9
  have hS : Try.prog.underlying 72 = some (.struct (Try.prog.fieldsOf 72)) := by kernel_rfl
  have hp : Try.prog.stoodInHeld 72 = false := by kernel_rfl
  rw [run_neq_struct, show (10000 : Nat) = 9999 + 1 from rfl, run_equalIn_agg w 9999 _ _ _ hS hp]
  simp only [Program.fieldsOf, Try.underlying72]
  go_simp
  by_cases h2 : s1.toList = s2.toList <;> by_cases h3 : t1.toList = t2.toList <;> simp [h2, h3]

theorem guard_entry (xs ys : Array Value) (op : BinOp) (x y : Operand) (w : World) : (eqGuard op 72 x y (.agg xs) (.agg ys)).run Try.prog w = .ok () w := run_eqGuard_agg w op _ x y xs ys (by kernel_rfl)

theorem ent_cell {w : World} {g off : Nat} {l : List (List UInt8 × List UInt8)} (h : CellsAt w g off (eflat (l.map bpair))) {k : Nat} {x : List UInt8 × List UInt8} (hr : l[k]? = some x) :
    w.cell? ⟨g, off + k * 2, none⟩ = some (.string ⟨x.1.toArray⟩) ∧ w.cell? ⟨g, off + k * 2 + 1, none⟩ = some (.string ⟨x.2.toArray⟩) := by
  have key : ∀ (l : List (List UInt8 × List UInt8)) (k : Nat) x, l[k]? = some x → (eflat (l.map bpair))[k * 2]? = some (.string ⟨x.1.toArray⟩) ∧ (eflat (l.map bpair))[k * 2 + 1]? = some (.string ⟨x.2.toArray⟩) := by
    intro l
    induction l with
    | nil => intro k x hx; simp at hx
    | cons y l ih =>
      intro k x hx
      cases k with
      | zero =>
        simp at hx
        subst hx
        simp [eflat, bpair]
      | succ k =>
        have := ih k x (by simpa using hx)
        rw [show (k + 1) * 2 = k * 2 + 1 + 1 by omega]
        simpa [eflat] using this
  obtain ⟨a, b⟩ := key l k x hr
  exact ⟨h _ _ a, h _ _ b⟩

set_option maxRecDepth 100000 in
set_option maxHeartbeats 1000000 in
theorem esame_walk (g1 o1 c1 g2 o2 c2 n : Nat) (l1 l2 : List (List UInt8 × List UInt8)) (w : World) (h1 : l1.length = n) (h2 : l2.length = n) (hc1 : CellsAt w g1 o1 (eflat (l1.map bpair))) (hc2 : CellsAt w g2 o2 (eflat (l2.map bpair))) (hn : 1 ≤ n) (hm : n ≤ 4294967296) :
    Calls Try.prog 23 #[.slice (some ⟨g1, o1, none⟩) n c1, .slice (some ⟨g2, o2, none⟩) n c2] w fun e w' => (∃ r : Bool, e = .returned (.bool r) ∧ (r = true ↔ l1 = l2)) ∧ Fr No w w' := by
  have HC1 := Lib.hid hc1
  have HC2 := Lib.hid hc2
  have HL1 := Lib.hid h1
  have HL2 := Lib.hid h2
  have hb1 : g1 < w.heap.size := World.block_lt_of_cell? w _ (ent_cell hc1 (k := 0) (List.getElem?_eq_getElem (by omega))).1
  have hb2 : g2 < w.heap.size := World.block_lt_of_cell? w _ (ent_cell hc2 (k := 0) (List.getElem?_eq_getElem (by omega))).1
  clear hc1 hc2 h1 h2
  go_enter Try.func23, Try.ntmps23
  go_wp2_with fail
  go_loopw [5] (fun i wr => ∃ (k : Nat), k ≤ n ∧ i = .int .i64 k ∧ Hid (l1.take k = l2.take k) ∧ Hid (Fr No w wr)) (fun i _ => n - (intOf i).toNat)
  case atStart => exact ⟨0, Nat.zero_le _, rfl, Lib.hid (by simp), Fr.refl _ _⟩
  case round =>
    obtain ⟨k, hk, rfl, HI, HF⟩ := hrel
    by_cases hlt : k < n
    · obtain ⟨x, hx⟩ : ∃ x, l1[k]? = some x := ⟨l1[k]'(by rw [HL1.out]; exact hlt), List.getElem?_eq_getElem _⟩
      obtain ⟨y, hy⟩ : ∃ y, l2[k]? = some y := ⟨l2[k]'(by rw [HL2.out]; exact hlt), List.getElem?_eq_getElem _⟩
      obtain ⟨k0, k1⟩ := ent_cell (HF.out.cells HC1.out id) hx
      obtain ⟨m0, m1⟩ := ent_cell (HF.out.cells HC2.out id) hy
      obtain ⟨r, q1, hr⟩ : ∃ r : Bool, (∀ w, (binOp .neq 72 (.agg #[.string ⟨x.1.toArray⟩, .string ⟨x.2.toArray⟩]) (.agg #[.string ⟨y.1.toArray⟩, .string ⟨y.2.toArray⟩])).run Try.prog w = .ok (.bool r) w) ∧ (r = false ↔ x = y) := by
        refine ⟨_, neq_entry _ _ _ _, ?_⟩
        rw [Lib.toList_data, Lib.toList_data, Lib.toList_data, Lib.toList_data]
        cases x; cases y; simp
      have HS : Hid ((x = y → l1.take (k + 1) = l2.take (k + 1)) ∧ (x ≠ y → l1 ≠ l2)) := by
        refine ⟨fun e => ?_, fun e h => e ?_⟩
        · rw [List.take_add_one, List.take_add_one, HI.out, hx, hy, e]
        · rw [h, hy] at hx; exact (Option.some.inj hx).symm
      have HR := Lib.hid hr
      generalize (⟨x.1.toArray⟩ : ByteArray) = s1 at *
      generalize (⟨y.1.toArray⟩ : ByteArray) = s2 at *
      generalize (⟨x.2.toArray⟩ : ByteArray) = s3 at *
      generalize (⟨y.2.toArray⟩ : ByteArray) = s4 at *
      have hz := HF.out.size
      have hb1' : g1 < wr.heap.size := by omega
      have hb2' : g2 < wr.heap.size := by omega
      clear hx hy hr hz hb1 hb2
      have q2 := guard_entry
      go_wp2_with fail
      go_quiet (fail)
      cases r with
      | false =>
        go_wp2_with fail
        go_roundw
        case rel => exact ⟨k + 1, by omega, by go_num, Lib.hid (HS.out.1 (HR.out.1 rfl)), HF.out.drewN _⟩
        case measure => simp [intOf] <;> omega
      | true =>
        go_wp2_with fail
        go_ret
        exact ⟨⟨_, rfl, ⟨fun e => (Bool.noConfusion e), fun e => absurd e (HS.out.2 fun e2 => Bool.noConfusion (HR.out.2 e2))⟩⟩, HF.out.drewN _⟩
    · obtain rfl : k = n := by omega
      go_wp2_with fail
      go_ret
      exact ⟨⟨_, rfl, ⟨fun _ => by
        have := HI.out
        rwa [List.take_of_length_le (by rw [HL1.out]; exact Nat.le_refl _), List.take_of_length_le (by rw [HL2.out]; exact Nat.le_refl _)] at this, fun _ => rfl⟩⟩, HF.out⟩

set_option maxHeartbeats 400000 in
theorem esame_unlike (a1 a2 : Option Addr) (c1 c2 n1 n2 : Nat) (w : World) (h : n1 ≠ n2) :
    Calls Try.prog 23 #[.slice a1 n1 c1, .slice a2 n2 c2] w fun e w' => e = .returned (.bool false) ∧ w = w' := by
  have h' : ((n1 : Int) == (n2 : Int)) = false := by rw [beq_eq_false_iff_ne]; omega
  go_enter Try.func23, Try.ntmps23
  go_wp2_with fail
  go_ret
  exact ⟨rfl, rfl⟩

set_option maxHeartbeats 400000 in
theorem esame_zero (a1 a2 : Option Addr) (c1 c2 : Nat) (w : World) :
    Calls Try.prog 23 #[.slice a1 0 c1, .slice a2 0 c2] w fun e w' => e = .returned (.bool true) ∧ w = w' := by
  go_enter Try.func23, Try.ntmps23
  go_wp2_with fail
  refine wp_loop_rounds 1 ?_
  rw [rounds_succ]
  go_wp2_with fail
  go_ret
  exact ⟨rfl, rfl⟩

theorem esame_any (v1 v2 : Value) (l1 l2 : List (List UInt8 × List UInt8)) (w : World) (h1 : EntsAt w v1 l1) (h2 : EntsAt w v2 l2) (hm : l1.length ≤ 4294967296) :
    Calls Try.prog 23 #[v1, v2] w fun e w' => (∃ r : Bool, e = .returned (.bool r) ∧ (r = true ↔ l1 = l2)) ∧ Fr No w w' := by
  by_cases hl : l1.length = l2.length
  · rcases Nat.eq_zero_or_pos l1.length with h0 | h0
    · have e1 := List.eq_nil_of_length_eq_zero h0
      have e2 := List.eq_nil_of_length_eq_zero (hl ▸ h0)
      subst e1 e2
      obtain ⟨a1, c1, rfl⟩ : ∃ a c, v1 = .slice a 0 c := by
        rcases h1 with ⟨_, h⟩ | ⟨g, off, cap, rfl, _⟩
        · exact h
        · exact ⟨_, _, rfl⟩
      obtain ⟨a2, c2, rfl⟩ : ∃ a c, v2 = .slice a 0 c := by
        rcases h2 with ⟨_, h⟩ | ⟨g, off, cap, rfl, _⟩
        · exact h
        · exact ⟨_, _, rfl⟩
      exact (esame_zero a1 a2 c1 c2 w).mono fun e w' ⟨he, hw⟩ => ⟨⟨true, he, by simp⟩, hw ▸ Fr.refl _ _⟩
    · rcases h1 with ⟨rfl, _⟩ | ⟨g1, o1, c1, rfl, hc1⟩
      · simp at h0
      rcases h2 with ⟨rfl, _⟩ | ⟨g2, o2, c2, rfl, hc2⟩
      · rw [hl] at h0; simp at h0
      rw [← hl]
      exact esame_walk g1 o1 c1 g2 o2 c2 l1.length l1 l2 w rfl hl.symm hc1 hc2 h0 hm
  · have form : ∀ v l, EntsAt w v l → ∃ a c, v = .slice a l.length c := fun v l h => by
      rcases h with ⟨rfl, a, c, rfl⟩ | ⟨g, off, cap, rfl, _⟩
      · exact ⟨a, c, rfl⟩
      · exact ⟨_, _, rfl⟩
    obtain ⟨a1, c1, rfl⟩ := form v1 l1 h1
    obtain ⟨a2, c2, rfl⟩ := form v2 l2 h2
    exact (esame_unlike a1 a2 c1 c2 _ _ w hl).mono fun e w' ⟨he, hw⟩ => ⟨⟨false, he, by simp; intro e; exact hl (by rw [e])⟩, hw ▸ Fr.refl _ _⟩

end Go.Proofs.Ytlinnhaodkiolaa
