/- firewallref07.New, the plain law: a region laid among others. -/
import Derived.Test.YtfhlnkgiiikbpaaRef2
namespace Go.Proofs.Ytfhlnkgiiikbpaa
open Go.RowKit

def apartR (a b : Reg) : Prop := a.base + a.len ≤ b.base ∨ b.base + b.len ≤ a.base
theorem apartR.symm {a b : Reg} (h : apartR a b) : apartR b a := h.elim .inr .inl

def ins (m : List Reg) (k : Nat) (r : Reg) : List Reg := m.take k ++ r :: m.drop k

theorem ins_wf {m : List Reg} {r : Reg} {k : Nat} (h : WF m) (hr : r.ok) (ha : ∀ x ∈ m, apartR x r) (hl : m.length ≤ 1000000) (h1 : ∀ j, j < k → ∀ x, m[j]? = some x → x.base < r.base) (h2 : ∀ x, m[k]? = some x → r.base ≤ x.base) : WF (ins m k r) where
  ok := fun x hx => by
    unfold ins at hx
    rcases List.mem_append.1 hx with hx | hx
    · exact h.ok x (List.mem_of_mem_take hx)
    · rcases List.mem_cons.1 hx with rfl | hx
      · exact hr
      · exact h.ok x (List.mem_of_mem_drop hx)
  apart := by
    have hp := len_pos hr
    have hm : m = m.take k ++ m.drop k := (List.take_append_drop k m).symm
    have hpw := h.apart
    rw [hm, List.pairwise_append] at hpw
    obtain ⟨p1, p2, p3⟩ := hpw
    have low : ∀ x ∈ m.take k, x.base + x.len ≤ r.base := fun x hx => by
      obtain ⟨j, hj, rfl⟩ := List.getElem_of_mem hx
      have hjk : j < k := by simp at hj; omega
      have hx2 : m[j]? = some (m.take k)[j] := by rw [List.getElem_take]; exact List.getElem?_eq_getElem _
      have := h1 j hjk _ hx2
      rcases ha _ (List.mem_of_mem_take hx) with h | h <;> omega
    have high : ∀ x ∈ m.drop k, r.base + r.len ≤ x.base := fun x hx => by
      have hge : r.base ≤ x.base := by
        obtain ⟨j, hj, rfl⟩ := List.getElem_of_mem hx
        have hk : k < m.length := by simp at hj; omega
        have h0 := h2 _ (List.getElem?_eq_getElem hk)
        rw [List.getElem_drop]
        rcases Nat.eq_zero_or_pos j with rfl | hj0
        · simpa using h0
        · have hj' : k + j < m.length := by simp at hj; omega
          have := List.pairwise_iff_getElem.1 h.apart k (k + j) hk hj' (by omega)
          have := len_pos (h.ok _ (List.getElem_mem hk))
          omega
      have := len_pos (h.ok x (List.mem_of_mem_drop hx))
      rcases ha _ (List.mem_of_mem_drop hx) with h | h <;> omega
    unfold ins
    rw [List.pairwise_append]
    refine ⟨p1, List.pairwise_cons.2 ⟨high, p2⟩, fun x hx y hy => ?_⟩
    rcases List.mem_cons.1 hy with rfl | hy
    · exact low x hx
    · exact p3 x hx y hy
  many := by simp [ins]; omega

theorem ins_perm {m rs : List Reg} {r : Reg} {i k : Nat} (h : m.Perm (rs.take i)) (hr : rs[i]? = some r) : (ins m k r).Perm (rs.take (i + 1)) := by
  rw [List.take_add_one, hr]
  have e : (ins m k r).Perm (r :: m) := by
    have := (List.perm_middle (a := r) (l₁ := m.take k) (l₂ := m.drop k))
    rw [List.take_append_drop] at this
    exact this
  exact e.trans ((List.Perm.cons r h).trans (List.perm_append_singleton r _).symm)

theorem no_memory {rs : List Reg} {r x : Reg} {i : Nat} (hr : rs[i]? = some r) (hx : x ∈ rs.take i) (hn : ¬ apartR x r) : ¬ ∃ m, m.Perm rs ∧ WF m := by
  rintro ⟨m, hp, hw⟩
  have h1 : m.Pairwise apartR := hw.apart.imp (fun h => .inl h)
  have h2 := (hp.pairwise_iff (fun h => apartR.symm h)).1 h1
  obtain ⟨hi, he⟩ := List.getElem?_eq_some_iff.1 hr
  have hs : rs = rs.take i ++ r :: rs.drop (i + 1) := by
    rw [← he, List.getElem_cons_drop, List.take_append_drop]
  rw [hs, List.pairwise_append] at h2
  exact hn (h2.2.2 x hx r (by simp))

theorem ins_flat (m : List Reg) (k : Nat) (r : Reg) : aflat (ins m k r) = aflat (m.take k) ++ (r.cells ++ aflat (m.drop k)) := by
  simp [ins, aflat]

theorem aflat_take (m : List Reg) (j : Nat) : aflat (m.take j) = (aflat m).take (j * 3) := by
  induction m generalizing j with
  | nil => simp [aflat]
  | cons x m ih =>
    cases j with
    | zero => simp [aflat]
    | succ j =>
      have := ih j
      simp only [aflat] at this
      simp only [aflat, List.take_succ_cons, List.flatMap_cons, this]
      rw [show (j + 1) * 3 = x.cells.length + j * 3 by simp [Reg.cells]; omega, List.take_length_add_append]

theorem aflat_drop (m : List Reg) (j : Nat) : aflat (m.drop j) = (aflat m).drop (j * 3) := by
  induction m generalizing j with
  | nil => simp [aflat]
  | cons x m ih =>
    cases j with
    | zero => simp [aflat]
    | succ j =>
      have := ih j
      simp only [aflat] at this
      simp only [aflat, List.drop_succ_cons, List.flatMap_cons, this]
      rw [show (j + 1) * 3 = x.cells.length + j * 3 by simp [Reg.cells]; omega, List.drop_length_add_append]

theorem good_ok {r : Reg} (h : r.good = true) (ht : r.typed) : r.ok := by
  have := (Reg.good_iff r).1 h
  refine ⟨ht.low, ?_, this.2, ht.small⟩
  exact List.length_pos_iff.2 this.1

end Go.Proofs.Ytfhlnkgiiikbpaa
