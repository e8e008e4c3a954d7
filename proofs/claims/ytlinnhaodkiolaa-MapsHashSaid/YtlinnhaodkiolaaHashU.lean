/- The addresses that firewalllaw08.MapsHash gathers. No condition. -/
import Derived.Test.YtlinnhaodkiolaaHashV
namespace Go.Proofs.Ytlinnhaodkiolaa
open Go.RowKit

theorem Try.info_u64s : (Try.prog.info? 30).map (fun i => (i.zero, i.size, i.bytes)) = some (some (.int .u64 0), 1, 8) := by kernel_rfl

def addrs (Ls : List Int) : List Value := Ls.map (Value.int .u64)

/-- the addresses of the keys below c -/
structure HadI (w0 : World) (S : List Tab) (K : List Nat) (c : Nat) (hv : Value) (Ls : List Int) (wx : World) : Prop where
  g : Gath w0 30 1 Ls.length (addrs Ls) hv wx
  few : Ls.length ≤ c
  each : ∀ x ∈ Ls, ∃ d, d < c ∧ d ∈ K ∧ x = mlookup S 1 (leBytes 2 d)

section
variable {w0 wx w' : World} {S : List Tab} {K : List Nat} {c : Nat} {hv : Value} {Ls : List Int}

theorem HadI.start (w0 : World) (S : List Tab) (K : List Nat) : HadI w0 S K 0 (.slice none 0 0) [] w0 := ⟨Gath.start w0 _ _, Nat.le_refl _, fun x hx => by cases hx⟩
theorem HadI.to (h : HadI w0 S K c hv Ls wx) (hf : Fr No wx w') : HadI w0 S K c hv Ls w' := ⟨h.g.to hf, h.few, h.each⟩

theorem gath_shape {t : TypeId} {size n nh hc : Nat} {xs : List Value} {ha : Option Addr} (h : Gath w0 t size n xs (.slice ha nh hc) wx) : nh = n ∧ (0 < n → ∃ g, ha = some ⟨g, 0, none⟩ ∧ CellsAt wx g 0 xs) := by
  rcases h.cells with ⟨h0, _, a, c, he⟩ | ⟨g, cap, he, hc, _⟩
  · injection he with e1 e2 e3
    exact ⟨by omega, fun h => by omega⟩
  · injection he with e1 e2 e3
    exact ⟨e2, fun _ => ⟨g, e1, hc⟩⟩

theorem gath_form {t : TypeId} {size n : Nat} {xs : List Value} {v : Value} (h : Gath w0 t size n xs v wx) : ∃ ha hc, v = .slice ha n hc := by
  rcases h.cells with ⟨h0, _, a, c, he⟩ | ⟨g, cap, he, hc, _⟩
  · exact ⟨a, c, by rw [he, h0]⟩
  · exact ⟨_, cap, he⟩

theorem acell {g : Nat} (h : CellsAt wx g 0 (addrs Ls)) {j : Nat} {x : Int} (hj : Ls[j]? = some x) : wx.cell? ⟨g, j, none⟩ = some (.int .u64 x) := by
  have := h j (.int .u64 x) (by unfold addrs; rw [List.getElem?_map, hj]; rfl)
  rwa [Nat.zero_add] at this

/-- what the loop over the keys has come to at the key j: has the key c been met, and is its address gathered -/
def JI (w0 : World) (K : List Nat) (c : Nat) (Ls : List Int) (a : Int) (j : Nat) (t : Bool) (hv : Value) (wx : World) : Prop :=
  (t = true ↔ ∃ i, i < j ∧ K[i]? = some c) ∧ Gath w0 30 1 (Ls.length + if t then 1 else 0) (addrs (Ls ++ if t then [a] else [])) hv wx

theorem JI.start {a : Int} (h : HadI w0 S K c hv Ls wx) : JI w0 K c Ls a 0 false hv wx := by
  refine ⟨Iff.intro (fun h => by cases h) (fun ⟨i, hi, _⟩ => absurd hi (Nat.not_lt_zero i)), ?_⟩
  have := h.g
  simpa using this

theorem JI.to {a : Int} {j : Nat} {t : Bool} (h : JI w0 K c Ls a j t hv wx) (hf : Fr No wx w') : JI w0 K c Ls a j t hv w' := ⟨h.1, h.2.to hf⟩

theorem JI.pass {a : Int} {j : Nat} {t : Bool} (h : JI w0 K c Ls a j t hv wx) (hj : K[j]? ≠ some c) : JI w0 K c Ls a (j + 1) t hv wx := by
  refine ⟨h.1.trans (Iff.intro (fun ⟨i, hi, he⟩ => ⟨i, by omega, he⟩) (fun ⟨i, hi, he⟩ => ⟨i, ?_, he⟩)), h.2⟩
  have : i ≠ j := fun e => hj (e ▸ he)
  omega

theorem JI.fresh {a : Int} {j : Nat} {t : Bool} (h : JI w0 K c Ls a j t hv wx) (hn : K.Nodup) (hj : K[j]? = some c) : t = false ∧ Gath w0 30 1 Ls.length (addrs Ls) hv wx := by
  have ht : t = false := by
    cases t with
    | false => rfl
    | true =>
      obtain ⟨i, hi, he⟩ := h.1.1 rfl
      obtain ⟨a1, b1⟩ := List.getElem?_eq_some_iff.1 hj
      obtain ⟨a2, b2⟩ := List.getElem?_eq_some_iff.1 he
      have := (List.getElem_inj (i := i) (j := j) (h₀ := a2) (h₁ := a1) hn).1 (by rw [b1, b2])
      omega
  subst ht
  have := h.2
  exact ⟨rfl, by simpa using this⟩

theorem JI.hit {a : Int} {j : Nat} (hj : K[j]? = some c) (hg : Gath w0 30 1 (Ls.length + 1) (addrs Ls ++ [.int .u64 a]) hv wx) : JI w0 K c Ls a (j + 1) true hv wx := by
  refine ⟨⟨fun _ => ⟨j, by omega, hj⟩, fun _ => rfl⟩, ?_⟩
  have e : addrs (Ls ++ [a]) = addrs Ls ++ [.int .u64 a] := by simp [addrs]
  simp only [if_true, e]
  exact hg

/-- behind all keys -/
theorem JI.ends {j : Nat} {t : Bool} (h : JI w0 K c Ls (mlookup S 1 (leBytes 2 c)) j t hv wx) (hj : K.length ≤ j) (hh : Ls.length ≤ c) (he : ∀ x ∈ Ls, ∃ d, d < c ∧ d ∈ K ∧ x = mlookup S 1 (leBytes 2 d)) :
    (t = true ↔ c ∈ K) ∧ ∃ Ls', HadI w0 S K (c + 1) hv Ls' wx := by
  have ht : t = true ↔ c ∈ K := by
    rw [h.1]
    constructor
    · rintro ⟨i, _, hi⟩; exact List.mem_of_getElem? hi
    · intro hm
      obtain ⟨i, hi⟩ := List.mem_iff_getElem?.1 hm
      have := (List.getElem?_eq_some_iff.1 hi).1
      exact ⟨i, by omega, hi⟩
  refine ⟨ht, Ls ++ (if t then [mlookup S 1 (leBytes 2 c)] else []), ?_, ?_, ?_⟩
  · have := h.2
    cases t <;> simpa using this
  · cases t <;> simp <;> omega
  · intro x hx
    rcases List.mem_append.1 hx with hx | hx
    · obtain ⟨d, h1, h2, h3⟩ := he x hx
      exact ⟨d, by omega, h2, h3⟩
    · cases t with
      | false => simp at hx
      | true =>
        simp at hx
        exact ⟨c, by omega, ht.1 rfl, hx⟩

/-- an address more -/
theorem list_had {ops : Array Oper} {rest : List Oper} {o : Oper} {b : Act} {Q : Exit → Act → World → Prop} {Ls : List Int}
    (hgd : o.guard = none) (s x : Operand) (ho : o.op = .call { callee := .builtin .append, args := #[s, x], argTypes := #[34, 34] }) (a : Int)
    (h : Hid (Gath w0 30 1 Ls.length (addrs Ls) hv wx)) (hs : b.eval s = hv)
    (hx : b.eval x = .slice (some ⟨wx.heap.size, 0, none⟩) 1 1) (hn : Ls.length + 1 ≤ 4294967296)
    (hk : ∀ v' w', Hid (Gath w0 30 1 (Ls.length + 1) (addrs Ls ++ [.int .u64 a]) v' w') → wpList Try.prog ops Q rest (b.put o.dst v') w') : wpList Try.prog ops Q (o :: rest) b (wx.alloc (.cells #[.int .u64 a] 30)) := by
  obtain ⟨i0, hi, hz0, hz1, hz2⟩ := info_parts Try.info_u64s
  have h2 := h.out.to ((Fr.refl No wx).alloc (.cells #[.int .u64 a] 30))
  refine wpList_append_src hgd s x 34 ho w0.heap.size 30 i0 _ 1 8 Try.underlying34 hi hz0 hz1 hz2 rfl (by decide) hv Ls.length (addrs Ls) hs h2.own _ 1 [.int .u64 a] hx (src_new wx [.int .u64 a] _) rfl (by simp [Value.oneCell']) (by unfold maxLen; omega) (by omega) h2.fr.size ?_
  intro v' w' ho2 hf2
  exact hk v' w' (h2.step ho2 hf2)

end

end Go.Proofs.Ytlinnhaodkiolaa
