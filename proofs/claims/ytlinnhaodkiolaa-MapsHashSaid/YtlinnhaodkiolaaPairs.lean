/- A slice of pairs of bytes, opened. -/
import Derived.Test.YtlinnhaodkiolaaRows0
namespace Go.Proofs.Ytlinnhaodkiolaa
open Go.ChangeShapes Go.WideShapes Go.ChangeAt Go.RowKit Go.Deep

def pcells (x : UInt8 × UInt8) : List Value := [.int .u8 (x.1.toNat : Int), .int .u8 (x.2.toNat : Int)]
def pflat (l : List (UInt8 × UInt8)) : List Value := l.flatMap pcells

theorem Try.cells_pair : Try.prog.cellsOf 31 = 2 := by kernel_rfl
theorem Try.cells_pbyte : Try.prog.cellsOf 5 = 1 := by kernel_rfl

theorem byte_of {n : Int} (h0 : 0 ≤ n) (h1 : n < 256) : ∃ b : UInt8, n = (b.toNat : Int) := ⟨UInt8.ofNat n.toNat, by simp; omega⟩

set_option maxRecDepth 100000 in
theorem open_pairs {H : Type} {enc : TypeId × Value → H} {base : Nat} {spare : Nat → Bool} {held : Bool} {w : World} {v : Value} {d : DataW H} {p : List MemPlace}
    (hv1 : v.cells.toList = [v]) (h : DataW.Trod enc Try.prog w base spare held 22 v d p) :
    ∃ l : List (UInt8 × UInt8), CellsIn w v l.length (pflat l) := by
  obtain ⟨fuel, hf⟩ := h
  rw [hv1] at hf
  rcases open_slice Try.underlying22 hf with ⟨h0, _⟩ | ⟨a, len, cap, m, n, D, Pl, h0, hb, hl, hm, hmm, hx, hi⟩
  · simp at h0
    subst h0
    exact ⟨[], .inl ⟨rfl, _, _, rfl⟩⟩
  · simp at h0
    subst h0
    have hlm : len ≤ m := by rw [hmm]; split <;> omega
    obtain ⟨l, h1, _, h3⟩ := rows_open (w := w) (a := a) 2 pcells (fun _ => True) (fun x => rfl) len (fun i hil => by
      obtain ⟨cs', hc, ht⟩ := hi i (by omega)
      rw [Try.cells_pair] at hc
      obtain ⟨_, hcl, hat⟩ := World.cells?_some hc
      obtain ⟨c0, c1, rfl⟩ : ∃ a b, cs' = [a, b] := by
        match cs', hcl with
        | [a, b], _ => exact ⟨a, b, rfl⟩
      obtain ⟨xs, m', _, hx', hl', hn', hall⟩ := DataW.trod_array Try.underlying31 ht
      have h0 := hall 0 (by decide)
      have h1 := hall 1 (by decide)
      rw [Try.cells_pbyte] at h0 h1
      simp only [Nat.zero_mul, Nat.one_mul, Nat.mul_one, List.drop_zero, List.take_succ_cons, List.take_zero, List.drop_succ_cons] at h0 h1
      have hn4 : xs.length = 2 := hn'
      have e0 : xs[0]? = some xs[0] := List.getElem?_eq_getElem (by omega)
      have e1 : xs[1]? = some xs[1] := List.getElem?_eq_getElem (by omega)
      rw [e0] at h0
      rw [e1] at h1
      obtain ⟨x0, ea, _, wa⟩ := DataW.trod_int Try.underlying5 h0
      obtain ⟨x1, eb, _, wb⟩ := DataW.trod_int Try.underlying5 h1
      have ba := bounds_u8 wa
      have bb := bounds_u8 wb
      simp at ea eb
      subst ea eb
      obtain ⟨y0, rfl⟩ := byte_of (n := x0) (by omega) (by omega)
      obtain ⟨y1, rfl⟩ := byte_of (n := x1) (by omega) (by omega)
      refine ⟨(y0, y1), trivial, fun c u hcu => ?_⟩
      have hcc := hat c (by have := (List.getElem?_eq_some_iff.1 hcu).1; simpa [pcells] using this)
      rw [Deep.add_add] at hcc
      rw [hcc, ← hcu]
      rfl)
    refine ⟨l, ?_⟩
    rw [← h1]
    exact cellsIn_of (size := 2) (cells := pcells) (fun _ => rfl) (by decide) h3

theorem pair_cells {w : World} {g off : Nat} {l : List (UInt8 × UInt8)} (h : CellsAt w g off (pflat l)) {k : Nat} {x : UInt8 × UInt8} (hr : l[k]? = some x) :
    w.cell? ⟨g, off + k * 2, none⟩ = some (.int .u8 (x.1.toNat : Int)) ∧ w.cell? ⟨g, off + k * 2 + 1, none⟩ = some (.int .u8 (x.2.toNat : Int)) := by
  have key : ∀ (l : List (UInt8 × UInt8)) (k : Nat) x, l[k]? = some x → (pflat l)[k * 2]? = some (.int .u8 (x.1.toNat : Int)) ∧ (pflat l)[k * 2 + 1]? = some (.int .u8 (x.2.toNat : Int)) := by
    intro l
    induction l with
    | nil => intro k x hx; simp at hx
    | cons y l ih =>
      intro k x hx
      cases k with
      | zero =>
        simp at hx
        subst hx
        simp [pflat, pcells]
      | succ k =>
        have := ih k x (by simpa using hx)
        rw [show (k + 1) * 2 = k * 2 + 1 + 1 by omega]
        simpa [pflat, pcells] using this
  obtain ⟨a, b⟩ := key l k x hr
  exact ⟨h _ _ a, h _ _ b⟩

end Go.Proofs.Ytlinnhaodkiolaa
