/- firewalllaw07.laid: the chapter's regions. -/
import Derived.Test.YtlinnhaodkiolaaNew4
namespace Go.Proofs.Ytlinnhaodkiolaa
open Go.RowKit

/-- regions laid in a block of their own -/
theorem RegsAt.new (w : World) (rs : List Reg) (cap : Nat) (h : ∀ r ∈ rs, r.typed) : RegsAt (w.alloc (.cells (aflat rs).toArray 88)) (.slice (some ⟨w.heap.size, 0, none⟩) rs.length cap) rs :=
  ⟨h, .inr ⟨_, _, _, rfl, CellsAt.new _ _ _⟩⟩

/-- New's answer where the memory is known -/
theorem new_is {rs m : List Reg} {v : Value} {w : World} (h : RegsAt w v rs) (h12 : rs.length ≤ 12) (hp : m.Perm rs) (hm : WF m) :
    Calls Try.prog 17 #[v] w fun e w' => ∃ b, e = .returned (.tuple #[.pointer (some ⟨b, 0, none⟩), .int .i64 0]) ∧ Fr No w w' ∧ MemAt w' b m (Made w w') := by
  refine (new_any rs v w h h12).mono ?_
  rintro e w' ⟨hf, ⟨m', b, hp', hm', rfl, hmem⟩ | ⟨hno, _⟩⟩
  · obtain rfl := hm.unique hm' (hp'.trans hp.symm)
    exact ⟨b, rfl, hf, hmem⟩
  · exact absurd ⟨m, hp, hm⟩ hno

theorem new_not {rs : List Reg} {v : Value} {w : World} (h : RegsAt w v rs) (h12 : rs.length ≤ 12) (hno : ¬ ∃ m, m.Perm rs ∧ WF m) :
    Calls Try.prog 17 #[v] w fun e w' => e = .returned (.tuple #[.pointer none, .int .i64 2]) ∧ Fr No w w' := by
  refine (new_any rs v w h h12).mono ?_
  rintro e w' ⟨hf, ⟨m', b, hp', hm', _⟩ | ⟨_, rfl⟩⟩
  · exact absurd ⟨m', hp', hm'⟩ hno
  · exact ⟨rfl, hf⟩

theorem text_is {S : Nat → Prop} {w : World} {b : Nat} {m : List Reg} (h : MemAt w b m S) (addr n : Int) (v : List UInt8) (err : Int) (ha : 0 ≤ addr) (h64 : addr ≤ 18446744073709551615) (h63 : n ≤ 9223372036854775807) (he : mtext m addr n = (v, err)) :
    Calls Try.prog 13 #[.pointer (some ⟨b, 0, none⟩), .int .u64 addr, .int .i64 n] w fun e w' => e = .returned (.tuple #[.string ⟨v.toArray⟩, .int .i64 err]) ∧ MemAt w' b m S ∧ Fr No w w' :=
  (text_any h addr n ha h64 h63).mono fun e w' ⟨h1, h2⟩ => ⟨by rw [h1, he], h.fr h2 (fun _ _ => id), h2⟩

theorem write_is {S : Nat → Prop} {w : World} {b : Nat} {m : List Reg} (h : MemAt w b m S) (addr n : Int) (v : Nat) (m' : List Reg) (err : Int) (ha : 0 ≤ addr) (h64 : addr ≤ 18446744073709551615) (hv : v < 2 ^ 64) (he : mwrite m addr n v = (m', err)) :
    Calls Try.prog 26 #[.pointer (some ⟨b, 0, none⟩), .int .u64 addr, .int .i64 n, .int .u64 v] w fun e w' => e = .returned (.int .i64 err) ∧ MemAt w' b m' S ∧ Fr S w w' :=
  (write_any h addr n v ha h64 hv).mono fun e w' ⟨h1, h2, h3⟩ => ⟨by rw [h1, he], by rw [he] at h3; exact h3, h2⟩

def laidIn : List Reg := [⟨18, [3], false⟩, ⟨16, [1, 2], true⟩]
def laidM : List Reg := [⟨16, [1, 2], true⟩, ⟨18, [3], false⟩]
def laidM2 : List Reg := [⟨16, [1, 5], true⟩, ⟨18, [3], false⟩]
theorem laidM_wf : WF laidM := ⟨by
  intro r hr
  simp [laidM] at hr
  rcases hr with rfl | rfl <;> exact ⟨by decide, by decide, by simp [Reg.len], by decide⟩, by simp [laidM, Reg.len], by decide⟩
theorem laid_over : ¬ ∃ m, m.Perm [(⟨16, [97], false⟩ : Reg), ⟨16, [98], false⟩] ∧ WF m := by
  rintro ⟨m, hp, hm⟩
  have := base_inj hm (hp.mem_iff.2 (List.mem_cons_self)) (hp.mem_iff.2 (List.mem_cons_of_mem _ (List.mem_cons_self))) rfl
  cases this

end Go.Proofs.Ytlinnhaodkiolaa
