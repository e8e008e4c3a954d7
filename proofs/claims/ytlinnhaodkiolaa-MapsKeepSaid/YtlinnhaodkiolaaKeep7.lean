/- What firewalllaw08.MapsKeep does to a hash, in plain numbers. -/
import Derived.Test.YtlinnhaodkiolaaHashed
namespace Go.Proofs.Ytlinnhaodkiolaa
open Go.RowKit

instance : DecidableEq MapD := fun a b => decidable_of_iff (a.kind = b.kind ∧ a.key = b.key ∧ a.value = b.value ∧ a.max = b.max) (by cases a; cases b; simp)
instance : DecidableEq Tab := fun a b => decidable_of_iff (a.d = b.d ∧ a.ks = b.ks) (by cases a; cases b; simp)
instance : DecidableEq Reg := fun a b => decidable_of_iff (a.base = b.base ∧ a.data = b.data ∧ a.free = b.free) (by cases a; cases b; simp)

def keepKs (n i : Nat) : List (List UInt8) := (List.range i).map (leBytes 2) ++ List.replicate (n - i) []
def keepS (n i : Nat) : List Tab := [⟨⟨1, 4, 1, 3⟩, arrKeys 3⟩, ⟨⟨2, 2, 3, n⟩, keepKs n i⟩]
def keepD (n i : Nat) : List UInt8 := ((List.range i).flatMap fun j => [97, 98, UInt8.ofNat j]) ++ List.replicate (3 * (n - i)) 0
def keepM (n i : Nat) : List Reg := [⟨1048576, [0, 0, 0], true⟩, ⟨1114112, keepD n i, true⟩]
/-- behind the key k's going, and behind the new one's coming -/
def keepX (n k : Nat) : List Tab := (mdelete (keepS n n) 1 (leBytes 2 k)).1
def keepY (n k : Nat) : (List Tab × List Reg) × Int := mupdate (keepX n k) (keepM n n) 1 [122, 122] [110, 101, 119]

theorem keep_new : ∀ n, n < 17 → (hashL n).map Tab.new = keepS n 0 ∧ mregs (hashL n) = keepM n 0 := by decide +kernel
theorem keep_step : ∀ n, n < 17 → ∀ i, i < n → mupdate (keepS n i) (keepM n i) 1 (leBytes 2 i) [97, 98, UInt8.ofNat i] = ((keepS n (i + 1), keepM n (i + 1)), 0) := by decide +kernel
theorem keep_look : ∀ n, n < 17 → ∀ k, k < n → mlookup (keepS n n) 1 (leBytes 2 k) = 1114112 + 3 * (k : Int) := by decide +kernel
theorem keep_del : ∀ n, n < 17 → ∀ k, k < n → (mdelete (keepS n n) 1 (leBytes 2 k)).2 = 0 := by decide +kernel
theorem keep_gone : ∀ n, n < 17 → ∀ k, k < n → mlookup (keepX n k) 1 (leBytes 2 k) = 0 ∧ mlookup (keepX n k) 1 [122, 122] = 0 := by decide +kernel
theorem keep_text : ∀ n, n < 17 → ∀ k, k < n → mtext (keepM n n) (1114112 + 3 * (k : Int)) 3 = ([97, 98, UInt8.ofNat k], 0) := by decide +kernel
theorem keep_zz : ∀ n, n < 17 → ∀ k, k < n → (keepY n k).2 = 0 ∧ mlookup (keepY n k).1.1 1 [122, 122] = 1114112 + 3 * (k : Int) := by decide +kernel
theorem keep_ents : ∀ n, n < 17 → ∀ k, k < n → (mentries (keepX n k) (keepM n n) 1).length = n - 1 ∧ (mentries (keepY n k).1.1 (keepY n k).1.2 1).length = n := by decide +kernel
theorem keep_news : ∀ n, n < 17 → ∀ k, k < n → mtext (keepY n k).1.2 (1114112 + 3 * (k : Int)) 3 = ([110, 101, 119], 0) := by decide +kernel
theorem keep_full : ∀ n, n < 17 → ∀ k, k < n → (mupdate (keepY n k).1.1 (keepY n k).1.2 1 [121, 121] [110, 101, 119]).2 = -7 := by decide +kernel
theorem keep_holds : ∀ n, n < 17 → 1 ≤ n → ∀ k, k < n → holdsB (mregsOf ((keepX n k).map (·.d))) (keepM n n) = true := by decide +kernel
theorem keep_ok : ∀ n, n < 17 → ∀ r ∈ keepM n n, r.data.length ≤ 140737488355328 := by decide +kernel

end Go.Proofs.Ytlinnhaodkiolaa
