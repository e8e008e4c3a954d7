/- memory.New: its comparison, and the sort. -/
import Derived.Test.YtlinnhaodkiolaaMem5
import Derived.Test.YtlinnhaodkiolaaShelf
import Derived.Deep.RegionHeld3
import Derived.Deep.AppendLies
namespace Go.Proofs.Ytlinnhaodkiolaa
open Go.RowKit Go.Shelf Go.Lib Go.Sort

set_option maxHeartbeats 400000 in
theorem isnan_u64 (x : Int) (w : World) : Calls Try.prog 46 #[.int .u64 x] w fun e w' => e = .returned (.bool false) ∧ w = w' := by
  have h : (x != x) = false := by simp
  go_enter Try.func46, Try.ntmps46
  go_wp2
  go_ret
  exact ⟨rfl, rfl⟩

def cmp3 (x y : Int) : Int := if x < y then -1 else if y < x then 1 else 0

set_option maxHeartbeats 400000 in
theorem compare_u64 (x y : Int) (w : World) : Calls Try.prog 32 #[.int .u64 x, .int .u64 y] w fun e w' => e = .returned (.int .i64 (cmp3 x y)) ∧ w = w' := by
  by_cases h1 : x < y
  · have e : cmp3 x y = -1 := by simp [cmp3, h1]
    rw [e]
    clear e
    go_enter Try.func32, Try.ntmps32
    go_wp2_with (go_at_call 46; refine (isnan_u64 _ _).mono ?_; rintro e w' ⟨rfl, rfl⟩)
    go_ret
    exact ⟨rfl, rfl⟩
  · by_cases h2 : y < x
    · have e : cmp3 x y = 1 := by simp [cmp3, h1, h2]
      rw [e]
      clear e
      go_enter Try.func32, Try.ntmps32
      go_wp2_with (go_at_call 46; refine (isnan_u64 _ _).mono ?_; rintro e w' ⟨rfl, rfl⟩)
      go_ret
      exact ⟨rfl, rfl⟩
    · have e : cmp3 x y = 0 := by simp [cmp3, h1, h2]
      rw [e]
      clear e
      go_enter Try.func32, Try.ntmps32
      go_wp2_with (go_at_call 46; refine (isnan_u64 _ _).mono ?_; rintro e w' ⟨rfl, rfl⟩)
      go_ret
      exact ⟨rfl, rfl⟩


set_option maxHeartbeats 400000 in
theorem new1_any (x y : HReg) (W : World) : Calls Try.prog 31 #[.agg #[.int .u64 x.r.base, .slice (some ⟨x.g, 0, none⟩) x.r.data.length x.cap, .bool x.r.free], .agg #[.int .u64 y.r.base, .slice (some ⟨y.g, 0, none⟩) y.r.data.length y.cap, .bool y.r.free]] W
    fun e w' => e = .returned (.int .i64 (cmp3 x.r.base y.r.base)) ∧ ∃ q os', w' = grow (W.drewN q) os' := by
  have hcon := fun W' => compare_u64 x.r.base y.r.base W'
  generalize cmp3 x.r.base y.r.base = r at hcon ⊢
  have HC := Lib.hid hcon
  clear hcon
  go_enter Try.func31, Try.ntmps31
  go_wp2_with (go_at_call 32; refine (HC.out _).mono ?_; rintro e w' ⟨rfl, rfl⟩)
  go_ret
  exact ⟨rfl, 0, _, by rw [alloc_eq_grow, alloc_eq_grow, grow_grow]; rfl⟩

theorem cmpLays_reg (blk off size : Nat) (w : World) : CmpLays Try.prog 31 #[] HReg.cells 3 (fun x y => cmp3 x.r.base y.r.base) blk off size w :=
  fun _ _ _ _ x y => new1_any x y _

theorem hlen_reg (n : Nat) (W : World) (h : n ≤ 12) : Calls Try.prog 45 #[.int .u64 n] W fun e w' => (∃ l : Int, e = .returned (.int .i64 l)) ∧ w' = W :=
  (Any.bits_Len Try.lays125 n W (by omega) (by omega)).mono fun _ _ ⟨he, hw⟩ => ⟨⟨_, he⟩, hw⟩

theorem lt_cmp3 (x y : HReg) : ltOf (fun x y : HReg => cmp3 x.r.base y.r.base) x y = decide (x.r.base < y.r.base) := by
  unfold ltOf cmp3
  by_cases h1 : x.r.base < y.r.base
  · simp [h1]
  · by_cases h2 : y.r.base < x.r.base <;> simp [h1, h2]

theorem swo_reg : SWO (ltOf fun x y : HReg => cmp3 x.r.base y.r.base) where
  irrefl x := by rw [lt_cmp3]; simp
  trans x y z h1 h2 := by rw [lt_cmp3] at *; simp at *; omega
  ntrans x y z h1 h2 := by rw [lt_cmp3] at *; simp at *; omega

theorem Try.isAgg_reg (w : World) : (isAgg 90).run Try.prog w = .ok true w := by kernel_rfl
theorem Try.size_reg (w : World) : (Go.sizeOf 90).run Try.prog w = .ok 3 w := by kernel_rfl

theorem sort_regs (bl cap : Nat) (d : Array HReg) (w : World) (hH : HoldsK HReg.cells 3 w bl 0 d) (hblk : bl < w.heap.size) (h12 : d.size ≤ 12) :
    Calls Try.prog 30 #[.slice (some ⟨bl, 0, none⟩) d.size cap, .func (.func 31) #[] #[]] w
      fun e w' => e = .returned (.tuple #[]) ∧ ∃ d' n os, PermIn 0 d.size d d' ∧ SortedIn (ltOf fun x y : HReg => cmp3 x.r.base y.r.base) 0 d.size d' ∧ w' = sortWorldK HReg.cells 3 w bl 0 n d' os := by
  have eg : ∀ args w, (callFunc 31 args).run Try.prog w = .ok (.enter 31 args) w := enters_of Try.func31 (by kernel_rfl) rfl
  exact AnyQ.slices_SortFunc_small_sorted Try.sortReg 3 Try.isAgg_reg Try.size_reg HReg.cells (fun _ => rfl) (fun x v hv => by simp [HReg.cells] at hv; rcases hv with rfl | rfl | rfl <;> rfl) (fun x y => cmp3 x.r.base y.r.base) 31 #[] swo_reg bl 0 cap d w eg (cmpLays_reg bl 0 d.size w) hH hblk h12 hlen_reg

end Go.Proofs.Ytlinnhaodkiolaa
