/- firewalllaw07.laid: the chapter's regions. -/
import Derived.Test.YtfhlnkgiiikbpaaNew4
namespace Go.Proofs.Ytfhlnkgiiikbpaa
open Go.RowKit

/-- regions laid in a block of their own -/
theorem RegsAt.new (w : World) (rs : List Reg) (cap : Nat) (h : ∀ r ∈ rs, r.typed) : RegsAt (w.alloc (.cells (aflat rs).toArray 26)) (.slice (some ⟨w.heap.size, 0, none⟩) rs.length cap) rs :=
  ⟨h, .inr ⟨_, _, _, rfl, CellsAt.new _ _ _⟩⟩

/-- New's answer where the memory is known -/
theorem new_is {rs m : List Reg} {v : Value} {w : World} (h : RegsAt w v rs) (h12 : rs.length ≤ 12) (hp : m.Perm rs) (hm : WF m) :
    Calls Try.prog 8 #[v] w fun e w' => ∃ b, e = .returned (.tuple #[.pointer (some ⟨b, 0, none⟩), .int .i64 0]) ∧ Fr No w w' ∧ MemAt w' b m (Made w w') := by
  refine (new_any rs v w h h12).mono ?_
  rintro e w' ⟨hf, ⟨m', b, hp', hm', rfl, hmem⟩ | ⟨hno, _⟩⟩
  · obtain rfl := hm.unique hm' (hp'.trans hp.symm)
    exact ⟨b, rfl, hf, hmem⟩
  · exact absurd ⟨m, hp, hm⟩ hno

theorem new_not {rs : List Reg} {v : Value} {w : World} (h : RegsAt w v rs) (h12 : rs.length ≤ 12) (hno : ¬ ∃ m, m.Perm rs ∧ WF m) :
    Calls Try.prog 8 #[v] w fun e w' => e = .returned (.tuple #[.pointer none, .int .i64 2]) ∧ Fr No w w' := by
  refine (new_any rs v w h h12).mono ?_
  rintro e w' ⟨hf, ⟨m', b, hp', hm', _⟩ | ⟨_, rfl⟩⟩
  · exact absurd ⟨m', hp', hm'⟩ hno
  · exact ⟨rfl, hf⟩

/-- Read, Write, Text where the answer is known -/
theorem read_is {S : Nat → Prop} {w : World} {b : Nat} {m : List Reg} (h : MemAt w b m S) (addr n : Int) (v : Nat) (err : Int) (ha : 0 ≤ addr) (h64 : addr ≤ 18446744073709551615) (he : mread m addr n = (v, err)) :
    Calls Try.prog 12 #[.pointer (some ⟨b, 0, none⟩), .int .u64 addr, .int .i64 n] w fun e w' => e = .returned (.tuple #[.int .u64 (v : Int), .int .i64 err]) ∧ MemAt w' b m S ∧ Fr No w w' :=
  (read_any h addr n ha h64).mono fun e w' ⟨h1, h2⟩ => ⟨by rw [h1, he], h.fr h2 (fun _ _ => id), h2⟩

theorem text_is {S : Nat → Prop} {w : World} {b : Nat} {m : List Reg} (h : MemAt w b m S) (addr n : Int) (v : List UInt8) (err : Int) (ha : 0 ≤ addr) (h64 : addr ≤ 18446744073709551615) (h63 : n ≤ 9223372036854775807) (he : mtext m addr n = (v, err)) :
    Calls Try.prog 14 #[.pointer (some ⟨b, 0, none⟩), .int .u64 addr, .int .i64 n] w fun e w' => e = .returned (.tuple #[.string ⟨v.toArray⟩, .int .i64 err]) ∧ MemAt w' b m S ∧ Fr No w w' :=
  (text_any h addr n ha h64 h63).mono fun e w' ⟨h1, h2⟩ => ⟨by rw [h1, he], h.fr h2 (fun _ _ => id), h2⟩

theorem write_is {S : Nat → Prop} {w : World} {b : Nat} {m : List Reg} (h : MemAt w b m S) (addr n : Int) (v : Nat) (m' : List Reg) (err : Int) (ha : 0 ≤ addr) (h64 : addr ≤ 18446744073709551615) (hv : v < 2 ^ 64) (he : mwrite m addr n v = (m', err)) :
    Calls Try.prog 13 #[.pointer (some ⟨b, 0, none⟩), .int .u64 addr, .int .i64 n, .int .u64 v] w fun e w' => e = .returned (.int .i64 err) ∧ MemAt w' b m' S ∧ Fr S w w' :=
  (write_any h addr n v ha h64 hv).mono fun e w' ⟨h1, h2, h3⟩ => ⟨by rw [h1, he], by rw [he] at h3; exact h3, h2⟩

def laidIn : List Reg := [⟨18, [3], false⟩, ⟨16, [1, 2], true⟩]
def laidM : List Reg := [⟨16, [1, 2], true⟩, ⟨18, [3], false⟩]
def laidM2 : List Reg := [⟨16, [1, 5], true⟩, ⟨18, [3], false⟩]
theorem laidM_wf : WF laidM := ⟨by
  intro r hr
  simp [laidM] at hr
  rcases hr with rfl | rfl <;> exact ⟨by decide, by decide, by simp [Reg.len], by decide⟩, by simp [laidM, Reg.len], by decide⟩
theorem laid_over : ¬ ∃ m, m.Perm [(⟨16, [97], false⟩ : Reg), ⟨16, [98], false⟩] ∧ WF m := by
  rintro ⟨m, hp, hm⟩
  have := base_inj hm (hp.mem_iff.2 (List.mem_cons_self)) (hp.mem_iff.2 (List.mem_cons_of_mem _ (List.mem_cons_self))) rfl
  cases this

set_option maxRecDepth 100000 in
set_option maxHeartbeats 1000000 in
theorem laid_any (w : World) : Calls Try.prog 9 #[] w fun e w' => e = .returned (.bool true) ∧ Fr No w w' := by
  have HI : Hid (RegsAt (w.alloc (.cells #[.int .u64 18, .string ⟨#[3]⟩, .bool false, .int .u64 16, .string ⟨#[1, 2]⟩, .bool true] 26)) (.slice (some ⟨w.heap.size, 0, none⟩) 2 2) laidIn) :=
    RegsAt.new w laidIn 2 (by intro r hr; simp [laidIn] at hr; rcases hr with rfl | rfl <;> exact ⟨by decide, by decide, by decide⟩)
  have HP : Hid (laidM.Perm laidIn) := List.Perm.swap _ _ _
  go_enter Try.func9, Try.ntmps9
  go_wp2_with fail
  refine (new_is HI.out (by decide) HP.out laidM_wf).mono ?_
  rintro e w1 ⟨b, rfl, hf, hm1⟩
  have HF1 := Lib.hid ((((Fr.refl (From w) w).alloc _).trans hf.any : Fr (From w) w w1))
  have HS : Hid (∀ k, Made (w.alloc (.cells #[.int .u64 18, .string ⟨#[3]⟩, .bool false, .int .u64 16, .string ⟨#[1, 2]⟩, .bool true] 26)) w1 k → From w k) := fun k hk => by
    have := hk.1
    simp at this
    unfold From
    omega
  generalize Made (w.alloc (.cells #[.int .u64 18, .string ⟨#[3]⟩, .bool false, .int .u64 16, .string ⟨#[1, 2]⟩, .bool true] 26)) w1 = S at hm1 HS
  clear hf HI
  go_wp2_with fail
  refine (read_is hm1 16 2 513 0 (by decide) (by decide) (by decide)).mono ?_
  rintro e w2 ⟨rfl, hm2, hf⟩
  have HF2 := Lib.hid (HF1.out.trans (hf.any : Fr (From w) _ _))
  clear hf HF1 hm1
  go_wp2_with fail
  refine (read_is hm2 18 1 3 0 (by decide) (by decide) (by decide)).mono ?_
  rintro e w3 ⟨rfl, hm3, hf⟩
  have HF3 := Lib.hid (HF2.out.trans (hf.any : Fr (From w) _ _))
  clear hf HF2 hm2
  go_wp2_with fail
  refine (read_is hm3 17 2 0 70 (by decide) (by decide) (by decide)).mono ?_
  rintro e w4 ⟨rfl, hm4, hf⟩
  have HF4 := Lib.hid (HF3.out.trans (hf.any : Fr (From w) _ _))
  clear hf HF3 hm3
  go_wp2_with fail
  refine (read_is hm4 16 3 0 2 (by decide) (by decide) (by decide)).mono ?_
  rintro e w5 ⟨rfl, hm5, hf⟩
  have HF5 := Lib.hid (HF4.out.trans (hf.any : Fr (From w) _ _))
  clear hf HF4 hm4
  go_wp2_with fail
  refine (write_is hm5 17 1 261 laidM2 0 (by decide) (by decide) (by decide) rfl).mono ?_
  rintro e w6 ⟨rfl, hm6, hf⟩
  have HF6 := Lib.hid (HF5.out.trans (hf.mono (fun k _ hk => HS.out k hk) : Fr (From w) _ _))
  clear hf HF5 hm5
  go_wp2_with fail
  refine (write_is hm6 18 1 0 laidM2 71 (by decide) (by decide) (by decide) rfl).mono ?_
  rintro e w7 ⟨rfl, hm7, hf⟩
  have HF7 := Lib.hid (HF6.out.trans (hf.mono (fun k _ hk => HS.out k hk) : Fr (From w) _ _))
  clear hf HF6 hm6
  go_wp2_with fail
  refine (read_is hm7 16 2 1281 0 (by decide) (by decide) (by decide)).mono ?_
  rintro e w8 ⟨rfl, hm8, hf⟩
  have HF8 := Lib.hid (HF7.out.trans (hf.any : Fr (From w) _ _))
  clear hf HF7 hm7
  go_wp2_with fail
  refine (text_is hm8 16 2 [1, 5] 0 (by decide) (by decide) (by decide) (by decide)).mono ?_
  rintro e w9 ⟨rfl, hm9, hf⟩
  have HF9 := Lib.hid (HF8.out.trans (hf.any : Fr (From w) _ _))
  clear hf HF8 hm8
  go_wp2_with fail
  refine (text_is hm9 5 0 [] 0 (by decide) (by decide) (by decide) (by decide)).mono ?_
  rintro e w10 ⟨rfl, hm10, hf⟩
  have HF10 := Lib.hid (HF9.out.trans (hf.any : Fr (From w) _ _))
  clear hf HF9 hm9
  go_wp2_with fail
  refine (new_not (rs := [⟨16, [97], false⟩, ⟨16, [98], false⟩]) (RegsAt.new w10 _ 2 (by intro r hr; simp at hr; rcases hr with rfl | rfl <;> exact ⟨by decide, by decide, by decide⟩)) (by decide) laid_over).mono ?_
  rintro e w11 ⟨rfl, hf⟩
  have HF11 := Lib.hid ((HF10.out.alloc _).trans (hf.any : Fr (From w) _ _))
  clear hf HF10
  go_wp2_with fail
  go_ret
  exact ⟨rfl, HF11.out.ours⟩

end Go.Proofs.Ytfhlnkgiiikbpaa
