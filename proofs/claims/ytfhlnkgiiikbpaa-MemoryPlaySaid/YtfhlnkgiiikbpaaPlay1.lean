/- MemoryPlay: two memories beside one another, the program's and the document's; what each call does to them. -/
import Derived.Test.YtfhlnkgiiikbpaaRef3
import Derived.Test.YtfhlnkgiiikbpaaCopy2
import Derived.Test.YtfhlnkgiiikbpaaSame
import Derived.Test.YtfhlnkgiiikbpaaLaid7
namespace Go.Proofs.Ytfhlnkgiiikbpaa
open Go.RowKit

def SmallM (m : List Reg) : Prop := m.length ≤ 12 ∧ ∀ r ∈ m, r.data.length ≤ 1000

theorem SmallM.write {m : List Reg} (h : SmallM m) (addr n : Int) (v : Nat) : SmallM (mwrite m addr n v).1 := by
  unfold mwrite
  by_cases hs : sizeOk n = true
  · rw [if_pos hs]
    have hn := (sizeOk_iff n).1 hs
    cases hsp : spot m addr n with
    | none => exact h
    | some i =>
      simp only
      split
      · have hi := spot_lt hsp
        have hh := (Reg.has_iff _ _ _).1 (spot_has hsp)
        have hN : ((leBytes n.toNat v).length : Int) = n := by simp; omega
        have hsp2 : spot m addr ((leBytes n.toNat v).length : Int) = some i := by rw [hN]; exact hsp
        show SmallM (mput m addr (leBytes n.toNat v))
        rw [mput, hsp2]
        show SmallM (m.modify i (·.put addr (leBytes n.toNat v)))
        rw [modify_is_set m i _ _ (List.getElem?_eq_getElem hi)]
        refine ⟨by simpa using h.1, fun r hr => ?_⟩
        rcases List.mem_or_eq_of_mem_set hr with hr | rfl
        · exact h.2 r hr
        · have := h.2 _ (List.getElem_mem hi)
          simp [Reg.put]
          omega
      · exact h
  · rw [if_neg hs]; exact h

/-- the program's memory, and the document's, apart from one another -/
structure PlayS (w : World) (b rb : Nat) (m1 m2 : List Reg) (S T : Nat → Prop) (wr : World) : Prop where
  mem : MemAt wr b m1 S
  ref : RefAt wr rb m2 T
  sw : ∀ k, S k → From w k ∧ k < wr.heap.size
  tw : ∀ k, T k → From w k ∧ k < wr.heap.size
  st : ∀ k, S k → ¬ T k
  fr : Fr (From w) w wr
  s1 : SmallM m1
  s2 : SmallM m2

theorem PlayS.to {w wr w' : World} {b rb : Nat} {m1 m2 : List Reg} {S T : Nat → Prop} (h : PlayS w b rb m1 m2 S T wr) (hf : Fr No wr w') : PlayS w b rb m1 m2 S T w' :=
  ⟨h.mem.fr hf (fun _ _ => id), h.ref.fr hf (fun _ _ => id), fun k hk => ⟨(h.sw k hk).1, Nat.lt_of_lt_of_le (h.sw k hk).2 hf.size⟩, fun k hk => ⟨(h.tw k hk).1, Nat.lt_of_lt_of_le (h.tw k hk).2 hf.size⟩, h.st, h.fr.trans hf.any, h.s1, h.s2⟩

theorem PlayS.wrote {w wr w' : World} {b rb : Nat} {m1 m1' m2 : List Reg} {S T : Nat → Prop} (h : PlayS w b rb m1 m2 S T wr) (hf : Fr S wr w') (hm : MemAt w' b m1' S) (hs : SmallM m1') : PlayS w b rb m1' m2 S T w' :=
  ⟨hm, h.ref.fr hf (fun k hk hs => h.st k hs hk), fun k hk => ⟨(h.sw k hk).1, Nat.lt_of_lt_of_le (h.sw k hk).2 hf.size⟩, fun k hk => ⟨(h.tw k hk).1, Nat.lt_of_lt_of_le (h.tw k hk).2 hf.size⟩, h.st, h.fr.trans (hf.mono fun k _ hk => (h.sw k hk).1), hs, h.s2⟩

theorem PlayS.rwrote {w wr w' : World} {b rb : Nat} {m1 m2 m2' : List Reg} {S T : Nat → Prop} (h : PlayS w b rb m1 m2 S T wr) (hf : Fr T wr w') (hm : RefAt w' rb m2' T) (hs : SmallM m2') : PlayS w b rb m1 m2' S T w' :=
  ⟨h.mem.fr hf h.st, hm, fun k hk => ⟨(h.sw k hk).1, Nat.lt_of_lt_of_le (h.sw k hk).2 hf.size⟩, fun k hk => ⟨(h.tw k hk).1, Nat.lt_of_lt_of_le (h.tw k hk).2 hf.size⟩, h.st, h.fr.trans (hf.mono fun k _ hk => (h.tw k hk).1), h.s1, hs⟩

/-- both, and the box of an act -/
structure PlayOn (w : World) (b rb bx kd a V : Nat) (n : Int) (m1 m2 : List Reg) (S T : Nat → Prop) (wr : World) : Prop where
  at' : Hid (PlayS w b rb m1 m2 S T wr)
  nb : Hid (¬ S bx ∧ ¬ T bx)
  c0 : wr.cell? ⟨bx, 0, none⟩ = some (.int .u8 kd)
  c1 : wr.cell? ⟨bx, 1, none⟩ = some (.int .u64 a)
  c2 : wr.cell? ⟨bx, 2, none⟩ = some (.int .u64 V)
  c3 : wr.cell? ⟨bx, 3, none⟩ = some (.int .i64 n)

section
variable {w wr w' : World} {b rb bx kd a V : Nat} {n : Int} {m1 m2 : List Reg} {S T : Nat → Prop}

theorem PlayOn.to (h : PlayOn w b rb bx kd a V n m1 m2 S T wr) (hf : Fr No wr w') : PlayOn w b rb bx kd a V n m1 m2 S T w' :=
  ⟨h.at'.out.to hf, h.nb, hf.cell h.c0 id, hf.cell h.c1 id, hf.cell h.c2 id, hf.cell h.c3 id⟩

theorem PlayOn.read (h : PlayOn w b rb bx kd a V n m1 m2 S T wr) (ha : Hid (a < 2 ^ 64)) :
    Calls Try.prog 12 #[.pointer (some ⟨b, 0, none⟩), .int .u64 a, .int .i64 n] wr fun e w' => e = .returned (.tuple #[.int .u64 ((mread m1 a n).1 : Int), .int .i64 (mread m1 a n).2]) ∧ PlayOn w b rb bx kd a V n m1 m2 S T w' :=
  (read_any h.at'.out.mem a n (by omega) (by have := ha.out; omega)).mono fun _ _ ⟨he, hf⟩ => ⟨he, h.to hf⟩

theorem PlayOn.rread (h : PlayOn w b rb bx kd a V n m1 m2 S T wr) (ha : Hid (a < 2 ^ 64)) :
    Calls Try.prog 20 #[.pointer (some ⟨rb, 0, none⟩), .int .u64 a, .int .i64 n] wr fun e w' => e = .returned (.tuple #[.int .u64 ((mread m2 a n).1 : Int), .int .i64 (mread m2 a n).2]) ∧ PlayOn w b rb bx kd a V n m1 m2 S T w' :=
  (refread_any h.at'.out.ref (by have := h.at'.out.s2.1; omega) a n (by omega) (by have := ha.out; omega)).mono fun _ _ ⟨he, hf⟩ => ⟨he, h.to hf⟩

theorem PlayOn.text (h : PlayOn w b rb bx kd a V n m1 m2 S T wr) (ha : Hid (a < 2 ^ 64)) (hn : Hid (n ≤ 9223372036854775807)) :
    Calls Try.prog 14 #[.pointer (some ⟨b, 0, none⟩), .int .u64 a, .int .i64 n] wr fun e w' => e = .returned (.tuple #[.string ⟨(mtext m1 a n).1.toArray⟩, .int .i64 (mtext m1 a n).2]) ∧ PlayOn w b rb bx kd a V n m1 m2 S T w' :=
  (text_any h.at'.out.mem a n (by omega) (by have := ha.out; omega) hn.out).mono fun _ _ ⟨he, hf⟩ => ⟨he, h.to hf⟩

theorem PlayOn.rtext (h : PlayOn w b rb bx kd a V n m1 m2 S T wr) (ha : Hid (a < 2 ^ 64)) (hn : Hid (n ≤ 9223372036854775807)) :
    Calls Try.prog 22 #[.pointer (some ⟨rb, 0, none⟩), .int .u64 a, .int .i64 n] wr fun e w' => e = .returned (.tuple #[.string ⟨(mtext m2 a n).1.toArray⟩, .int .i64 (mtext m2 a n).2]) ∧ PlayOn w b rb bx kd a V n m1 m2 S T w' :=
  (reftext_any h.at'.out.ref (by have := h.at'.out.s2.1; omega) a n (by omega) (by have := ha.out; omega) hn.out).mono fun _ _ ⟨he, hf⟩ => ⟨he, h.to hf⟩

theorem PlayOn.write (h : PlayOn w b rb bx kd a V n m1 m2 S T wr) (ha : Hid (a < 2 ^ 64)) (hv : Hid (V < 2 ^ 64)) :
    Calls Try.prog 13 #[.pointer (some ⟨b, 0, none⟩), .int .u64 a, .int .i64 n, .int .u64 V] wr fun e w' => e = .returned (.int .i64 (mwrite m1 a n V).2) ∧ PlayOn w b rb bx kd a V n (mwrite m1 a n V).1 m2 S T w' :=
  (write_any h.at'.out.mem a n V (by omega) (by have := ha.out; omega) hv.out).mono fun _ _ ⟨he, hf, hm⟩ => ⟨he, h.at'.out.wrote hf hm (h.at'.out.s1.write _ _ _), h.nb, hf.cell h.c0 h.nb.out.1, hf.cell h.c1 h.nb.out.1, hf.cell h.c2 h.nb.out.1, hf.cell h.c3 h.nb.out.1⟩

theorem PlayOn.rwrite (h : PlayOn w b rb bx kd a V n m1 m2 S T wr) (ha : Hid (a < 2 ^ 64)) (hv : Hid (V < 2 ^ 64)) :
    Calls Try.prog 21 #[.pointer (some ⟨rb, 0, none⟩), .int .u64 a, .int .i64 n, .int .u64 V] wr fun e w' => e = .returned (.int .i64 (mwrite m2 a n V).2) ∧ PlayOn w b rb bx kd a V n m1 (mwrite m2 a n V).1 S T w' :=
  (refwrite_any h.at'.out.ref (by have := h.at'.out.s2.1; omega) a n V (by omega) (by have := ha.out; omega) hv.out).mono fun _ _ ⟨he, hf, hm⟩ => ⟨he, h.at'.out.rwrote hf hm (h.at'.out.s2.write _ _ _), h.nb, hf.cell h.c0 h.nb.out.2, hf.cell h.c1 h.nb.out.2, hf.cell h.c2 h.nb.out.2, hf.cell h.c3 h.nb.out.2⟩

theorem PlayOn.copy (h : PlayOn w b rb bx kd a V n m1 m2 S T wr) :
    Calls Try.prog 15 #[.pointer (some ⟨b, 0, none⟩)] wr fun e w' => ∃ b' S', e = .returned (.pointer (some ⟨b', 0, none⟩)) ∧ PlayOn w b' rb bx kd a V n m1 m2 S' T w' ∧ PlayOn w b rb bx kd a V n m1 m2 S T w' ∧ Hid (∀ k, S' k → ¬ S k) :=
  (copy_any h.at'.out.mem (by have := h.at'.out.s1.1; omega) (fun r hr => by have := h.at'.out.s1.2 r hr; omega)).mono fun _ w' ⟨b', he, hf, hm⟩ => by
    have h2 := h.to hf
    have hbx : bx < wr.heap.size := World.block_lt_of_cell? wr _ h.c0
    have hsz := h.at'.out.fr.size
    refine ⟨b', Made wr w', he, ⟨?_, ?_, h2.c0, h2.c1, h2.c2, h2.c3⟩, h2, fun k hk hs => ?_⟩
    · exact ⟨hm, h2.at'.out.ref, fun k hk => ⟨by have := hk.1; unfold From; omega, hk.2⟩, h2.at'.out.tw, fun k hk ht => by have := (h.at'.out.tw k ht).2; have := hk.1; omega, h2.at'.out.fr, h2.at'.out.s1, h2.at'.out.s2⟩
    · exact ⟨fun hk => by have := hk.1; omega, h.nb.out.2⟩
    · have := (h.at'.out.sw k hs).2; have := hk.1; omega

/-- the regions, told: they stay as they were told -/
theorem PlayOn.regions (h : PlayOn w b rb bx kd a V n m1 m2 S T wr) :
    Calls Try.prog 11 #[.pointer (some ⟨b, 0, none⟩)] wr fun e w' => ∃ v, e = .returned v ∧ PlayOn w b rb bx kd a V n m1 m2 S T w' ∧ Hid (∀ W', Fr No w' W' → RegsAt W' v m1) ∧ Hid (Fr No wr w') :=
  (regions_any h.at'.out.mem (by have := h.at'.out.s1.1; omega)).mono fun _ _ ⟨v, he, hr, hf⟩ => ⟨v, he, h.to hf, (fun _ hW => hr.fr hW), hf⟩

theorem PlayOn.list (h : PlayOn w b rb bx kd a V n m1 m2 S T wr) : ∃ v, wr.cell? ⟨rb, 0, none⟩ = some v ∧ Hid (∀ W', Fr No wr W' → W'.cell? ⟨rb, 0, none⟩ = some v ∧ RegsAt W' v m2) := by
  obtain ⟨v, hc, hr⟩ := h.at'.out.ref.regs
  exact ⟨v, hc, fun W' hW => ⟨hW.cell hc id, hr.fr hW⟩⟩

/-- a memory that lies apart from both is written: both stay -/
theorem PlayOn.other {S' : Nat → Prop} {b' rb' : Nat} {m1' m2' : List Reg} {T' : Nat → Prop} (h : PlayOn w b rb bx kd a V n m1 m2 S T wr) (h' : PlayOn w b' rb' bx kd a V n m1' m2' S' T' wr) (hs : Hid (∀ k, S' k → ¬ S k)) (ht : Hid (∀ k, S' k → ¬ T k)) (k : Int) (ha : Hid (a < 2 ^ 64)) (hv : Hid (V < 2 ^ 64)) :
    Calls Try.prog 13 #[.pointer (some ⟨b', 0, none⟩), .int .u64 a, .int .i64 k, .int .u64 V] wr fun e w' => ∃ x, e = .returned x ∧ PlayOn w b rb bx kd a V n m1 m2 S T w' :=
  (write_any h'.at'.out.mem a k V (by omega) (by have := ha.out; omega) hv.out).mono fun _ w' ⟨he, hf, _⟩ =>
    ⟨_, he, ⟨h.at'.out.mem.fr hf (fun k hk hs' => hs.out k hs' hk), h.at'.out.ref.fr hf (fun k hk hs' => ht.out k hs' hk), fun k hk => ⟨(h.at'.out.sw k hk).1, Nat.lt_of_lt_of_le (h.at'.out.sw k hk).2 hf.size⟩, fun k hk => ⟨(h.at'.out.tw k hk).1, Nat.lt_of_lt_of_le (h.at'.out.tw k hk).2 hf.size⟩, h.at'.out.st, h.at'.out.fr.trans (hf.mono fun k _ hk => (h'.at'.out.sw k hk).1), h.at'.out.s1, h.at'.out.s2⟩,
      h.nb, hf.cell h.c0 h'.nb.out.1, hf.cell h.c1 h'.nb.out.1, hf.cell h.c2 h'.nb.out.1, hf.cell h.c3 h'.nb.out.1⟩

theorem same_true {v1 v2 : Value} {m : List Reg} {W : World} (h1 : RegsAt W v1 m) (h2 : RegsAt W v2 m) (hm : m.length ≤ 4294967296) :
    Calls Try.prog 10 #[v1, v2] W fun e w' => e = .returned (.bool true) ∧ Fr No W w' :=
  (same_any v1 v2 m m W h1 h2 hm).mono fun _ _ ⟨⟨r, he, hr⟩, hf⟩ => ⟨by rw [he, hr.2 rfl], hf⟩

end
end Go.Proofs.Ytfhlnkgiiikbpaa
