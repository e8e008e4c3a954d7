/- progs.Check. -/
import Derived.Test.YtakcdecljfmckaaGreatDoorCore15
import Derived.Laws.EntriesVeiled
set_option linter.all false
set_option linter.unusedVariables false
set_option linter.unusedSimpArgs false
namespace Go.Proofs.YtakcdecljfmckaaGreatDoor
open Go.RowKit

theorem firsts_sorted {l : List Ins} : ∀ {fuel a : Nat}, List.Pairwise (· < ·) (firstsM l fuel a)
  | 0, _ => .nil
  | fuel + 1, a => by
    rw [firstsM]
    split
    · refine .cons (fun p hp => ?_) firsts_sorted
      have := (firstsM_mem hp).1
      have h2 := behM_pos l a
      unfold behM at h2
      omega
    · exact .nil
theorem find_sorted {f : Nat → Bool} : ∀ {F : List Nat}, List.Pairwise (· < ·) F → ∀ {pc : Nat}, pc ∈ F → f pc = true → (∀ p ∈ F, p < pc → f p = false) → F.find? f = some pc
  | [], _, _, h, _, _ => absurd h (by simp)
  | a :: F, hs, pc, h, hf, hz => by
    cases hs with
    | cons ha hs =>
      rcases List.mem_cons.1 h with rfl | h
      · rw [List.find?_cons, hf]
      · rw [List.find?_cons, hz a List.mem_cons_self (ha pc h)]
        exact find_sorted hs h hf (fun p hp hlt => hz p (List.mem_cons_of_mem _ hp) hlt)
theorem firstBad_at {l : List Ins} {f : Nat → Int} {pc : Nat} (h : pc ∈ starts l) (hf : f pc ≠ 0) (hz : ∀ p ∈ starts l, p < pc → f p = 0) : firstBad f (starts l) = some (pc, f pc) := by
  unfold firstBad
  rw [find_sorted (show List.Pairwise (· < ·) (starts l) from firsts_sorted) h (by simpa using hf) (fun p hp hlt => by simpa using hz p hp hlt)]
theorem firstBad_nil {l : List Ins} {f : Nat → Int} (hz : ∀ p ∈ starts l, f p = 0) : firstBad f (starts l) = none := by
  unfold firstBad
  rw [List.find?_eq_none.2 (fun p hp => by simpa using hz p hp)]
theorem check_field {l : List Ins} {maps : Int} (h : ¬ (l.length = 0 ∨ 64 < l.length)) {q : Nat × Int} (hq : firstBad (fun pc => fieldM l pc maps false) (starts l) = some q) : checkM l maps false = q := by
  unfold checkM
  simp only [Bool.false_eq_true, if_false]
  rw [if_neg h, hq]
theorem check_way {l : List Ins} {maps : Int} (h : ¬ (l.length = 0 ∨ 64 < l.length)) (h1 : firstBad (fun pc => fieldM l pc maps false) (starts l) = none) {q : Nat × Int} (hq : firstBad (wayM l (fun k => (starts l).contains k)) (starts l) = some q) : checkM l maps false = q := by
  unfold checkM
  simp only [Bool.false_eq_true, if_false]
  rw [if_neg h, h1, hq]
theorem check_seen {l : List Ins} {maps : Int} (h : ¬ (l.length = 0 ∨ 64 < l.length)) (h1 : firstBad (fun pc => fieldM l pc maps false) (starts l) = none) (h2 : firstBad (wayM l (fun k => (starts l).contains k)) (starts l) = none) {q : Nat × Int} (hq : firstBad (fun pc => if (seenM l).getD pc true then 0 else 42) (starts l) = some q) : checkM l maps false = q := by
  unfold checkM
  simp only [Bool.false_eq_true, if_false]
  rw [if_neg h, h1, h2, hq]
theorem check_ok {l : List Ins} {maps : Int} (h : ¬ (l.length = 0 ∨ 64 < l.length)) (h1 : firstBad (fun pc => fieldM l pc maps false) (starts l) = none) (h2 : firstBad (wayM l (fun k => (starts l).contains k)) (starts l) = none) (hq : firstBad (fun pc => if (seenM l).getD pc true then 0 else 42) (starts l) = none) : checkM l maps false = (0, 0) := by
  unfold checkM
  simp only [Bool.false_eq_true, if_false]
  rw [if_neg h, h1, h2, hq]
theorem check_long {l : List Ins} {maps : Int} (h : l.length = 0 ∨ 64 < l.length) : checkM l maps false = (0, 3) := by
  unfold checkM
  simp only [Bool.false_eq_true, if_false]
  rw [if_pos h]

set_option maxHeartbeats 400000 in
theorem check1_any (l : List Ins) (v : Value) (b1 b2 b3 : Nat) (maps : Int) (pc : Nat) (w : World) (hv : InsAt w v l) (hok : ∀ i ∈ l, i.ok) (hl : l.length ≤ 100000) (hpc : pc < l.length)
    (h1 : w.cell? ⟨b1, 0, none⟩ = some v) (h2 : w.cell? ⟨b2, 0, none⟩ = some (.int .i64 maps)) (h3 : w.cell? ⟨b3, 0, none⟩ = some (.bool false)) :
    Calls Tryz.prog 52 #[.int .i64 pc, .pointer (some ⟨b1, 0, none⟩), .pointer (some ⟨b2, 0, none⟩), .pointer (some ⟨b3, 0, none⟩)] w fun e w' => e = .returned (.int .i64 (fieldM l pc maps false)) ∧ Fr No w w' := by
  have HC := Lib.hid (pfield_any l v pc maps false w hv hok hl hpc)
  obtain ⟨a, c, rfl⟩ := hv.form
  clear hv hok hl hpc
  go_enter Tryz.func52, Tryz.ntmps52
  go_wp2_with (go_at_call 53; (with_reducible refine (HC.out).mono ?_); rintro e w' ⟨rfl, hf⟩)
  go_ret
  exact ⟨rfl, hf⟩

set_option maxHeartbeats 400000 in
theorem check2_any (l : List Ins) (v : Value) (b1 b2 gf : Nat) (F : List Nat) (pc : Nat) (w : World) (hv : InsAt w v l) (hm : MarksAt w gf l.length F) (hok : ∀ i ∈ l, i.ok) (hl : l.length ≤ 100000) (hpc : pc < l.length)
    (h1 : w.cell? ⟨b1, 0, none⟩ = some v) (h2 : w.cell? ⟨b2, 0, none⟩ = some (.slice (some ⟨gf, 0, none⟩) l.length l.length)) :
    Calls Tryz.prog 54 #[.int .i64 pc, .pointer (some ⟨b1, 0, none⟩), .pointer (some ⟨b2, 0, none⟩)] w fun e w' => e = .returned (.int .i64 (wayM l (fun k => F.contains k) pc)) ∧ Fr No w w' := by
  have HC := Lib.hid (way_any l v gf F pc w hv hm hok hl hpc)
  generalize wayM l (fun k => F.contains k) pc = R at *
  obtain ⟨a, c, rfl⟩ := hv.form
  clear hv hm hok hl hpc
  go_enter Tryz.func54, Tryz.ntmps54
  go_wp2_with (go_at_call 55; (with_reducible refine (HC.out).mono ?_); rintro e w' ⟨rfl, hf⟩)
  go_ret
  exact ⟨rfl, hf⟩

theorem sv_start {l : List Ins} {n g off cap b1 : Nat} {wr : World} {tb ts tf : TypeId} (hn : l.length = n) (h1 : wr.cell? ⟨b1, 0, none⟩ = some (.slice (some ⟨g, off, none⟩) n cap)) (hc : CellsAt wr g off (iflat l)) (h0 : 0 < n) :
    SV l g off cap (wr.heap.size + 1) b1 (wr.heap.size + 1 + 1) wr.heap.size (visitF (wr.heap.size + 1) b1 (wr.heap.size + 1 + 1)) (((wr.alloc (.cells (Array.replicate n (.bool false)) tb)).alloc (.cells #[.slice (some ⟨wr.heap.size, 0, none⟩) n n] ts)).alloc (.cells #[visitF (wr.heap.size + 1) b1 (wr.heap.size + 1 + 1)] tf)) (List.replicate n false) := by
  have e1 : ∀ (w : World) o, (w.alloc o).heap.size = w.heap.size + 1 := fun w o => Array.size_push _
  subst hn
  have hb1 : b1 < wr.heap.size := World.block_lt_of_cell? wr _ h1
  have hg : g < wr.heap.size := World.block_lt_of_cell? wr _ (hc 0 _ (iflat_get l 0 0 h0 (by decide)))
  have eR : (Array.replicate l.length (Value.bool false)) = (List.replicate l.length (Value.bool false)).toArray := by simp
  have k1 := CellsAt.new (wr.alloc (.cells (Array.replicate l.length (.bool false)) tb)) [.slice (some ⟨wr.heap.size, 0, none⟩) l.length l.length] ts 0 _ rfl
  have k2 := CellsAt.new ((wr.alloc (.cells (Array.replicate l.length (.bool false)) tb)).alloc (.cells #[.slice (some ⟨wr.heap.size, 0, none⟩) l.length l.length] ts)) [visitF (wr.heap.size + 1) b1 (wr.heap.size + 1 + 1)] tf 0 _ rfl
  rw [e1] at k1
  rw [e1, e1] at k2
  have f0 : Fr No wr (((wr.alloc (.cells (Array.replicate l.length (.bool false)) tb)).alloc (.cells #[.slice (some ⟨wr.heap.size, 0, none⟩) l.length l.length] ts)).alloc (.cells #[visitF (wr.heap.size + 1) b1 (wr.heap.size + 1 + 1)] tf)) := (((Fr.refl _ _).alloc _).alloc _).alloc _
  refine ⟨by simp, ((Fr.refl No _).alloc _).cell k1 id, f0.cell h1 id, k2, f0.cells hc id, ?_, by omega, by omega, by omega, by omega⟩
  have hb := BoolsAt.new wr l.length tb
  rw [← eR] at hb
  have hb2 := BoolsAt.fr hb (((Fr.refl No _).alloc (.cells #[.slice (some ⟨wr.heap.size, 0, none⟩) l.length l.length] ts)).alloc (.cells #[visitF (wr.heap.size + 1) b1 (wr.heap.size + 1 + 1)] tf))
  intro k hk
  rw [List.length_replicate] at hk
  obtain ⟨m1, m2⟩ := hb2 k hk
  refine ⟨?_, m2⟩
  rw [m1]
  refine congrArg (fun b => some (Value.bool b)) ?_
  show false = (List.replicate l.length false).getD k true
  rw [List.getD_eq_getElem?_getD, List.getElem?_replicate, if_pos hk]
  rfl

theorem arr2_0 (a b : Value) (W : World) : (Instr.index 102 (.agg #[a, b]) (.int .i64 0)).run Tryz.prog W = .ok a W := by kernel_rfl
theorem arr2_1 (a b : Value) (W : World) : (Instr.index 102 (.agg #[a, b]) (.int .i64 1)).run Tryz.prog W = .ok b W := by kernel_rfl
theorem three_boxes {w W : World} {x y z : Value} {t1 t2 t3 : TypeId} (hf : Fr No (((w.alloc (.cells #[x] t1)).alloc (.cells #[y] t2)).alloc (.cells #[z] t3)) W) : W.cell? ⟨w.heap.size, 0, none⟩ = some x ∧ W.cell? ⟨w.heap.size + 1, 0, none⟩ = some y ∧ W.cell? ⟨w.heap.size + 1 + 1, 0, none⟩ = some z := by
  have e1 : ∀ (w : World) o, (w.alloc o).heap.size = w.heap.size + 1 := fun w o => Array.size_push _
  have h1 := CellsAt.new w [x] t1 0 _ rfl
  have h2 := CellsAt.new (w.alloc (.cells #[x] t1)) [y] t2 0 _ rfl
  have h3 := CellsAt.new ((w.alloc (.cells #[x] t1)).alloc (.cells #[y] t2)) [z] t3 0 _ rfl
  rw [e1] at h2
  rw [e1, e1] at h3
  have f1 : Fr No (w.alloc (.cells #[x] t1)) (((w.alloc (.cells #[x] t1)).alloc (.cells #[y] t2)).alloc (.cells #[z] t3)) := ((Fr.refl _ _).alloc _).alloc _
  have f2 : Fr No ((w.alloc (.cells #[x] t1)).alloc (.cells #[y] t2)) (((w.alloc (.cells #[x] t1)).alloc (.cells #[y] t2)).alloc (.cells #[z] t3)) := (Fr.refl _ _).alloc _
  exact ⟨(f1.trans hf).cell h1 id, (f2.trans hf).cell h2 id, hf.cell h3 id⟩

/-- what the boxes hold -/
def BoxC (v : Value) (maps : Int) (g0 n b1 b2 b3 b9 : Nat) (W : World) : Prop := W.cell? ⟨b1, 0, none⟩ = some v ∧ W.cell? ⟨b2, 0, none⟩ = some (.int .i64 maps) ∧ W.cell? ⟨b3, 0, none⟩ = some (.bool false) ∧ W.cell? ⟨b9, 0, none⟩ = some (.slice (some ⟨g0, 0, none⟩) n n)

set_option maxRecDepth 100000 in
set_option maxHeartbeats 4000000 in
theorem check_any (l : List Ins) (v : Value) (maps : Int) (w : World) (hv : InsAt w v l) (hok : ∀ i ∈ l, i.ok) (hl : l.length ≤ 100000) :
    Calls Tryz.prog 22 #[v, .int .i64 maps, .bool false] w fun e w' => e = .returned (.tuple #[.int .i64 ((checkM l maps false).1 : Int), .int .i64 (checkM l maps false).2]) ∧ Fr No w w' := by
  by_cases hlen : l.length = 0 ∨ 64 < l.length
  · rw [check_long hlen]
    obtain ⟨a, c, rfl⟩ := hv.form
    obtain ⟨n, hn⟩ : ∃ n, l.length = n := ⟨_, rfl⟩
    rw [hn] at hlen ⊢
    clear hv hok hl hn
    have HF : Hid (Fr No w (((w.alloc (.cells #[.slice a n c] 22)).alloc (.cells #[.int .i64 maps] 3)).alloc (.cells #[.bool false] 4))) := (((Fr.refl _ _).alloc _).alloc _).alloc _
    have k1 : ((((w.alloc (.cells #[.slice a n c] 22)).alloc (.cells #[.int .i64 maps] 3)).alloc (.cells #[.bool false] 4))).cell? ⟨w.heap.size, 0, none⟩ = some (.slice a n c) := (((Fr.refl No (w.alloc (.cells #[.slice a n c] 22))).alloc _).alloc _).cell (CellsAt.new w [.slice a n c] 22 0 _ rfl) id
    rcases hlen with h0 | h0
    · subst h0
      go_enter Tryz.func22, Tryz.ntmps22
      go_wp2_with fail
      go_ret2
      exact ⟨rfl, HF.out⟩
    · have g0 : ((n : Int) == 0) = false := by rw [beq_eq_false_iff_ne]; omega
      have g1 : (64 : Int) < (n : Int) := by omega
      clear h0
      go_enter Tryz.func22, Tryz.ntmps22
      go_wp2_with fail
      go_ret2
      exact ⟨rfl, HF.out⟩
  have HLEN := Lib.hid hlen
  have hlen2 : 0 < l.length ∧ l.length ≤ 64 := by omega
  rcases hv with ⟨rfl, _⟩ | ⟨g, off, cap, rfl, hc⟩
  · exact absurd hlen2.1 (Nat.lt_irrefl _)
  have HOK := Lib.hid hok
  have HCL : Hid (∀ W, Fr No w W → CellsAt W g off (iflat l)) := fun W hf => hf.cells hc id
  have HIN0 : Hid (InsAt w (.slice (some ⟨g, off, none⟩) l.length cap) l) := .inr ⟨g, off, cap, rfl, hc⟩
  have HFI : Hid (∀ W, Fr No w W → Calls Tryz.prog 51 #[.slice (some ⟨g, off, none⟩) l.length cap] W fun e w' => ∃ g, e = .returned (.slice (some ⟨g, 0, none⟩) l.length l.length) ∧ W.heap.size ≤ g ∧ g < w'.heap.size ∧ MarksAt w' g l.length (starts l) ∧ Fr No W w') := fun W hf => firsts_any l _ W (HIN0.out.fr hf) hok hl hlen2.1
  obtain ⟨n, hn⟩ : ∃ n, l.length = n := ⟨_, rfl⟩
  obtain ⟨R1, hR1⟩ : ∃ R1, (checkM l maps false).1 = R1 := ⟨_, rfl⟩
  obtain ⟨R2, hR2⟩ : ∃ R2, (checkM l maps false).2 = R2 := ⟨_, rfl⟩
  have HR : Hid (checkM l maps false = (R1, R2)) := by rw [← hR1, ← hR2]; exact Lib.hid rfl
  rw [hn] at HFI hlen2 HIN0 ⊢
  rw [hR1, hR2]
  have HNN := Lib.hid hn
  have hn1 : 1 ≤ n := hlen2.1
  have HN1 := Lib.hid hn1
  have hn2 : n ≤ 64 := hlen2.2
  have g0 : ((n : Int) == 0) = false := by rw [beq_eq_false_iff_ne]; omega
  have g1 : ¬ (64 : Int) < (n : Int) := by omega
  have HL : Hid (l.length ≤ 100000) := hl
  clear hn hc hok hl hlen hlen2 hR1 hR2
  have fin : Hid (∀ (q1 : Nat) (q2 : Int) W, Fr No w W → checkM l maps false = (q1, q2) → (Ending.returned (.tuple #[Value.int .i64 (q1 : Int), Value.int .i64 q2]) = Ending.returned (.tuple #[Value.int .i64 (R1 : Int), Value.int .i64 R2]) ∧ Fr No w W)) := fun q1 q2 W hf hq => by
    rw [HR.out] at hq
    injection hq with h1 h2
    exact ⟨by rw [h1, h2], hf⟩
  go_enter Tryz.func22, Tryz.ntmps22
  go_upto_region 4 with fail
  have HBa : Hid (∀ W, Fr No (((w.alloc (.cells #[.slice (some ⟨g, off, none⟩) n cap] 22)).alloc (.cells #[.int .i64 maps] 3)).alloc (.cells #[.bool false] 4)) W → W.cell? ⟨w.heap.size, 0, none⟩ = some (.slice (some ⟨g, off, none⟩) n cap) ∧ W.cell? ⟨w.heap.size + 1, 0, none⟩ = some (.int .i64 maps) ∧ W.cell? ⟨w.heap.size + 1 + 1, 0, none⟩ = some (.bool false)) := fun W hf => three_boxes hf
  have HFA : Hid (Fr No w (((w.alloc (.cells #[.slice (some ⟨g, off, none⟩) n cap] 22)).alloc (.cells #[.int .i64 maps] 3)).alloc (.cells #[.bool false] 4))) := (((Fr.refl _ _).alloc _).alloc _).alloc _
  generalize ((w.alloc (.cells #[.slice (some ⟨g, off, none⟩) n cap] 22)).alloc (.cells #[.int .i64 maps] 3)).alloc (.cells #[.bool false] 4) = W1 at *
  generalize w.heap.size + 1 + 1 = b3 at *
  generalize w.heap.size + 1 = b2 at *
  generalize w.heap.size = b1 at *
  obtain ⟨x1, x2, x3⟩ := HBa.out W1 (Fr.refl _ _)
  go_upto_region 7 with (go_at_call 51; (with_reducible refine (HFI.out _ HFA.out).mono ?_); rintro e w2 ⟨g0, rfl, hg1, hg2, hm2, hf2⟩)
  have HB9 : Hid (∀ W, Fr No (w2.alloc (.cells #[.slice (some ⟨g0, 0, none⟩) n n] 87)) W → W.cell? ⟨w2.heap.size, 0, none⟩ = some (.slice (some ⟨g0, 0, none⟩) n n)) := fun W hf => hf.cell (CellsAt.new w2 [.slice (some ⟨g0, 0, none⟩) n n] 87 0 _ rfl) id
  have HFB : Hid (Fr No W1 (w2.alloc (.cells #[.slice (some ⟨g0, 0, none⟩) n n] 87))) := hf2.alloc _
  have HM0 : Hid (MarksAt (w2.alloc (.cells #[.slice (some ⟨g0, 0, none⟩) n n] 87)) g0 n (starts l)) := by exact BoolsAt.fr hm2 ((Fr.refl _ _).alloc _)
  have HGL : Hid (g0 < (w2.alloc (.cells #[.slice (some ⟨g0, 0, none⟩) n n] 87)).heap.size) := Nat.lt_of_lt_of_le hg2 ((Fr.refl No w2).alloc _).size
  clear hg1 hg2 hm2 hf2
  generalize w2.alloc (.cells #[.slice (some ⟨g0, 0, none⟩) n n] 87) = W2 at *
  generalize w2.heap.size = b9 at *
  have HBX : Hid (∀ W, Fr No W2 W → W.cell? ⟨b1, 0, none⟩ = some (.slice (some ⟨g, off, none⟩) n cap) ∧ W.cell? ⟨b2, 0, none⟩ = some (.int .i64 maps) ∧ W.cell? ⟨b3, 0, none⟩ = some (.bool false) ∧ W.cell? ⟨b9, 0, none⟩ = some (.slice (some ⟨g0, 0, none⟩) n n)) := fun W hf => by
    obtain ⟨a1, a2, a3⟩ := HBa.out W (HFB.out.trans hf)
    exact ⟨a1, a2, a3, HB9.out _ hf⟩
  have HM : Hid (∀ W, Fr No W2 W → MarksAt W g0 n (starts l)) := fun W hf => BoolsAt.fr HM0.out hf
  have HIN : Hid (∀ W, Fr No W2 W → InsAt W (.slice (some ⟨g, off, none⟩) n cap) l) := fun W hf => HIN0.out.fr ((HFA.out.trans HFB.out).trans hf)
  have HFW0 : Hid (Fr No w W2) := HFA.out.trans HFB.out
  clear HBa HFA x1 x2 x3 HFB HM0 HB9 HFI
  go_wp2_with fail
  go_loopw [34] (fun i wr => (i = .int .i64 0 ∨ (i = .int .i64 1 ∧ Hid (∀ p ∈ starts l, fieldM l p maps false = 0)) ∨ (i = .int .i64 2 ∧ Hid (∀ p ∈ starts l, fieldM l p maps false = 0) ∧ Hid (∀ p ∈ starts l, wayM l (fun k => (starts l).contains k) p = 0))) ∧ Hid (Fr No W2 wr)) (fun i _ => 2 - (intOf i).toNat)
  case atStart => exact ⟨.inl rfl, Fr.refl _ _⟩
  case round =>
    obtain ⟨hi, HFW⟩ := hrel
    obtain ⟨x3, x4, x5, x9⟩ := HBX.out _ HFW.out
    have A0 := fun W => arr2_0 (.func (.func 52) #[] #[.pointer (some ⟨b1, 0, none⟩), .pointer (some ⟨b2, 0, none⟩), .pointer (some ⟨b3, 0, none⟩)]) (.func (.func 54) #[] #[.pointer (some ⟨b1, 0, none⟩), .pointer (some ⟨b9, 0, none⟩)]) W
    have A1 := fun W => arr2_1 (.func (.func 52) #[] #[.pointer (some ⟨b1, 0, none⟩), .pointer (some ⟨b2, 0, none⟩), .pointer (some ⟨b3, 0, none⟩)]) (.func (.func 54) #[] #[.pointer (some ⟨b1, 0, none⟩), .pointer (some ⟨b9, 0, none⟩)]) W
    rcases hi with rfl | ⟨rfl, HA1⟩ | ⟨rfl, HA1, HA2⟩
    · go_wp2_with fail
      go_loopw [39] (fun i wr => ∃ pc : Nat, i = .int .i64 pc ∧ pc ≤ n ∧ Hid (∀ p ∈ starts l, p < pc → fieldM l p maps false = 0) ∧ Hid (Fr No W2 wr)) (fun i _ => n - (intOf i).toNat)
      case atStart => exact ⟨0, rfl, Nat.zero_le _, fun p _ h => absurd h (Nat.not_lt_zero _), HFW.out⟩
      case round =>
        obtain ⟨pc, rfl, hpc, HZ, HF⟩ := hrel
        by_cases hlt : pc < n
        · have p1 : (pc : Int) < (n : Int) := by omega
          have p2 : (0 : Int) ≤ (pc : Int) := by omega
          have b0 : wr.cell? ⟨g0, pc, none⟩ = some (.bool ((starts l).contains pc)) := (HM.out _ HF.out pc hlt).1
          obtain ⟨x3, x4, x5, x9⟩ := HBX.out _ HF.out
          obtain ⟨fb, hfb⟩ : ∃ fb, (starts l).contains pc = fb := ⟨_, rfl⟩
          rw [hfb] at b0
          have HFB := Lib.hid hfb
          have HLT := Lib.hid hlt
          clear hfb hlt
          cases fb with
          | false =>
            go_wp2_with fail
            go_roundw
            case rel =>
              refine ⟨pc + 1, by go_num, by have := HLT.out; omega, fun p hp hlt => ?_, HF.out⟩
              by_cases e : p = pc
              · subst e
                have h1 := HFB.out
                rw [List.contains_iff_mem.2 hp] at h1
                cases h1
              · exact HZ.out p hp (by omega)
            case measure => (have := HLT.out; simp [intOf] <;> omega)
          | true =>
            have HPCIN : Hid (pc ∈ starts l) := List.contains_iff_mem.1 HFB.out
            obtain ⟨er, her⟩ : ∃ er, fieldM l pc maps false = er := ⟨_, rfl⟩
            have HC : Hid (Calls Tryz.prog 52 #[.int .i64 pc, .pointer (some ⟨b1, 0, none⟩), .pointer (some ⟨b2, 0, none⟩), .pointer (some ⟨b3, 0, none⟩)] wr fun e w' => e = .returned (.int .i64 er) ∧ Fr No wr w') := her ▸ check1_any l _ b1 b2 b3 maps pc wr (HIN.out _ HF.out) HOK.out HL.out (by rw [HNN.out]; exact HLT.out) (HBX.out _ HF.out).1 (HBX.out _ HF.out).2.1 (HBX.out _ HF.out).2.2.1
            have HER := Lib.hid her
            clear her
            by_cases her : er = 0
            · have q1 : (er != 0) = false := by simpa using her
              have HE0 := Lib.hid her
              clear her
              go_wp2_with (first | (go_at_call 52; (with_reducible refine (HC.out).mono ?_); rintro e w9 ⟨rfl, hf9⟩; have HF9 := Lib.hid (HF.out.trans hf9)))
              go_roundw
              case rel =>
                refine ⟨pc + 1, by go_num, by have := HLT.out; omega, fun p hp hlt => ?_, HF9.out⟩
                by_cases e : p = pc
                · subst e; rw [HER.out]; exact HE0.out
                · exact HZ.out p hp (by omega)
              case measure => (have := HLT.out; simp [intOf] <;> omega)
            · have q1 : (er != 0) = true := by simpa using her
              have HE0 := Lib.hid her
              clear her
              go_wp2_with (first | (go_at_call 52; (with_reducible refine (HC.out).mono ?_); rintro e w9 ⟨rfl, hf9⟩; have HF9 := Lib.hid (HF.out.trans hf9)))
              go_ret2
              refine fin.out _ _ _ (HFW0.out.trans HF9.out) ?_
              rw [check_field HLEN.out (firstBad_at HPCIN.out (by show fieldM l pc maps false ≠ 0; rw [HER.out]; exact HE0.out) HZ.out)]; rw [HER.out]
        · obtain rfl : pc = n := by omega
          have HALL : Hid (∀ p ∈ starts l, fieldM l p maps false = 0) := fun p hp => HZ.out p hp (by have := starts_lt hp; rw [HNN.out] at this; exact this)
          go_wp2_with fail
          go_roundw
          case rel => exact ⟨.inr (.inl ⟨by go_num, HALL⟩), HF.out⟩
          case measure => simp [intOf]
    · go_wp2_with fail
      go_loopw [39] (fun i wr => ∃ pc : Nat, i = .int .i64 pc ∧ pc ≤ n ∧ Hid (∀ p ∈ starts l, p < pc → wayM l (fun k => (starts l).contains k) p = 0) ∧ Hid (Fr No W2 wr)) (fun i _ => n - (intOf i).toNat)
      case atStart => exact ⟨0, rfl, Nat.zero_le _, fun p _ h => absurd h (Nat.not_lt_zero _), HFW.out⟩
      case round =>
        obtain ⟨pc, rfl, hpc, HZ, HF⟩ := hrel
        by_cases hlt : pc < n
        · have p1 : (pc : Int) < (n : Int) := by omega
          have p2 : (0 : Int) ≤ (pc : Int) := by omega
          have b0 : wr.cell? ⟨g0, pc, none⟩ = some (.bool ((starts l).contains pc)) := (HM.out _ HF.out pc hlt).1
          obtain ⟨x3, x4, x5, x9⟩ := HBX.out _ HF.out
          obtain ⟨fb, hfb⟩ : ∃ fb, (starts l).contains pc = fb := ⟨_, rfl⟩
          rw [hfb] at b0
          have HFB := Lib.hid hfb
          have HLT := Lib.hid hlt
          clear hfb hlt
          cases fb with
          | false =>
            go_wp2_with fail
            go_roundw
            case rel =>
              refine ⟨pc + 1, by go_num, by have := HLT.out; omega, fun p hp hlt => ?_, HF.out⟩
              by_cases e : p = pc
              · subst e
                have h1 := HFB.out
                rw [List.contains_iff_mem.2 hp] at h1
                cases h1
              · exact HZ.out p hp (by omega)
            case measure => (have := HLT.out; simp [intOf] <;> omega)
          | true =>
            have HPCIN : Hid (pc ∈ starts l) := List.contains_iff_mem.1 HFB.out
            obtain ⟨er, her⟩ : ∃ er, wayM l (fun k => (starts l).contains k) pc = er := ⟨_, rfl⟩
            have HC : Hid (Calls Tryz.prog 54 #[.int .i64 pc, .pointer (some ⟨b1, 0, none⟩), .pointer (some ⟨b9, 0, none⟩)] wr fun e w' => e = .returned (.int .i64 er) ∧ Fr No wr w') := her ▸ check2_any l _ b1 b9 g0 (starts l) pc wr (HIN.out _ HF.out) (by rw [HNN.out]; exact HM.out _ HF.out) HOK.out HL.out (by rw [HNN.out]; exact HLT.out) (HBX.out _ HF.out).1 (by rw [HNN.out]; exact (HBX.out _ HF.out).2.2.2)
            have HER := Lib.hid her
            clear her
            by_cases her : er = 0
            · have q1 : (er != 0) = false := by simpa using her
              have HE0 := Lib.hid her
              clear her
              go_wp2_with (first | (go_at_call 54; (with_reducible refine (HC.out).mono ?_); rintro e w9 ⟨rfl, hf9⟩; have HF9 := Lib.hid (HF.out.trans hf9)))
              go_roundw
              case rel =>
                refine ⟨pc + 1, by go_num, by have := HLT.out; omega, fun p hp hlt => ?_, HF9.out⟩
                by_cases e : p = pc
                · subst e; rw [HER.out]; exact HE0.out
                · exact HZ.out p hp (by omega)
              case measure => (have := HLT.out; simp [intOf] <;> omega)
            · have q1 : (er != 0) = true := by simpa using her
              have HE0 := Lib.hid her
              clear her
              go_wp2_with (first | (go_at_call 54; (with_reducible refine (HC.out).mono ?_); rintro e w9 ⟨rfl, hf9⟩; have HF9 := Lib.hid (HF.out.trans hf9)))
              go_ret2
              refine fin.out _ _ _ (HFW0.out.trans HF9.out) ?_
              rw [check_way HLEN.out (firstBad_nil HA1.out) (firstBad_at HPCIN.out (by rw [HER.out]; exact HE0.out) HZ.out)]; rw [HER.out]
        · obtain rfl : pc = n := by omega
          have HALL : Hid (∀ p ∈ starts l, wayM l (fun k => (starts l).contains k) p = 0) := fun p hp => HZ.out p hp (by have := starts_lt hp; rw [HNN.out] at this; exact this)
          go_wp2_with fail
          go_roundw
          case rel => exact ⟨.inr (.inr ⟨by go_num, HA1.out, HALL⟩), HF.out⟩
          case measure => simp [intOf]
    · have hmk := fun W => make_bools n (by omega) W
      have e1 : ∀ (w : World) o, (w.alloc o).heap.size = w.heap.size + 1 := fun w o => Array.size_push _
      have s1 : (((wr.alloc (.cells (Array.replicate n (.bool false)) 4)).alloc (.cells #[.slice (some ⟨wr.heap.size, 0, none⟩) n n] 87)).alloc (.cells #[.nilFunc] 103)).cell? ⟨wr.heap.size + 1 + 1, 0, none⟩ = some .nilFunc := by
        have := CellsAt.new ((wr.alloc (.cells (Array.replicate n (.bool false)) 4)).alloc (.cells #[.slice (some ⟨wr.heap.size, 0, none⟩) n n] 87)) [.nilFunc] 103 0 _ rfl
        rw [e1, e1] at this
        exact this
      have s2 : (((wr.alloc (.cells (Array.replicate n (.bool false)) 4)).alloc (.cells #[.slice (some ⟨wr.heap.size, 0, none⟩) n n] 87)).alloc (.cells #[.nilFunc] 103)).frozen? ⟨wr.heap.size + 1 + 1, 0, none⟩ = false := by
        have := World.frozen?_alloc_new ((wr.alloc (.cells (Array.replicate n (.bool false)) 4)).alloc (.cells #[.slice (some ⟨wr.heap.size, 0, none⟩) n n] 87)) #[.nilFunc] 103 0
        rw [e1, e1] at this
        exact this
      clear e1
      go_upto_region 22 with fail
      have HSV : Hid (SV l g off cap (wr.heap.size + 1) b1 (wr.heap.size + 1 + 1) wr.heap.size (visitF (wr.heap.size + 1) b1 (wr.heap.size + 1 + 1)) (((wr.alloc (.cells (Array.replicate n (.bool false)) 4)).alloc (.cells #[.slice (some ⟨wr.heap.size, 0, none⟩) n n] 87)).alloc (.cells #[.func (.func 56) #[] #[.pointer (some ⟨wr.heap.size + 1, 0, none⟩), .pointer (some ⟨b1, 0, none⟩), .pointer (some ⟨wr.heap.size + 1 + 1, 0, none⟩)]] 103)) (List.replicate n false)) := by
        refine sv_start HNN.out (HBX.out _ HFW.out).1 (HCL.out _ (HFW0.out.trans HFW.out)) (by have := HN1.out; omega)
      have HF3 : Hid (Fr No wr (((wr.alloc (.cells (Array.replicate n (.bool false)) 4)).alloc (.cells #[.slice (some ⟨wr.heap.size, 0, none⟩) n n] 87)).alloc (.cells #[.func (.func 56) #[] #[.pointer (some ⟨wr.heap.size + 1, 0, none⟩), .pointer (some ⟨b1, 0, none⟩), .pointer (some ⟨wr.heap.size + 1 + 1, 0, none⟩)]] 103))) := ((Fr.refl _ _).alloc _).alloc _ |>.alloc _
      have HG0 : Hid (g0 < wr.heap.size) := Nat.lt_of_lt_of_le HGL.out HFW.out.size
      have HB9L : Hid (b9 < wr.heap.size) := World.block_lt_of_cell? wr _ (HBX.out _ HFW.out).2.2.2
      have HGE : Hid (w.heap.size ≤ wr.heap.size) := (HFW0.out.trans HFW.out).size
      clear s1 s2 hmk x3 x4 x5 x9 A0 A1
      generalize (((wr.alloc (.cells (Array.replicate n (.bool false)) 4)).alloc (.cells #[.slice (some ⟨wr.heap.size, 0, none⟩) n n] 87)).alloc (.cells #[.func (.func 56) #[] #[.pointer (some ⟨wr.heap.size + 1, 0, none⟩), .pointer (some ⟨b1, 0, none⟩), .pointer (some ⟨wr.heap.size + 1 + 1, 0, none⟩)]] 103)) = W3 at *
      generalize wr.heap.size + 1 + 1 = b15 at *
      generalize wr.heap.size + 1 = b14 at *
      generalize wr.heap.size = gs at *
      have c3 : W3.cell? ⟨b15, 0, none⟩ = some (.func (.func 56) #[] #[.pointer (some ⟨b14, 0, none⟩), .pointer (some ⟨b1, 0, none⟩), .pointer (some ⟨b15, 0, none⟩)]) := HSV.out.c3
      have HVC : Hid (Calls Tryz.prog 56 #[.int .i64 0, .pointer (some ⟨b14, 0, none⟩), .pointer (some ⟨b1, 0, none⟩), .pointer (some ⟨b15, 0, none⟩)] W3 (VisTo l g off cap b14 b1 b15 gs (visitF b14 b1 b15) W3 (seenM l))) := by
        have := visit_any l g off cap b14 b1 b15 gs HOK.out HL.out HA2.out (n + 1) (List.replicate n false) 0 W3 (by unfold unseen; rw [List.countP_replicate]; simp) (starts_zero (by rw [HNN.out]; have := HN1.out; omega)) HSV.out
        unfold seenM
        rw [HNN.out]
        exact this
      go_upto_region 23 with (go_at_call 56; (with_reducible refine (HVC.out).mono ?_); rintro e w5 ⟨rfl, hsv5, hf5⟩; have HS5 := Lib.hid hsv5; have HF5 := Lib.hid hf5; clear hsv5 hf5)
      have HFX : Hid (Fr No w w5) := ((((HFW0.out.trans HFW.out).trans HF3.out).any.trans (HF5.out.mono (fun k _ hk => by rw [show k = gs from hk]; exact HGE.out))) : Fr (From w) w w5).ours
      have HM5 : Hid (∀ k, k < n → w5.cell? ⟨g0, k, none⟩ = some (.bool ((starts l).contains k))) := fun k hk => HF5.out.cell (HM.out _ (HFW.out.trans HF3.out) k hk).1 (fun e => by have h := HG0.out; have e : g0 = gs := e; omega)
      have HB5 : Hid (w5.cell? ⟨b9, 0, none⟩ = some (.slice (some ⟨g0, 0, none⟩) n n)) := HF5.out.cell (HBX.out _ (HFW.out.trans HF3.out)).2.2.2 (fun e => by have h := HB9L.out; have e : b9 = gs := e; omega)
      have y1 := HS5.out.c1
      have y2 := HS5.out.c2
      have y9 := HB5.out
      rw [HNN.out] at y1 y2
      have HY : Hid (∀ W, Fr No w5 W → W.cell? ⟨b14, 0, none⟩ = some (.slice (some ⟨gs, 0, none⟩) n n) ∧ W.cell? ⟨b9, 0, none⟩ = some (.slice (some ⟨g0, 0, none⟩) n n)) := fun W hf => by
        have h1 := HS5.out.c1
        rw [HNN.out] at h1
        exact ⟨hf.cell h1 id, hf.cell HB5.out id⟩
      go_wp2_with fail
      go_loopw [64] (fun i wl => ∃ pc : Nat, i = .int .i64 pc ∧ pc ≤ n ∧ Hid (∀ p ∈ starts l, p < pc → (if (seenM l).getD p true then (0 : Int) else 42) = 0) ∧ Hid (Fr No w5 wl)) (fun i _ => n - (intOf i).toNat)
      case atStart => exact ⟨0, rfl, Nat.zero_le _, fun p _ h => absurd h (Nat.not_lt_zero _), Fr.refl _ _⟩
      case round =>
        obtain ⟨pc, rfl, hpc, HZ, HF⟩ := hrel
        by_cases hlt : pc < n
        · have p1 : (pc : Int) < (n : Int) := by omega
          have p2 : (0 : Int) ≤ (pc : Int) := by omega
          have b0 := HF.out.cell (HM5.out pc hlt) id
          obtain ⟨z1, z2⟩ := HY.out _ HF.out
          have b5 : wr.cell? ⟨gs, pc, none⟩ = some (.bool ((seenM l).getD pc true)) := HF.out.cell (HS5.out.seen pc (by rw [HS5.out.len, HNN.out]; exact hlt)).1 id
          obtain ⟨fb, hfb⟩ : ∃ fb, (starts l).contains pc = fb := ⟨_, rfl⟩
          rw [hfb] at b0
          obtain ⟨sb, hsb⟩ : ∃ sb, (seenM l).getD pc true = sb := ⟨_, rfl⟩
          rw [hsb] at b5
          have HFB := Lib.hid hfb
          have HSB := Lib.hid hsb
          have HLT := Lib.hid hlt
          clear hfb hsb hlt
          cases fb with
          | false =>
            go_wp2_with fail
            go_roundw
            case rel =>
              refine ⟨pc + 1, by go_num, by have := HLT.out; omega, fun p hp hlt => ?_, HF.out⟩
              by_cases e : p = pc
              · subst e
                have h1 := HFB.out
                rw [List.contains_iff_mem.2 hp] at h1
                cases h1
              · exact HZ.out p hp (by omega)
            case measure => (have := HLT.out; simp [intOf] <;> omega)
          | true =>
            have HPCIN : Hid (pc ∈ starts l) := List.contains_iff_mem.1 HFB.out
            cases sb with
            | true =>
              go_wp2_with fail
              go_roundw
              case rel =>
                refine ⟨pc + 1, by go_num, by have := HLT.out; omega, fun p hp hlt => ?_, HF.out⟩
                by_cases e : p = pc
                · subst e; rw [HSB.out]; rfl
                · exact HZ.out p hp (by omega)
              case measure => (have := HLT.out; simp [intOf] <;> omega)
            | false =>
              go_wp2_with fail
              go_ret2
              refine fin.out pc 42 _ (HFX.out.trans HF.out) ?_
              have hb := firstBad_at (f := fun pc => if (seenM l).getD pc true then (0 : Int) else 42) HPCIN.out (by show (if (seenM l).getD pc true then (0 : Int) else 42) ≠ 0; rw [HSB.out]; decide) HZ.out
              rw [check_seen HLEN.out (firstBad_nil HA1.out) (firstBad_nil HA2.out) hb]
              show (pc, if (seenM l).getD pc true then (0 : Int) else 42) = _
              rw [HSB.out]; rfl
        · obtain rfl : pc = n := by omega
          have HALL : Hid (∀ p ∈ starts l, (if (seenM l).getD p true then (0 : Int) else 42) = 0) := fun p hp => HZ.out p hp (by have := starts_lt hp; rw [HNN.out] at this; exact this)
          go_wp2_with fail
          go_ret2
          exact fin.out 0 0 _ (HFX.out.trans HF.out) (check_ok HLEN.out (firstBad_nil HA1.out) (firstBad_nil HA2.out) (firstBad_nil HALL.out))
end Go.Proofs.YtakcdecljfmckaaGreatDoor
