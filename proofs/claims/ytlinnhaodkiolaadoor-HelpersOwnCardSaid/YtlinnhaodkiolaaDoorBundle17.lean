/- firewalllaw09.HelpersOwn: what is a program's own. -/
import Derived.Test.YtlinnhaodkiolaaDoorBundle16
import Derived.Test.YtlinnhaodkiolaaDoorBundle11
import Derived.Deep.CutBlock
import Derived.Deep.RegionHeld3
import Derived.Deep.DeepCutAuto
namespace Go.Proofs.YtlinnhaodkiolaaDoor
open Go.RowKit

def oD : List MapD := [⟨2, 1, 5, 4⟩]
def oX (x : Int) : Reg := ⟨327680 + x, [115, 101, 99, 114, 101, 116], true⟩
def zl (p : Nat) : List UInt8 := List.replicate p 0

theorem ox_ok (x : Int) (h0 : 0 ≤ x) (h1 : x ≤ 65535) : MoreOk [oX x] := by
  have hb : (oX x).base = 327680 + x := rfl
  have hl : (oX x).len = 6 := rfl
  refine ⟨WF.one (ok_of 6 rfl (by omega) (by omega) (by omega) (by omega)), fun r hr => ?_, fun r hr => ?_, by simp⟩
  · rw [List.mem_singleton.1 hr]; omega
  · rw [List.mem_singleton.1 hr]; omega

theorem ownB_iff (a n : Int) (r : Reg) (b l : Int) (hb : r.base = b) (hl : r.len = l) : ownB a n r = true ↔ b ≤ a ∧ a - b < l ∧ n ≤ l - (a - b) := by
  unfold ownB
  rw [decide_eq_true_iff, hb, hl]

theorem own_any (p : Nat) (a n : Int) : (ownL p 0 (zl p) oD).any (ownB a n) = true ↔
    (65536 ≤ a ∧ a - 65536 < 16 ∧ n ≤ 16 - (a - 65536)) ∨ (65552 ≤ a ∧ a - 65552 < 8 ∧ n ≤ 8 - (a - 65552)) ∨ (131072 ≤ a ∧ a - 131072 < 512 ∧ n ≤ 512 - (a - 131072)) ∨ (196608 ≤ a ∧ a - 196608 < p ∧ n ≤ p - (a - 196608)) ∨ (1048576 ≤ a ∧ a - 1048576 < 20 ∧ n ≤ 20 - (a - 1048576)) := by
  have l3 : (ownR3 (zl p)).len = p := by show (((List.replicate p (0 : UInt8)).length : Nat) : Int) = p; simp
  have hm : mregs oD = [⟨1048576, List.replicate 20 0, true⟩] := rfl
  have i0 := ownB_iff a n (ownR0 p) 65536 16 rfl (len0 p)
  have i1 := ownB_iff a n (ownR1 0) 65552 8 rfl (len1 0)
  have i2 := ownB_iff a n ownR2 131072 512 rfl len2
  have i3 := ownB_iff a n (ownR3 (zl p)) 196608 p rfl l3
  have i4 := ownB_iff a n ⟨1048576, List.replicate 20 0, true⟩ 1048576 20 rfl rfl
  unfold ownL presL
  rw [hm]
  by_cases h : (ownR3 (zl p)).data = []
  · have hp : p = 0 := by
      have : (zl p).length = 0 := by rw [show zl p = [] from h]; rfl
      simpa [zl] using this
    rw [if_pos h]
    simp only [List.any_append, List.any_cons, List.any_nil, Bool.or_false, Bool.or_eq_true, i0, i1, i2, i4]
    constructor
    · rintro ((h | h | h) | h) <;> omega
    · rintro (h | h | h | h | h) <;> omega
  · rw [if_neg h]
    simp only [List.any_append, List.any_cons, List.any_nil, Bool.or_false, Bool.or_eq_true, i0, i1, i2, i3, i4]
    constructor
    · rintro ((h | h | h | h) | h) <;> omega
    · rintro (h | h | h | h | h) <;> omega

def baseN (i : Nat) : Int := if i = 0 then 65536 else if i = 1 then 65552 else if i = 2 then 131072 else if i = 3 then 196608 else 1048576
def manyN (p i : Nat) : Int := if i = 0 then 16 else if i = 1 then 8 else if i = 2 then 512 else if i = 3 then p else 20

theorem own_law (p i : Nat) (k n : Int) (hp : p ≤ 200) (hn : 1 ≤ n ∧ n ≤ 16) (hi : i < 5) (hk : -1 ≤ k ∧ k ≤ manyN p i) :
    (decide (0 < n) && (ownL p 0 (zl p) oD).any (ownB (baseN i + (k + 1) - 1) n)) =
      ((decide (k ≥ 0) && decide (k + n ≤ manyN p i)) || ((((i : Int) == 1) && (k == -1) && (n == 1)) || (((i : Int) == 0) && (k == 16) && decide (n ≤ 8)))) := by
  rw [Bool.eq_iff_iff]
  simp only [Bool.and_eq_true, Bool.or_eq_true, own_any, decide_eq_true_eq, beq_iff_eq]
  unfold manyN at hk ⊢
  unfold baseN
  match i, hi with
  | 0, _ => simp only [if_true] at hk ⊢; omega
  | 1, _ => simp only [if_true, show ((1 : Nat) = 0) = False by simp, if_false] at hk ⊢; omega
  | 2, _ => simp at hk ⊢; omega
  | 3, _ => simp at hk ⊢; omega
  | 4, _ => simp at hk ⊢; omega

/-- the string of the zeros in block g -/
theorem str_zat (n g : Nat) (W : World) (h : CellsAt W g 0 (u8s (List.replicate n 0))) : (convert 35 9 (.slice (some ⟨g, 0, none⟩) n n)).run Tryd.prog W.drew = .ok (.string (zs n)) W.drew := by
  have h := str_at (w := W.drew) (g := g) (f := 0) (bs := List.replicate n 0) h n
  rw [List.length_replicate] at h
  exact h

theorem str_z1 (n : Nat) (W : World) : (convert 35 9 (.slice (some ⟨W.heap.size, 0, none⟩) n n)).run Tryd.prog (W.alloc (.cells (zcells n) 5)).drew = .ok (.string (zs n)) (W.alloc (.cells (zcells n) 5)).drew :=
  str_zat n _ _ (CellsAt.new _ _ _)
theorem str_z2 (n : Nat) (W : World) (o : Obj) : (convert 35 9 (.slice (some ⟨W.heap.size, 0, none⟩) n n)).run Tryd.prog ((W.alloc (.cells (zcells n) 5)).alloc o).drew = .ok (.string (zs n)) ((W.alloc (.cells (zcells n) 5)).alloc o).drew :=
  str_zat n _ _ (((Fr.refl No _).alloc o).cells (CellsAt.new _ _ _) id)
theorem str_z3 (n : Nat) (W : World) (o : Obj) : (convert 35 9 (.slice (some ⟨W.heap.size + 1, 0, none⟩) n n)).run Tryd.prog ((W.alloc o).alloc (.cells (zcells n) 5)).drew = .ok (.string (zs n)) ((W.alloc o).alloc (.cells (zcells n) 5)).drew :=
  str_zat n _ _ (by have := CellsAt.new (W.alloc o) (u8s (List.replicate n 0)) 5; rwa [World.size_alloc] at this)

/-- the world that HelpersOwn makes -/
def OwnAt (w0 : World) (bw p : Nat) (x : Int) (wr : World) : Prop := ∃ W1, Fr No w0 W1 ∧ ∃ b mb A H T mv ov dv, WAt W1 bw b mb oD p (ownL p 0 (zl p) oD) [] (oD.map Tab.new) (memL p 0 (zl p) oD [oX x]) A H T mv ov dv wr

theorem OwnAt.to {w0 wr w' : World} {bw p : Nat} {x : Int} (h : OwnAt w0 bw p x wr) (hf : Fr No wr w') : OwnAt w0 bw p x w' := by
  obtain ⟨W1, f1, b, mb, A, H, T, mv, ov, dv, h⟩ := h
  exact ⟨W1, f1, b, mb, A, H, T, mv, ov, dv, h.to hf⟩
theorem OwnAt.fr {w0 wr : World} {bw p : Nat} {x : Int} (h : OwnAt w0 bw p x wr) : Fr No w0 wr := by
  obtain ⟨W1, f1, b, mb, A, H, T, mv, ov, dv, h⟩ := h
  exact f1.trans h.k.fr

theorem OwnAt.new (p : Nat) (x : Int) (hp : p ≤ 200) (h0 : 0 ≤ x) (h1 : x ≤ 65535) (gm gx : Nat) (w0 W : World) (hf : Fr No w0 W) (hm : CellsAt W gm 0 (mflat oD))
    (c0 : W.cell? ⟨gx, 0, none⟩ = some (.int .u64 (327680 + x))) (c1 : W.cell? ⟨gx, 1, none⟩ = some (.string ⟨#[115, 101, 99, 114, 101, 116]⟩)) (c2 : W.cell? ⟨gx, 2, none⟩ = some (.bool true)) :
    Calls Tryd.prog 6 #[.agg #[.slice (some ⟨gm, 0, none⟩) 1 1, .int .i64 p], .agg #[.string (zs p), .int .u64 0, .slice none 0 0, .slice none 0 0], .slice (some ⟨gx, 0, none⟩) 1 1] W fun e w' => ∃ bw, e = .returned (.tuple #[.pointer (some ⟨bw, 0, none⟩), .int .i64 0]) ∧ Hid (OwnAt w0 bw p x w') := by
  refine (hnew_made (zl p) (zs p) p 0 _ _ _ oD W rfl (by simp [zl]) (.inr ⟨gm, 0, 1, rfl, hm⟩) (by decide +kernel) [oX x] 1 1 (some ⟨gx, 0, none⟩) (.inr ⟨⟨gx, 0, none⟩, 1, rfl, ?_⟩) rfl rfl (ox_ok x h0 h1) [] (.inl ⟨rfl, none, 0, rfl⟩) (by simp) hp (by decide)).mono ?_
  · intro j v hj
    have e : aflat [oX x] = [.int .u64 (327680 + x), .string ⟨#[115, 101, 99, 114, 101, 116]⟩, .bool true] := rfl
    rw [e] at hj
    match j, hj with
    | 0, hj => cases hj; exact c0
    | 1, hj => cases hj; rw [Addr.add_lit]; exact c1
    | 2, hj => cases hj; rw [Addr.add_lit]; exact c2
    | j + 3, hj => simp at hj
  · rintro e w' ⟨bw, b, mb, A, H, T, mv, ov, dv, he, h, _⟩
    exact ⟨bw, he, W, hf, b, mb, A, H, T, mv, ov, dv, h.out⟩

theorem OwnAt.owns {w0 wr : World} {bw p : Nat} {x : Int} (h : OwnAt w0 bw p x wr) (a n : Int) (t : Bool) (ha : 0 ≤ a ∧ a < 18446744073709551616) (hn : n ≤ 9223372036854775807) (ht : (decide (0 < n) && (ownL p 0 (zl p) oD).any (ownB a n)) = t) :
    Calls Tryd.prog 9 #[.pointer (some ⟨bw, 0, none⟩), .int .u64 a, .int .i64 n] wr fun e w' => e = .returned (.bool t) ∧ Fr No wr w' := by
  obtain ⟨W1, f1, b, mb, A, H, T, mv, ov, dv, h⟩ := h
  have := howns_any h (by have := (presL_len (ownR0 p) (ownR1 0) ownR2 (ownR3 (zl p))).2; unfold ownL; rw [List.length_append, mregs_length]; simp [oD]; omega) a n ha hn
  rwa [ht] at this

theorem OwnAt.memory {w0 wr : World} {bw p : Nat} {x : Int} (h : OwnAt w0 bw p x wr) : ∃ mb T, wr.cell? ⟨bw, 0, none⟩ = some (.bool true) ∧ wr.cell? ⟨bw, 4, none⟩ = some (.pointer (some ⟨mb, 0, none⟩)) ∧ MemAt wr mb (memL p 0 (zl p) oD [oX x]) T := by
  obtain ⟨W1, f1, b, mb, A, H, T, mv, ov, dv, h⟩ := h
  exact ⟨mb, T, h.c0, h.c4, h.k.mem⟩

theorem RegsAt.formL {w : World} {v : Value} {l : List Reg} {n : Nat} (h : RegsAt w v l) (hn : l.length = n) : ∃ a c, v = .slice a n c := by
  subst hn
  rcases h.2 with ⟨h0, a, c, rfl⟩ | ⟨g, off, cap, rfl, _⟩
  · subst h0; exact ⟨a, c, rfl⟩
  · exact ⟨_, _, rfl⟩

/-- where the loops stand -/
def OwnL (w0 : World) (bw p : Nat) (x : Int) (bb bm : Nat) (wr : World) : Prop := OwnAt w0 bw p x wr ∧ (∀ i, i < 5 → wr.cell? ⟨bb, i, none⟩ = some (.int .u64 (baseN i)) ∧ wr.cell? ⟨bm, i, none⟩ = some (.int .i64 (manyN p i)))
theorem OwnL.to {w0 wr w' : World} {bw p bb bm : Nat} {x : Int} (h : OwnL w0 bw p x bb bm wr) (hf : Fr No wr w') : OwnL w0 bw p x bb bm w' :=
  ⟨h.1.to hf, fun i hi => ⟨hf.cell (h.2 i hi).1 id, hf.cell (h.2 i hi).2 id⟩⟩
theorem OwnL.start {w0 wr : World} {bw p : Nat} {x : Int} (h : OwnAt w0 bw p x wr) : OwnL w0 bw p x wr.heap.size (wr.heap.size + 1) ((wr.alloc (.cells #[.int .u64 65536, .int .u64 65552, .int .u64 131072, .int .u64 196608, .int .u64 1048576] 44)).alloc (.cells #[.int .i64 16, .int .i64 8, .int .i64 512, .int .i64 p, .int .i64 20] 45)) := by
  refine ⟨h.to (((Fr.refl _ _).alloc _).alloc _), fun i hi => ⟨?_, ?_⟩⟩
  · have c := ((Fr.refl No _).alloc (.cells #[.int .i64 16, .int .i64 8, .int .i64 512, .int .i64 p, .int .i64 20] 45)).cells (CellsAt.new wr [.int .u64 65536, .int .u64 65552, .int .u64 131072, .int .u64 196608, .int .u64 1048576] 44) id
    have := c i (.int .u64 (baseN i)) (by match i, hi with | 0, _ => rfl | 1, _ => rfl | 2, _ => rfl | 3, _ => rfl | 4, _ => rfl)
    rwa [Nat.zero_add] at this
  · have c := CellsAt.new (wr.alloc (.cells #[.int .u64 65536, .int .u64 65552, .int .u64 131072, .int .u64 196608, .int .u64 1048576] 44)) [.int .i64 16, .int .i64 8, .int .i64 512, .int .i64 p, .int .i64 20] 45
    have := c i (.int .i64 (manyN p i)) (by match i, hi with | 0, _ => rfl | 1, _ => rfl | 2, _ => rfl | 3, _ => rfl | 4, _ => rfl)
    rwa [Nat.zero_add, World.size_alloc] at this
theorem many_le (p i : Nat) (hp : p ≤ 200) : 0 ≤ manyN p i ∧ manyN p i ≤ 512 := by unfold manyN; split <;> (try split) <;> (try split) <;> (try split) <;> omega
theorem base_le (i : Nat) : 65536 ≤ baseN i ∧ baseN i ≤ 1048576 := by unfold baseN; split <;> (try split) <;> (try split) <;> (try split) <;> omega

set_option maxRecDepth 100000 in
set_option maxHeartbeats 4000000 in
theorem own_walk (p8 x n8 : Nat) (hp8 : p8 < 256) (hx : x < 65536) (hn8 : n8 < 256) (w : World) (ha : ArgsAt w) :
    Calls Tryd.prog 3 #[.int .u8 p8, .int .u16 x, .int .u8 n8] w fun e w' => e = .returned (.bool true) ∧ Fr No w w' := by
  have HC : Hid (∀ W, Fr No w W → Calls Tryd.prog 10 #[] W fun e w' => e = .returned (.bool true) ∧ Fr No W w') := fun W hW => called_any W (ha.fr hW)
  have e1 : IntKind.i64.wrap (p8 : Int) = p8 := IntWalk.i64_in _ (by omega)
  have e2 : IntKind.i64.wrap (n8 : Int) = n8 := IntWalk.i64_in _ (by omega)
  obtain ⟨p, hp⟩ : ∃ p : Nat, p = p8 % 201 := ⟨_, rfl⟩
  have e3 : (p8 : Int).tmod 201 = p := by rw [Int.tmod_eq_emod_of_nonneg (by omega)]; omega
  have e3' : (p8 : Int) % 201 = p := by omega
  have hp200 : p ≤ 200 := by omega
  obtain ⟨n, hn⟩ : ∃ n : Nat, n = 1 + n8 % 16 := ⟨_, rfl⟩
  have hn16 : 1 ≤ n ∧ n ≤ 16 := by omega
  have e4 : 1 + (n8 : Int) % 16 = n := by omega
  have e5 : IntKind.u64.wrap (x : Int) = x := IntWalk.u64_in _ (by omega)
  have e6 : IntKind.u64.wrap (327680 + (x : Int)) = 327680 + x := IntWalk.u64_in _ (by omega)
  clear hp hn ha
  go_enter Tryd.func3, Tryd.ntmps3
  go_upto_region 4 with fail
  obtain ⟨Wa, hWa⟩ : ∃ Wa, Wa = w.alloc (.cells #[.int .i64 2, .int .i64 1, .int .i64 5, .int .i64 4] 24) := ⟨_, rfl⟩
  have za : Wa.heap.size = w.heap.size + 1 := by rw [hWa]; simp only [World.alloc, Array.size_push]
  have fa : Fr No w Wa := by rw [hWa]; exact (Fr.refl _ _).alloc _
  have ma : CellsAt Wa w.heap.size 0 (mflat oD) := by rw [hWa]; exact CellsAt.new w [.int .i64 2, .int .i64 1, .int .i64 5, .int .i64 4] _
  rw [← hWa]
  obtain ⟨Wb, hWb⟩ : ∃ Wb, Wb = Wa.alloc (.cells #[.slice (some ⟨w.heap.size, 0, none⟩) 1 1, .int .i64 p] 27) := ⟨_, rfl⟩
  have zb : Wb.heap.size = w.heap.size + 1 + 1 := by rw [hWb, ← za]; simp only [World.alloc, Array.size_push]
  have fb : Fr No Wa Wb := by rw [hWb]; exact (Fr.refl _ _).alloc _
  have cb : CellsAt Wb (w.heap.size + 1) 0 [.slice (some ⟨w.heap.size, 0, none⟩) 1 1, .int .i64 p] := by rw [hWb, ← za]; exact CellsAt.new Wa [.slice (some ⟨w.heap.size, 0, none⟩) 1 1, .int .i64 p] _
  rw [← hWb]
  obtain ⟨W0, hW0⟩ : ∃ W0, W0 = Wb.alloc (.cells #[.int .u64 (327680 + (x : Int)), .string ⟨#[115, 101, 99, 114, 101, 116]⟩, .bool true] 30) := ⟨_, rfl⟩
  have fc : Fr No Wb W0 := by rw [hW0]; exact (Fr.refl _ _).alloc _
  have cc : CellsAt W0 (w.heap.size + 1 + 1) 0 [.int .u64 (327680 + (x : Int)), .string ⟨#[115, 101, 99, 114, 101, 116]⟩, .bool true] := by rw [hW0, ← zb]; exact CellsAt.new Wb [.int .u64 (327680 + (x : Int)), .string ⟨#[115, 101, 99, 114, 101, 116]⟩, .bool true] _
  rw [← hW0]
  have HF0 := Lib.hid ((fa.trans fb).trans fc)
  have HM0 := Lib.hid (fc.cells (fb.cells ma id) id)
  have HCB := Lib.hid (fc.cells cb id)
  have HCC := Lib.hid cc
  clear hWa za fa ma hWb zb fb cb hW0 fc cc
  have HC0 : Hid (∀ W, Fr No W0 W → W.cell? ⟨w.heap.size + 1, 0, none⟩ = some (.slice (some ⟨w.heap.size, 0, none⟩) 1 1) ∧ W.cell? ⟨w.heap.size + 1, 1, none⟩ = some (.int .i64 p) ∧ W.cell? ⟨w.heap.size + 1 + 1, 0, none⟩ = some (.int .u64 (327680 + (x : Int))) ∧ W.cell? ⟨w.heap.size + 1 + 1, 1, none⟩ = some (.string ⟨#[115, 101, 99, 114, 101, 116]⟩) ∧ W.cell? ⟨w.heap.size + 1 + 1, 2, none⟩ = some (.bool true) ∧ Hid (Fr No W0 W)) := fun W hW =>
    ⟨hW.cell (HCB.out 0 _ rfl) id, hW.cell (HCB.out 1 _ rfl) id, hW.cell (HCC.out 0 _ rfl) id, hW.cell (HCC.out 1 _ rfl) id, hW.cell (HCC.out 2 _ rfl) id, hW⟩
  have HNW : Hid (∀ W gx, Fr No W0 W → W.cell? ⟨gx, 0, none⟩ = some (.int .u64 (327680 + (x : Int))) → W.cell? ⟨gx, 1, none⟩ = some (.string ⟨#[115, 101, 99, 114, 101, 116]⟩) → W.cell? ⟨gx, 2, none⟩ = some (.bool true) → Calls Tryd.prog 6 #[.agg #[.slice (some ⟨w.heap.size, 0, none⟩) 1 1, .int .i64 p], .agg #[.string (zs p), .int .u64 0, .slice none 0 0, .slice none 0 0], .slice (some ⟨gx, 0, none⟩) 1 1] W fun e w' => ∃ bw, e = .returned (.tuple #[.pointer (some ⟨bw, 0, none⟩), .int .i64 0]) ∧ Hid (OwnAt W0 bw p x w')) := fun W gx hW c0 c1 c2 =>
    OwnAt.new p x hp200 (by omega) (by omega) w.heap.size gx W0 W hW (hW.cells HM0.out id) c0 c1 c2
  go_cut [11, 12] (fun s11 s12 wx => ∃ bw, s11 = .pointer (some ⟨bw, 0, none⟩) ∧ s12 = .int .i64 0 ∧ Hid (OwnAt W0 bw p x wx))
  case first =>
    have hmk := make_z p (by omega)
    have hcv1 := str_z1 p W0
    have hcv2 := str_z2 p W0
    have hcv3 := str_z3 p W0
    obtain ⟨k0, k1, k2, k3, k4, _⟩ := HC0.out W0 (Fr.refl _ _)
    have pl := World.block_lt_of_cell? _ _ k0
    have pl2 := World.block_lt_of_cell? _ _ k2
    have pn := World.new_ne _ _ k0
    have pn2 := World.new_ne _ _ k2
    simp only [] at pl pl2 pn pn2
    refine wp_region_noPanic ?_
    refine wp_region_held_drew (S := fun W => W.cell? ⟨w.heap.size + 1, 0, none⟩ = some (.slice (some ⟨w.heap.size, 0, none⟩) 1 1) ∧ W.cell? ⟨w.heap.size + 1, 1, none⟩ = some (.int .i64 p) ∧ W.cell? ⟨w.heap.size + 1 + 1, 0, none⟩ = some (.int .u64 (327680 + (x : Int))) ∧ W.cell? ⟨w.heap.size + 1 + 1, 1, none⟩ = some (.string ⟨#[115, 101, 99, 114, 101, 116]⟩) ∧ W.cell? ⟨w.heap.size + 1 + 1, 2, none⟩ = some (.bool true) ∧ Hid (Fr No W0 W)) (by kernel_rfl) ?_ (fun hHeld => ?_)
    · exact HC0.out _ ((Fr.refl _ _).drew)
    refine wpAnyH_take (i := 0) (v := ?_) rfl (by kernel_rfl) (by kernel_rfl) (by kernel_rfl) (fun _ _ _ h => h) (Or.inl ⟨by rfl, ?_⟩) (by assumption) ?_
    rotate_left
    focus (intro w hSw; (try dsimp only at hSw); go_simp; try with_reducible rfl)
    ((try simp only [Act.put]); (try simp only [List.setIfInBounds_toArray]); (try simp only [List.set_cons_succ]); (try simp only [List.set_cons_zero]))
    refine wpAnyH_take (i := 1) (v := ?_) rfl (by kernel_rfl) (by kernel_rfl) (by kernel_rfl) (fun _ _ _ h => h) (Or.inl ⟨by rfl, ?_⟩) (by assumption) ?_
    rotate_left
    focus (intro w hSw; (try dsimp only at hSw); go_simp; try with_reducible rfl)
    ((try simp only [Act.put]); (try simp only [List.setIfInBounds_toArray]); (try simp only [List.set_cons_succ]); (try simp only [List.set_cons_zero]))
    refine wpAnyH_take (i := 5) (v := ?_) rfl (by kernel_rfl) (by kernel_rfl) (by kernel_rfl) (fun _ _ _ h => h) (Or.inl ⟨by rfl, ?_⟩) (by assumption) ?_
    rotate_left
    focus (intro w hSw; (try dsimp only at hSw); go_simp; try with_reducible rfl)
    ((try simp only [Act.put]); (try simp only [List.setIfInBounds_toArray]); (try simp only [List.set_cons_succ]); (try simp only [List.set_cons_zero]))
    refine wpAnyH_ready (rs := [2, 6]) (by kernel_rfl) (by simp) ?_
    refine AllReadyH.cons rfl (fun K hK => ?_) (AllReadyH.cons rfl (fun K hK => ?_) AllReadyH.nil)
    · go_simp
      refine hK.out _ _ ?_ (fun hHeld => ?_)
      · first | assumption | exact HC0.out _ (((Fr.refl _ _).alloc _).drew) | exact HC0.out _ ((((Fr.refl _ _).alloc _).alloc _).drew) | exact HC0.out _ (OwnAt.fr (Hid.out (by assumption)))
      clear hK K
      ((try simp only [Act.put]); (try simp only [List.setIfInBounds_toArray]); (try simp only [List.set_cons_succ]); (try simp only [List.set_cons_zero]))
      refine wpAnyH_ready (rs := [3, 6]) (by kernel_rfl) (by simp) ?_
      refine AllReadyH.cons rfl (fun K hK => ?_) (AllReadyH.cons rfl (fun K hK => ?_) AllReadyH.nil)
      · go_simp
        refine hK.out _ _ ?_ (fun hHeld => ?_)
        · first | assumption | exact HC0.out _ (((Fr.refl _ _).alloc _).drew) | exact HC0.out _ ((((Fr.refl _ _).alloc _).alloc _).drew) | exact HC0.out _ (OwnAt.fr (Hid.out (by assumption)))
        clear hK K
        ((try simp only [Act.put]); (try simp only [List.setIfInBounds_toArray]); (try simp only [List.set_cons_succ]); (try simp only [List.set_cons_zero]))
        refine wpAnyH_take (i := 4) (v := ?_) rfl (by kernel_rfl) (by kernel_rfl) (by kernel_rfl) (fun _ _ _ h => h) (Or.inl ⟨by rfl, ?_⟩) (by assumption) ?_
        rotate_left
        focus (intro w hSw; (try dsimp only at hSw); go_simp; try with_reducible rfl)
        ((try simp only [Act.put]); (try simp only [List.setIfInBounds_toArray]); (try simp only [List.set_cons_succ]); (try simp only [List.set_cons_zero]))
        refine wpAnyH_ready (rs := [6]) (by kernel_rfl) (by simp) ?_
        refine AllReadyH.cons rfl (fun K hK => ?_) AllReadyH.nil
        go_simp
        refine hK.out _ _ ?_ (fun hHeld => ?_)
        · first | assumption | exact HC0.out _ (((Fr.refl _ _).alloc _).drew) | exact HC0.out _ ((((Fr.refl _ _).alloc _).alloc _).drew) | exact HC0.out _ (OwnAt.fr (Hid.out (by assumption)))
        clear hK K
        ((try simp only [Act.put]); (try simp only [List.setIfInBounds_toArray]); (try simp only [List.set_cons_succ]); (try simp only [List.set_cons_zero]))
        refine wpAnyH_ready (rs := [7]) (by kernel_rfl) (by simp) ?_
        refine AllReadyH.cons rfl (fun K hK => ?_) AllReadyH.nil
        go_wp2_with (go_at_call 6; (with_reducible refine (HNW.out _ _ (by first | exact (((Fr.refl _ _).alloc _).alloc _).drew | exact (((Fr.refl _ _).drew).alloc _).alloc _) (by go_simp) (by go_simp) (by go_simp)).mono ?_); rintro e w3 ⟨bw, rfl, HQ⟩)
        refine hK.out _ _ ?_ (fun hHeld => ?_)
        · first | assumption | exact HC0.out _ (((Fr.refl _ _).alloc _).drew) | exact HC0.out _ ((((Fr.refl _ _).alloc _).alloc _).drew) | exact HC0.out _ (OwnAt.fr (Hid.out (by assumption)))
        clear hK K
        ((try simp only [Act.put]); (try simp only [List.setIfInBounds_toArray]); (try simp only [List.set_cons_succ]); (try simp only [List.set_cons_zero]))
        refine wpAnyH_take (i := 8) (v := ?_) rfl (by kernel_rfl) (by kernel_rfl) (by kernel_rfl) (fun _ _ _ h => h) (Or.inl ⟨by rfl, ?_⟩) (by assumption) ?_
        rotate_left
        focus (intro w hSw; (try dsimp only at hSw); go_simp; try with_reducible rfl)
        ((try simp only [Act.put]); (try simp only [List.setIfInBounds_toArray]); (try simp only [List.set_cons_succ]); (try simp only [List.set_cons_zero]))
        refine wpAnyH_take (i := 9) (v := ?_) rfl (by kernel_rfl) (by kernel_rfl) (by kernel_rfl) (fun _ _ _ h => h) (Or.inl ⟨by rfl, ?_⟩) (by assumption) ?_
        rotate_left
        focus (intro w hSw; (try dsimp only at hSw); go_simp; try with_reducible rfl)
        ((try simp only [Act.put]); (try simp only [List.setIfInBounds_toArray]); (try simp only [List.set_cons_succ]); (try simp only [List.set_cons_zero]))
        refine wpAnyH_take (i := 10) (v := ?_) rfl (by kernel_rfl) (by kernel_rfl) (by kernel_rfl) (fun _ _ _ h => h) (Or.inl ⟨by rfl, ?_⟩) (by assumption) ?_
        rotate_left
        focus (intro w hSw; (try dsimp only at hSw); go_simp; try with_reducible rfl)
        ((try simp only [Act.put]); (try simp only [List.setIfInBounds_toArray]); (try simp only [List.set_cons_succ]); (try simp only [List.set_cons_zero]))
        refine wpAnyH_ready (rs := [11]) (by kernel_rfl) (by simp) ?_
        refine AllReadyH.cons rfl (fun K hK => ?_) AllReadyH.nil
        go_simp
        refine hK.out _ _ ?_ (fun hHeld => ?_)
        · first | assumption | exact HC0.out _ (((Fr.refl _ _).alloc _).drew) | exact HC0.out _ ((((Fr.refl _ _).alloc _).alloc _).drew) | exact HC0.out _ (OwnAt.fr (Hid.out (by assumption)))
        clear hK K
        ((try simp only [Act.put]); (try simp only [List.setIfInBounds_toArray]); (try simp only [List.set_cons_succ]); (try simp only [List.set_cons_zero]))
        refine wpAnyH_ready (rs := [12]) (by kernel_rfl) (by simp) ?_
        refine AllReadyH.cons rfl (fun K hK => ?_) AllReadyH.nil
        go_simp
        refine hK.out _ _ ?_ (fun hHeld => ?_)
        · first | assumption | exact HC0.out _ (((Fr.refl _ _).alloc _).drew) | exact HC0.out _ ((((Fr.refl _ _).alloc _).alloc _).drew) | exact HC0.out _ (OwnAt.fr (Hid.out (by assumption)))
        clear hK K
        ((try simp only [Act.put]); (try simp only [List.setIfInBounds_toArray]); (try simp only [List.set_cons_succ]); (try simp only [List.set_cons_zero]))
        refine wpAnyH_done (by kernel_rfl) ?_ _
        refine NoPanic.normal ?_
        go_wp2_with fail
        go_meet
        exact ⟨bw, rfl, rfl, HQ.out⟩
      · go_simp
        refine hK.out _ _ ?_ (fun hHeld => ?_)
        · first | assumption | exact HC0.out _ (((Fr.refl _ _).alloc _).drew) | exact HC0.out _ ((((Fr.refl _ _).alloc _).alloc _).drew) | exact HC0.out _ (OwnAt.fr (Hid.out (by assumption)))
        clear hK K
        ((try simp only [Act.put]); (try simp only [List.setIfInBounds_toArray]); (try simp only [List.set_cons_succ]); (try simp only [List.set_cons_zero]))
        refine wpAnyH_ready (rs := [3]) (by kernel_rfl) (by simp) ?_
        refine AllReadyH.cons rfl (fun K hK => ?_) AllReadyH.nil
        go_simp
        refine hK.out _ _ ?_ (fun hHeld => ?_)
        · first | assumption | exact HC0.out _ (((Fr.refl _ _).alloc _).drew) | exact HC0.out _ ((((Fr.refl _ _).alloc _).alloc _).drew) | exact HC0.out _ (OwnAt.fr (Hid.out (by assumption)))
        clear hK K
        ((try simp only [Act.put]); (try simp only [List.setIfInBounds_toArray]); (try simp only [List.set_cons_succ]); (try simp only [List.set_cons_zero]))
        refine wpAnyH_ready (rs := [4]) (by kernel_rfl) (by simp) ?_
        refine AllReadyH.cons rfl (fun K hK => ?_) AllReadyH.nil
        go_simp
        refine hK.out _ _ ?_ (fun hHeld => ?_)
        · first | assumption | exact HC0.out _ (((Fr.refl _ _).alloc _).drew) | exact HC0.out _ ((((Fr.refl _ _).alloc _).alloc _).drew) | exact HC0.out _ (OwnAt.fr (Hid.out (by assumption)))
        clear hK K
        ((try simp only [Act.put]); (try simp only [List.setIfInBounds_toArray]); (try simp only [List.set_cons_succ]); (try simp only [List.set_cons_zero]))
        refine wpAnyH_ready (rs := [7]) (by kernel_rfl) (by simp) ?_
        refine AllReadyH.cons rfl (fun K hK => ?_) AllReadyH.nil
        go_wp2_with (go_at_call 6; (with_reducible refine (HNW.out _ _ (by first | exact (((Fr.refl _ _).alloc _).alloc _).drew | exact (((Fr.refl _ _).drew).alloc _).alloc _) (by go_simp) (by go_simp) (by go_simp)).mono ?_); rintro e w3 ⟨bw, rfl, HQ⟩)
        refine hK.out _ _ ?_ (fun hHeld => ?_)
        · first | assumption | exact HC0.out _ (((Fr.refl _ _).alloc _).drew) | exact HC0.out _ ((((Fr.refl _ _).alloc _).alloc _).drew) | exact HC0.out _ (OwnAt.fr (Hid.out (by assumption)))
        clear hK K
        ((try simp only [Act.put]); (try simp only [List.setIfInBounds_toArray]); (try simp only [List.set_cons_succ]); (try simp only [List.set_cons_zero]))
        refine wpAnyH_take (i := 8) (v := ?_) rfl (by kernel_rfl) (by kernel_rfl) (by kernel_rfl) (fun _ _ _ h => h) (Or.inl ⟨by rfl, ?_⟩) (by assumption) ?_
        rotate_left
        focus (intro w hSw; (try dsimp only at hSw); go_simp; try with_reducible rfl)
        ((try simp only [Act.put]); (try simp only [List.setIfInBounds_toArray]); (try simp only [List.set_cons_succ]); (try simp only [List.set_cons_zero]))
        refine wpAnyH_take (i := 9) (v := ?_) rfl (by kernel_rfl) (by kernel_rfl) (by kernel_rfl) (fun _ _ _ h => h) (Or.inl ⟨by rfl, ?_⟩) (by assumption) ?_
        rotate_left
        focus (intro w hSw; (try dsimp only at hSw); go_simp; try with_reducible rfl)
        ((try simp only [Act.put]); (try simp only [List.setIfInBounds_toArray]); (try simp only [List.set_cons_succ]); (try simp only [List.set_cons_zero]))
        refine wpAnyH_take (i := 10) (v := ?_) rfl (by kernel_rfl) (by kernel_rfl) (by kernel_rfl) (fun _ _ _ h => h) (Or.inl ⟨by rfl, ?_⟩) (by assumption) ?_
        rotate_left
        focus (intro w hSw; (try dsimp only at hSw); go_simp; try with_reducible rfl)
        ((try simp only [Act.put]); (try simp only [List.setIfInBounds_toArray]); (try simp only [List.set_cons_succ]); (try simp only [List.set_cons_zero]))
        refine wpAnyH_ready (rs := [11]) (by kernel_rfl) (by simp) ?_
        refine AllReadyH.cons rfl (fun K hK => ?_) AllReadyH.nil
        go_simp
        refine hK.out _ _ ?_ (fun hHeld => ?_)
        · first | assumption | exact HC0.out _ (((Fr.refl _ _).alloc _).drew) | exact HC0.out _ ((((Fr.refl _ _).alloc _).alloc _).drew) | exact HC0.out _ (OwnAt.fr (Hid.out (by assumption)))
        clear hK K
        ((try simp only [Act.put]); (try simp only [List.setIfInBounds_toArray]); (try simp only [List.set_cons_succ]); (try simp only [List.set_cons_zero]))
        refine wpAnyH_ready (rs := [12]) (by kernel_rfl) (by simp) ?_
        refine AllReadyH.cons rfl (fun K hK => ?_) AllReadyH.nil
        go_simp
        refine hK.out _ _ ?_ (fun hHeld => ?_)
        · first | assumption | exact HC0.out _ (((Fr.refl _ _).alloc _).drew) | exact HC0.out _ ((((Fr.refl _ _).alloc _).alloc _).drew) | exact HC0.out _ (OwnAt.fr (Hid.out (by assumption)))
        clear hK K
        ((try simp only [Act.put]); (try simp only [List.setIfInBounds_toArray]); (try simp only [List.set_cons_succ]); (try simp only [List.set_cons_zero]))
        refine wpAnyH_done (by kernel_rfl) ?_ _
        refine NoPanic.normal ?_
        go_wp2_with fail
        go_meet
        exact ⟨bw, rfl, rfl, HQ.out⟩
    · go_simp
      refine hK.out _ _ ?_ (fun hHeld => ?_)
      · first | assumption | exact HC0.out _ (((Fr.refl _ _).alloc _).drew) | exact HC0.out _ ((((Fr.refl _ _).alloc _).alloc _).drew) | exact HC0.out _ (OwnAt.fr (Hid.out (by assumption)))
      clear hK K
      ((try simp only [Act.put]); (try simp only [List.setIfInBounds_toArray]); (try simp only [List.set_cons_succ]); (try simp only [List.set_cons_zero]))
      refine wpAnyH_ready (rs := [2]) (by kernel_rfl) (by simp) ?_
      refine AllReadyH.cons rfl (fun K hK => ?_) AllReadyH.nil
      go_simp
      refine hK.out _ _ ?_ (fun hHeld => ?_)
      · first | assumption | exact HC0.out _ (((Fr.refl _ _).alloc _).drew) | exact HC0.out _ ((((Fr.refl _ _).alloc _).alloc _).drew) | exact HC0.out _ (OwnAt.fr (Hid.out (by assumption)))
      clear hK K
      ((try simp only [Act.put]); (try simp only [List.setIfInBounds_toArray]); (try simp only [List.set_cons_succ]); (try simp only [List.set_cons_zero]))
      refine wpAnyH_ready (rs := [3]) (by kernel_rfl) (by simp) ?_
      refine AllReadyH.cons rfl (fun K hK => ?_) AllReadyH.nil
      go_simp
      refine hK.out _ _ ?_ (fun hHeld => ?_)
      · first | assumption | exact HC0.out _ (((Fr.refl _ _).alloc _).drew) | exact HC0.out _ ((((Fr.refl _ _).alloc _).alloc _).drew) | exact HC0.out _ (OwnAt.fr (Hid.out (by assumption)))
      clear hK K
      ((try simp only [Act.put]); (try simp only [List.setIfInBounds_toArray]); (try simp only [List.set_cons_succ]); (try simp only [List.set_cons_zero]))
      refine wpAnyH_ready (rs := [4]) (by kernel_rfl) (by simp) ?_
      refine AllReadyH.cons rfl (fun K hK => ?_) AllReadyH.nil
      go_simp
      refine hK.out _ _ ?_ (fun hHeld => ?_)
      · first | assumption | exact HC0.out _ (((Fr.refl _ _).alloc _).drew) | exact HC0.out _ ((((Fr.refl _ _).alloc _).alloc _).drew) | exact HC0.out _ (OwnAt.fr (Hid.out (by assumption)))
      clear hK K
      ((try simp only [Act.put]); (try simp only [List.setIfInBounds_toArray]); (try simp only [List.set_cons_succ]); (try simp only [List.set_cons_zero]))
      refine wpAnyH_ready (rs := [7]) (by kernel_rfl) (by simp) ?_
      refine AllReadyH.cons rfl (fun K hK => ?_) AllReadyH.nil
      go_wp2_with (go_at_call 6; (with_reducible refine (HNW.out _ _ (by first | exact (((Fr.refl _ _).alloc _).alloc _).drew | exact (((Fr.refl _ _).drew).alloc _).alloc _) (by go_simp) (by go_simp) (by go_simp)).mono ?_); rintro e w3 ⟨bw, rfl, HQ⟩)
      refine hK.out _ _ ?_ (fun hHeld => ?_)
      · first | assumption | exact HC0.out _ (((Fr.refl _ _).alloc _).drew) | exact HC0.out _ ((((Fr.refl _ _).alloc _).alloc _).drew) | exact HC0.out _ (OwnAt.fr (Hid.out (by assumption)))
      clear hK K
      ((try simp only [Act.put]); (try simp only [List.setIfInBounds_toArray]); (try simp only [List.set_cons_succ]); (try simp only [List.set_cons_zero]))
      refine wpAnyH_take (i := 8) (v := ?_) rfl (by kernel_rfl) (by kernel_rfl) (by kernel_rfl) (fun _ _ _ h => h) (Or.inl ⟨by rfl, ?_⟩) (by assumption) ?_
      rotate_left
      focus (intro w hSw; (try dsimp only at hSw); go_simp; try with_reducible rfl)
      ((try simp only [Act.put]); (try simp only [List.setIfInBounds_toArray]); (try simp only [List.set_cons_succ]); (try simp only [List.set_cons_zero]))
      refine wpAnyH_take (i := 9) (v := ?_) rfl (by kernel_rfl) (by kernel_rfl) (by kernel_rfl) (fun _ _ _ h => h) (Or.inl ⟨by rfl, ?_⟩) (by assumption) ?_
      rotate_left
      focus (intro w hSw; (try dsimp only at hSw); go_simp; try with_reducible rfl)
      ((try simp only [Act.put]); (try simp only [List.setIfInBounds_toArray]); (try simp only [List.set_cons_succ]); (try simp only [List.set_cons_zero]))
      refine wpAnyH_take (i := 10) (v := ?_) rfl (by kernel_rfl) (by kernel_rfl) (by kernel_rfl) (fun _ _ _ h => h) (Or.inl ⟨by rfl, ?_⟩) (by assumption) ?_
      rotate_left
      focus (intro w hSw; (try dsimp only at hSw); go_simp; try with_reducible rfl)
      ((try simp only [Act.put]); (try simp only [List.setIfInBounds_toArray]); (try simp only [List.set_cons_succ]); (try simp only [List.set_cons_zero]))
      refine wpAnyH_ready (rs := [11]) (by kernel_rfl) (by simp) ?_
      refine AllReadyH.cons rfl (fun K hK => ?_) AllReadyH.nil
      go_simp
      refine hK.out _ _ ?_ (fun hHeld => ?_)
      · first | assumption | exact HC0.out _ (((Fr.refl _ _).alloc _).drew) | exact HC0.out _ ((((Fr.refl _ _).alloc _).alloc _).drew) | exact HC0.out _ (OwnAt.fr (Hid.out (by assumption)))
      clear hK K
      ((try simp only [Act.put]); (try simp only [List.setIfInBounds_toArray]); (try simp only [List.set_cons_succ]); (try simp only [List.set_cons_zero]))
      refine wpAnyH_ready (rs := [12]) (by kernel_rfl) (by simp) ?_
      refine AllReadyH.cons rfl (fun K hK => ?_) AllReadyH.nil
      go_simp
      refine hK.out _ _ ?_ (fun hHeld => ?_)
      · first | assumption | exact HC0.out _ (((Fr.refl _ _).alloc _).drew) | exact HC0.out _ ((((Fr.refl _ _).alloc _).alloc _).drew) | exact HC0.out _ (OwnAt.fr (Hid.out (by assumption)))
      clear hK K
      ((try simp only [Act.put]); (try simp only [List.setIfInBounds_toArray]); (try simp only [List.set_cons_succ]); (try simp only [List.set_cons_zero]))
      refine wpAnyH_done (by kernel_rfl) ?_ _
      refine NoPanic.normal ?_
      go_wp2_with fail
      go_meet
      exact ⟨bw, rfl, rfl, HQ.out⟩
  case rest =>
    obtain ⟨bw, rfl, rfl, HW⟩ := hcut
    obtain ⟨mb, T, k0, k4, hm⟩ := HW.out.memory
    have HMM := Lib.hid hm
    have HML : Hid (6 ≤ (memL p 0 (zl p) oD [oX x]).length ∧ (memL p 0 (zl p) oD [oX x]).length ≤ 1000000) := by
      have := presL_len (ownR0 p) (ownR1 0) ownR2 (ownR3 (zl p))
      refine Lib.hid ?_
      unfold memL
      rw [List.length_append, List.length_cons, List.length_append, mregs_length]
      simp [oD]
      omega
    obtain ⟨L, hL⟩ : ∃ L, (memL p 0 (zl p) oD [oX x]).length = L := ⟨_, rfl⟩
    have HMEM := hmemory_any bw mb wc k0 k4
    have HMEMH := Lib.hid HMEM
    have HRG := regions_any hm HML.out.2
    rw [hL] at HML
    have HLEN := Lib.hid hL
    have qL : decide ((L : Int) < 6) = false := by have := HML.out; simp; omega
    have HRGH := Lib.hid HRG
    clear HMEM HRG hm k0 k4 hL HMM
    go_wp2_with fail
    refine (HMEMH.out).mono ?_
    rintro e w2 ⟨rfl, rfl⟩
    go_wp2_with fail
    refine (HRGH.out).mono ?_
    rintro e w3 ⟨v3, rfl, hr3, hf3⟩
    obtain ⟨a3, c3, rfl⟩ := hr3.formL HLEN.out
    have HW3 := Lib.hid (HW.out.to hf3)
    have HS := Lib.hid (OwnL.start HW3.out)
    clear hr3 hf3 HW HMEMH HRGH HML HLEN HM0 HCB HCC HNW
    have HEA := Lib.hid HW3.out.fr
    have HLAW : Hid (∀ (i : Nat) (k : Int), i < 5 → -1 ≤ k ∧ k ≤ manyN p i → (decide (0 < (n : Int)) && (ownL p 0 (zl p) oD).any (ownB (baseN i + (k + 1) - 1) n)) =
      ((decide (k ≥ 0) && decide (k + n ≤ manyN p i)) || ((((i : Int) == 1) && (k == -1) && ((n : Int) == 1)) || (((i : Int) == 0) && (k == 16) && decide ((n : Int) ≤ 8))))) := fun i k hi hk => own_law p i k n hp200 ⟨by omega, by omega⟩ hi hk
    have HEND : Hid (∀ wr, OwnL W0 bw p x w3.heap.size (w3.heap.size + 1) wr → OwnAt W0 bw p x wr) := fun wr h => h.1
    have HP := Lib.hid hp200
    have hx' : (x : Int) ≤ 65535 := by omega
    have HX := Lib.hid hx'
    clear e1 e3 e3' e4 e5 e6 hp200 hp8 hx hx' HW3
    go_wp2_with fail
    go_loopw [15] (fun s wr => ∃ i : Nat, i ≤ 5 ∧ s = .int .i64 i ∧ Hid (OwnL W0 bw p x w3.heap.size (w3.heap.size + 1) wr)) (fun s _ => 5 - (intOf s).toNat)
    case atStart => exact ⟨0, Nat.zero_le _, rfl, HS.out⟩
    case round =>
      obtain ⟨i, hi, rfl, HLi⟩ := hrel
      by_cases hlt : i < 5
      · have q1 : decide ((i : Int) < 5) = true := by simp; omega
        have b1 : (0 : Int) ≤ (i : Int) := by omega
        clear HS
        obtain ⟨M, hM⟩ : ∃ M, manyN p i = M := ⟨_, rfl⟩
        obtain ⟨B, hB⟩ : ∃ B, baseN i = B := ⟨_, rfl⟩
        have hMM := many_le p i HP.out
        have hBB := base_le i
        have HLW := Lib.hid (fun k => HLAW.out i k hlt)
        have HCE : Hid (∀ wr, OwnL W0 bw p x w3.heap.size (w3.heap.size + 1) wr → wr.cell? ⟨w3.heap.size, i, none⟩ = some (.int .u64 B) ∧ wr.cell? ⟨w3.heap.size + 1, i, none⟩ = some (.int .i64 M)) := fun wr h => by
          have := h.2 i hlt
          rwa [hM, hB] at this
        rw [hM] at HLW hMM
        rw [hB] at HLW hBB
        clear hM hB
        go_wp2_with fail
        go_loopw [16] (fun s wr => ∃ k : Int, -1 ≤ k ∧ k ≤ M + 1 ∧ s = .int .i64 k ∧ Hid (OwnL W0 bw p x w3.heap.size (w3.heap.size + 1) wr)) (fun s _ => (M + 1 - intOf s).toNat)
        case atStart => exact ⟨-1, by omega, by omega, rfl, HLi.out⟩
        case round =>
          obtain ⟨k, hk0, hk1, rfl, HLk⟩ := hrel
          obtain ⟨ce1, ce2⟩ := HCE.out _ HLk.out
          by_cases hkm : k ≤ M
          · have q2 : decide (k ≤ M) = true := by simpa using hkm
            have f1 : IntKind.i64.wrap (k + 1) = k + 1 := IntWalk.i64_in _ (by omega)
            have f2 : IntKind.u64.wrap (k + 1) = k + 1 := IntWalk.u64_in _ (by omega)
            have f3 : IntKind.u64.wrap (B + (k + 1)) = B + (k + 1) := IntWalk.u64_in _ (by omega)
            have f4 : IntKind.u64.wrap (B + (k + 1) - 1) = B + (k + 1) - 1 := IntWalk.u64_in _ (by omega)
            have f5 : IntKind.i64.wrap (k + (n : Int)) = k + n := IntWalk.i64_in _ (by omega)
            have HLAWk := Lib.hid (HLW.out k ⟨hk0, hkm⟩)
            have HBND : Hid (0 ≤ B + (k + 1) - 1 ∧ B + (k + 1) - 1 < 18446744073709551616) := ⟨by omega, by omega⟩
            have HF1 : Hid (k + 1 ≤ M + 1 ∧ -1 ≤ k + 1 ∧ (M + 1 - (k + 1)).toNat < (M + 1 - k).toNat) := ⟨by omega, by omega, by omega⟩
            obtain ⟨z1, hz1⟩ : ∃ z, decide (k ≥ 0) = z := ⟨_, rfl⟩
            obtain ⟨z2, hz2⟩ : ∃ z, decide (k + (n : Int) ≤ M) = z := ⟨_, rfl⟩
            obtain ⟨y1, hy1⟩ : ∃ z, ((i : Int) == 1) = z := ⟨_, rfl⟩
            obtain ⟨y2, hy2⟩ : ∃ z, (k == -1) = z := ⟨_, rfl⟩
            obtain ⟨y3, hy3⟩ : ∃ z, ((n : Int) == 1) = z := ⟨_, rfl⟩
            obtain ⟨y4, hy4⟩ : ∃ z, ((i : Int) == 0) = z := ⟨_, rfl⟩
            obtain ⟨y5, hy5⟩ : ∃ z, (k == 16) = z := ⟨_, rfl⟩
            obtain ⟨y6, hy6⟩ : ∃ z, decide ((n : Int) ≤ 8) = z := ⟨_, rfl⟩
            rw [hz1, hz2, hy1, hy2, hy3, hy4, hy5, hy6] at HLAWk
            go_upto_region 16 with fail
            go_cut [18] (fun s wx => s = .bool (z1 && z2) ∧ Hid (OwnL W0 bw p x w3.heap.size (w3.heap.size + 1) wx))
            case first =>
              clear hy1 hy2 hy3 hy4 hy5 hy6
              cases z1 <;> cases z2
              all_goals go_wp2_with fail
              all_goals go_meet
              all_goals exact ⟨rfl, HLk.out⟩
            case rest =>
              obtain ⟨rfl, HLc⟩ := hcut
              clear HLk ce1 ce2 hz1 hz2
              go_upto_region 17 with fail
              go_cut [19] (fun s wx => s = .bool ((y1 && y2 && y3) || (y4 && y5 && y6)) ∧ Hid (OwnL W0 bw p x w3.heap.size (w3.heap.size + 1) wx))
              case first =>
                cases y1 <;> cases y2 <;> cases y3 <;> cases y4 <;> cases y5 <;> cases y6
                all_goals go_wp2_with fail
                all_goals go_meet
                all_goals exact ⟨rfl, HLc.out⟩
              case rest =>
                obtain ⟨rfl, HLd⟩ := hcut
                clear HLc hy1 hy2 hy3 hy4 hy5 hy6
                generalize ((y1 && y2 && y3) || (y4 && y5 && y6)) = be at *
                generalize (z1 && z2) = ins at *
                have HOW := Lib.hid (HLd.out.1.owns (B + (k + 1) - 1) n (ins || be) HBND.out (by omega) HLAWk.out)
                have qe : ∀ z : Bool, (z != z) = false := fun z => by cases z <;> rfl
                cases ins with
                | true =>
                  go_wp2_with fail
                  refine (HOW.out).mono ?_
                  rintro e w4 ⟨rfl, hf4⟩
                  rw [Bool.true_or]
                  go_wp2_with fail
                  go_roundw
                  case rel => exact ⟨k + 1, HF1.out.2.1, HF1.out.1, by go_num, HLd.out.to hf4⟩
                  case measure => exact HF1.out.2.2
                | false =>
                  go_wp2_with fail
                  refine (HOW.out).mono ?_
                  rintro e w4 ⟨rfl, hf4⟩
                  rw [Bool.false_or]
                  go_wp2_with fail
                  go_roundw
                  case rel => exact ⟨k + 1, HF1.out.2.1, HF1.out.1, by go_num, HLd.out.to hf4⟩
                  case measure => exact HF1.out.2.2
          · have q2 : decide (k ≤ M) = false := by simpa using hkm
            go_wp2_with fail
            go_roundw
            case rel => exact ⟨i + 1, by omega, by go_num, HLk.out⟩
            case measure => simp [intOf] <;> omega
      · obtain rfl : i = 5 := by omega
        have ld := (HC0.out _ HLi.out.1.fr).2.2.1
        have hx0 : (x : Int) ≤ 65535 := HX.out
        obtain ⟨m, hm⟩ : ∃ m : Nat, m = n8 % 128 := ⟨_, rfl⟩
        have hm128 : m < 128 := by omega
        have g1 : IntKind.u64.wrap (n8 : Int) = n8 := IntWalk.u64_in _ (by omega)
        have g2 : (n8 : Int) % 128 = m := by omega
        have g3 : IntKind.u64.wrap (262144 + (m : Int)) = 262144 + m := IntWalk.u64_in _ (by omega)
        have HO1 : Hid (∀ W, OwnAt W0 bw p x W → Calls Tryd.prog 9 #[.pointer (some ⟨bw, 0, none⟩), .int .u64 (327680 + (x : Int)), .int .i64 1] W fun e w' => e = .returned (.bool false) ∧ Fr No W w') := fun W h =>
          h.owns _ 1 false (by omega) (by omega) (by rw [Bool.and_eq_false_iff]; right; rw [Bool.eq_false_iff, Ne, own_any]; have := HP.out; omega)
        have HO2 : Hid (∀ W, OwnAt W0 bw p x W → Calls Tryd.prog 9 #[.pointer (some ⟨bw, 0, none⟩), .int .u64 (262144 + (m : Int)), .int .i64 1] W fun e w' => e = .returned (.bool false) ∧ Fr No W w') := fun W h =>
          h.owns _ 1 false (by omega) (by omega) (by rw [Bool.and_eq_false_iff]; right; rw [Bool.eq_false_iff, Ne, own_any]; have := HP.out; omega)
        have HO3 : Hid (∀ W, OwnAt W0 bw p x W → Calls Tryd.prog 9 #[.pointer (some ⟨bw, 0, none⟩), .int .u64 131072, .int .i64 0] W fun e w' => e = .returned (.bool false) ∧ Fr No W w') := fun W h =>
          h.owns _ 0 false (by omega) (by omega) rfl
        have HO4 : Hid (∀ W, OwnAt W0 bw p x W → Calls Tryd.prog 9 #[.pointer (some ⟨bw, 0, none⟩), .int .u64 131072, .int .i64 (-1)] W fun e w' => e = .returned (.bool false) ∧ Fr No W w') := fun W h =>
          h.owns _ (-1) false (by omega) (by omega) rfl
        have HOA := Lib.hid HLi.out.1
        clear hm hx0 HLi HS hlt HLAW HEND
        go_wp2_with fail
        refine (HO1.out _ HOA.out).mono ?_
        rintro e w5 ⟨rfl, hf5⟩
        have HO5 := Lib.hid (HOA.out.to hf5)
        clear hf5 HOA HO1
        go_wp2_with fail
        refine (HO2.out _ HO5.out).mono ?_
        rintro e w6 ⟨rfl, hf6⟩
        have HO6 := Lib.hid (HO5.out.to hf6)
        clear hf6 HO5 HO2
        go_wp2_with fail
        refine (HO3.out _ HO6.out).mono ?_
        rintro e w7 ⟨rfl, hf7⟩
        have HO7 := Lib.hid (HO6.out.to hf7)
        clear hf7 HO6 HO3
        go_wp2_with fail
        refine (HO4.out _ HO7.out).mono ?_
        rintro e w8 ⟨rfl, hf8⟩
        have HO8 := Lib.hid (HO7.out.to hf8)
        clear hf8 HO7 HO4
        go_wp2_with fail
        refine (HC.out _ (HF0.out.trans HO8.out.fr)).mono ?_
        rintro e w9 ⟨rfl, hf9⟩
        go_wp2_with fail
        go_ret
        exact ⟨rfl, (HF0.out.trans HO8.out.fr).trans hf9⟩
end Go.Proofs.YtlinnhaodkiolaaDoor
