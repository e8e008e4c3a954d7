/- lines.build: the words whose slots are made in one statement. (printed by mkraw.py) -/
import Derived.Test.YtakcdecljfmckaaGreatDoorCore26
import Derived.Test.YtakcdecljfmckaaGreatDoorCore27
set_option linter.all false
set_option linter.unusedVariables false
set_option linter.unusedSimpArgs false
namespace Go.Proofs.YtakcdecljfmckaaGreatDoor
open Go.RowKit

/-- what build hands back -/
def BuildTo (w : World) (r : Option (List Ins × Int)) (e : Ending) (w' : World) : Prop := match r with
  | some (l, k) => ∃ lv, e = .returned (.tuple #[lv, .int .i64 k]) ∧ InsAt w' lv l ∧ Fr No w w'
  | none => Died w e w'
theorem build_dies {w w' : World} {r : Option (List Ins × Int)} {v : Value} (h : r = none) (hv : IsErr v) (hf : Fr No w w') : BuildTo w r (.panicked [{ v := v, recovered := false }]) w' := by
  rw [h]
  exact ⟨v, rfl, hv, hf⟩
theorem dst_pos {x : List Mv} {j : Nat} {d : Int} (h : ag dstG x j = some d) : ((d.toNat : Nat) : Int) = d := by
  unfold ag at h
  obtain ⟨m, _, hm⟩ := Option.bind_eq_some_iff.1 h
  unfold dstG at hm
  cases hr : regM m with
  | none => rw [hr] at hm; cases hm
  | some n =>
    rw [hr] at hm
    obtain rfl := Option.some.inj hm
    exact congrArg Int.ofNat (Int.toNat_natCast n)
theorem small_pos {x : List Mv} {j : Nat} {d : Int} (h : ag smallG x j = some d) : ((d.toNat : Nat) : Int) = d := by
  unfold ag at h
  obtain ⟨m, _, hm⟩ := Option.bind_eq_some_iff.1 h
  have := withinM_le hm
  omega
/-- slots that were just made -/
theorem insAt_new (W : World) (l : List Ins) (vs : Array Value) (n c : Nat) (t : TypeId) (hv : vs = (iflat l).toArray) (hn : n = l.length) : InsAt (W.alloc (.cells vs t)) (.slice (some ⟨W.heap.size, 0, none⟩) n c) l := by
  subst hv hn
  exact .inr ⟨_, 0, _, rfl, CellsAt.new _ _ _⟩
/-- an edge's own fact -/
def ldmapO (x : List Mv) : Option (List Ins × Int) :=
  (ag dstG x 0).bind fun v0 => (ag wholeG x 1).bind fun v1 => some ([⟨24, v0.toNat, 1, 0, v1⟩, ⟨0, 0, 0, 0, 0⟩], 2)
set_option maxRecDepth 100000 in
set_option maxHeartbeats 4000000 in
theorem build_ldmap (x : List Mv) (xv : Value) (b : Nat) (w : World) (hX : XsAt w xv b x) : Calls Tryz.prog 75 #[.string ⟨#[108, 100, 109, 97, 112]⟩, xv] w (BuildTo w (ldmapO x)) := by
  go_enter Tryz.func75, Tryz.ntmps75
  go_wp2_with fail
  refine wp_region_puts 201 [(1, xv)] [(63, xv), (64, px b 0), (65, (xg x 0).v), (66, .int .u8 ((ag dstG x 0).getD 0)), (67, xv), (68, px b 1), (69, (xg x 1).v), (70, .int .i32 ((ag wholeG x 1).getD 0)), (71, .agg #[.int .u8 (24), .int .u8 ((ag dstG x 0).getD 0), .int .u8 (1), .int .i16 (0), .int .i32 ((ag wholeG x 1).getD 0)]), (72, .agg #[.int .u8 (0), .int .u8 (0), .int .u8 (0), .int .i16 (0), .int .i32 (0)]), (5, .int .i64 2)] 73 4 10 11 (fun v w' => ((ag dstG x 0).isSome = true ∧ (ag wholeG x 1).isSome = true) → InsAt w' v [⟨24, ((ag dstG x 0).getD 0).toNat, 1, 0, ((ag wholeG x 1).getD 0)⟩, ⟨0, 0, 0, 0, 0⟩]) (fun i => [True, (x[0]?).isSome = true, (x[0]?).isSome = true, (ag dstG x 0).isSome = true, True, (x[1]?).isSome = true, (x[1]?).isSome = true, (ag wholeG x 1).isSome = true, True, True, True, True, True].getD i True) (by kernel_rfl) (by kernel_rfl) (by kernel_rfl) (by kernel_rfl) ⟨by kernel_rfl, trivial⟩ rfl (fun v W W' h hf hh => (h hh).fr hf) (fun A v hdf hb hp sB s4 => each_op _ _ ?_) ?_ ?_ ?_
  · obtain ⟨b1, _⟩ := hb
    obtain ⟨s63, s64, s65, s66, s67, s68, s69, s70, s71, s72, s5, _⟩ := hp
    refine ⟨?_, ?_, ?_, ?_, ?_, ?_, ?_, ?_, ?_, ?_, ?_, ?_, ?_, trivial⟩
    · intro hne W hW hl; exact does_move (ev b1) s63
    · intro hne W hW hl; exact does_index hX 0 (by decide) (ev s63) s64 (fun hn v W2 hv hf => ⟨hdf, build_dies (by first | (simp [ldmapO, hn]; done) | (simp [ldmapO, ag, hn]; done)) hv (hW.trans hf)⟩)
    · intro hne W hW hl; exact does_load hX hW 0 (by (first | exact hl _ (Array.mem_of_getElem? (i := 0) rfl) rfl | exact hl _ (Array.mem_of_getElem? (i := 1) rfl) rfl | exact hl _ (Array.mem_of_getElem? (i := 2) rfl) rfl | exact hl _ (Array.mem_of_getElem? (i := 3) rfl) rfl)) (ev s64) s65
    · intro hne W hW hl; exact does_arg dst_c hX 0 (by (first | exact hl _ (Array.mem_of_getElem? (i := 0) rfl) rfl | exact hl _ (Array.mem_of_getElem? (i := 1) rfl) rfl | exact hl _ (Array.mem_of_getElem? (i := 2) rfl) rfl | exact hl _ (Array.mem_of_getElem? (i := 3) rfl) rfl)) (ev s65) s66 (fun hn v W2 hv hf => ⟨hdf, build_dies (by first | (simp [ldmapO, hn]; done) | (simp [ldmapO, ag, hn]; done)) hv (hW.trans hf)⟩)
    · intro hne W hW hl; exact does_move (ev b1) s67
    · intro hne W hW hl; exact does_index hX 1 (by decide) (ev s67) s68 (fun hn v W2 hv hf => ⟨hdf, build_dies (by first | (simp [ldmapO, hn]; done) | (simp [ldmapO, ag, hn]; done)) hv (hW.trans hf)⟩)
    · intro hne W hW hl; exact does_load hX hW 1 (by (first | exact hl _ (Array.mem_of_getElem? (i := 0) rfl) rfl | exact hl _ (Array.mem_of_getElem? (i := 1) rfl) rfl | exact hl _ (Array.mem_of_getElem? (i := 2) rfl) rfl | exact hl _ (Array.mem_of_getElem? (i := 3) rfl) rfl)) (ev s68) s69
    · intro hne W hW hl; exact does_arg whole_c hX 1 (by (first | exact hl _ (Array.mem_of_getElem? (i := 0) rfl) rfl | exact hl _ (Array.mem_of_getElem? (i := 1) rfl) rfl | exact hl _ (Array.mem_of_getElem? (i := 2) rfl) rfl | exact hl _ (Array.mem_of_getElem? (i := 3) rfl) rfl)) (ev s69) s70 (fun hn v W2 hv hf => ⟨hdf, build_dies (by first | (simp [ldmapO, hn]; done) | (simp [ldmapO, ag, hn]; done)) hv (hW.trans hf)⟩)
    · intro hne W hW hl; exact does_build (by simp only [List.map_toArray, List.map_cons, List.map_nil, act_const, ev s66, ev s70]; rfl) (by kernel_rfl) s71
    · intro hne W hW hl; exact does_build (by simp only [List.map_toArray, List.map_cons, List.map_nil, act_const, ev s66, ev s70]; rfl) (by kernel_rfl) s72
    · intro hne W hW hl; exact absurd rfl hne
    · intro hne W hW hl; exact does_assign (ev sB) s4
    · intro hne W hW hl; exact does_assign rfl s5
  · intro A hb hp o ho W hW hl
    obtain ⟨s63, s64, s65, s66, s67, s68, s69, s70, s71, s72, s5, _⟩ := hp
    obtain rfl := Option.some.inj ho
    refine ⟨.slice (some ⟨W.heap.size, 0, none⟩) 2 2, W.alloc (.cells #[.int .u8 (24), .int .u8 ((ag dstG x 0).getD 0), .int .u8 (1), .int .i16 (0), .int .i32 ((ag wholeG x 1).getD 0), .int .u8 (0), .int .u8 (0), .int .u8 (0), .int .i16 (0), .int .i32 (0)] 51), slice_run (by simp only [List.map_toArray, List.map_cons, List.map_nil, ev s71, ev s72]; rfl) (by kernel_rfl), (Fr.refl _ _).alloc _, fun hh => ?_, trivial⟩
    obtain ⟨h0, h1⟩ := hh
    refine insAt_new _ _ _ _ _ _ ?_ rfl
    obtain ⟨v0, e0⟩ := Option.isSome_iff_exists.1 h0
    have p0 : (((ag dstG x 0).getD 0).toNat : Int) = (ag dstG x 0).getD 0 := by rw [e0]; exact dst_pos e0
    simp only [iflat, Ins.cells, List.flatMap_cons, List.flatMap_nil, List.cons_append, List.nil_append, p0]
    try rfl
  · rintro c ⟨t1, d1⟩ ⟨t2, d2⟩ w3 hd1 hd2 h
    obtain rfl : d1 = [] := hd1
    obtain rfl : d2 = [] := hd2
    exact h
  · intro A v W hdf hsz hb hp sB s4 hW hv hall
    obtain ⟨s63, s64, s65, s66, s67, s68, s69, s70, s71, s72, s5, _⟩ := hp
    have h0 : (ag dstG x 0).isSome = true := hall 3 (Nat.lt_of_lt_of_eq (by decide : 3 < 13) (by kernel_rfl))
    have h1 : (ag wholeG x 1).isSome = true := hall 7 (Nat.lt_of_lt_of_eq (by decide : 7 < 13) (by kernel_rfl))
    have hI := hv ⟨h0, h1⟩
    have hO : ldmapO x = some ([⟨24, ((ag dstG x 0).getD 0).toNat, 1, 0, ((ag wholeG x 1).getD 0)⟩, ⟨0, 0, 0, 0, 0⟩], 2) := by
      obtain ⟨v0, e0⟩ := Option.isSome_iff_exists.1 h0
      obtain ⟨v1, e1⟩ := Option.isSome_iff_exists.1 h1
      simp [ldmapO, e0, e1]
    clear hall
    go_wp2_with fail
    refine bodyPost_ret (v := .tuple #[v, .int .i64 2]) (by simp [results, Tryz.results75, s4, s5, go_sem]) hdf ?_
    exact ⟨v, rfl, hI, hW⟩
def rawO (x : List Mv) : Option (List Ins × Int) :=
  (ag smallG x 0).bind fun v0 => (ag smallG x 1).bind fun v1 => (ag smallG x 2).bind fun v2 => (ag shortG x 3).bind fun v3 => (ag wholeG x 4).bind fun v4 => some ([⟨v0.toNat, v1.toNat, v2.toNat, v3, v4⟩], 5)
set_option maxRecDepth 100000 in
set_option maxHeartbeats 4000000 in
theorem build_raw (x : List Mv) (xv : Value) (b : Nat) (w : World) (hX : XsAt w xv b x) : Calls Tryz.prog 75 #[.string ⟨#[114, 97, 119]⟩, xv] w (BuildTo w (rawO x)) := by
  go_enter Tryz.func75, Tryz.ntmps75
  go_wp2_with fail
  refine wp_region_puts 201 [(1, xv)] [(76, xv), (77, px b 0), (78, (xg x 0).v), (79, .int .u8 ((ag smallG x 0).getD 0)), (80, xv), (81, px b 1), (82, (xg x 1).v), (83, .int .u8 ((ag smallG x 1).getD 0)), (84, xv), (85, px b 2), (86, (xg x 2).v), (87, .int .u8 ((ag smallG x 2).getD 0)), (88, xv), (89, px b 3), (90, (xg x 3).v), (91, .int .i16 ((ag shortG x 3).getD 0)), (92, xv), (93, px b 4), (94, (xg x 4).v), (95, .int .i32 ((ag wholeG x 4).getD 0)), (96, .agg #[.int .u8 ((ag smallG x 0).getD 0), .int .u8 ((ag smallG x 1).getD 0), .int .u8 ((ag smallG x 2).getD 0), .int .i16 ((ag shortG x 3).getD 0), .int .i32 ((ag wholeG x 4).getD 0)]), (5, .int .i64 5)] 97 4 21 22 (fun v w' => ((ag smallG x 0).isSome = true ∧ (ag smallG x 1).isSome = true ∧ (ag smallG x 2).isSome = true ∧ (ag shortG x 3).isSome = true ∧ (ag wholeG x 4).isSome = true) → InsAt w' v [⟨((ag smallG x 0).getD 0).toNat, ((ag smallG x 1).getD 0).toNat, ((ag smallG x 2).getD 0).toNat, ((ag shortG x 3).getD 0), ((ag wholeG x 4).getD 0)⟩]) (fun i => [True, (x[0]?).isSome = true, (x[0]?).isSome = true, (ag smallG x 0).isSome = true, True, (x[1]?).isSome = true, (x[1]?).isSome = true, (ag smallG x 1).isSome = true, True, (x[2]?).isSome = true, (x[2]?).isSome = true, (ag smallG x 2).isSome = true, True, (x[3]?).isSome = true, (x[3]?).isSome = true, (ag shortG x 3).isSome = true, True, (x[4]?).isSome = true, (x[4]?).isSome = true, (ag wholeG x 4).isSome = true, True, True, True, True].getD i True) (by kernel_rfl) (by kernel_rfl) (by kernel_rfl) (by kernel_rfl) ⟨by kernel_rfl, trivial⟩ rfl (fun v W W' h hf hh => (h hh).fr hf) (fun A v hdf hb hp sB s4 => each_op _ _ ?_) ?_ ?_ ?_
  · obtain ⟨b1, _⟩ := hb
    obtain ⟨s76, s77, s78, s79, s80, s81, s82, s83, s84, s85, s86, s87, s88, s89, s90, s91, s92, s93, s94, s95, s96, s5, _⟩ := hp
    refine ⟨?_, ?_, ?_, ?_, ?_, ?_, ?_, ?_, ?_, ?_, ?_, ?_, ?_, ?_, ?_, ?_, ?_, ?_, ?_, ?_, ?_, ?_, ?_, ?_, trivial⟩
    · intro hne W hW hl; exact does_move (ev b1) s76
    · intro hne W hW hl; exact does_index hX 0 (by decide) (ev s76) s77 (fun hn v W2 hv hf => ⟨hdf, build_dies (by first | (simp [rawO, hn]; done) | (simp [rawO, ag, hn]; done)) hv (hW.trans hf)⟩)
    · intro hne W hW hl; exact does_load hX hW 0 (by (first | exact hl _ (Array.mem_of_getElem? (i := 0) rfl) rfl | exact hl _ (Array.mem_of_getElem? (i := 1) rfl) rfl | exact hl _ (Array.mem_of_getElem? (i := 2) rfl) rfl | exact hl _ (Array.mem_of_getElem? (i := 3) rfl) rfl)) (ev s77) s78
    · intro hne W hW hl; exact does_arg small_c hX 0 (by (first | exact hl _ (Array.mem_of_getElem? (i := 0) rfl) rfl | exact hl _ (Array.mem_of_getElem? (i := 1) rfl) rfl | exact hl _ (Array.mem_of_getElem? (i := 2) rfl) rfl | exact hl _ (Array.mem_of_getElem? (i := 3) rfl) rfl)) (ev s78) s79 (fun hn v W2 hv hf => ⟨hdf, build_dies (by first | (simp [rawO, hn]; done) | (simp [rawO, ag, hn]; done)) hv (hW.trans hf)⟩)
    · intro hne W hW hl; exact does_move (ev b1) s80
    · intro hne W hW hl; exact does_index hX 1 (by decide) (ev s80) s81 (fun hn v W2 hv hf => ⟨hdf, build_dies (by first | (simp [rawO, hn]; done) | (simp [rawO, ag, hn]; done)) hv (hW.trans hf)⟩)
    · intro hne W hW hl; exact does_load hX hW 1 (by (first | exact hl _ (Array.mem_of_getElem? (i := 0) rfl) rfl | exact hl _ (Array.mem_of_getElem? (i := 1) rfl) rfl | exact hl _ (Array.mem_of_getElem? (i := 2) rfl) rfl | exact hl _ (Array.mem_of_getElem? (i := 3) rfl) rfl)) (ev s81) s82
    · intro hne W hW hl; exact does_arg small_c hX 1 (by (first | exact hl _ (Array.mem_of_getElem? (i := 0) rfl) rfl | exact hl _ (Array.mem_of_getElem? (i := 1) rfl) rfl | exact hl _ (Array.mem_of_getElem? (i := 2) rfl) rfl | exact hl _ (Array.mem_of_getElem? (i := 3) rfl) rfl)) (ev s82) s83 (fun hn v W2 hv hf => ⟨hdf, build_dies (by first | (simp [rawO, hn]; done) | (simp [rawO, ag, hn]; done)) hv (hW.trans hf)⟩)
    · intro hne W hW hl; exact does_move (ev b1) s84
    · intro hne W hW hl; exact does_index hX 2 (by decide) (ev s84) s85 (fun hn v W2 hv hf => ⟨hdf, build_dies (by first | (simp [rawO, hn]; done) | (simp [rawO, ag, hn]; done)) hv (hW.trans hf)⟩)
    · intro hne W hW hl; exact does_load hX hW 2 (by (first | exact hl _ (Array.mem_of_getElem? (i := 0) rfl) rfl | exact hl _ (Array.mem_of_getElem? (i := 1) rfl) rfl | exact hl _ (Array.mem_of_getElem? (i := 2) rfl) rfl | exact hl _ (Array.mem_of_getElem? (i := 3) rfl) rfl)) (ev s85) s86
    · intro hne W hW hl; exact does_arg small_c hX 2 (by (first | exact hl _ (Array.mem_of_getElem? (i := 0) rfl) rfl | exact hl _ (Array.mem_of_getElem? (i := 1) rfl) rfl | exact hl _ (Array.mem_of_getElem? (i := 2) rfl) rfl | exact hl _ (Array.mem_of_getElem? (i := 3) rfl) rfl)) (ev s86) s87 (fun hn v W2 hv hf => ⟨hdf, build_dies (by first | (simp [rawO, hn]; done) | (simp [rawO, ag, hn]; done)) hv (hW.trans hf)⟩)
    · intro hne W hW hl; exact does_move (ev b1) s88
    · intro hne W hW hl; exact does_index hX 3 (by decide) (ev s88) s89 (fun hn v W2 hv hf => ⟨hdf, build_dies (by first | (simp [rawO, hn]; done) | (simp [rawO, ag, hn]; done)) hv (hW.trans hf)⟩)
    · intro hne W hW hl; exact does_load hX hW 3 (by (first | exact hl _ (Array.mem_of_getElem? (i := 0) rfl) rfl | exact hl _ (Array.mem_of_getElem? (i := 1) rfl) rfl | exact hl _ (Array.mem_of_getElem? (i := 2) rfl) rfl | exact hl _ (Array.mem_of_getElem? (i := 3) rfl) rfl)) (ev s89) s90
    · intro hne W hW hl; exact does_arg short_c hX 3 (by (first | exact hl _ (Array.mem_of_getElem? (i := 0) rfl) rfl | exact hl _ (Array.mem_of_getElem? (i := 1) rfl) rfl | exact hl _ (Array.mem_of_getElem? (i := 2) rfl) rfl | exact hl _ (Array.mem_of_getElem? (i := 3) rfl) rfl)) (ev s90) s91 (fun hn v W2 hv hf => ⟨hdf, build_dies (by first | (simp [rawO, hn]; done) | (simp [rawO, ag, hn]; done)) hv (hW.trans hf)⟩)
    · intro hne W hW hl; exact does_move (ev b1) s92
    · intro hne W hW hl; exact does_index hX 4 (by decide) (ev s92) s93 (fun hn v W2 hv hf => ⟨hdf, build_dies (by first | (simp [rawO, hn]; done) | (simp [rawO, ag, hn]; done)) hv (hW.trans hf)⟩)
    · intro hne W hW hl; exact does_load hX hW 4 (by (first | exact hl _ (Array.mem_of_getElem? (i := 0) rfl) rfl | exact hl _ (Array.mem_of_getElem? (i := 1) rfl) rfl | exact hl _ (Array.mem_of_getElem? (i := 2) rfl) rfl | exact hl _ (Array.mem_of_getElem? (i := 3) rfl) rfl)) (ev s93) s94
    · intro hne W hW hl; exact does_arg whole_c hX 4 (by (first | exact hl _ (Array.mem_of_getElem? (i := 0) rfl) rfl | exact hl _ (Array.mem_of_getElem? (i := 1) rfl) rfl | exact hl _ (Array.mem_of_getElem? (i := 2) rfl) rfl | exact hl _ (Array.mem_of_getElem? (i := 3) rfl) rfl)) (ev s94) s95 (fun hn v W2 hv hf => ⟨hdf, build_dies (by first | (simp [rawO, hn]; done) | (simp [rawO, ag, hn]; done)) hv (hW.trans hf)⟩)
    · intro hne W hW hl; exact does_build (by simp only [List.map_toArray, List.map_cons, List.map_nil, act_const, ev s79, ev s83, ev s87, ev s91, ev s95]; rfl) (by kernel_rfl) s96
    · intro hne W hW hl; exact absurd rfl hne
    · intro hne W hW hl; exact does_assign (ev sB) s4
    · intro hne W hW hl; exact does_assign rfl s5
  · intro A hb hp o ho W hW hl
    obtain ⟨s76, s77, s78, s79, s80, s81, s82, s83, s84, s85, s86, s87, s88, s89, s90, s91, s92, s93, s94, s95, s96, s5, _⟩ := hp
    obtain rfl := Option.some.inj ho
    refine ⟨.slice (some ⟨W.heap.size, 0, none⟩) 1 1, W.alloc (.cells #[.int .u8 ((ag smallG x 0).getD 0), .int .u8 ((ag smallG x 1).getD 0), .int .u8 ((ag smallG x 2).getD 0), .int .i16 ((ag shortG x 3).getD 0), .int .i32 ((ag wholeG x 4).getD 0)] 51), slice_run (by simp only [List.map_toArray, List.map_cons, List.map_nil, ev s96]; rfl) (by kernel_rfl), (Fr.refl _ _).alloc _, fun hh => ?_, trivial⟩
    obtain ⟨h0, h1, h2, h3, h4⟩ := hh
    refine insAt_new _ _ _ _ _ _ ?_ rfl
    obtain ⟨v0, e0⟩ := Option.isSome_iff_exists.1 h0
    have p0 : (((ag smallG x 0).getD 0).toNat : Int) = (ag smallG x 0).getD 0 := by rw [e0]; exact small_pos e0
    obtain ⟨v1, e1⟩ := Option.isSome_iff_exists.1 h1
    have p1 : (((ag smallG x 1).getD 0).toNat : Int) = (ag smallG x 1).getD 0 := by rw [e1]; exact small_pos e1
    obtain ⟨v2, e2⟩ := Option.isSome_iff_exists.1 h2
    have p2 : (((ag smallG x 2).getD 0).toNat : Int) = (ag smallG x 2).getD 0 := by rw [e2]; exact small_pos e2
    simp only [iflat, Ins.cells, List.flatMap_cons, List.flatMap_nil, List.cons_append, List.nil_append, p0, p1, p2]
    try rfl
  · rintro c ⟨t1, d1⟩ ⟨t2, d2⟩ w3 hd1 hd2 h
    obtain rfl : d1 = [] := hd1
    obtain rfl : d2 = [] := hd2
    exact h
  · intro A v W hdf hsz hb hp sB s4 hW hv hall
    obtain ⟨s76, s77, s78, s79, s80, s81, s82, s83, s84, s85, s86, s87, s88, s89, s90, s91, s92, s93, s94, s95, s96, s5, _⟩ := hp
    have h0 : (ag smallG x 0).isSome = true := hall 3 (Nat.lt_of_lt_of_eq (by decide : 3 < 24) (by kernel_rfl))
    have h1 : (ag smallG x 1).isSome = true := hall 7 (Nat.lt_of_lt_of_eq (by decide : 7 < 24) (by kernel_rfl))
    have h2 : (ag smallG x 2).isSome = true := hall 11 (Nat.lt_of_lt_of_eq (by decide : 11 < 24) (by kernel_rfl))
    have h3 : (ag shortG x 3).isSome = true := hall 15 (Nat.lt_of_lt_of_eq (by decide : 15 < 24) (by kernel_rfl))
    have h4 : (ag wholeG x 4).isSome = true := hall 19 (Nat.lt_of_lt_of_eq (by decide : 19 < 24) (by kernel_rfl))
    have hI := hv ⟨h0, h1, h2, h3, h4⟩
    have hO : rawO x = some ([⟨((ag smallG x 0).getD 0).toNat, ((ag smallG x 1).getD 0).toNat, ((ag smallG x 2).getD 0).toNat, ((ag shortG x 3).getD 0), ((ag wholeG x 4).getD 0)⟩], 5) := by
      obtain ⟨v0, e0⟩ := Option.isSome_iff_exists.1 h0
      obtain ⟨v1, e1⟩ := Option.isSome_iff_exists.1 h1
      obtain ⟨v2, e2⟩ := Option.isSome_iff_exists.1 h2
      obtain ⟨v3, e3⟩ := Option.isSome_iff_exists.1 h3
      obtain ⟨v4, e4⟩ := Option.isSome_iff_exists.1 h4
      simp [rawO, e0, e1, e2, e3, e4]
    clear hall
    go_wp2_with fail
    refine bodyPost_ret (v := .tuple #[v, .int .i64 5]) (by simp [results, Tryz.results75, s4, s5, go_sem]) hdf ?_
    exact ⟨v, rfl, hI, hW⟩
end Go.Proofs.YtakcdecljfmckaaGreatDoor
