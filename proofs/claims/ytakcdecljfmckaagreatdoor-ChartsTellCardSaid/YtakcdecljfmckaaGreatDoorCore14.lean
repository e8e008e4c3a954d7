/- progs.field: what is wrong with an instruction by itself. progs.Next, where all that it tells lies in the program. -/
import Derived.Test.YtakcdecljfmckaaGreatDoorCore13
import Derived.Test.YtakcdecljfmckaaGreatDoorCore4
import Derived.Shelf.Abstract
import Derived.Test.YtakcdecljfmckaaGreatDoorCore6
import Derived.Test.YtakcdecljfmckaaGreatDoorCore12
set_option linter.all false
set_option linter.unusedVariables false
set_option linter.unusedSimpArgs false
namespace Go.Proofs.YtakcdecljfmckaaGreatDoor
open Go.RowKit

def heIdx (x : Int) : Int := if x = 1 then 0 else if x = 2 then 1 else if x = 3 then 2 else if x = 7 then 3 else -1
set_option maxHeartbeats 1000000 in
theorem index32 (g : Nat) (x : Int) (w : World) (hc : CellsAt w g 0 [.int .i32 1, .int .i32 2, .int .i32 3, .int .i32 7]) :
    Calls Tryz.prog 109 #[.slice (some ⟨g, 0, none⟩) 4 4, .int .i32 x] w fun e w' => e = .returned (.int .i64 (heIdx x)) ∧ Fr No w w' := by
  have k0 : w.cell? ⟨g, 0, none⟩ = some (.int .i32 1) := hc 0 _ rfl
  have k1 : w.cell? ⟨g, 1, none⟩ = some (.int .i32 2) := hc 1 _ rfl
  have k2 : w.cell? ⟨g, 2, none⟩ = some (.int .i32 3) := hc 2 _ rfl
  have k3 : w.cell? ⟨g, 3, none⟩ = some (.int .i32 7) := hc 3 _ rfl
  clear hc
  unfold heIdx
  by_cases h1 : x = 1
  · rw [if_pos h1]
    subst h1
    go_enter Tryz.func109, Tryz.ntmps109
    go_wp2_with fail
    refine wp_loop_rounds 5 ?_
    iterate 1 (rw [rounds_succ]; go_wp2_with fail)
    go_ret
    exact ⟨rfl, Fr.refl _ _⟩
  rw [if_neg h1]
  by_cases h2 : x = 2
  · rw [if_pos h2]
    subst h2
    clear h1
    go_enter Tryz.func109, Tryz.ntmps109
    go_wp2_with fail
    refine wp_loop_rounds 5 ?_
    iterate 2 (rw [rounds_succ]; go_wp2_with fail)
    go_ret
    exact ⟨rfl, Fr.refl _ _⟩
  rw [if_neg h2]
  by_cases h3 : x = 3
  · rw [if_pos h3]
    subst h3
    clear h1 h2
    go_enter Tryz.func109, Tryz.ntmps109
    go_wp2_with fail
    refine wp_loop_rounds 5 ?_
    iterate 3 (rw [rounds_succ]; go_wp2_with fail)
    go_ret
    exact ⟨rfl, Fr.refl _ _⟩
  rw [if_neg h3]
  by_cases h7 : x = 7
  · rw [if_pos h7]
    subst h7
    clear h1 h2 h3
    go_enter Tryz.func109, Tryz.ntmps109
    go_wp2_with fail
    refine wp_loop_rounds 5 ?_
    iterate 4 (rw [rounds_succ]; go_wp2_with fail)
    go_ret
    exact ⟨rfl, Fr.refl _ _⟩
  rw [if_neg h7]
  have e1 : (x == 1) = false := by simpa using h1
  have e2 : (x == 2) = false := by simpa using h2
  have e3 : (x == 3) = false := by simpa using h3
  have e7 : (x == 7) = false := by simpa using h7
  clear h1 h2 h3 h7
  go_enter Tryz.func109, Tryz.ntmps109
  go_wp2_with fail
  refine wp_loop_rounds 5 ?_
  iterate 5 (rw [rounds_succ]; go_wp2_with fail)
  go_ret
  exact ⟨rfl, Fr.refl _ _⟩

set_option maxHeartbeats 400000 in
theorem contains32 (g : Nat) (x : Int) (w : World) (hc : CellsAt w g 0 [.int .i32 1, .int .i32 2, .int .i32 3, .int .i32 7]) :
    Calls Tryz.prog 77 #[.slice (some ⟨g, 0, none⟩) 4 4, .int .i32 x] w fun e w' => e = .returned (.bool (decide (x = 1 ∨ x = 2 ∨ x = 3 ∨ x = 7))) ∧ Fr No w w' := by
  have H := Lib.hid (index32 g x w hc)
  clear hc
  by_cases hx : x = 1 ∨ x = 2 ∨ x = 3 ∨ x = 7
  · rw [decide_eq_true hx]
    have h0 : 0 ≤ heIdx x := by unfold heIdx; rcases hx with rfl | rfl | rfl | rfl <;> decide
    generalize heIdx x = r at *
    clear hx
    go_enter Tryz.func77, Tryz.ntmps77
    go_wp2_with (go_at_call 109; (with_reducible refine (H.out).mono ?_); rintro e w' ⟨rfl, hf⟩)
    go_ret
    exact ⟨rfl, hf⟩
  · rw [decide_eq_false hx]
    have h0 : ¬ 0 ≤ heIdx x := by
      unfold heIdx
      rw [if_neg (fun h => hx (.inl h)), if_neg (fun h => hx (.inr (.inl h))), if_neg (fun h => hx (.inr (.inr (.inl h)))), if_neg (fun h => hx (.inr (.inr (.inr h))))]
      decide
    generalize heIdx x = r at *
    clear hx
    go_enter Tryz.func77, Tryz.ntmps77
    go_wp2_with (go_at_call 109; (with_reducible refine (H.out).mono ?_); rintro e w' ⟨rfl, hf⟩)
    go_ret
    exact ⟨by show Ending.returned (Value.bool (decide (0 ≤ r))) = _; rw [decide_eq_false (by omega)], hf⟩

/-- two instructions, as their cells are held against each other -/
def insNe (x y : Ins) : Bool := !((x.op : Int) == y.op && ((x.dst : Int) == y.dst && ((x.src : Int) == y.src && (x.off == y.off && x.imm == y.imm))))
theorem insNe_iff (x y : Ins) : insNe x y = true ↔ x ≠ y := by
  cases x; cases y
  simp [insNe]
  omega
theorem fr_src {w : World} {l : List Ins} {g off : Nat} (hc : CellsAt w g off (iflat l)) {W : World} (hf : Fr No w W) {pc : Nat} (h : pc < l.length) :
    W.cell? ⟨g, off + pc * 5, none⟩ = some (.int .u8 (insAt l pc).op) ∧ W.cell? ⟨g, off + pc * 5 + 1, none⟩ = some (.int .u8 (insAt l pc).dst) ∧ W.cell? ⟨g, off + pc * 5 + 2, none⟩ = some (.int .u8 (insAt l pc).src) ∧ W.cell? ⟨g, off + pc * 5 + 3, none⟩ = some (.int .i16 (insAt l pc).off) ∧ W.cell? ⟨g, off + pc * 5 + 4, none⟩ = some (.int .i32 (insAt l pc).imm) := ins_cells (hf.cells hc id) h

set_option maxRecDepth 100000 in
set_option maxHeartbeats 4000000 in
theorem pfield_any (l : List Ins) (v : Value) (pc : Nat) (maps : Int) (inner : Bool) (w : World) (hv : InsAt w v l) (hok : ∀ i ∈ l, i.ok) (hl : l.length ≤ 100000) (hpc : pc < l.length) :
    Calls Tryz.prog 53 #[v, .int .i64 pc, .int .i64 maps, .bool inner] w fun e w' => e = .returned (.int .i64 (fieldM l pc maps inner)) ∧ Fr No w w' := by
  rcases hv with ⟨rfl, _⟩ | ⟨g, off, cap, rfl, hc⟩
  · exact absurd hpc (Nat.not_lt_zero _)
  have hi : (insAt l pc).ok := by rw [insAt_ok hpc]; exact hok _ (List.getElem_mem hpc)
  have HIC : Hid (∀ W, Fr No w W → _) := fun W hf => fr_src hc hf hpc
  have HIN : Hid (∀ W, Fr No w W → pc + 1 < l.length → _) := fun W hf h => fr_src hc hf h
  obtain ⟨k0, k1, k2, k3, k4⟩ := HIC.out w (Fr.refl _ _)
  have HCK : Hid (∀ W, Calls Tryz.prog 76 #[.agg #[.int .u8 (insAt l pc).op, .int .u8 (insAt l pc).dst, .int .u8 (insAt l pc).src, .int .i16 (insAt l pc).off, .int .i32 (insAt l pc).imm], .bool inner] W fun e w' => e = .returned (.int .i64 (checkI (insAt l pc) inner)) ∧ Fr No W w') := fun W => icheck_any _ inner hi W
  have w0 : IntKind.i64.wrap (insAt l pc).imm = (insAt l pc).imm := IntWalk.i64_in _ (by have := hi.imm; omega)
  have w1 : wrap64 ((pc : Int) + 1) = ((pc + 1 : Nat) : Int) := by rw [IntWalk.wrap64_in _ (by omega)]; omega
  have w1q : IntKind.i64.wrap ((pc : Int) + 1) = ((pc + 1 : Nat) : Int) := by rw [IntWalk.i64_in _ (by omega)]; omega
  have p1 : (pc : Int) < (l.length : Int) := by omega
  have p2 : (0 : Int) ≤ (pc : Int) := by omega
  obtain ⟨R, hR⟩ : ∃ R, fieldM l pc maps inner = R := ⟨_, rfl⟩
  rw [hR]
  have HR : Hid (R = if checkI (insAt l pc) inner ≠ 0 then checkI (insAt l pc) inner
    else if (insAt l pc).op = 133 then (if (insAt l pc).imm = 1 ∨ (insAt l pc).imm = 2 ∨ (insAt l pc).imm = 3 ∨ (insAt l pc).imm = 7 then 0 else 45)
    else if (insAt l pc).op = 24 then
      if l.length ≤ pc + 1 ∨ insAt l (pc + 1) ≠ ⟨0, 0, 0, 0, (insAt l (pc + 1)).imm⟩ then 41
      else if (insAt l pc).src = 1 ∧ ((insAt l pc).imm < 0 ∨ maps ≤ (insAt l pc).imm ∨ (insAt l (pc + 1)).imm ≠ 0) then 44 else 0
    else 0) := hR.symm
  clear hR
  have HF1 : Hid (Fr No w (w.alloc (.cells #[.int .u8 (insAt l pc).op, .int .u8 (insAt l pc).dst, .int .u8 (insAt l pc).src, .int .i16 (insAt l pc).off, .int .i32 (insAt l pc).imm] 51))) := (Fr.refl _ _).alloc _
  have HCN : Hid (CellsAt (w.alloc (.cells #[.int .u8 (insAt l pc).op, .int .u8 (insAt l pc).dst, .int .u8 (insAt l pc).src, .int .i16 (insAt l pc).off, .int .i32 (insAt l pc).imm] 51)) w.heap.size 0 [.int .u8 (insAt l pc).op, .int .u8 (insAt l pc).dst, .int .u8 (insAt l pc).src, .int .i16 (insAt l pc).off, .int .i32 (insAt l pc).imm]) := CellsAt.new w _ _
  obtain ⟨n, hn⟩ : ∃ n, l.length = n := ⟨_, rfl⟩
  rw [hn] at HR p1 hl hpc HIN ⊢
  clear hn hc hi hok HIC
  obtain ⟨J, hJ⟩ : ∃ J, insAt l (pc + 1) = J := ⟨_, rfl⟩
  rw [hJ] at HR HIN
  obtain ⟨ck, hck⟩ : ∃ ck, checkI (insAt l pc) inner = ck := ⟨_, rfl⟩
  rw [hck] at HR HCK
  clear hJ hck
  generalize (insAt l pc).op = o0 at *
  generalize (insAt l pc).dst = o1 at *
  generalize (insAt l pc).src = o2 at *
  generalize (insAt l pc).off = o3 at *
  generalize (insAt l pc).imm = o4 at *
  have q0 : ((o0 : Int) == 133) = (o0 == 133) := beq_nat _ 133
  have q1 : ((o0 : Int) == 24) = (o0 == 24) := beq_nat _ 24
  have q2 : ((o2 : Int) == 1) = (o2 == 1) := beq_nat _ 1
  go_enter Tryz.func53, Tryz.ntmps53
  go_upto_region 2 with fail
  generalize w.alloc (.cells #[.int .u8 o0, .int .u8 o1, .int .u8 o2, .int .i16 o3, .int .i32 o4] 51) = W1 at *
  generalize w.heap.size = b at *
  have HCC : Hid (∀ W, Fr No W1 W → W.cell? ⟨b, 0, none⟩ = some (.int .u8 o0) ∧ W.cell? ⟨b, 1, none⟩ = some (.int .u8 o1) ∧ W.cell? ⟨b, 2, none⟩ = some (.int .u8 o2) ∧ W.cell? ⟨b, 3, none⟩ = some (.int .i16 o3) ∧ W.cell? ⟨b, 4, none⟩ = some (.int .i32 o4) ∧ True) := fun W hf => by
    have h := hf.cells HCN.out id
    exact ⟨h 0 _ rfl, h 1 _ rfl, h 2 _ rfl, h 3 _ rfl, h 4 _ rfl, trivial⟩
  obtain ⟨c0, c1, c2, c3, c4, c5⟩ := HCC.out W1 (Fr.refl _ _)
  clear k0 k1 k2 k3 k4
  have HFa : Hid (Fr No W1 W1) := Fr.refl _ _
  have HB : Hid (pc < n ∧ n ≤ 100000) := ⟨hpc, hl⟩
  clear HCN hpc hl
  have fin : Hid (∀ W (x : Int), Fr No W1 W → x = R → (Ending.returned (Value.int .i64 x) = Ending.returned (Value.int .i64 R) ∧ Fr No w W)) := fun W x hf hx => ⟨by rw [hx], HF1.out.trans hf⟩
  by_cases hck : ck = 0
  case neg =>
    have e0 : Hid (ck = R) := by rw [HR.out, if_pos hck]; exact Lib.hid rfl
    have e1 : (ck != 0) = true := by simpa using hck
    clear HR hck q0 q1 q2
    go_wp2_with (go_at_call 76; (with_reducible refine (HCK.out _).mono ?_); rintro e w9 ⟨rfl, hf1⟩; have HFa := Lib.hid (HFa.out.trans hf1); obtain ⟨c0, c1, c2, c3, c4, c5⟩ := HCC.out _ HFa.out)
    go_ret
    exact fin.out _ _ HFa.out e0.out
  subst hck
  go_upto_region 5 with (go_at_call 76; (with_reducible refine (HCK.out _).mono ?_); rintro e w9 ⟨rfl, hf1⟩; have HFa := Lib.hid (HFa.out.trans hf1); obtain ⟨c0, c1, c2, c3, c4, c5⟩ := HCC.out _ HFa.out)
  by_cases h133 : o0 = 133
  · have HR2 : Hid (R = if o4 = 1 ∨ o4 = 2 ∨ o4 = 3 ∨ o4 = 7 then 0 else 45) := by rw [HR.out, if_neg (by simp), if_pos h133]; exact Lib.hid rfl
    subst h133
    clear HR q0 q1 q2
    have c4' := (HCC.out (w9.alloc (.cells #[.int .i32 1, .int .i32 2, .int .i32 3, .int .i32 7] 21)) (HFa.out.alloc _)).2.2.2.2.1
    obtain ⟨x, hx⟩ : ∃ x : Bool, decide (o4 = 1 ∨ o4 = 2 ∨ o4 = 3 ∨ o4 = 7) = x := ⟨_, rfl⟩
    have HC32 : Hid (∀ g W, CellsAt W g 0 [.int .i32 1, .int .i32 2, .int .i32 3, .int .i32 7] → Calls Tryz.prog 77 #[.slice (some ⟨g, 0, none⟩) 4 4, .int .i32 o4] W fun e w' => e = .returned (.bool x) ∧ Fr No W w') := fun g W h => hx ▸ contains32 g o4 W h
    have HX := Lib.hid hx
    clear hx
    cases x
    · have e0 : Hid (R = 45) := by rw [HR2.out, if_neg (of_decide_eq_false HX.out)]; exact Lib.hid rfl
      go_wp2_with (go_at_call 77; (refine (HC32.out _ _ (CellsAt.new _ [.int .i32 1, .int .i32 2, .int .i32 3, .int .i32 7] _)).mono ?_); rintro e w9 ⟨rfl, hf1⟩; have HFa := Lib.hid ((HFa.out.alloc _).trans hf1))
      go_ret
      exact fin.out _ _ (by first | exact HFa.out | exact HFa.out.drewN _) e0.out.symm
    · have e0 : Hid (R = 0) := by rw [HR2.out, if_pos (of_decide_eq_true HX.out)]; exact Lib.hid rfl
      go_wp2_with (go_at_call 77; (refine (HC32.out _ _ (CellsAt.new _ [.int .i32 1, .int .i32 2, .int .i32 3, .int .i32 7] _)).mono ?_); rintro e w9 ⟨rfl, hf1⟩; have HFa := Lib.hid ((HFa.out.alloc _).trans hf1))
      go_ret
      exact fin.out _ _ (by first | exact HFa.out | exact HFa.out.drewN _) e0.out.symm
  rw [show (o0 == 133) = false from by simpa using h133] at q0
  by_cases h24 : o0 = 24
  · rw [show (o0 == 24) = true from by simpa using h24] at q1
    have HR2 : Hid (R = if n ≤ pc + 1 ∨ J ≠ ⟨0, 0, 0, 0, J.imm⟩ then 41 else if o2 = 1 ∧ (o4 < 0 ∨ maps ≤ o4 ∨ J.imm ≠ 0) then 44 else 0) := by rw [HR.out, if_neg (by simp), if_neg h133, if_pos h24]; exact Lib.hid rfl
    clear HR h133
    subst h24
    rcases Nat.lt_or_ge (pc + 1) n with hn | hn
    case inr =>
      have e0 : Hid (R = 41) := by rw [HR2.out, if_pos (.inl hn)]; exact Lib.hid rfl
      have p3 : (n : Int) ≤ ((pc + 1 : Nat) : Int) := by omega
      have p3q : decide ((n : Int) ≤ (pc : Int) + 1) = true := decide_eq_true (by omega)
      clear hn HR2 q2
      go_upto_region 10 with fail
      go_quiet (fail)
      go_wp2_with fail
      go_ret
      exact fin.out _ _ (by first | exact HFa.out | exact HFa.out.drewN _) e0.out.symm
    have hnn := Lib.hid hn
    obtain ⟨j0, j1, j2, j3, j4⟩ := HIN.out _ (HF1.out.trans HFa.out) hn
    have p3 : ¬ (n : Int) ≤ ((pc + 1 : Nat) : Int) := by omega
    have p3q : decide ((n : Int) ≤ (pc : Int) + 1) = false := decide_eq_false (by omega)
    have p4q : (pc : Int) + 1 < (n : Int) := by omega
    have p5q : (0 : Int) ≤ (pc : Int) + 1 := by omega
    have p4 : ((pc + 1 : Nat) : Int) < (n : Int) := by omega
    have p5 : (0 : Int) ≤ ((pc + 1 : Nat) : Int) := by omega
    obtain ⟨r, qn, hr⟩ : ∃ r : Bool, (∀ w, (binOp .neq 51 (.agg #[.int .u8 J.op, .int .u8 J.dst, .int .u8 J.src, .int .i16 J.off, .int .i32 J.imm]) (.agg #[.int .u8 0, .int .u8 0, .int .u8 0, .int .i16 0, .int .i32 J.imm])).run Tryz.prog w = .ok (.bool r) w) ∧ (r = true ↔ J ≠ ⟨0, 0, 0, 0, J.imm⟩) :=
      ⟨insNe J ⟨0, 0, 0, 0, J.imm⟩, fun w => neq_ins _ _ _ _ _ _ _ _ _ _ w, insNe_iff _ _⟩
    have HRR := Lib.hid hr
    clear hr HIN HCC hn
    cases r
    case true =>
      have e0 : Hid (R = 41) := by rw [HR2.out, if_pos (.inr (HRR.out.1 rfl))]; exact Lib.hid rfl
      clear HR2 q2
      generalize J.op = y0 at *
      generalize J.dst = y1 at *
      generalize J.src = y2 at *
      generalize J.off = y3 at *
      generalize J.imm = y4 at *
      go_upto_region 10 with fail
      go_quiet (fail)
      go_wp2_with fail
      go_ret
      exact fin.out _ _ (by first | exact HFa.out | exact HFa.out.drewN _) e0.out.symm
    have HR3 : Hid (R = if o2 = 1 ∧ (o4 < 0 ∨ maps ≤ o4 ∨ J.imm ≠ 0) then 44 else 0) := by rw [HR2.out, if_neg (fun h => by rcases h with h | h; exact absurd h (by have := hnn.out; omega); exact absurd (HRR.out.2 h) (by simp))]; exact Lib.hid rfl
    clear HR2 HRR
    generalize J.op = y0 at *
    generalize J.dst = y1 at *
    generalize J.src = y2 at *
    generalize J.off = y3 at *
    generalize J.imm = y4 at *
    go_upto_region 10 with fail
    go_quiet (fail)
    go_upto_region 12 with fail
    by_cases h1 : o2 = 1
    case neg =>
      rw [show (o2 == 1) = false from by simpa using h1] at q2
      have e0 : Hid (R = 0) := by rw [HR3.out, if_neg (fun h => h1 h.1)]; exact Lib.hid rfl
      clear HR3 h1
      go_wp2_with fail
      go_ret
      exact fin.out _ _ (by first | exact HFa.out | exact HFa.out.drewN _) e0.out.symm
    rw [show (o2 == 1) = true from by simpa using h1] at q2
    by_cases h2 : o4 < 0
    case pos =>
      have e0 : Hid (R = 44) := by rw [HR3.out, if_pos ⟨h1, .inl h2⟩]; exact Lib.hid rfl
      clear HR3 h1
      go_wp2_with fail
      go_ret
      exact fin.out _ _ (by first | exact HFa.out | exact HFa.out.drewN _) e0.out.symm
    by_cases h3 : maps ≤ o4
    case pos =>
      have e0 : Hid (R = 44) := by rw [HR3.out, if_pos ⟨h1, .inr (.inl h3)⟩]; exact Lib.hid rfl
      clear HR3 h1
      go_wp2_with fail
      go_ret
      exact fin.out _ _ (by first | exact HFa.out | exact HFa.out.drewN _) e0.out.symm
    by_cases h4 : y4 = 0
    case pos =>
      have e0 : Hid (R = 0) := by rw [HR3.out, if_neg (fun h => by rcases h.2 with h | h | h; exact h2 h; exact h3 h; exact h h4)]; exact Lib.hid rfl
      have q4 : (y4 != 0) = false := by simpa using h4
      clear HR3 h1 h4
      go_wp2_with fail
      go_ret
      exact fin.out _ _ (by first | exact HFa.out | exact HFa.out.drewN _) e0.out.symm
    · have e0 : Hid (R = 44) := by rw [HR3.out, if_pos ⟨h1, .inr (.inr h4)⟩]; exact Lib.hid rfl
      have q4 : (y4 != 0) = true := by simpa using h4
      clear HR3 h1 h4
      go_wp2_with fail
      go_ret
      exact fin.out _ _ (by first | exact HFa.out | exact HFa.out.drewN _) e0.out.symm
  · rw [show (o0 == 24) = false from by simpa using h24] at q1
    have e0 : Hid (R = 0) := by rw [HR.out, if_neg (by simp), if_neg h133, if_neg h24]; exact Lib.hid rfl
    clear HR h133 h24 q2
    go_wp2_with fail
    go_ret
    exact fin.out _ _ (by first | exact HFa.out | exact HFa.out.drewN _) e0.out.symm
end Go.Proofs.YtakcdecljfmckaaGreatDoor

namespace Go.Proofs.YtakcdecljfmckaaGreatDoor
open Go.RowKit

theorem Tryz.infoCh_int : (Tryz.prog.info? 3).map (fun i => (i.zero, i.size, i.bytes)) = some (some (.int .i64 0), 1, 8) := by kernel_rfl
theorem enters_next1 : ∀ args w, (callFunc 42 args).run Tryz.prog w = .ok (.enter 42 args) w := enters_of Tryz.func42 (by kernel_rfl) rfl
theorem Gath.nats {w w' : World} {t : TypeId} {L : List Nat} {v : Value} (h : Gath w t 1 L.length (i64s L) v w') (h0 : L ≠ []) : NatsAt w' v L := by
  rcases h.cells with ⟨h1, _, _⟩ | ⟨g, cap, hv, hc, -⟩
  · exact absurd (List.eq_nil_of_length_eq_zero h1) h0
  · exact .inr ⟨g, cap, hv, hc⟩

theorem one_lt {a n : Nat} (h : a < n) : ∀ x ∈ [a], x < n := fun x hx => by rw [List.mem_singleton.1 hx]; exact h
theorem two_lt {a b n : Nat} (h : a < n) (h2 : b < n) : ∀ x ∈ [a, b], x < n := fun x hx => by
  rcases List.mem_cons.1 hx with rfl | hx
  · exact h
  · rw [List.mem_singleton.1 hx]; exact h2
theorem Gath.cellsG {w w' : World} {t : TypeId} {size n g c : Nat} {xs : List Value} (h : Gath w t size n xs (.slice (some ⟨g, 0, none⟩) n c) w') : CellsAt w' g 0 xs := (ownsRow_cells h.own).1

set_option maxHeartbeats 400000 in
theorem next1_any (b n x : Nat) (v : Value) (w : World) (a : Option Addr) (c : Nat) (hv : v = .slice a n c) (hb : w.cell? ⟨b, 0, none⟩ = some v) (hx : x < n) :
    Calls Tryz.prog 42 #[.int .i64 (x : Int), .pointer (some ⟨b, 0, none⟩)] w fun e w' => e = .returned (.bool false) ∧ Fr No w w' := by
  subst hv
  have p1 : ¬ (x : Int) < 0 := by omega
  have p2 : ¬ (n : Int) ≤ (x : Int) := by omega
  go_enter Tryz.func42, Tryz.ntmps42
  go_wp2_with fail
  go_ret
  exact ⟨rfl, Fr.refl _ _⟩

set_option maxRecDepth 100000 in
set_option maxHeartbeats 4000000 in
theorem next_any (l : List Ins) (v : Value) (pc : Nat) (w : World) (hv : InsAt w v l) (hok : ∀ i ∈ l, i.ok) (hl : l.length ≤ 100000) (hpc : pc < l.length)
    (hj : jumpsM (insAt l pc) = true → 0 ≤ toM l pc ∧ toM l pc < l.length) (hs : endsM (insAt l pc) = false → alwaysM (insAt l pc) = false → pc + sizeM (insAt l pc) < l.length) :
    Calls Tryz.prog 18 #[v, .int .i64 pc] w fun e w' => ∃ v', e = .returned v' ∧ NatsAt w' v' (nextM l pc) ∧ (∀ k, v'.ownBlock = some k → w.heap.size ≤ k) ∧ Fr No w w' := by
  rcases hv with ⟨rfl, _⟩ | ⟨g, off, cap, rfl, hc⟩
  · exact absurd hpc (Nat.not_lt_zero _)
  have hi : (insAt l pc).ok := by rw [insAt_ok hpc]; exact hok _ (List.getElem_mem hpc)
  have HIC : Hid (∀ W, Fr No w W → W.cell? ⟨g, off + pc * 5, none⟩ = some (.int .u8 (insAt l pc).op) ∧ W.cell? ⟨g, off + pc * 5 + 1, none⟩ = some (.int .u8 (insAt l pc).dst) ∧ W.cell? ⟨g, off + pc * 5 + 2, none⟩ = some (.int .u8 (insAt l pc).src) ∧ W.cell? ⟨g, off + pc * 5 + 3, none⟩ = some (.int .i16 (insAt l pc).off) ∧ W.cell? ⟨g, off + pc * 5 + 4, none⟩ = some (.int .i32 (insAt l pc).imm)) := fun W hf => ins_cells (hf.cells hc id) hpc
  have HJ : Hid (∀ W, Calls Tryz.prog 40 #[.agg #[.int .u8 (insAt l pc).op, .int .u8 (insAt l pc).dst, .int .u8 (insAt l pc).src, .int .i16 (insAt l pc).off, .int .i32 (insAt l pc).imm]] W fun e w' => e = .returned (.bool (jumpsM (insAt l pc))) ∧ Fr No W w') := fun W => pjumps_any _ hi.op W
  have HE : Hid (∀ W, Calls Tryz.prog 37 #[.agg #[.int .u8 (insAt l pc).op, .int .u8 (insAt l pc).dst, .int .u8 (insAt l pc).src, .int .i16 (insAt l pc).off, .int .i32 (insAt l pc).imm]] W fun e w' => e = .returned (.bool (endsM (insAt l pc))) ∧ Fr No W w') := fun W => pends_any _ hi.op W
  have HA : Hid (∀ W, Calls Tryz.prog 38 #[.agg #[.int .u8 (insAt l pc).op, .int .u8 (insAt l pc).dst, .int .u8 (insAt l pc).src, .int .i16 (insAt l pc).off, .int .i32 (insAt l pc).imm]] W fun e w' => e = .returned (.bool (alwaysM (insAt l pc))) ∧ Fr No W w') := fun W => palways_any _ hi.op W
  have HS : Hid (∀ W, Calls Tryz.prog 39 #[.agg #[.int .u8 (insAt l pc).op, .int .u8 (insAt l pc).dst, .int .u8 (insAt l pc).src, .int .i16 (insAt l pc).off, .int .i32 (insAt l pc).imm]] W fun e w' => e = .returned (.int .i64 (sizeM (insAt l pc))) ∧ Fr No W w') := fun W => psize_any _ W
  have w1 : wrap64 ((pc : Int) + 1) = (pc : Int) + 1 := IntWalk.wrap64_in _ (by omega)
  have w0 : IntKind.i64.wrap (insAt l pc).off = (insAt l pc).off := IntWalk.i64_in _ (by have := hi.off; omega)
  have hz := sizeM_pos (insAt l pc)
  have w3 : wrap64 ((pc : Int) + (sizeM (insAt l pc) : Int)) = ((pc + sizeM (insAt l pc) : Nat) : Int) := by rw [IntWalk.wrap64_in _ (by omega)]; omega
  have p1 : (pc : Int) < (l.length : Int) := by omega
  have p2 : (0 : Int) ≤ (pc : Int) := by omega
  have p3 : ¬ (pc : Int) < 0 := by omega
  have p4 : ¬ (l.length : Int) ≤ (pc : Int) := by omega
  have HAJ : Hid (alwaysM (insAt l pc) = true → jumpsM (insAt l pc) = true) := fun h => by unfold alwaysM at h; simp only [Bool.and_eq_true] at h; exact h.1
  obtain ⟨R, hR⟩ : ∃ R, nextM l pc = R := ⟨_, rfl⟩
  rw [hR]
  have HR : Hid (R = if l.length ≤ pc ∨ endsM (insAt l pc) = true then [] else (if alwaysM (insAt l pc) = false ∧ pc + sizeM (insAt l pc) < l.length then [pc + sizeM (insAt l pc)] else []) ++
    (if jumpsM (insAt l pc) = true ∧ 0 ≤ toM l pc ∧ toM l pc < l.length then [(toM l pc).toNat] else [])) := hR.symm
  clear hR
  have w2' : wrap64 ((pc : Int) + 1 + (insAt l pc).off) = toM l pc := IntWalk.wrap64_in _ (by have := hi.off; omega)
  obtain ⟨q, hq, hqn⟩ : ∃ q : Nat, (jumpsM (insAt l pc) = true → toM l pc = (q : Int)) ∧ (jumpsM (insAt l pc) = true → q < l.length) := by
    cases e : jumpsM (insAt l pc) with
    | false => exact ⟨0, fun h => (by cases h), fun h => (by cases h)⟩
    | true => have := hj e; exact ⟨(toM l pc).toNat, fun _ => by omega, fun _ => by omega⟩
  have HSRC := Lib.hid (Fr.refl No w)
  obtain ⟨n, hn⟩ : ∃ n, l.length = n := ⟨_, rfl⟩
  rw [hn] at HR p1 p4 hl hpc hs hqn ⊢
  obtain ⟨tt, htt⟩ : ∃ t, toM l pc = t := ⟨_, rfl⟩
  rw [htt] at HR w2' hq
  clear hn hc hi hok hj htt
  generalize jumpsM (insAt l pc) = J at *
  generalize endsM (insAt l pc) = E at *
  generalize alwaysM (insAt l pc) = A at *
  generalize sizeM (insAt l pc) = z at *
  generalize (insAt l pc).op = o0 at *
  generalize (insAt l pc).dst = o1 at *
  generalize (insAt l pc).src = o2 at *
  generalize (insAt l pc).off = o3 at *
  generalize (insAt l pc).imm = o4 at *
  obtain ⟨i0, hi0, hz0, hz1, hz2⟩ := info_parts Tryz.infoCh_int
  have HHL := Lib.hid (And.intro hl hpc)
  clear hl hpc
  go_enter Tryz.func18, Tryz.ntmps18
  go_upto_region 1 with fail
  have HB0 : Hid (∀ W, Fr No (w.alloc (.cells #[.slice (some ⟨g, off, none⟩) n cap] 22)) W → W.cell? ⟨w.heap.size, 0, none⟩ = some (.slice (some ⟨g, off, none⟩) n cap)) := fun W hf => by
    have := (hf.cells (CellsAt.new w [.slice (some ⟨g, off, none⟩) n cap] 22) id) 0 _ rfl
    exact this
  have HF1 : Hid (Fr No w (w.alloc (.cells #[.slice (some ⟨g, off, none⟩) n cap] 22))) := (Fr.refl _ _).alloc _
  generalize w.alloc (.cells #[.slice (some ⟨g, off, none⟩) n cap] 22) = W1 at *
  generalize w.heap.size = b at *
  have b0 := HB0.out W1 (Fr.refl _ _)
  obtain ⟨k0, k1, k2, k3, k4⟩ := HIC.out W1 HF1.out
  have HFa : Hid (Fr No W1 W1) := Fr.refl _ _
  cases E
  case true =>
    have e0 : R = [] := by rw [HR.out, if_pos (.inr rfl)]
    subst e0
    clear HR HSRC
    go_wp2_with (go_at_call 37; (with_reducible refine (HE.out _).mono ?_); rintro e w9 ⟨rfl, hf1⟩; have HFa := Lib.hid (HFa.out.trans hf1); have b0 := HB0.out _ HFa.out; obtain ⟨k0, k1, k2, k3, k4⟩ := HIC.out _ (HF1.out.trans HFa.out))
    go_ret
    exact ⟨_, rfl, .inl ⟨rfl, rfl⟩, fun k hk => (by cases hk), HF1.out.trans HFa.out⟩
  case false =>
    go_upto_region 3 with (go_at_call 37; (with_reducible refine (HE.out _).mono ?_); rintro e w9 ⟨rfl, hf1⟩; have HFa := Lib.hid (HFa.out.trans hf1); have b0 := HB0.out _ HFa.out; obtain ⟨k0, k1, k2, k3, k4⟩ := HIC.out _ (HF1.out.trans HFa.out))
    go_upto_region 4 with fail
    have HCN : Hid (CellsAt (w9.alloc (.cells #[.int .u8 o0, .int .u8 o1, .int .u8 o2, .int .i16 o3, .int .i32 o4] 51)) w9.heap.size 0 [.int .u8 o0, .int .u8 o1, .int .u8 o2, .int .i16 o3, .int .i32 o4]) := CellsAt.new _ _ _
    have HF2 : Hid (Fr No W1 (w9.alloc (.cells #[.int .u8 o0, .int .u8 o1, .int .u8 o2, .int .i16 o3, .int .i32 o4] 51))) := HFa.out.alloc _
    clear HFa b0 k0 k1 k2 k3 k4 hf1
    generalize w9.alloc (.cells #[.int .u8 o0, .int .u8 o1, .int .u8 o2, .int .i16 o3, .int .i32 o4] 51) = W2 at *
    generalize w9.heap.size = b2 at *
    have HX : Hid (∀ W, Fr No W2 W → W.cell? ⟨b, 0, none⟩ = some (.slice (some ⟨g, off, none⟩) n cap) ∧ W.cell? ⟨b2, 0, none⟩ = some (.int .u8 o0) ∧ W.cell? ⟨b2, 1, none⟩ = some (.int .u8 o1) ∧ W.cell? ⟨b2, 2, none⟩ = some (.int .u8 o2) ∧ W.cell? ⟨b2, 3, none⟩ = some (.int .i16 o3) ∧ W.cell? ⟨b2, 4, none⟩ = some (.int .i32 o4)) := fun W hf => by
      have h := hf.cells HCN.out id
      exact ⟨HB0.out _ (HF2.out.trans hf), h 0 _ rfl, h 1 _ rfl, h 2 _ rfl, h 3 _ rfl, h 4 _ rfl⟩
    obtain ⟨b0, n0, n1, n2, n3, n4⟩ := HX.out W2 (Fr.refl _ _)
    have HFa : Hid (Fr No W2 W2) := Fr.refl _ _
    have HFW : Hid (Fr No w W2) := HF1.out.trans HF2.out
    have HWS : Hid (∀ k, W2.heap.size ≤ k → w.heap.size ≤ k) := fun k hk => Nat.le_trans HFW.out.size hk
    have HNP : Hid (¬ n ≤ pc) := by have := HHL.out; exact Lib.hid (by omega)
    clear HB0 HIC HCN HF1 HF2 HE
    cases A
    case false =>
      have HS1 : Hid (pc + z < n) := Lib.hid (by simpa using hs)
      clear hs
      cases J
      case false =>
        have e0 : Hid (R = [pc + z]) := by rw [HR.out, if_neg (by simp [HNP.out]), if_pos ⟨rfl, HS1.out⟩, if_neg (by simp)]; exact Lib.hid rfl
        clear HR hq hqn HAJ w2'
        go_wp2_with (first | (go_at_call 38; (with_reducible refine (HA.out _).mono ?_); rintro e w9 ⟨rfl, hf1⟩; have HFa := Lib.hid (HFa.out.trans hf1); obtain ⟨b0, n0, n1, n2, n3, n4⟩ := HX.out _ HFa.out) | (go_at_call 39; (with_reducible refine (HS.out _).mono ?_); rintro e w9 ⟨rfl, hf1⟩; have HFa := Lib.hid (HFa.out.trans hf1); obtain ⟨b0, n0, n1, n2, n3, n4⟩ := HX.out _ HFa.out) | (go_at_call 40; (with_reducible refine (HJ.out _).mono ?_); rintro e w9 ⟨rfl, hf1⟩; have HFa := Lib.hid (HFa.out.trans hf1); obtain ⟨b0, n0, n1, n2, n3, n4⟩ := HX.out _ HFa.out) | (at_builtin; refine wpList_append_src rfl _ _ 31 rfl W2.heap.size 3 i0 _ 1 8 Tryz.underlying31 hi0 hz0 hz1 hz2 rfl (by decide) (.slice none 0 0) 0 [] rfl (Gath.start' (HFa.out.alloc _) _ _).own _ 1 [.int .i64 ((pc + z : Nat) : Int)] rfl (src_new _ [.int .i64 ((pc + z : Nat) : Int)] 3) rfl (by simp [Value.oneCell']) (by unfold maxLen; omega) (by omega) (HFa.out.alloc _).size ?_; intro v1 w2 own2 fr2; obtain ⟨g1, c1, rfl⟩ := ownsRow_form own2 (by omega); have HG1 := Lib.hid ((Gath.start' (HFa.out.alloc _) 3 1).step own2 fr2); clear own2 fr2; have HFa := Lib.hid HG1.out.fr; obtain ⟨b0, n0, n1, n2, n3, n4⟩ := HX.out _ HFa.out) | (go_at_call 41; (with_reducible refine (del_none g1 1 c1 _ (.pointer (some ⟨b, 0, none⟩)) [pc + z] _ rfl (by omega) (Gath.cellsG (HG1.out.to hf1)) enters_next1 (fun x hx W hf => next1_any b n x _ W (some ⟨g, off, none⟩) cap rfl ((HX.out _ (HFa.out.trans hf)).1) ((one_lt HS1.out) x hx))).mono ?_); rintro e w9 ⟨rfl, hf2⟩; have HFc := Lib.hid (HFa.out.trans hf2)))
        go_ret
        exact ⟨_, rfl, by rw [e0.out]; exact ((HG1.out.to hf1).to hf2).nats (L := [pc + z]) (by simp), fun k hk => HWS.out _ (OwnOf.ge (((HG1.out.to hf1).to hf2)).own hk), HFW.out.trans HFc.out⟩
      case true =>
        obtain rfl := hq rfl
        have HQN := Lib.hid (hqn rfl)
        have e0 : Hid (R = [pc + z, q]) := by rw [HR.out, if_neg (by simp [HNP.out]), if_pos ⟨rfl, HS1.out⟩, if_pos ⟨rfl, by omega, by have := HQN.out; omega⟩]; exact Lib.hid rfl
        clear HR hq hqn HAJ
        go_upto_region 7 with (first | (go_at_call 38; (with_reducible refine (HA.out _).mono ?_); rintro e w9 ⟨rfl, hf1⟩; have HFa := Lib.hid (HFa.out.trans hf1); obtain ⟨b0, n0, n1, n2, n3, n4⟩ := HX.out _ HFa.out) | (go_at_call 39; (with_reducible refine (HS.out _).mono ?_); rintro e w9 ⟨rfl, hf1⟩; have HFa := Lib.hid (HFa.out.trans hf1); obtain ⟨b0, n0, n1, n2, n3, n4⟩ := HX.out _ HFa.out) | (go_at_call 40; (with_reducible refine (HJ.out _).mono ?_); rintro e w9 ⟨rfl, hf1⟩; have HFa := Lib.hid (HFa.out.trans hf1); obtain ⟨b0, n0, n1, n2, n3, n4⟩ := HX.out _ HFa.out) | (at_builtin; refine wpList_append_src rfl _ _ 31 rfl W2.heap.size 3 i0 _ 1 8 Tryz.underlying31 hi0 hz0 hz1 hz2 rfl (by decide) (.slice none 0 0) 0 [] rfl (Gath.start' (HFa.out.alloc _) _ _).own _ 1 [.int .i64 ((pc + z : Nat) : Int)] rfl (src_new _ [.int .i64 ((pc + z : Nat) : Int)] 3) rfl (by simp [Value.oneCell']) (by unfold maxLen; omega) (by omega) (HFa.out.alloc _).size ?_; intro v1 w2 own2 fr2; obtain ⟨g1, c1, rfl⟩ := ownsRow_form own2 (by omega); have HG1 := Lib.hid ((Gath.start' (HFa.out.alloc _) 3 1).step own2 fr2); clear own2 fr2; have HFa := Lib.hid HG1.out.fr; obtain ⟨b0, n0, n1, n2, n3, n4⟩ := HX.out _ HFa.out))
        have HGT : Hid (∀ W, Fr No w2 W → Gath W2 3 1 1 [.int .i64 ((pc + z : Nat) : Int)] (.slice (some ⟨g1, 0, none⟩) 1 c1) W) := fun W h => HG1.out.to h
        have HFb : Hid (Fr No w2 w2) := Fr.refl _ _
        go_upto_region 8 with (go_at_call 40; (with_reducible refine (HJ.out _).mono ?_); rintro e w9 ⟨rfl, hf1⟩; have HFa := Lib.hid (HFa.out.trans hf1); have HFb := Lib.hid (HFb.out.trans hf1); obtain ⟨b0, n0, n1, n2, n3, n4⟩ := HX.out _ HFa.out)
        go_wp2_with (first | (at_builtin; refine wpList_append_src rfl _ _ 31 rfl W2.heap.size 3 i0 _ 1 8 Tryz.underlying31 hi0 hz0 hz1 hz2 rfl (by decide) (.slice (some ⟨g1, 0, none⟩) 1 c1) 1 [.int .i64 ((pc + z : Nat) : Int)] rfl (HGT.out _ (HFb.out.alloc _)).own _ 1 [.int .i64 (q : Int)] rfl (src_new _ [.int .i64 (q : Int)] 3) rfl (by simp [Value.oneCell']) (by unfold maxLen; omega) (by omega) (HFa.out.alloc _).size ?_; intro v1 w2 own2 fr2; obtain ⟨g2, c2, rfl⟩ := ownsRow_form own2 (by omega); have HG2 := Lib.hid ((HGT.out _ (HFb.out.alloc _)).step own2 fr2); clear own2 fr2; have HFa := Lib.hid HG2.out.fr; obtain ⟨b0, n0, n1, n2, n3, n4⟩ := HX.out _ HFa.out) | (go_at_call 41; (with_reducible refine (del_none g2 2 c2 _ (.pointer (some ⟨b, 0, none⟩)) [pc + z, q] _ rfl (by omega) (Gath.cellsG HG2.out) enters_next1 (fun x hx W hf => next1_any b n x _ W (some ⟨g, off, none⟩) cap rfl ((HX.out _ (HFa.out.trans hf)).1) ((two_lt HS1.out HQN.out) x hx))).mono ?_); rintro e w9 ⟨rfl, hf2⟩; have HFc := Lib.hid (HFa.out.trans hf2)))
        go_ret
        exact ⟨_, rfl, by rw [e0.out]; exact (HG2.out.to hf2).nats (L := [pc + z, q]) (by simp), fun k hk => HWS.out _ (OwnOf.ge ((HG2.out.to hf2)).own hk), HFW.out.trans HFc.out⟩
    case true =>
      obtain rfl : J = true := HAJ.out rfl
      obtain rfl := hq rfl
      have HQN := Lib.hid (hqn rfl)
      have e0 : Hid (R = [q]) := by rw [HR.out, if_neg (by simp [HNP.out]), if_neg (by simp), if_pos ⟨rfl, by omega, by have := HQN.out; omega⟩]; exact Lib.hid rfl
      clear HR hq hqn HAJ hs
      go_wp2_with (first | (go_at_call 38; (with_reducible refine (HA.out _).mono ?_); rintro e w9 ⟨rfl, hf1⟩; have HFa := Lib.hid (HFa.out.trans hf1); obtain ⟨b0, n0, n1, n2, n3, n4⟩ := HX.out _ HFa.out) | (go_at_call 39; (with_reducible refine (HS.out _).mono ?_); rintro e w9 ⟨rfl, hf1⟩; have HFa := Lib.hid (HFa.out.trans hf1); obtain ⟨b0, n0, n1, n2, n3, n4⟩ := HX.out _ HFa.out) | (go_at_call 40; (with_reducible refine (HJ.out _).mono ?_); rintro e w9 ⟨rfl, hf1⟩; have HFa := Lib.hid (HFa.out.trans hf1); obtain ⟨b0, n0, n1, n2, n3, n4⟩ := HX.out _ HFa.out) | (at_builtin; refine wpList_append_src rfl _ _ 31 rfl W2.heap.size 3 i0 _ 1 8 Tryz.underlying31 hi0 hz0 hz1 hz2 rfl (by decide) (.slice none 0 0) 0 [] rfl (Gath.start' (HFa.out.alloc _) _ _).own _ 1 [.int .i64 (q : Int)] rfl (src_new _ [.int .i64 (q : Int)] 3) rfl (by simp [Value.oneCell']) (by unfold maxLen; omega) (by omega) (HFa.out.alloc _).size ?_; intro v1 w2 own2 fr2; obtain ⟨g1, c1, rfl⟩ := ownsRow_form own2 (by omega); have HG1 := Lib.hid ((Gath.start' (HFa.out.alloc _) 3 1).step own2 fr2); clear own2 fr2; have HFa := Lib.hid HG1.out.fr; obtain ⟨b0, n0, n1, n2, n3, n4⟩ := HX.out _ HFa.out) | (go_at_call 41; (with_reducible refine (del_none g1 1 c1 _ (.pointer (some ⟨b, 0, none⟩)) [q] _ rfl (by omega) (Gath.cellsG HG1.out) enters_next1 (fun x hx W hf => next1_any b n x _ W (some ⟨g, off, none⟩) cap rfl ((HX.out _ (HFa.out.trans hf)).1) ((one_lt HQN.out) x hx))).mono ?_); rintro e w9 ⟨rfl, hf2⟩; have HFc := Lib.hid (HFa.out.trans hf2)))
      go_ret
      exact ⟨_, rfl, by rw [e0.out]; exact (HG1.out.to hf2).nats (L := [q]) (by simp), fun k hk => HWS.out _ (OwnOf.ge ((HG1.out.to hf2)).own hk), HFW.out.trans HFc.out⟩
end Go.Proofs.YtakcdecljfmckaaGreatDoor
