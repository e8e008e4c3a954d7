/- firewallref04.alone: what is wrong with an instruction by itself. firewallref04.leads: what is wrong with where an instruction leads. -/
import Derived.Test.YtakcdecljfmckaaGreatDoorCore37
import Derived.Test.YtakcdecljfmckaaGreatDoorCore39
set_option linter.all false
set_option linter.unusedVariables false
set_option linter.unusedSimpArgs false
namespace Go.Proofs.YtakcdecljfmckaaGreatDoor
open Go.RowKit

theorem half_iff (J : Ins) : halfB J false = true ↔ J = ⟨0, 0, 0, 0, J.imm⟩ := by
  cases J
  simp [halfB, and_assoc]

set_option maxRecDepth 100000 in
set_option maxHeartbeats 4000000 in
theorem alone_any (l : List Ins) (v : Value) (pc : Nat) (maps : Int) (inner : Bool) (w : World) (hv : InsAt w v l) (hok : ∀ i ∈ l, i.ok) (hl : l.length ≤ 100000) (hpc : pc < l.length) :
    Calls Tryz.prog 60 #[v, .int .i64 pc, .int .i64 maps, .bool inner] w fun e w' => e = .returned (.int .i64 (fieldM l pc maps inner)) ∧ Fr No w w' := by
  rcases hv with ⟨rfl, _⟩ | ⟨g, off, cap, rfl, hc⟩
  · exact absurd hpc (Nat.not_lt_zero _)
  have hi : (insAt l pc).ok := by rw [insAt_ok hpc]; exact hok _ (List.getElem_mem hpc)
  have HIC : Hid (∀ W, Fr No w W → _) := fun W hf => src_cells hc hf hpc
  have HIN : Hid (∀ W, Fr No w W → pc + 1 < l.length → _) := fun W hf h => src_cells hc hf h
  obtain ⟨k0, k1, k2, k3, k4⟩ := HIC.out w (Fr.refl _ _)
  have HCK : Hid (∀ W, Calls Tryz.prog 79 #[.agg #[.int .u8 (insAt l pc).op, .int .u8 (insAt l pc).dst, .int .u8 (insAt l pc).src, .int .i16 (insAt l pc).off, .int .i32 (insAt l pc).imm], .bool inner] W fun e w' => e = .returned (.int .i64 (checkI (insAt l pc) inner)) ∧ Fr No W w') := fun W => refcheck_any _ inner hi W
  have w0 : IntKind.i64.wrap (insAt l pc).imm = (insAt l pc).imm := IntWalk.i64_in _ (by have := hi.imm; omega)
  have w1 : wrap64 ((pc : Int) + 1) = ((pc + 1 : Nat) : Int) := by rw [IntWalk.wrap64_in _ (by omega)]; omega
  have p1 : (pc : Int) < (l.length : Int) := by omega
  have p2 : (0 : Int) ≤ (pc : Int) := by omega
  obtain ⟨R, hR⟩ : ∃ R, fieldM l pc maps inner = R := ⟨_, rfl⟩
  rw [hR]
  have HR : Hid (R = if checkI (insAt l pc) inner ≠ 0 then checkI (insAt l pc) inner
    else if (insAt l pc).op = 133 then (if (insAt l pc).imm = 1 ∨ (insAt l pc).imm = 2 ∨ (insAt l pc).imm = 3 ∨ (insAt l pc).imm = 7 then 0 else 45)
    else if (insAt l pc).op = 24 then
      if l.length ≤ pc + 1 ∨ insAt l (pc + 1) ≠ ⟨0, 0, 0, 0, (insAt l (pc + 1)).imm⟩ then 41
      else if (insAt l pc).src = 1 ∧ ((insAt l pc).imm < 0 ∨ maps ≤ (insAt l pc).imm ∨ (insAt l (pc + 1)).imm ≠ 0) then 44 else 0
    else 0) := hR.symm
  clear hR
  have HF1 : Hid (Fr No w (w.alloc (.cells #[.int .u8 (insAt l pc).op, .int .u8 (insAt l pc).dst, .int .u8 (insAt l pc).src, .int .i16 (insAt l pc).off, .int .i32 (insAt l pc).imm] 51))) := (Fr.refl _ _).alloc _
  have HCN : Hid (CellsAt (w.alloc (.cells #[.int .u8 (insAt l pc).op, .int .u8 (insAt l pc).dst, .int .u8 (insAt l pc).src, .int .i16 (insAt l pc).off, .int .i32 (insAt l pc).imm] 51)) w.heap.size 0 [.int .u8 (insAt l pc).op, .int .u8 (insAt l pc).dst, .int .u8 (insAt l pc).src, .int .i16 (insAt l pc).off, .int .i32 (insAt l pc).imm]) := CellsAt.new w _ _
  obtain ⟨n, hn⟩ : ∃ n, l.length = n := ⟨_, rfl⟩
  rw [hn] at HR p1 hl hpc HIN ⊢
  clear hn hc hi hok HIC
  obtain ⟨J, hJ⟩ : ∃ J, insAt l (pc + 1) = J := ⟨_, rfl⟩
  rw [hJ] at HR HIN
  obtain ⟨ck, hck⟩ : ∃ ck, checkI (insAt l pc) inner = ck := ⟨_, rfl⟩
  rw [hck] at HR HCK
  clear hJ hck
  generalize (insAt l pc).op = o0 at *
  generalize (insAt l pc).dst = o1 at *
  generalize (insAt l pc).src = o2 at *
  generalize (insAt l pc).off = o3 at *
  generalize (insAt l pc).imm = o4 at *
  have q0 : ((o0 : Int) == 133) = (o0 == 133) := beq_nat _ 133
  have q1 : ((o0 : Int) == 24) = (o0 == 24) := beq_nat _ 24
  have q2 : ((o2 : Int) == 1) = (o2 == 1) := beq_nat _ 1
  go_enter Tryz.func60, Tryz.ntmps60
  go_upto_region 2 with fail
  generalize w.alloc (.cells #[.int .u8 o0, .int .u8 o1, .int .u8 o2, .int .i16 o3, .int .i32 o4] 51) = W1 at *
  generalize w.heap.size = b at *
  have HCC : Hid (∀ W, Fr No W1 W → W.cell? ⟨b, 0, none⟩ = some (.int .u8 o0) ∧ W.cell? ⟨b, 1, none⟩ = some (.int .u8 o1) ∧ W.cell? ⟨b, 2, none⟩ = some (.int .u8 o2) ∧ W.cell? ⟨b, 3, none⟩ = some (.int .i16 o3) ∧ W.cell? ⟨b, 4, none⟩ = some (.int .i32 o4) ∧ True) := fun W hf => by
    have h := hf.cells HCN.out id
    exact ⟨h 0 _ rfl, h 1 _ rfl, h 2 _ rfl, h 3 _ rfl, h 4 _ rfl, trivial⟩
  obtain ⟨c0, c1, c2, c3, c4, c5⟩ := HCC.out W1 (Fr.refl _ _)
  clear k0 k1 k2 k3 k4
  have HFa : Hid (Fr No W1 W1) := Fr.refl _ _
  have HB : Hid (pc < n ∧ n ≤ 100000) := ⟨hpc, hl⟩
  clear HCN hpc hl
  have fin : Hid (∀ W (x : Int), Fr No W1 W → x = R → (Ending.returned (Value.int .i64 x) = Ending.returned (Value.int .i64 R) ∧ Fr No w W)) := fun W x hf hx => ⟨by rw [hx], HF1.out.trans hf⟩
  by_cases hck : ck = 0
  case neg =>
    have e0 : Hid (ck = R) := by rw [HR.out, if_pos hck]; exact Lib.hid rfl
    have e1 : (ck != 0) = true := by simpa using hck
    clear HR hck q0 q1 q2
    go_wp2_with (go_at_call 79; (with_reducible refine (HCK.out _).mono ?_); rintro e w9 ⟨rfl, hf1⟩; have HFa := Lib.hid (HFa.out.trans hf1); obtain ⟨c0, c1, c2, c3, c4, c5⟩ := HCC.out _ HFa.out)
    go_ret
    exact fin.out _ _ HFa.out e0.out
  subst hck
  go_upto_region 5 with (go_at_call 79; (with_reducible refine (HCK.out _).mono ?_); rintro e w9 ⟨rfl, hf1⟩; have HFa := Lib.hid (HFa.out.trans hf1); obtain ⟨c0, c1, c2, c3, c4, c5⟩ := HCC.out _ HFa.out)
  by_cases h133 : o0 = 133
  · have HR2 : Hid (R = if o4 = 1 ∨ o4 = 2 ∨ o4 = 3 ∨ o4 = 7 then 0 else 45) := by rw [HR.out, if_neg (by simp), if_pos h133]; exact Lib.hid rfl
    subst h133
    clear HR q0 q1 q2 HCK
    by_cases h1 : o4 = 1
    · have e0 : Hid (R = 0) := by rw [HR2.out, if_pos (.inl h1)]; exact Lib.hid rfl
      have x1 : (o4 != 1) = false := by simpa using h1
      clear h1 HR2
      go_wp2_with fail
      go_ret
      exact fin.out _ _ HFa.out e0.out.symm
    have x1 : (o4 != 1) = true := by simpa using h1
    by_cases h2 : o4 = 2
    · have e0 : Hid (R = 0) := by rw [HR2.out, if_pos (.inr (.inl h2))]; exact Lib.hid rfl
      have x2 : (o4 != 2) = false := by simpa using h2
      clear h1 h2 HR2
      go_wp2_with fail
      go_ret
      exact fin.out _ _ HFa.out e0.out.symm
    have x2 : (o4 != 2) = true := by simpa using h2
    by_cases h3 : o4 = 3
    · have e0 : Hid (R = 0) := by rw [HR2.out, if_pos (.inr (.inr (.inl h3)))]; exact Lib.hid rfl
      have x3 : (o4 != 3) = false := by simpa using h3
      clear h1 h2 h3 HR2
      go_wp2_with fail
      go_ret
      exact fin.out _ _ HFa.out e0.out.symm
    have x3 : (o4 != 3) = true := by simpa using h3
    by_cases h7 : o4 = 7
    · have e0 : Hid (R = 0) := by rw [HR2.out, if_pos (.inr (.inr (.inr h7)))]; exact Lib.hid rfl
      have x7 : (o4 != 7) = false := by simpa using h7
      clear h1 h2 h3 h7 HR2
      go_wp2_with fail
      go_ret
      exact fin.out _ _ HFa.out e0.out.symm
    have x7 : (o4 != 7) = true := by simpa using h7
    have e0 : Hid (R = 45) := by rw [HR2.out, if_neg (fun h => by rcases h with h | h | h | h; exact h1 h; exact h2 h; exact h3 h; exact h7 h)]; exact Lib.hid rfl
    clear h1 h2 h3 h7 HR2
    go_wp2_with fail
    go_ret
    exact fin.out _ _ HFa.out e0.out.symm
  rw [show (o0 == 133) = false from by simpa using h133] at q0
  by_cases h24 : o0 = 24
  · rw [show (o0 == 24) = true from by simpa using h24] at q1
    have HR2 : Hid (R = if n ≤ pc + 1 ∨ J ≠ ⟨0, 0, 0, 0, J.imm⟩ then 41 else if o2 = 1 ∧ (o4 < 0 ∨ maps ≤ o4 ∨ J.imm ≠ 0) then 44 else 0) := by rw [HR.out, if_neg (by simp), if_neg h133, if_pos h24]; exact Lib.hid rfl
    clear HR h133
    subst h24
    rcases Nat.lt_or_ge (pc + 1) n with hn | hn
    case inr =>
      have e0 : Hid (R = 41) := by rw [HR2.out, if_pos (.inl hn)]; exact Lib.hid rfl
      have p3 : (((pc + 1 : Nat) : Int) == (n : Int)) = true := by rw [beq_iff_eq]; have := HB.out; omega
      have p3q : (((pc : Int) + 1) == (n : Int)) = true := by rw [beq_iff_eq]; have := HB.out; omega
      clear hn HR2 q2
      go_wp2_with fail
      go_ret
      exact fin.out _ _ HFa.out e0.out.symm
    have hnn := Lib.hid hn
    obtain ⟨j0, j1, j2, j3, j4⟩ := HIN.out _ (HF1.out.trans HFa.out) hn
    have p3 : (((pc + 1 : Nat) : Int) == (n : Int)) = false := by rw [beq_eq_false_iff_ne]; omega
    have p3q : (((pc : Int) + 1) == (n : Int)) = false := by rw [beq_eq_false_iff_ne]; omega
    have p4q : (pc : Int) + 1 < (n : Int) := by omega
    have p5q : (0 : Int) ≤ (pc : Int) + 1 := by omega
    have p4 : ((pc + 1 : Nat) : Int) < (n : Int) := by omega
    have p5 : (0 : Int) ≤ ((pc + 1 : Nat) : Int) := by omega
    have HHF : Hid (∀ W, Calls Tryz.prog 80 #[.agg #[.int .u8 J.op, .int .u8 J.dst, .int .u8 J.src, .int .i16 J.off, .int .i32 J.imm], .bool false] W fun e w' => e = .returned (.bool (halfB J false)) ∧ Fr No W w') := fun W => half_any J false W
    have HRR := Lib.hid (half_iff J)
    have HJC : Hid (∀ W, Fr No W1 W → W.cell? ⟨g, off + (pc + 1) * 5 + 4, none⟩ = some (.int .i32 J.imm) ∧ True) := fun W hf => ⟨(HIN.out _ (HF1.out.trans hf) hnn.out).2.2.2.2, trivial⟩
    obtain ⟨r, hr⟩ : ∃ r, halfB J false = r := ⟨_, rfl⟩
    rw [hr] at HHF HRR
    clear hr HIN hn
    cases r
    case false =>
      have e0 : Hid (R = 41) := by rw [HR2.out, if_pos (.inr (fun h => by have := HRR.out.2 h; cases this))]; exact Lib.hid rfl
      clear HR2 q2 HRR HJC
      generalize J.op = y0 at *
      generalize J.dst = y1 at *
      generalize J.src = y2 at *
      generalize J.off = y3 at *
      generalize J.imm = y4 at *
      go_wp2_with (go_at_call 80; (with_reducible refine (HHF.out _).mono ?_); rintro e w10 ⟨rfl, hf2⟩; have HFa := Lib.hid (HFa.out.trans hf2); obtain ⟨c0, c1, c2, c3, c4, c5⟩ := HCC.out _ HFa.out)
      go_ret
      exact fin.out _ _ HFa.out e0.out.symm
    have HR3 : Hid (R = if o2 = 1 ∧ (o4 < 0 ∨ maps ≤ o4 ∨ J.imm ≠ 0) then 44 else 0) := by rw [HR2.out, if_neg (fun h => by rcases h with h | h; exact absurd h (by have := hnn.out; omega); exact h (HRR.out.1 rfl))]; exact Lib.hid rfl
    clear HR2 HRR
    generalize J.op = y0 at *
    generalize J.dst = y1 at *
    generalize J.src = y2 at *
    generalize J.off = y3 at *
    generalize J.imm = y4 at *
    go_upto_region 7 with (go_at_call 80; (with_reducible refine (HHF.out _).mono ?_); rintro e w10 ⟨rfl, hf2⟩; have HFa := Lib.hid (HFa.out.trans hf2); obtain ⟨c0, c1, c2, c3, c4, c5⟩ := HCC.out _ HFa.out; obtain ⟨j4, j9⟩ := HJC.out _ HFa.out)
    by_cases h1 : o2 = 1
    case neg =>
      rw [show (o2 == 1) = false from by simpa using h1] at q2
      have e0 : Hid (R = 0) := by rw [HR3.out, if_neg (fun h => h1 h.1)]; exact Lib.hid rfl
      clear HR3 h1
      go_wp2_with fail
      go_ret
      exact fin.out _ _ HFa.out e0.out.symm
    rw [show (o2 == 1) = true from by simpa using h1] at q2
    by_cases h2 : o4 < 0
    case pos =>
      have e0 : Hid (R = 44) := by rw [HR3.out, if_pos ⟨h1, .inl h2⟩]; exact Lib.hid rfl
      have h2q : decide (o4 < 0) = true := decide_eq_true h2
      clear HR3 h1
      go_wp2_with fail
      go_ret
      exact fin.out _ _ HFa.out e0.out.symm
    have h2q : decide (o4 < 0) = false := decide_eq_false h2
    by_cases h3 : maps ≤ o4
    case pos =>
      have e0 : Hid (R = 44) := by rw [HR3.out, if_pos ⟨h1, .inr (.inl h3)⟩]; exact Lib.hid rfl
      have h3q : decide (maps ≤ o4) = true := decide_eq_true h3
      clear HR3 h1
      go_wp2_with fail
      go_ret
      exact fin.out _ _ HFa.out e0.out.symm
    have h3q : decide (maps ≤ o4) = false := decide_eq_false h3
    by_cases h4 : y4 = 0
    case pos =>
      have e0 : Hid (R = 0) := by rw [HR3.out, if_neg (fun h => by rcases h.2 with h | h | h; exact h2 h; exact h3 h; exact h h4)]; exact Lib.hid rfl
      have q4 : (y4 != 0) = false := by simpa using h4
      clear HR3 h1 h4
      go_wp2_with fail
      go_ret
      exact fin.out _ _ HFa.out e0.out.symm
    · have e0 : Hid (R = 44) := by rw [HR3.out, if_pos ⟨h1, .inr (.inr h4)⟩]; exact Lib.hid rfl
      have q4 : (y4 != 0) = true := by simpa using h4
      clear HR3 h1 h4
      go_wp2_with fail
      go_ret
      exact fin.out _ _ HFa.out e0.out.symm
  · rw [show (o0 == 24) = false from by simpa using h24] at q1
    have e0 : Hid (R = 0) := by rw [HR.out, if_neg (by simp), if_neg h133, if_neg h24]; exact Lib.hid rfl
    clear HR h133 h24 q2
    go_wp2_with fail
    go_ret
    exact fin.out _ _ HFa.out e0.out.symm
end Go.Proofs.YtakcdecljfmckaaGreatDoor

namespace Go.Proofs.YtakcdecljfmckaaGreatDoor
open Go.RowKit

set_option maxRecDepth 100000 in
set_option maxHeartbeats 4000000 in
theorem leads_any (l : List Ins) (v : Value) (pc : Nat) (w : World) (hv : InsAt w v l) (hok : ∀ i ∈ l, i.ok) (hl : l.length ≤ 100000) (hpc : pc < l.length) :
    Calls Tryz.prog 61 #[v, .int .i64 pc] w fun e w' => e = .returned (.int .i64 (wayM l (fun k => (starts l).contains k) pc)) ∧ Fr No w w' := by
  have HBH : Hid (∀ W, Fr No w W → Calls Tryz.prog 26 #[v, .int .i64 (pc : Int)] W fun e w' => e = .returned (.int .i64 (behM l pc : Nat)) ∧ W = w') := fun W hf => behind_any l v pc W (hv.fr hf) hl hpc
  have HSE : Hid (∀ W, Fr No w W → ∀ q : Nat, q < l.length → Calls Tryz.prog 81 #[v, .int .i64 (q : Int)] W fun e w' => e = .returned (.bool (!(starts l).contains q)) ∧ W = w') := fun W hf q hq => second_any l v q W (hv.fr hf) hl hq
  rcases hv with ⟨rfl, _⟩ | ⟨g, off, cap, rfl, hc⟩
  · exact absurd hpc (Nat.not_lt_zero _)
  have hi : (insAt l pc).ok := by rw [insAt_ok hpc]; exact hok _ (List.getElem_mem hpc)
  obtain ⟨k0, k1, k2, k3, k4⟩ := src_cells hc (Fr.refl No w) hpc
  have HJ : Hid (∀ W, Calls Tryz.prog 62 #[.agg #[.int .u8 (insAt l pc).op, .int .u8 (insAt l pc).dst, .int .u8 (insAt l pc).src, .int .i16 (insAt l pc).off, .int .i32 (insAt l pc).imm]] W fun e w' => e = .returned (.bool (jumpsM (insAt l pc))) ∧ Fr No W w') := fun W => rjumps_any _ hi.op W
  have HE : Hid (∀ W, Calls Tryz.prog 63 #[.agg #[.int .u8 (insAt l pc).op, .int .u8 (insAt l pc).dst, .int .u8 (insAt l pc).src, .int .i16 (insAt l pc).off, .int .i32 (insAt l pc).imm]] W fun e w' => e = .returned (.bool (endsM (insAt l pc))) ∧ Fr No W w') := fun W => rends_any _ hi.op W
  have HA : Hid (∀ W, Calls Tryz.prog 64 #[.agg #[.int .u8 (insAt l pc).op, .int .u8 (insAt l pc).dst, .int .u8 (insAt l pc).src, .int .i16 (insAt l pc).off, .int .i32 (insAt l pc).imm]] W fun e w' => e = .returned (.bool (alwaysM (insAt l pc))) ∧ Fr No W w') := fun W => ralways_any _ hi.op W
  have w0 : IntKind.i64.wrap (insAt l pc).off = (insAt l pc).off := IntWalk.i64_in _ (by have := hi.off; omega)
  have w1 : wrap64 ((pc : Int) + 1) = (pc : Int) + 1 := IntWalk.wrap64_in _ (by omega)
  have w2 : wrap64 ((pc : Int) + 1 + (insAt l pc).off) = toM l pc := IntWalk.wrap64_in _ (by have := hi.off; omega)
  have p1 : (pc : Int) < (l.length : Int) := by omega
  have p2 : (0 : Int) ≤ (pc : Int) := by omega
  obtain ⟨R, hR⟩ : ∃ R, wayM l (fun k => (starts l).contains k) pc = R := ⟨_, rfl⟩
  rw [hR]
  have HR : Hid (R = if jumpsM (insAt l pc) = true ∧ (toM l pc < 0 ∨ (l.length : Int) ≤ toM l pc) then 40
    else if jumpsM (insAt l pc) = true ∧ (starts l).contains (toM l pc).toNat = false then 41
    else if endsM (insAt l pc) = false ∧ alwaysM (insAt l pc) = false ∧ l.length ≤ behM l pc then 43
    else 0) := hR.symm
  have HF1 : Hid (Fr No w (w.alloc (.cells #[.int .u8 (insAt l pc).op, .int .u8 (insAt l pc).dst, .int .u8 (insAt l pc).src, .int .i16 (insAt l pc).off, .int .i32 (insAt l pc).imm] 51))) := (Fr.refl _ _).alloc _
  have HCN : Hid (CellsAt (w.alloc (.cells #[.int .u8 (insAt l pc).op, .int .u8 (insAt l pc).dst, .int .u8 (insAt l pc).src, .int .i16 (insAt l pc).off, .int .i32 (insAt l pc).imm] 51)) w.heap.size 0 [.int .u8 (insAt l pc).op, .int .u8 (insAt l pc).dst, .int .u8 (insAt l pc).src, .int .i16 (insAt l pc).off, .int .i32 (insAt l pc).imm]) := CellsAt.new w _ _
  obtain ⟨n, hn⟩ : ∃ n, l.length = n := ⟨_, rfl⟩
  rw [hn] at HR p1 hl hpc HBH HSE ⊢
  obtain ⟨z, hz⟩ : ∃ z, behM l pc = z := ⟨_, rfl⟩
  rw [hz] at HR HBH
  obtain ⟨tt, htt⟩ : ∃ t, toM l pc = t := ⟨_, rfl⟩
  rw [htt] at HR w2
  clear hn hc hi hok hR hz htt
  generalize jumpsM (insAt l pc) = J at *
  generalize endsM (insAt l pc) = E at *
  generalize alwaysM (insAt l pc) = A at *
  generalize (insAt l pc).op = o0 at *
  generalize (insAt l pc).dst = o1 at *
  generalize (insAt l pc).src = o2 at *
  generalize (insAt l pc).off = o3 at *
  generalize (insAt l pc).imm = o4 at *
  have HSRC : Hid ((Value.slice (some ⟨g, off, none⟩) n cap) = (Value.slice (some ⟨g, off, none⟩) n cap)) := rfl
  go_enter Tryz.func61, Tryz.ntmps61
  go_upto_region 2 with fail
  generalize w.alloc (.cells #[.int .u8 o0, .int .u8 o1, .int .u8 o2, .int .i16 o3, .int .i32 o4] 51) = W1 at *
  generalize w.heap.size = b at *
  have HCC : Hid (∀ W, Fr No W1 W → W.cell? ⟨b, 0, none⟩ = some (.int .u8 o0) ∧ W.cell? ⟨b, 1, none⟩ = some (.int .u8 o1) ∧ W.cell? ⟨b, 2, none⟩ = some (.int .u8 o2) ∧ W.cell? ⟨b, 3, none⟩ = some (.int .i16 o3) ∧ W.cell? ⟨b, 4, none⟩ = some (.int .i32 o4) ∧ True) := fun W hf => by
    have h := hf.cells HCN.out id
    exact ⟨h 0 _ rfl, h 1 _ rfl, h 2 _ rfl, h 3 _ rfl, h 4 _ rfl, trivial⟩
  obtain ⟨c0, c1, c2, c3, c4, c5⟩ := HCC.out W1 (Fr.refl _ _)
  clear k0 k1 k2 k3 k4
  have HFa : Hid (Fr No W1 W1) := Fr.refl _ _
  clear HCN hpc hl
  have fin : Hid (∀ W (x : Int), Fr No W1 W → x = R → (Ending.returned (Value.int .i64 x) = Ending.returned (Value.int .i64 R) ∧ Fr No w W)) := fun W x hf hx => ⟨by rw [hx], HF1.out.trans hf⟩
  have last : Hid ((∃ q : Nat, q < n ∧ tt = (q : Int) ∧ J = true ∧ (starts l).contains q = true) ∨ J = false → (E = true ∧ R = 0) ∨ (E = false ∧ A = true ∧ R = 0) ∨ (E = false ∧ A = false ∧ (n : Int) ≤ (z : Int) ∧ R = 43) ∨ (E = false ∧ A = false ∧ ¬ (n : Int) ≤ (z : Int) ∧ R = 0)) := fun h => by
    have e : R = if E = false ∧ A = false ∧ n ≤ z then 43 else 0 := by
      rcases h with ⟨q, h1, rfl, rfl, h2⟩ | rfl
      · rw [HR.out, if_neg (by omega), if_neg (by simp only [Int.toNat_natCast]; rw [h2]; simp)]
      · rw [HR.out, if_neg (by simp), if_neg (by simp)]
    cases E
    · cases A
      · by_cases h : n ≤ z
        · exact .inr (.inr (.inl ⟨rfl, rfl, by omega, by rw [e, if_pos ⟨rfl, rfl, h⟩]⟩))
        · exact .inr (.inr (.inr ⟨rfl, rfl, by omega, by rw [e, if_neg (fun h2 => h h2.2.2)]⟩))
      · exact .inr (.inl ⟨rfl, rfl, by rw [e, if_neg (by simp)]⟩)
    · exact .inl ⟨rfl, by rw [e, if_neg (by simp)]⟩
  cases J
  case false =>
    rcases last.out (.inr rfl) with ⟨rfl, e0⟩ | ⟨rfl, rfl, e0⟩ | ⟨rfl, rfl, g0, e0⟩ | ⟨rfl, rfl, g0, e0⟩
    all_goals have HE0 := Lib.hid e0
    all_goals clear e0 last HR
    all_goals go_wp2_with (first
      | (go_at_call 62; (with_reducible refine (HJ.out _).mono ?_); rintro e w9 ⟨rfl, hf1⟩; have HFa := Lib.hid (HFa.out.trans hf1); obtain ⟨c0, c1, c2, c3, c4, c5⟩ := HCC.out _ HFa.out)
      | (go_at_call 63; (with_reducible refine (HE.out _).mono ?_); rintro e w9 ⟨rfl, hf1⟩; have HFa := Lib.hid (HFa.out.trans hf1); obtain ⟨c0, c1, c2, c3, c4, c5⟩ := HCC.out _ HFa.out)
      | (go_at_call 64; (with_reducible refine (HA.out _).mono ?_); rintro e w9 ⟨rfl, hf1⟩; have HFa := Lib.hid (HFa.out.trans hf1); obtain ⟨c0, c1, c2, c3, c4, c5⟩ := HCC.out _ HFa.out)
      | (go_at_call 26; (with_reducible refine (HBH.out _ (HF1.out.trans HFa.out)).mono ?_); rintro e w9 ⟨rfl, rfl⟩))
    all_goals go_ret
    all_goals exact fin.out _ _ HFa.out HE0.out.symm
  by_cases t0 : tt < 0
  case pos =>
    have e0 : Hid (R = 40) := by rw [HR.out, if_pos ⟨rfl, .inl t0⟩]; exact Lib.hid rfl
    have t0q : decide (tt < 0) = true := decide_eq_true t0
    clear HR last
    go_wp2_with (go_at_call 62; (with_reducible refine (HJ.out _).mono ?_); rintro e w9 ⟨rfl, hf1⟩; have HFa := Lib.hid (HFa.out.trans hf1); obtain ⟨c0, c1, c2, c3, c4, c5⟩ := HCC.out _ HFa.out)
    go_ret
    exact fin.out _ _ HFa.out e0.out.symm
  by_cases t1 : (n : Int) ≤ tt
  case pos =>
    have e0 : Hid (R = 40) := by rw [HR.out, if_pos ⟨rfl, .inr t1⟩]; exact Lib.hid rfl
    have t0q : decide (tt < 0) = false := decide_eq_false t0
    have t1q : decide ((n : Int) ≤ tt) = true := decide_eq_true t1
    clear HR last
    go_wp2_with (go_at_call 62; (with_reducible refine (HJ.out _).mono ?_); rintro e w9 ⟨rfl, hf1⟩; have HFa := Lib.hid (HFa.out.trans hf1); obtain ⟨c0, c1, c2, c3, c4, c5⟩ := HCC.out _ HFa.out)
    go_ret
    exact fin.out _ _ HFa.out e0.out.symm
  obtain ⟨q, rfl⟩ : ∃ q : Nat, tt = (q : Int) := ⟨tt.toNat, by omega⟩
  have hqn : q < n := by omega
  have HS1 : Hid (∀ W, Fr No w W → Calls Tryz.prog 81 #[.slice (some ⟨g, off, none⟩) n cap, .int .i64 (q : Int)] W fun e w' => e = .returned (.bool (!(starts l).contains q)) ∧ W = w') := fun W hf => HSE.out W hf q hqn
  have t0q : decide ((q : Int) < 0) = false := decide_eq_false t0
  have t1q : decide ((n : Int) ≤ (q : Int)) = false := decide_eq_false t1
  have t1n : decide (n ≤ q) = false := decide_eq_false (by omega)
  obtain ⟨sc, hsc⟩ : ∃ sc, (starts l).contains q = sc := ⟨_, rfl⟩
  rw [hsc] at HS1
  have HSC := Lib.hid hsc
  have HQN := Lib.hid hqn
  clear hsc hqn
  cases sc
  case false =>
    have e0 : Hid (R = 41) := by rw [HR.out, if_neg (by have := HQN.out; omega), if_pos ⟨rfl, by simpa using HSC.out⟩]; exact Lib.hid rfl
    clear HR last
    go_wp2_with (first
      | (go_at_call 62; (with_reducible refine (HJ.out _).mono ?_); rintro e w9 ⟨rfl, hf1⟩; have HFa := Lib.hid (HFa.out.trans hf1); obtain ⟨c0, c1, c2, c3, c4, c5⟩ := HCC.out _ HFa.out)
      | (go_at_call 81; (with_reducible refine (HS1.out _ (HF1.out.trans HFa.out)).mono ?_); rintro e w9 ⟨rfl, rfl⟩))
    go_ret
    exact fin.out _ _ HFa.out e0.out.symm
  rcases last.out (.inl ⟨q, HQN.out, rfl, rfl, HSC.out⟩) with ⟨rfl, e0⟩ | ⟨rfl, rfl, e0⟩ | ⟨rfl, rfl, g0, e0⟩ | ⟨rfl, rfl, g0, e0⟩
  all_goals have HE0 := Lib.hid e0
  all_goals clear e0 last HR
  all_goals go_wp2_with (first
    | (go_at_call 62; (with_reducible refine (HJ.out _).mono ?_); rintro e w9 ⟨rfl, hf1⟩; have HFa := Lib.hid (HFa.out.trans hf1); obtain ⟨c0, c1, c2, c3, c4, c5⟩ := HCC.out _ HFa.out)
    | (go_at_call 81; (with_reducible refine (HS1.out _ (HF1.out.trans HFa.out)).mono ?_); rintro e w9 ⟨rfl, rfl⟩)
    | (go_at_call 63; (with_reducible refine (HE.out _).mono ?_); rintro e w9 ⟨rfl, hf1⟩; have HFa := Lib.hid (HFa.out.trans hf1); obtain ⟨c0, c1, c2, c3, c4, c5⟩ := HCC.out _ HFa.out)
    | (go_at_call 64; (with_reducible refine (HA.out _).mono ?_); rintro e w9 ⟨rfl, hf1⟩; have HFa := Lib.hid (HFa.out.trans hf1); obtain ⟨c0, c1, c2, c3, c4, c5⟩ := HCC.out _ HFa.out)
    | (go_at_call 26; (with_reducible refine (HBH.out _ (HF1.out.trans HFa.out)).mono ?_); rintro e w9 ⟨rfl, rfl⟩))
  all_goals go_ret
  all_goals exact fin.out _ _ HFa.out HE0.out.symm
end Go.Proofs.YtakcdecljfmckaaGreatDoor
