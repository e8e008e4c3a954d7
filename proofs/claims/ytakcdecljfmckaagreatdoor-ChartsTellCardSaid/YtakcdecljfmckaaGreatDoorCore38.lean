/- firewallref31: At, has, front. firewallref31.front, walked. firewallref02: known, Check. -/
import Derived.Test.YtakcdecljfmckaaGreatDoorCore37
import Derived.Test.YtakcdecljfmckaaGreatDoorCore7
import Derived.Test.YtakcdecljfmckaaGreatDoorCore1
import Derived.Deep.CutBlock
import Derived.Deep.DeepCutAuto
set_option linter.all false
set_option linter.unusedVariables false
set_option linter.unusedSimpArgs false
namespace Go.Proofs.YtakcdecljfmckaaGreatDoor
open Go.RowKit

/-! ### At -/
theorem atB_some {bs : List Blk} {pc : Int} {k : Nat} (hk : k < bs.length) (h1 : ∀ (j : Nat) b, j < k → bs[j]? = some b → ¬ ((b.fr : Int) ≤ pc ∧ pc < (b.to : Int))) {b : Blk} (hb : bs[k]? = some b) (h2 : (b.fr : Int) ≤ pc ∧ pc < (b.to : Int)) : atB bs pc = (k : Int) := by
  unfold atB
  have : bs.findIdx? (fun c => decide ((c.fr : Int) ≤ pc) && decide (pc < (c.to : Int))) = some k := by
    rw [List.findIdx?_eq_some_iff_getElem]
    rw [List.getElem?_eq_getElem hk] at hb
    refine ⟨hk, by rw [Option.some.inj hb]; simpa using h2, fun j hj => ?_⟩
    have := h1 j _ hj (List.getElem?_eq_getElem (by omega))
    simpa using this
  rw [this]
  rfl
theorem atB_none {bs : List Blk} {pc : Int} (h1 : ∀ (j : Nat) b, bs[j]? = some b → ¬ ((b.fr : Int) ≤ pc ∧ pc < (b.to : Int))) : atB bs pc = -1 := by
  unfold atB
  have : bs.findIdx? (fun c => decide ((c.fr : Int) ≤ pc) && decide (pc < (c.to : Int))) = none := by
    rw [List.findIdx?_eq_none_iff]
    intro b hb
    obtain ⟨j, hj, rfl⟩ := List.getElem_of_mem hb
    have := h1 j _ (List.getElem?_eq_getElem hj)
    simpa using this
  rw [this]
  rfl
set_option maxHeartbeats 400000 in
theorem rat_any (a : Option Addr) (g n c : Nat) (pc : Int) (l : List Blk) (w : World) (ha : 0 < n → a = some ⟨g, 0, none⟩) (hn : l.length = n) (hm : n ≤ 1000000) (hc : RowAt w g l) :
    Calls Tryz.prog 14 #[.slice a n c, .int .i64 pc] w fun e w' => e = .returned (.int .i64 (atB l pc)) ∧ w = w' := by
  have HC := Lib.hid hc
  have HN := Lib.hid hn
  have HA := Lib.hid ha
  clear hc hn ha
  have HS : Hid (∀ (k : Nat) b, k < n → (∀ (j : Nat) b, j < k → l[j]? = some b → ¬ ((b.fr : Int) ≤ pc ∧ pc < (b.to : Int))) → l[k]? = some b → ((b.fr : Int) ≤ pc ∧ pc < (b.to : Int)) → atB l pc = (k : Int)) := fun k b hk h1 h2 h3 => atB_some (by rw [HN.out]; exact hk) h1 h2 h3
  have HO : Hid ((∀ (j : Nat) b, l[j]? = some b → ¬ ((b.fr : Int) ≤ pc ∧ pc < (b.to : Int))) → atB l pc = -1) := fun h => atB_none h
  obtain ⟨R, hR⟩ : ∃ R, atB l pc = R := ⟨_, rfl⟩
  rw [hR] at HS HO ⊢
  clear hR
  go_enter Tryz.func14, Tryz.ntmps14
  go_wp2_with fail
  go_loopw [5] (fun iv wr => wr = w ∧ ∃ k : Nat, iv = .int .i64 (k : Int) ∧ k ≤ n ∧ Hid (∀ (j : Nat) b, j < k → l[j]? = some b → ¬ ((b.fr : Int) ≤ pc ∧ pc < (b.to : Int)))) (fun iv _ => n - (intOf iv).toNat)
  case atStart => exact ⟨rfl, 0, rfl, Nat.zero_le _, fun j _ h => absurd h (Nat.not_lt_zero _)⟩
  case round =>
    obtain ⟨rfl, k, rfl, hk, HJ⟩ := hrel
    by_cases hlt : k < n
    · obtain ⟨b, hb⟩ : ∃ b, l[k]? = some b := ⟨l[k]'(by rw [HN.out]; exact hlt), List.getElem?_eq_getElem _⟩
      obtain ⟨k0, k1, -⟩ := HC.out k b hb
      have ha := HA.out (by omega)
      subst ha
      have p1 : (k : Int) < (n : Int) := by omega
      have p0 : (0 : Int) ≤ (k : Int) := by omega
      have HB := Lib.hid hb
      have HLT := Lib.hid hlt
      have HJ2 : Hid (¬ ((b.fr : Int) ≤ pc ∧ pc < (b.to : Int)) → ∀ (j : Nat) b, j < k + 1 → l[j]? = some b → ¬ ((b.fr : Int) ≤ pc ∧ pc < (b.to : Int))) := fun hn j b2 hj hb2 => by
        by_cases e : j = k
        · subst e
          rw [HB.out] at hb2
          obtain rfl := Option.some.inj hb2
          exact hn
        · exact HJ.out j b2 (by omega) hb2
      have HS2 : Hid ((b.fr : Int) ≤ pc ∧ pc < (b.to : Int) → R = (k : Int)) := fun h => HS.out k b HLT.out HJ.out HB.out h
      clear hb hlt
      generalize b.fr = fr at *
      generalize b.to = te at *
      by_cases h1 : (fr : Int) ≤ pc
      · by_cases h2 : pc < (te : Int)
        · have HR : Hid (R = (k : Int)) := HS2.out ⟨h1, h2⟩
          clear HS HO HS2 HJ2
          go_wp2_with fail
          go_ret
          exact ⟨by rw [HR.out]; rfl, rfl⟩
        · have HJ3 := Lib.hid (HJ2.out (fun h => h2 h.2))
          clear HS2 HJ2
          go_wp2_with fail
          go_roundw
          case rel => exact ⟨trivial, k + 1, by go_num, by have := HLT.out; omega, HJ3.out⟩
          case measure => (have := HLT.out; simp [intOf] <;> omega)
      · have HJ3 := Lib.hid (HJ2.out (fun h => h1 h.1))
        clear HS2 HJ2
        go_wp2_with fail
        go_roundw
        case rel => exact ⟨trivial, k + 1, by go_num, by have := HLT.out; omega, HJ3.out⟩
        case measure => (have := HLT.out; simp [intOf] <;> omega)
    · obtain rfl : k = n := by omega
      have HR : Hid (R = -1) := HO.out (fun j b hb => HJ.out j b (by rw [← HN.out]; exact (List.getElem?_eq_some_iff.1 hb).1) hb)
      clear hlt HS HO
      go_wp2_with fail
      go_ret
      exact ⟨by rw [HR.out]; rfl, rfl⟩

/-! ### has -/
set_option maxHeartbeats 400000 in
theorem has_any (L : List Nat) (v : Value) (x : Nat) (w : World) (hv : NatsAt w v L) (hl : L.length ≤ 1000000) :
    Calls Tryz.prog 29 #[v, .int .i64 (x : Int)] w fun e w' => e = .returned (.bool (L.contains x)) ∧ w = w' := by
  obtain ⟨a, c, hv2⟩ : ∃ a c, v = .slice a L.length c := by
    rcases hv with ⟨h1, h2⟩ | ⟨g, c, h1, h2⟩
    · exact ⟨none, 0, by rw [h1, h2]; rfl⟩
    · exact ⟨_, c, h1⟩
  subst hv2
  have HV : Hid (∀ (k y : Nat), L[k]? = some y → ∃ g, a = some ⟨g, 0, none⟩ ∧ w.cell? ⟨g, k, none⟩ = some (.int .i64 (y : Int))) := fun k y hy => by
    rcases hv with ⟨h1, h2⟩ | ⟨g, c, h1, h2⟩
    · rw [h1] at hy; simp at hy
    · injection h1 with h1 _ _
      exact ⟨g, h1, i64_cell h2 hy⟩
  obtain ⟨n, hn⟩ : ∃ n, L.length = n := ⟨_, rfl⟩
  rw [hn] at hl ⊢
  have HN := Lib.hid hn
  have HT : Hid (∀ k : Nat, L[k]? = some x → L.contains x = true) := fun k hk => List.contains_iff_mem.2 (List.mem_of_getElem? hk)
  have HO : Hid ((∀ (j : Nat) y, j < n → L[j]? = some y → y ≠ x) → L.contains x = false) := fun h => by
    cases e : L.contains x with
    | false => rfl
    | true =>
      obtain ⟨j, hj, h2⟩ := List.getElem_of_mem (List.contains_iff_mem.1 e)
      exact absurd h2 (h j _ (by rw [← HN.out]; exact hj) (List.getElem?_eq_getElem hj))
  obtain ⟨R, hR⟩ : ∃ R, L.contains x = R := ⟨_, rfl⟩
  rw [hR] at HT HO ⊢
  clear hR hn hv
  go_enter Tryz.func29, Tryz.ntmps29
  go_wp2_with fail
  go_loopw [5] (fun iv wr => wr = w ∧ ∃ k : Nat, iv = .int .i64 (k : Int) ∧ k ≤ n ∧ Hid (∀ (j : Nat) y, j < k → L[j]? = some y → y ≠ x)) (fun iv _ => n - (intOf iv).toNat)
  case atStart => exact ⟨rfl, 0, rfl, Nat.zero_le _, fun j _ h => absurd h (Nat.not_lt_zero _)⟩
  case round =>
    obtain ⟨rfl, k, rfl, hk, HJ⟩ := hrel
    by_cases hlt : k < n
    · obtain ⟨y, hy⟩ : ∃ y, L[k]? = some y := ⟨L[k]'(by rw [HN.out]; exact hlt), List.getElem?_eq_getElem _⟩
      obtain ⟨g, rfl, k0⟩ := HV.out k y hy
      have p1 : (k : Int) < (n : Int) := by omega
      have p0 : (0 : Int) ≤ (k : Int) := by omega
      have HY := Lib.hid hy
      have HLT := Lib.hid hlt
      clear hy hlt
      by_cases e : y = x
      · subst e
        have HR : Hid (R = true) := HT.out k HY.out
        have q : ((y : Int) == (y : Int)) = true := by simp
        clear HT HO
        go_wp2_with fail
        go_ret
        exact ⟨by rw [HR.out]; rfl, rfl⟩
      · have q : ((y : Int) == (x : Int)) = false := by rw [beq_eq_false_iff_ne]; omega
        have HE := Lib.hid e
        clear e
        go_wp2_with fail
        go_roundw
        case rel =>
          refine ⟨trivial, k + 1, by go_num, by have := HLT.out; omega, fun j z hj hz => ?_⟩
          by_cases e : j = k
          · subst e
            rw [HY.out] at hz
            obtain rfl := Option.some.inj hz
            exact HE.out
          · exact HJ.out j z (by omega) hz
        case measure => (have := HLT.out; simp [intOf] <;> omega)
    · obtain rfl : k = n := by omega
      have HR : Hid (R = false) := HO.out HJ.out
      clear hlt HT HO
      go_wp2_with fail
      go_ret
      exact ⟨by rw [HR.out]; rfl, rfl⟩

/-! ### front -/
theorem known_call : ∀ op : Nat, op < 256 → knownB op false = true → jumpB op = true → codeN op = 128 → op = 133 := by decide +kernel
theorem Whole.leaves {l : List Ins} {maps : Int} (h : Whole l maps) {p : Nat} (hp : p ∈ starts l) (hok : (insAt l p).op < 256) : leavesM (insAt l p) = (jumpsM (insAt l p) || endsM (insAt l p)) := by
  cases e : leavesM (insAt l p) with
  | false =>
    obtain ⟨h1, h2, -⟩ := not_leaves e
    rw [h1, h2]
    rfl
  | true =>
    unfold leavesM at e
    simp only [Bool.and_eq_true, bne_iff_ne] at e
    obtain ⟨e1, hne⟩ := e
    have hf := h.field p hp
    unfold fieldM at hf
    simp only at hf
    have hc : checkI (insAt l p) false = 0 := by
      by_cases hz : checkI (insAt l p) false = 0
      · exact hz
      · rw [if_pos hz] at hf; exact hf
    have hk : knownB (insAt l p).op false = true := by
      unfold checkI at hc
      cases hkk : knownB (insAt l p).op false with
      | true => rfl
      | false => rw [hkk] at hc; simp at hc
    have h128 : codeN (insAt l p).op ≠ 128 := fun h8 => hne (known_call _ hok hk e1 h8)
    unfold jumpsM endsM
    rw [e1]
    by_cases h144 : codeN (insAt l p).op = 144
    · simp [h144]
    · simp [h128, h144]
/-- is this a front of one's? -/
def frB (l : List Ins) (pc q : Nat) : Bool := ((jumpsM (insAt l q) || endsM (insAt l q)) && decide (behM l q = pc)) || (jumpsM (insAt l q) && decide (toM l q = (pc : Int)))
theorem Whole.front_iff {l : List Ins} {maps : Int} (h : Whole l maps) (hok : ∀ i ∈ l, i.ok) (pc : Nat) : frontB l pc = true ↔ pc = 0 ∨ ∃ q ∈ starts l, frB l pc q = true := by
  have hop : ∀ q ∈ starts l, (insAt l q).op < 256 := fun q hq => by
    have hlt := starts_lt hq
    rw [insAt_ok hlt]
    exact (hok _ (List.getElem_mem hlt)).op
  unfold frontB frontsM
  rw [List.contains_iff_mem, List.mem_cons, List.mem_flatMap]
  refine or_congr Iff.rfl ⟨?_, ?_⟩
  · rintro ⟨q, hq, hm⟩
    refine ⟨q, hq, ?_⟩
    rw [h.leaves hq (hop q hq)] at hm
    split at hm
    · rename_i hl
      unfold frB
      rcases List.mem_cons.1 hm with rfl | hm
      · rw [hl]; simp
      · unfold nextM at hm
        simp only at hm
        split at hm
        · simp at hm
        · rcases List.mem_append.1 hm with hm | hm
          · split at hm
            · rw [List.mem_singleton.1 hm, hl]
              simp [behM]
            · simp at hm
          · split at hm
            · rename_i hc
              rw [List.mem_singleton.1 hm]
              have : toM l q = ((toM l q).toNat : Int) := by omega
              rw [hc.1, decide_eq_true this]
              simp
            · simp at hm
    · simp at hm
  · rintro ⟨q, hq, hb⟩
    refine ⟨q, hq, ?_⟩
    unfold frB at hb
    rw [h.leaves hq (hop q hq)]
    cases hj : jumpsM (insAt l q) with
    | true =>
      rw [if_pos (by simp)]
      rw [hj] at hb
      simp only [Bool.true_or, Bool.true_and, Bool.or_eq_true, decide_eq_true_eq] at hb
      rcases hb with hb | hb
      · rw [hb]; exact List.mem_cons_self
      · refine List.mem_cons_of_mem _ ?_
        obtain ⟨t1, t2, -⟩ := h.to hq hj
        have hlt := starts_lt hq
        have he : endsM (insAt l q) = false := by
          unfold jumpsM at hj
          unfold endsM
          simp only [Bool.and_eq_true, bne_iff_ne] at hj
          simp [hj.2]
        unfold nextM
        simp only
        rw [if_neg (by rw [he]; simp; omega)]
        refine List.mem_append_right _ ?_
        rw [if_pos ⟨hj, t1, t2⟩, hb]
        simp
    | false =>
      rw [hj] at hb
      simp only [Bool.false_or, Bool.false_and, Bool.or_false, Bool.and_eq_true, decide_eq_true_eq] at hb
      rw [if_pos (by simp [hb.1]), hb.2]
      exact List.mem_cons_self
end Go.Proofs.YtakcdecljfmckaaGreatDoor

namespace Go.Proofs.YtakcdecljfmckaaGreatDoor
open Go.RowKit

set_option maxRecDepth 100000 in
set_option maxHeartbeats 4000000 in
theorem rfront_any (l : List Ins) (v : Value) (maps : Int) (pc : Nat) (w : World) (hv : InsAt w v l) (hok : ∀ i ∈ l, i.ok) (hW : Whole l maps) :
    Calls Tryz.prog 27 #[v, .int .i64 (pc : Int)] w fun e w' => e = .returned (.bool (frontB l pc)) ∧ Fr No w w' := by
  by_cases h0 : pc = 0
  · subst h0
    rw [front_zero]
    obtain ⟨a, c, rfl⟩ := hv.form
    clear hv hok hW
    go_enter Tryz.func27, Tryz.ntmps27
    go_wp2_with fail
    go_ret
    exact ⟨rfl, Fr.refl _ _⟩
  have hn64 := hW.most
  have hl : l.length ≤ 100000 := by omega
  have HBH : Hid (∀ W, Fr No w W → ∀ q : Nat, q < l.length → Calls Tryz.prog 26 #[v, .int .i64 (q : Int)] W fun e w' => e = .returned (.int .i64 (behM l q : Nat)) ∧ W = w') := fun W hf q hq => behind_any l v q W (hv.fr hf) hl hq
  rcases hv with ⟨rfl, _⟩ | ⟨g, off, cap, rfl, hc⟩
  · exact absurd hW.pos (Nat.lt_irrefl 0)
  have HIC : Hid (∀ W, Fr No w W → ∀ q : Nat, q < l.length → _) := fun W hf q hq => src_cells hc hf hq
  have HI : Hid (∀ q : Nat, q < l.length → (insAt l q).ok) := fun q hq => by rw [insAt_ok hq]; exact hok _ (List.getElem_mem hq)
  have HT : Hid (∀ q ∈ starts l, frB l pc q = true → frontB l pc = true) := fun q hq h => (hW.front_iff hok pc).2 (.inr ⟨q, hq, h⟩)
  have HO : Hid ((∀ q ∈ starts l, frB l pc q = false) → frontB l pc = false) := fun h => by
    cases e : frontB l pc with
    | false => rfl
    | true =>
      rcases (hW.front_iff hok pc).1 e with h1 | ⟨q, hq, h1⟩
      · exact absurd h1 h0
      · rw [h q hq] at h1; cases h1
  have HS0 : Hid (0 ∈ starts l) := starts_zero hW.pos
  have HSL : Hid (∀ q ∈ starts l, q < l.length) := fun q hq => starts_lt hq
  obtain ⟨R, hR⟩ : ∃ R, frontB l pc = R := ⟨_, rfl⟩
  rw [hR] at HT HO ⊢
  obtain ⟨n, hn⟩ : ∃ n, l.length = n := ⟨_, rfl⟩
  rw [hn] at HBH HIC HI HSL hn64 ⊢
  have HN := Lib.hid hn
  have H64 := Lib.hid hn64
  have q0 : ((pc : Int) == 0) = false := by rw [beq_eq_false_iff_ne]; omega
  clear hR hn hc hok hW h0 hl hn64
  go_enter Tryz.func27, Tryz.ntmps27
  go_wp2_with fail
  go_loopw [5] (fun qv wr => ∃ q : Nat, qv = .int .i64 (q : Int) ∧ Hid (q < n → q ∈ starts l) ∧ Hid (∀ p ∈ starts l, p < q → frB l pc p = false) ∧ Hid (Fr No w wr)) (fun qv _ => n - (intOf qv).toNat)
  case atStart => exact ⟨0, rfl, fun _ => HS0.out, fun p _ h => absurd h (Nat.not_lt_zero _), Fr.refl _ _⟩
  case round =>
    obtain ⟨q, rfl, HS, HZ, HF⟩ := hrel
    by_cases hlt : q < n
    · have p1 : (q : Int) < (n : Int) := by omega
      have p0 : (0 : Int) ≤ (q : Int) := by omega
      have hi := HI.out q hlt
      obtain ⟨k0, k1, k2, k3, k4⟩ := HIC.out wr HF.out q hlt
      have HB := Lib.hid (fun W (hf : Fr No w W) => HBH.out _ hf q hlt)
      have HJ : Hid (∀ W, Calls Tryz.prog 62 #[.agg #[.int .u8 (insAt l q).op, .int .u8 (insAt l q).dst, .int .u8 (insAt l q).src, .int .i16 (insAt l q).off, .int .i32 (insAt l q).imm]] W fun e w' => e = .returned (.bool (jumpsM (insAt l q))) ∧ Fr No W w') := fun W => rjumps_any _ hi.op W
      have HE : Hid (∀ W, Calls Tryz.prog 63 #[.agg #[.int .u8 (insAt l q).op, .int .u8 (insAt l q).dst, .int .u8 (insAt l q).src, .int .i16 (insAt l q).off, .int .i32 (insAt l q).imm]] W fun e w' => e = .returned (.bool (endsM (insAt l q))) ∧ Fr No W w') := fun W => rends_any _ hi.op W
      have w0 : IntKind.i64.wrap (insAt l q).off = (insAt l q).off := IntWalk.i64_in _ (by have := hi.off; omega)
      have h64 := H64.out
      have w1 : wrap64 ((q : Int) + 1) = (q : Int) + 1 := IntWalk.wrap64_in _ (by omega)
      have w2 : wrap64 ((q : Int) + 1 + (insAt l q).off) = toM l q := IntWalk.wrap64_in _ (by have := hi.off; omega)
      have HPS := Lib.hid (HS.out hlt)
      have HLT := Lib.hid hlt
      have q1 : ((behM l q : Int) == (pc : Int)) = decide (behM l q = pc) := by rw [Bool.eq_iff_iff]; simp; omega
      have q2 : (toM l q == (pc : Int)) = decide (toM l q = (pc : Int)) := by rw [Bool.eq_iff_iff]; simp
      have HBP := Lib.hid (behM_pos l q)
      obtain ⟨F, hF⟩ : ∃ F, frB l pc q = F := ⟨_, rfl⟩
      have HFB : Hid (F = ((jumpsM (insAt l q) || endsM (insAt l q)) && decide (behM l q = pc) || (jumpsM (insAt l q) && decide (toM l q = (pc : Int))))) := hF.symm
      have HFE := Lib.hid hF
      have HF1 : Hid (Fr No w (wr.alloc (.cells #[.int .u8 (insAt l q).op, .int .u8 (insAt l q).dst, .int .u8 (insAt l q).src, .int .i16 (insAt l q).off, .int .i32 (insAt l q).imm] 51))) := HF.out.alloc _
      have HCN : Hid (CellsAt (wr.alloc (.cells #[.int .u8 (insAt l q).op, .int .u8 (insAt l q).dst, .int .u8 (insAt l q).src, .int .i16 (insAt l q).off, .int .i32 (insAt l q).imm] 51)) wr.heap.size 0 [.int .u8 (insAt l q).op, .int .u8 (insAt l q).dst, .int .u8 (insAt l q).src, .int .i16 (insAt l q).off, .int .i32 (insAt l q).imm]) := CellsAt.new wr _ _
      have HNX : Hid (behM l q < n → behM l q ∈ starts l) := fun h => starts_next HPS.out (by rw [HN.out]; exact h)
      have HZ2 : Hid (F = false → ∀ p ∈ starts l, p < behM l q → frB l pc p = false) := fun h p hp hlt => by
        rcases Nat.lt_trichotomy p q with h1 | rfl | h1
        · exact HZ.out p hp h1
        · rw [HFE.out]; exact h
        · have := starts_sep HPS.out hp h1; omega
      have HT2 : Hid (F = true → R = true) := fun h => HT.out q HPS.out (by rw [HFE.out]; exact h)
      clear hi hlt hF h64
      obtain ⟨b, hb⟩ : ∃ b, behM l q = b := ⟨_, rfl⟩
      rw [hb] at HB q1 HBP HFB HNX HZ2
      clear hb
      generalize toM l q = tt at *
      generalize decide (b = pc) = bp at *
      generalize decide (tt = (pc : Int)) = tp at *
      generalize jumpsM (insAt l q) = J at *
      generalize endsM (insAt l q) = E at *
      generalize (insAt l q).op = o0 at *
      generalize (insAt l q).dst = o1 at *
      generalize (insAt l q).src = o2 at *
      generalize (insAt l q).off = o3 at *
      generalize (insAt l q).imm = o4 at *
      go_upto_region 7 with fail
      generalize wr.alloc (.cells #[.int .u8 o0, .int .u8 o1, .int .u8 o2, .int .i16 o3, .int .i32 o4] 51) = W1 at *
      generalize wr.heap.size = c at *
      have HCC : Hid (∀ W, Fr No W1 W → W.cell? ⟨c, 0, none⟩ = some (.int .u8 o0) ∧ W.cell? ⟨c, 1, none⟩ = some (.int .u8 o1) ∧ W.cell? ⟨c, 2, none⟩ = some (.int .u8 o2) ∧ W.cell? ⟨c, 3, none⟩ = some (.int .i16 o3) ∧ W.cell? ⟨c, 4, none⟩ = some (.int .i32 o4) ∧ True) := fun W hf => by
        have h := hf.cells HCN.out id
        exact ⟨h 0 _ rfl, h 1 _ rfl, h 2 _ rfl, h 3 _ rfl, h 4 _ rfl, trivial⟩
      obtain ⟨c0, c1, c2, c3, c4, c5⟩ := HCC.out W1 (Fr.refl _ _)
      have HFa : Hid (Fr No W1 W1) := Fr.refl _ _
      clear k0 k1 k2 k3 k4 HCN HF HZ HS
      cases F
      case true =>
        have HRT : Hid (R = true) := HT2.out rfl
        clear HT2 HZ2 HNX HT HO
        cases J <;> cases E <;> cases bp <;> cases tp
        all_goals first | (exact absurd HFB.out (by decide)) | skip
        all_goals clear HFB
        all_goals go_wp2_with (first
          | (go_at_call 62; (with_reducible refine (HJ.out _).mono ?_); rintro e w9 ⟨rfl, hf1⟩; have HFa := Lib.hid (HFa.out.trans hf1); obtain ⟨c0, c1, c2, c3, c4, c5⟩ := HCC.out _ HFa.out)
          | (go_at_call 63; (with_reducible refine (HE.out _).mono ?_); rintro e w9 ⟨rfl, hf1⟩; have HFa := Lib.hid (HFa.out.trans hf1); obtain ⟨c0, c1, c2, c3, c4, c5⟩ := HCC.out _ HFa.out)
          | (go_at_call 26; (with_reducible refine (HB.out _ (HF1.out.trans HFa.out)).mono ?_); rintro e w9 ⟨rfl, rfl⟩))
        all_goals go_ret
        all_goals exact ⟨by rw [HRT.out]; rfl, HF1.out.trans HFa.out⟩
      case false =>
        have HZ3 := Lib.hid (HZ2.out rfl)
        clear HT2 HZ2
        cases J <;> cases E <;> cases bp <;> cases tp
        all_goals first | (exact absurd HFB.out (by decide)) | skip
        all_goals clear HFB
        all_goals go_wp2_with (first
          | (go_at_call 62; (with_reducible refine (HJ.out _).mono ?_); rintro e w9 ⟨rfl, hf1⟩; have HFa := Lib.hid (HFa.out.trans hf1); obtain ⟨c0, c1, c2, c3, c4, c5⟩ := HCC.out _ HFa.out)
          | (go_at_call 63; (with_reducible refine (HE.out _).mono ?_); rintro e w9 ⟨rfl, hf1⟩; have HFa := Lib.hid (HFa.out.trans hf1); obtain ⟨c0, c1, c2, c3, c4, c5⟩ := HCC.out _ HFa.out)
          | (go_at_call 26; (with_reducible refine (HB.out _ (HF1.out.trans HFa.out)).mono ?_); rintro e w9 ⟨rfl, rfl⟩))
        all_goals go_roundw
        all_goals first
          | exact ⟨b, rfl, HNX.out, HZ3.out, HF1.out.trans HFa.out⟩
          | (have := HLT.out; have := HBP.out; simp [intOf]; omega)
    · have p1 : ¬ (q : Int) < (n : Int) := by omega
      have HR : Hid (R = false) := HO.out (fun p hp => HZ.out p hp (by have := HSL.out p hp; omega))
      clear hlt HT HO
      go_wp2_with fail
      go_ret
      exact ⟨by rw [HR.out]; rfl, HF.out⟩
end Go.Proofs.YtakcdecljfmckaaGreatDoor

namespace Go.Proofs.YtakcdecljfmckaaGreatDoor
open Go.RowKit

set_option maxRecDepth 100000 in
set_option maxHeartbeats 1000000 in
theorem known_any (op : Nat) (inner : Bool) (h : op < 256) (w : World) : Calls Tryz.prog 110 #[.int .u8 op, .bool inner] w fun e w' => e = .returned (.bool (knownB op inner)) ∧ w = w' := by
  have HA : Hid (∀ W, Calls Tryz.prog 111 #[.int .u8 op] W fun e w' => e = .returned (.bool (arithB op)) ∧ W = w') := fun W => arith_any op h W
  have HJ : Hid (∀ W, Calls Tryz.prog 82 #[.int .u8 op] W fun e w' => e = .returned (.bool (jumpB op)) ∧ W = w') := fun W => jump_any op h W
  have HS : Hid (∀ W, Calls Tryz.prog 113 #[.int .u8 op] W fun e w' => e = .returned (.bool (specB op)) ∧ W = w') := fun W => special_any op h W
  have HR : Hid (∀ W, Calls Tryz.prog 116 #[.int .u8 op] W fun e w' => e = .returned (.bool (regB op)) ∧ W = w') := fun W => regb_any op h W
  have HL : Hid (∀ W, Calls Tryz.prog 112 #[.int .u8 op] W fun e w' => e = .returned (.bool (loadB op)) ∧ W = w') := fun W => load_any op h W
  have HT : Hid (∀ W, Calls Tryz.prog 114 #[.int .u8 op] W fun e w' => e = .returned (.bool (storeB op)) ∧ W = w') := fun W => store_any op h W
  have HU : Hid (∀ W, Calls Tryz.prog 115 #[.int .u8 op] W fun e w' => e = .returned (.bool (storeRB op)) ∧ W = w') := fun W => storer_any op h W
  have HC : Hid (∀ W, Calls Tryz.prog 83 #[.int .u8 op] W fun e w' => e = .returned (.int .i64 (codeN op)) ∧ W = w') := fun W => code_any op h W
  have q1 : decide ((codeN op : Int) ≤ 192) = decide (codeN op ≤ 192) := by rw [Bool.eq_iff_iff]; simp; omega
  have q2 : decide ((codeN op : Int) ≤ 208) = decide (codeN op ≤ 208) := by rw [Bool.eq_iff_iff]; simp; omega
  have q3 : ((codeN op : Int) == 128) = (codeN op == 128) := beq_nat (codeN op) 128
  have q4 : ((op : Int) % 8 == 5) = (op % 8 == 5) := beq_mod op 8 5
  have q5 : ((op : Int) == 24) = (op == 24) := beq_nat op 24
  have q6 : ((op : Int) == 194) = (op == 194) := beq_nat op 194
  unfold knownB
  generalize decide (codeN op ≤ 192) = b1 at *
  generalize decide (codeN op ≤ 208) = b2 at *
  generalize (codeN op == 128) = b3 at *
  generalize (op % 8 == 5) = b4 at *
  generalize (op == 24) = b5 at *
  generalize (op == 194) = b6 at *
  generalize arithB op = a at *
  generalize jumpB op = j at *
  generalize specB op = s at *
  generalize regB op = r at *
  generalize loadB op = l at *
  generalize storeB op = t at *
  generalize storeRB op = u at *
  generalize codeN op = k at *
  clear h
  have fin : ∀ (z : Bool), (fun e w' => e = Ending.returned (.bool z) ∧ w = w') = (fun (e : Ending) (w' : World) => e = Ending.returned (.bool z) ∧ w = w') := fun z => rfl
  clear fin
  cases a
  · cases s
    · cases j
      · cases b5 <;> cases l <;> cases t <;> cases u <;> cases inner
        all_goals go_enter Tryz.func110, Tryz.ntmps110
        all_goals go_wp2_with (first
          | (go_at_call 111; (with_reducible refine (HA.out _).mono ?_); rintro e w1 ⟨rfl, rfl⟩)
          | (go_at_call 113; (with_reducible refine (HS.out _).mono ?_); rintro e w1 ⟨rfl, rfl⟩)
          | (go_at_call 112; (with_reducible refine (HL.out _).mono ?_); rintro e w1 ⟨rfl, rfl⟩)
          | (go_at_call 114; (with_reducible refine (HT.out _).mono ?_); rintro e w1 ⟨rfl, rfl⟩)
          | (go_at_call 115; (with_reducible refine (HU.out _).mono ?_); rintro e w1 ⟨rfl, rfl⟩)
          | (go_at_call 82; (with_reducible refine (HJ.out _).mono ?_); rintro e w1 ⟨rfl, rfl⟩))
        all_goals go_ret
        all_goals exact ⟨rfl, rfl⟩
      · go_enter Tryz.func110, Tryz.ntmps110
        go_wp2_with (first
          | (go_at_call 111; (with_reducible refine (HA.out _).mono ?_); rintro e w1 ⟨rfl, rfl⟩)
          | (go_at_call 113; (with_reducible refine (HS.out _).mono ?_); rintro e w1 ⟨rfl, rfl⟩)
          | (go_at_call 83; (with_reducible refine (HC.out _).mono ?_); rintro e w1 ⟨rfl, rfl⟩)
          | (go_at_call 82; (with_reducible refine (HJ.out _).mono ?_); rintro e w1 ⟨rfl, rfl⟩))
        go_ret
        exact ⟨rfl, rfl⟩
    · cases b4
      all_goals go_enter Tryz.func110, Tryz.ntmps110
      all_goals go_wp2_with (first
          | (go_at_call 111; (with_reducible refine (HA.out _).mono ?_); rintro e w1 ⟨rfl, rfl⟩)
          | (go_at_call 113; (with_reducible refine (HS.out _).mono ?_); rintro e w1 ⟨rfl, rfl⟩)
          | (go_at_call 116; (with_reducible refine (HR.out _).mono ?_); rintro e w1 ⟨rfl, rfl⟩))
      all_goals go_ret
      all_goals exact ⟨rfl, rfl⟩
  · cases b1 <;> cases b3
    all_goals go_enter Tryz.func110, Tryz.ntmps110
    all_goals go_wp2_with (first
          | (go_at_call 111; (with_reducible refine (HA.out _).mono ?_); rintro e w1 ⟨rfl, rfl⟩)
          | (go_at_call 83; (with_reducible refine (HC.out _).mono ?_); rintro e w1 ⟨rfl, rfl⟩)
          | (go_at_call 116; (with_reducible refine (HR.out _).mono ?_); rintro e w1 ⟨rfl, rfl⟩))
    all_goals go_ret
    all_goals exact ⟨rfl, rfl⟩
end Go.Proofs.YtakcdecljfmckaaGreatDoor
