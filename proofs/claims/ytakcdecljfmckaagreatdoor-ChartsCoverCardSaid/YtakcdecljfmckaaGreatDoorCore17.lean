/- progs.Next, where all that it tells lies in the program. What a word behind the first one is: lines.within and the fields. -/
import Derived.Shelf.Abstract
import Derived.Test.YtakcdecljfmckaaGreatDoorCore5
import Derived.Test.YtakcdecljfmckaaGreatDoorCore8
import Derived.Test.YtakcdecljfmckaaGreatDoorCore15
import Derived.WalkLawsBesides
set_option linter.all false
set_option linter.unusedVariables false
set_option linter.unusedSimpArgs false
namespace Go.Proofs.YtakcdecljfmckaaGreatDoor
open Go.RowKit

theorem Tryz.infoCh_int : (Tryz.prog.info? 3).map (fun i => (i.zero, i.size, i.bytes)) = some (some (.int .i64 0), 1, 8) := by kernel_rfl
theorem enters_next1 : ∀ args w, (callFunc 42 args).run Tryz.prog w = .ok (.enter 42 args) w := enters_of Tryz.func42 (by kernel_rfl) rfl
theorem Gath.nats {w w' : World} {t : TypeId} {L : List Nat} {v : Value} (h : Gath w t 1 L.length (i64s L) v w') (h0 : L ≠ []) : NatsAt w' v L := by
  rcases h.cells with ⟨h1, _, _⟩ | ⟨g, cap, hv, hc, -⟩
  · exact absurd (List.eq_nil_of_length_eq_zero h1) h0
  · exact .inr ⟨g, cap, hv, hc⟩

theorem one_lt {a n : Nat} (h : a < n) : ∀ x ∈ [a], x < n := fun x hx => by rw [List.mem_singleton.1 hx]; exact h
theorem two_lt {a b n : Nat} (h : a < n) (h2 : b < n) : ∀ x ∈ [a, b], x < n := fun x hx => by
  rcases List.mem_cons.1 hx with rfl | hx
  · exact h
  · rw [List.mem_singleton.1 hx]; exact h2
theorem Gath.cellsG {w w' : World} {t : TypeId} {size n g c : Nat} {xs : List Value} (h : Gath w t size n xs (.slice (some ⟨g, 0, none⟩) n c) w') : CellsAt w' g 0 xs := (ownsRow_cells h.own).1

set_option maxHeartbeats 400000 in
theorem next1_any (b n x : Nat) (v : Value) (w : World) (a : Option Addr) (c : Nat) (hv : v = .slice a n c) (hb : w.cell? ⟨b, 0, none⟩ = some v) (hx : x < n) :
    Calls Tryz.prog 42 #[.int .i64 (x : Int), .pointer (some ⟨b, 0, none⟩)] w fun e w' => e = .returned (.bool false) ∧ Fr No w w' := by
  subst hv
  have p1 : ¬ (x : Int) < 0 := by omega
  have p2 : ¬ (n : Int) ≤ (x : Int) := by omega
  go_enter Tryz.func42, Tryz.ntmps42
  go_wp2_with fail
  go_ret
  exact ⟨rfl, Fr.refl _ _⟩

set_option maxRecDepth 100000 in
set_option maxHeartbeats 4000000 in
theorem next_any (l : List Ins) (v : Value) (pc : Nat) (w : World) (hv : InsAt w v l) (hok : ∀ i ∈ l, i.ok) (hl : l.length ≤ 100000) (hpc : pc < l.length)
    (hj : jumpsM (insAt l pc) = true → 0 ≤ toM l pc ∧ toM l pc < l.length) (hs : endsM (insAt l pc) = false → alwaysM (insAt l pc) = false → pc + sizeM (insAt l pc) < l.length) :
    Calls Tryz.prog 18 #[v, .int .i64 pc] w fun e w' => ∃ v', e = .returned v' ∧ NatsAt w' v' (nextM l pc) ∧ (∀ k, v'.ownBlock = some k → w.heap.size ≤ k) ∧ Fr No w w' := by
  rcases hv with ⟨rfl, _⟩ | ⟨g, off, cap, rfl, hc⟩
  · exact absurd hpc (Nat.not_lt_zero _)
  have hi : (insAt l pc).ok := by rw [insAt_ok hpc]; exact hok _ (List.getElem_mem hpc)
  have HIC : Hid (∀ W, Fr No w W → W.cell? ⟨g, off + pc * 5, none⟩ = some (.int .u8 (insAt l pc).op) ∧ W.cell? ⟨g, off + pc * 5 + 1, none⟩ = some (.int .u8 (insAt l pc).dst) ∧ W.cell? ⟨g, off + pc * 5 + 2, none⟩ = some (.int .u8 (insAt l pc).src) ∧ W.cell? ⟨g, off + pc * 5 + 3, none⟩ = some (.int .i16 (insAt l pc).off) ∧ W.cell? ⟨g, off + pc * 5 + 4, none⟩ = some (.int .i32 (insAt l pc).imm)) := fun W hf => ins_cells (hf.cells hc id) hpc
  have HJ : Hid (∀ W, Calls Tryz.prog 40 #[.agg #[.int .u8 (insAt l pc).op, .int .u8 (insAt l pc).dst, .int .u8 (insAt l pc).src, .int .i16 (insAt l pc).off, .int .i32 (insAt l pc).imm]] W fun e w' => e = .returned (.bool (jumpsM (insAt l pc))) ∧ Fr No W w') := fun W => pjumps_any _ hi.op W
  have HE : Hid (∀ W, Calls Tryz.prog 37 #[.agg #[.int .u8 (insAt l pc).op, .int .u8 (insAt l pc).dst, .int .u8 (insAt l pc).src, .int .i16 (insAt l pc).off, .int .i32 (insAt l pc).imm]] W fun e w' => e = .returned (.bool (endsM (insAt l pc))) ∧ Fr No W w') := fun W => pends_any _ hi.op W
  have HA : Hid (∀ W, Calls Tryz.prog 38 #[.agg #[.int .u8 (insAt l pc).op, .int .u8 (insAt l pc).dst, .int .u8 (insAt l pc).src, .int .i16 (insAt l pc).off, .int .i32 (insAt l pc).imm]] W fun e w' => e = .returned (.bool (alwaysM (insAt l pc))) ∧ Fr No W w') := fun W => palways_any _ hi.op W
  have HS : Hid (∀ W, Calls Tryz.prog 39 #[.agg #[.int .u8 (insAt l pc).op, .int .u8 (insAt l pc).dst, .int .u8 (insAt l pc).src, .int .i16 (insAt l pc).off, .int .i32 (insAt l pc).imm]] W fun e w' => e = .returned (.int .i64 (sizeM (insAt l pc))) ∧ Fr No W w') := fun W => psize_any _ W
  have w1 : wrap64 ((pc : Int) + 1) = (pc : Int) + 1 := IntWalk.wrap64_in _ (by omega)
  have w0 : IntKind.i64.wrap (insAt l pc).off = (insAt l pc).off := IntWalk.i64_in _ (by have := hi.off; omega)
  have hz := sizeM_pos (insAt l pc)
  have w3 : wrap64 ((pc : Int) + (sizeM (insAt l pc) : Int)) = ((pc + sizeM (insAt l pc) : Nat) : Int) := by rw [IntWalk.wrap64_in _ (by omega)]; omega
  have p1 : (pc : Int) < (l.length : Int) := by omega
  have p2 : (0 : Int) ≤ (pc : Int) := by omega
  have p3 : ¬ (pc : Int) < 0 := by omega
  have p4 : ¬ (l.length : Int) ≤ (pc : Int) := by omega
  have HAJ : Hid (alwaysM (insAt l pc) = true → jumpsM (insAt l pc) = true) := fun h => by unfold alwaysM at h; simp only [Bool.and_eq_true] at h; exact h.1
  obtain ⟨R, hR⟩ : ∃ R, nextM l pc = R := ⟨_, rfl⟩
  rw [hR]
  have HR : Hid (R = if l.length ≤ pc ∨ endsM (insAt l pc) = true then [] else (if alwaysM (insAt l pc) = false ∧ pc + sizeM (insAt l pc) < l.length then [pc + sizeM (insAt l pc)] else []) ++
    (if jumpsM (insAt l pc) = true ∧ 0 ≤ toM l pc ∧ toM l pc < l.length then [(toM l pc).toNat] else [])) := hR.symm
  clear hR
  have w2' : wrap64 ((pc : Int) + 1 + (insAt l pc).off) = toM l pc := IntWalk.wrap64_in _ (by have := hi.off; omega)
  obtain ⟨q, hq, hqn⟩ : ∃ q : Nat, (jumpsM (insAt l pc) = true → toM l pc = (q : Int)) ∧ (jumpsM (insAt l pc) = true → q < l.length) := by
    cases e : jumpsM (insAt l pc) with
    | false => exact ⟨0, fun h => (by cases h), fun h => (by cases h)⟩
    | true => have := hj e; exact ⟨(toM l pc).toNat, fun _ => by omega, fun _ => by omega⟩
  have HSRC := Lib.hid (Fr.refl No w)
  obtain ⟨n, hn⟩ : ∃ n, l.length = n := ⟨_, rfl⟩
  rw [hn] at HR p1 p4 hl hpc hs hqn ⊢
  obtain ⟨tt, htt⟩ : ∃ t, toM l pc = t := ⟨_, rfl⟩
  rw [htt] at HR w2' hq
  clear hn hc hi hok hj htt
  generalize jumpsM (insAt l pc) = J at *
  generalize endsM (insAt l pc) = E at *
  generalize alwaysM (insAt l pc) = A at *
  generalize sizeM (insAt l pc) = z at *
  generalize (insAt l pc).op = o0 at *
  generalize (insAt l pc).dst = o1 at *
  generalize (insAt l pc).src = o2 at *
  generalize (insAt l pc).off = o3 at *
  generalize (insAt l pc).imm = o4 at *
  obtain ⟨i0, hi0, hz0, hz1, hz2⟩ := info_parts Tryz.infoCh_int
  have HHL := Lib.hid (And.intro hl hpc)
  clear hl hpc
  go_enter Tryz.func18, Tryz.ntmps18
  go_upto_region 1 with fail
  have HB0 : Hid (∀ W, Fr No (w.alloc (.cells #[.slice (some ⟨g, off, none⟩) n cap] 22)) W → W.cell? ⟨w.heap.size, 0, none⟩ = some (.slice (some ⟨g, off, none⟩) n cap)) := fun W hf => by
    have := (hf.cells (CellsAt.new w [.slice (some ⟨g, off, none⟩) n cap] 22) id) 0 _ rfl
    exact this
  have HF1 : Hid (Fr No w (w.alloc (.cells #[.slice (some ⟨g, off, none⟩) n cap] 22))) := (Fr.refl _ _).alloc _
  generalize w.alloc (.cells #[.slice (some ⟨g, off, none⟩) n cap] 22) = W1 at *
  generalize w.heap.size = b at *
  have b0 := HB0.out W1 (Fr.refl _ _)
  obtain ⟨k0, k1, k2, k3, k4⟩ := HIC.out W1 HF1.out
  have HFa : Hid (Fr No W1 W1) := Fr.refl _ _
  cases E
  case true =>
    have e0 : R = [] := by rw [HR.out, if_pos (.inr rfl)]
    subst e0
    clear HR HSRC
    go_wp2_with (go_at_call 37; (with_reducible refine (HE.out _).mono ?_); rintro e w9 ⟨rfl, hf1⟩; have HFa := Lib.hid (HFa.out.trans hf1); have b0 := HB0.out _ HFa.out; obtain ⟨k0, k1, k2, k3, k4⟩ := HIC.out _ (HF1.out.trans HFa.out))
    go_ret
    exact ⟨_, rfl, .inl ⟨rfl, rfl⟩, fun k hk => (by cases hk), HF1.out.trans HFa.out⟩
  case false =>
    go_upto_region 3 with (go_at_call 37; (with_reducible refine (HE.out _).mono ?_); rintro e w9 ⟨rfl, hf1⟩; have HFa := Lib.hid (HFa.out.trans hf1); have b0 := HB0.out _ HFa.out; obtain ⟨k0, k1, k2, k3, k4⟩ := HIC.out _ (HF1.out.trans HFa.out))
    go_upto_region 4 with fail
    have HCN : Hid (CellsAt (w9.alloc (.cells #[.int .u8 o0, .int .u8 o1, .int .u8 o2, .int .i16 o3, .int .i32 o4] 51)) w9.heap.size 0 [.int .u8 o0, .int .u8 o1, .int .u8 o2, .int .i16 o3, .int .i32 o4]) := CellsAt.new _ _ _
    have HF2 : Hid (Fr No W1 (w9.alloc (.cells #[.int .u8 o0, .int .u8 o1, .int .u8 o2, .int .i16 o3, .int .i32 o4] 51))) := HFa.out.alloc _
    clear HFa b0 k0 k1 k2 k3 k4 hf1
    generalize w9.alloc (.cells #[.int .u8 o0, .int .u8 o1, .int .u8 o2, .int .i16 o3, .int .i32 o4] 51) = W2 at *
    generalize w9.heap.size = b2 at *
    have HX : Hid (∀ W, Fr No W2 W → W.cell? ⟨b, 0, none⟩ = some (.slice (some ⟨g, off, none⟩) n cap) ∧ W.cell? ⟨b2, 0, none⟩ = some (.int .u8 o0) ∧ W.cell? ⟨b2, 1, none⟩ = some (.int .u8 o1) ∧ W.cell? ⟨b2, 2, none⟩ = some (.int .u8 o2) ∧ W.cell? ⟨b2, 3, none⟩ = some (.int .i16 o3) ∧ W.cell? ⟨b2, 4, none⟩ = some (.int .i32 o4)) := fun W hf => by
      have h := hf.cells HCN.out id
      exact ⟨HB0.out _ (HF2.out.trans hf), h 0 _ rfl, h 1 _ rfl, h 2 _ rfl, h 3 _ rfl, h 4 _ rfl⟩
    obtain ⟨b0, n0, n1, n2, n3, n4⟩ := HX.out W2 (Fr.refl _ _)
    have HFa : Hid (Fr No W2 W2) := Fr.refl _ _
    have HFW : Hid (Fr No w W2) := HF1.out.trans HF2.out
    have HWS : Hid (∀ k, W2.heap.size ≤ k → w.heap.size ≤ k) := fun k hk => Nat.le_trans HFW.out.size hk
    have HNP : Hid (¬ n ≤ pc) := by have := HHL.out; exact Lib.hid (by omega)
    clear HB0 HIC HCN HF1 HF2 HE
    cases A
    case false =>
      have HS1 : Hid (pc + z < n) := Lib.hid (by simpa using hs)
      clear hs
      cases J
      case false =>
        have e0 : Hid (R = [pc + z]) := by rw [HR.out, if_neg (by simp [HNP.out]), if_pos ⟨rfl, HS1.out⟩, if_neg (by simp)]; exact Lib.hid rfl
        clear HR hq hqn HAJ w2'
        go_wp2_with (first | (go_at_call 38; (with_reducible refine (HA.out _).mono ?_); rintro e w9 ⟨rfl, hf1⟩; have HFa := Lib.hid (HFa.out.trans hf1); obtain ⟨b0, n0, n1, n2, n3, n4⟩ := HX.out _ HFa.out) | (go_at_call 39; (with_reducible refine (HS.out _).mono ?_); rintro e w9 ⟨rfl, hf1⟩; have HFa := Lib.hid (HFa.out.trans hf1); obtain ⟨b0, n0, n1, n2, n3, n4⟩ := HX.out _ HFa.out) | (go_at_call 40; (with_reducible refine (HJ.out _).mono ?_); rintro e w9 ⟨rfl, hf1⟩; have HFa := Lib.hid (HFa.out.trans hf1); obtain ⟨b0, n0, n1, n2, n3, n4⟩ := HX.out _ HFa.out) | (at_builtin; refine wpList_append_src rfl _ _ 31 rfl W2.heap.size 3 i0 _ 1 8 Tryz.underlying31 hi0 hz0 hz1 hz2 rfl (by decide) (.slice none 0 0) 0 [] rfl (Gath.start' (HFa.out.alloc _) _ _).own _ 1 [.int .i64 ((pc + z : Nat) : Int)] rfl (src_new _ [.int .i64 ((pc + z : Nat) : Int)] 3) rfl (by simp [Value.oneCell']) (by unfold maxLen; omega) (by omega) (HFa.out.alloc _).size ?_; intro v1 w2 own2 fr2; obtain ⟨g1, c1, rfl⟩ := ownsRow_form own2 (by omega); have HG1 := Lib.hid ((Gath.start' (HFa.out.alloc _) 3 1).step own2 fr2); clear own2 fr2; have HFa := Lib.hid HG1.out.fr; obtain ⟨b0, n0, n1, n2, n3, n4⟩ := HX.out _ HFa.out) | (go_at_call 41; (with_reducible refine (del_none g1 1 c1 _ (.pointer (some ⟨b, 0, none⟩)) [pc + z] _ rfl (by omega) (Gath.cellsG (HG1.out.to hf1)) enters_next1 (fun x hx W hf => next1_any b n x _ W (some ⟨g, off, none⟩) cap rfl ((HX.out _ (HFa.out.trans hf)).1) ((one_lt HS1.out) x hx))).mono ?_); rintro e w9 ⟨rfl, hf2⟩; have HFc := Lib.hid (HFa.out.trans hf2)))
        go_ret
        exact ⟨_, rfl, by rw [e0.out]; exact ((HG1.out.to hf1).to hf2).nats (L := [pc + z]) (by simp), fun k hk => HWS.out _ (OwnOf.ge (((HG1.out.to hf1).to hf2)).own hk), HFW.out.trans HFc.out⟩
      case true =>
        obtain rfl := hq rfl
        have HQN := Lib.hid (hqn rfl)
        have e0 : Hid (R = [pc + z, q]) := by rw [HR.out, if_neg (by simp [HNP.out]), if_pos ⟨rfl, HS1.out⟩, if_pos ⟨rfl, by omega, by have := HQN.out; omega⟩]; exact Lib.hid rfl
        clear HR hq hqn HAJ
        go_upto_region 7 with (first | (go_at_call 38; (with_reducible refine (HA.out _).mono ?_); rintro e w9 ⟨rfl, hf1⟩; have HFa := Lib.hid (HFa.out.trans hf1); obtain ⟨b0, n0, n1, n2, n3, n4⟩ := HX.out _ HFa.out) | (go_at_call 39; (with_reducible refine (HS.out _).mono ?_); rintro e w9 ⟨rfl, hf1⟩; have HFa := Lib.hid (HFa.out.trans hf1); obtain ⟨b0, n0, n1, n2, n3, n4⟩ := HX.out _ HFa.out) | (go_at_call 40; (with_reducible refine (HJ.out _).mono ?_); rintro e w9 ⟨rfl, hf1⟩; have HFa := Lib.hid (HFa.out.trans hf1); obtain ⟨b0, n0, n1, n2, n3, n4⟩ := HX.out _ HFa.out) | (at_builtin; refine wpList_append_src rfl _ _ 31 rfl W2.heap.size 3 i0 _ 1 8 Tryz.underlying31 hi0 hz0 hz1 hz2 rfl (by decide) (.slice none 0 0) 0 [] rfl (Gath.start' (HFa.out.alloc _) _ _).own _ 1 [.int .i64 ((pc + z : Nat) : Int)] rfl (src_new _ [.int .i64 ((pc + z : Nat) : Int)] 3) rfl (by simp [Value.oneCell']) (by unfold maxLen; omega) (by omega) (HFa.out.alloc _).size ?_; intro v1 w2 own2 fr2; obtain ⟨g1, c1, rfl⟩ := ownsRow_form own2 (by omega); have HG1 := Lib.hid ((Gath.start' (HFa.out.alloc _) 3 1).step own2 fr2); clear own2 fr2; have HFa := Lib.hid HG1.out.fr; obtain ⟨b0, n0, n1, n2, n3, n4⟩ := HX.out _ HFa.out))
        have HGT : Hid (∀ W, Fr No w2 W → Gath W2 3 1 1 [.int .i64 ((pc + z : Nat) : Int)] (.slice (some ⟨g1, 0, none⟩) 1 c1) W) := fun W h => HG1.out.to h
        have HFb : Hid (Fr No w2 w2) := Fr.refl _ _
        go_upto_region 8 with (go_at_call 40; (with_reducible refine (HJ.out _).mono ?_); rintro e w9 ⟨rfl, hf1⟩; have HFa := Lib.hid (HFa.out.trans hf1); have HFb := Lib.hid (HFb.out.trans hf1); obtain ⟨b0, n0, n1, n2, n3, n4⟩ := HX.out _ HFa.out)
        go_wp2_with (first | (at_builtin; refine wpList_append_src rfl _ _ 31 rfl W2.heap.size 3 i0 _ 1 8 Tryz.underlying31 hi0 hz0 hz1 hz2 rfl (by decide) (.slice (some ⟨g1, 0, none⟩) 1 c1) 1 [.int .i64 ((pc + z : Nat) : Int)] rfl (HGT.out _ (HFb.out.alloc _)).own _ 1 [.int .i64 (q : Int)] rfl (src_new _ [.int .i64 (q : Int)] 3) rfl (by simp [Value.oneCell']) (by unfold maxLen; omega) (by omega) (HFa.out.alloc _).size ?_; intro v1 w2 own2 fr2; obtain ⟨g2, c2, rfl⟩ := ownsRow_form own2 (by omega); have HG2 := Lib.hid ((HGT.out _ (HFb.out.alloc _)).step own2 fr2); clear own2 fr2; have HFa := Lib.hid HG2.out.fr; obtain ⟨b0, n0, n1, n2, n3, n4⟩ := HX.out _ HFa.out) | (go_at_call 41; (with_reducible refine (del_none g2 2 c2 _ (.pointer (some ⟨b, 0, none⟩)) [pc + z, q] _ rfl (by omega) (Gath.cellsG HG2.out) enters_next1 (fun x hx W hf => next1_any b n x _ W (some ⟨g, off, none⟩) cap rfl ((HX.out _ (HFa.out.trans hf)).1) ((two_lt HS1.out HQN.out) x hx))).mono ?_); rintro e w9 ⟨rfl, hf2⟩; have HFc := Lib.hid (HFa.out.trans hf2)))
        go_ret
        exact ⟨_, rfl, by rw [e0.out]; exact (HG2.out.to hf2).nats (L := [pc + z, q]) (by simp), fun k hk => HWS.out _ (OwnOf.ge ((HG2.out.to hf2)).own hk), HFW.out.trans HFc.out⟩
    case true =>
      obtain rfl : J = true := HAJ.out rfl
      obtain rfl := hq rfl
      have HQN := Lib.hid (hqn rfl)
      have e0 : Hid (R = [q]) := by rw [HR.out, if_neg (by simp [HNP.out]), if_neg (by simp), if_pos ⟨rfl, by omega, by have := HQN.out; omega⟩]; exact Lib.hid rfl
      clear HR hq hqn HAJ hs
      go_wp2_with (first | (go_at_call 38; (with_reducible refine (HA.out _).mono ?_); rintro e w9 ⟨rfl, hf1⟩; have HFa := Lib.hid (HFa.out.trans hf1); obtain ⟨b0, n0, n1, n2, n3, n4⟩ := HX.out _ HFa.out) | (go_at_call 39; (with_reducible refine (HS.out _).mono ?_); rintro e w9 ⟨rfl, hf1⟩; have HFa := Lib.hid (HFa.out.trans hf1); obtain ⟨b0, n0, n1, n2, n3, n4⟩ := HX.out _ HFa.out) | (go_at_call 40; (with_reducible refine (HJ.out _).mono ?_); rintro e w9 ⟨rfl, hf1⟩; have HFa := Lib.hid (HFa.out.trans hf1); obtain ⟨b0, n0, n1, n2, n3, n4⟩ := HX.out _ HFa.out) | (at_builtin; refine wpList_append_src rfl _ _ 31 rfl W2.heap.size 3 i0 _ 1 8 Tryz.underlying31 hi0 hz0 hz1 hz2 rfl (by decide) (.slice none 0 0) 0 [] rfl (Gath.start' (HFa.out.alloc _) _ _).own _ 1 [.int .i64 (q : Int)] rfl (src_new _ [.int .i64 (q : Int)] 3) rfl (by simp [Value.oneCell']) (by unfold maxLen; omega) (by omega) (HFa.out.alloc _).size ?_; intro v1 w2 own2 fr2; obtain ⟨g1, c1, rfl⟩ := ownsRow_form own2 (by omega); have HG1 := Lib.hid ((Gath.start' (HFa.out.alloc _) 3 1).step own2 fr2); clear own2 fr2; have HFa := Lib.hid HG1.out.fr; obtain ⟨b0, n0, n1, n2, n3, n4⟩ := HX.out _ HFa.out) | (go_at_call 41; (with_reducible refine (del_none g1 1 c1 _ (.pointer (some ⟨b, 0, none⟩)) [q] _ rfl (by omega) (Gath.cellsG HG1.out) enters_next1 (fun x hx W hf => next1_any b n x _ W (some ⟨g, off, none⟩) cap rfl ((HX.out _ (HFa.out.trans hf)).1) ((one_lt HQN.out) x hx))).mono ?_); rintro e w9 ⟨rfl, hf2⟩; have HFc := Lib.hid (HFa.out.trans hf2)))
      go_ret
      exact ⟨_, rfl, by rw [e0.out]; exact (HG1.out.to hf2).nats (L := [q]) (by simp), fun k hk => HWS.out _ (OwnOf.ge ((HG1.out.to hf2)).own hk), HFW.out.trans HFc.out⟩
end Go.Proofs.YtakcdecljfmckaaGreatDoor

namespace Go.Proofs.YtakcdecljfmckaaGreatDoor
open Go.RowKit

/-- what a word is: nothing, a register, a value -/
inductive Mv where
  | no
  | reg (n : Nat)
  | val (m : Bool) (n : Nat)
def Mv.v : Mv → Value
  | .no => .nilIface
  | .reg n => .iface 146 (.int .u8 n)
  | .val m n => .iface 152 (.agg #[.bool m, .int .u64 n])
def Mv.ok : Mv → Prop
  | .no => True
  | .reg n => n < 256
  | .val _ n => n < 18446744073709551616

/-- an error of the runtime -/
def IsErr (v : Value) : Prop := (∃ x, v = .iface 15 x) ∨ (∃ x, v = .iface 8 x)
/-- it panics, with an error of the runtime -/
def Died (w : World) (e : Ending) (w' : World) : Prop := ∃ v, e = .panicked [{ v := v, recovered := false }] ∧ IsErr v ∧ Fr No w w'

theorem ta_val (W : World) (v : Value) : (Instr.typeAssert (.iface 152 v) 20 152 false).run Tryz.prog W = .ok v W := by kernel_rfl
theorem ta_val_nil (W : World) : (Instr.typeAssert .nilIface 20 152 false).run Tryz.prog W = .halt (.panic (.iface 15 (.pointer (some ⟨W.heap.size, 0, none⟩)))) (W.alloc (.cells #[.pointer (some ⟨11, 20, none⟩), .pointer none, .pointer (some ⟨11, 152, none⟩), .string ⟨#[]⟩] 222)) := by kernel_rfl
theorem ta_val_reg (W : World) (v : Value) : (Instr.typeAssert (.iface 146 v) 20 152 false).run Tryz.prog W = .halt (.panic (.iface 15 (.pointer (some ⟨W.heap.size, 0, none⟩)))) (W.alloc (.cells #[.pointer (some ⟨11, 20, none⟩), .pointer (some ⟨11, 146, none⟩), .pointer (some ⟨11, 152, none⟩), .string ⟨#[]⟩] 222)) := by kernel_rfl
theorem ta_i64_nil (W : World) : (Instr.typeAssert .nilIface 20 2 false).run Tryz.prog W = .halt (.panic (.iface 15 (.pointer (some ⟨W.heap.size, 0, none⟩)))) (W.alloc (.cells #[.pointer (some ⟨11, 20, none⟩), .pointer none, .pointer (some ⟨11, 2, none⟩), .string ⟨#[]⟩] 222)) := by kernel_rfl
theorem ta_u64_nil (W : World) : (Instr.typeAssert .nilIface 20 60 false).run Tryz.prog W = .halt (.panic (.iface 15 (.pointer (some ⟨W.heap.size, 0, none⟩)))) (W.alloc (.cells #[.pointer (some ⟨11, 20, none⟩), .pointer none, .pointer (some ⟨11, 60, none⟩), .string ⟨#[]⟩] 222)) := by kernel_rfl
theorem ta_reg (W : World) (v : Value) : (Instr.typeAssert (.iface 146 v) 20 146 false).run Tryz.prog W = .ok v W := by kernel_rfl
theorem ta_reg_nil (W : World) : (Instr.typeAssert .nilIface 20 146 false).run Tryz.prog W = .halt (.panic (.iface 15 (.pointer (some ⟨W.heap.size, 0, none⟩)))) (W.alloc (.cells #[.pointer (some ⟨11, 20, none⟩), .pointer none, .pointer (some ⟨11, 146, none⟩), .string ⟨#[]⟩] 222)) := by kernel_rfl
theorem ta_reg_val (W : World) (v : Value) : (Instr.typeAssert (.iface 152 v) 20 146 false).run Tryz.prog W = .halt (.panic (.iface 15 (.pointer (some ⟨W.heap.size, 0, none⟩)))) (W.alloc (.cells #[.pointer (some ⟨11, 20, none⟩), .pointer (some ⟨11, 152, none⟩), .pointer (some ⟨11, 146, none⟩), .string ⟨#[]⟩] 222)) := by kernel_rfl
theorem tc_reg (W : World) (v : Value) : (Instr.typeAssert (.iface 146 v) 20 146 true).run Tryz.prog W = .ok (.tuple #[v, .bool true]) W := by kernel_rfl
theorem tc_reg_nil (W : World) : (Instr.typeAssert .nilIface 20 146 true).run Tryz.prog W = .ok (.tuple #[.int .u8 0, .bool false]) W := by kernel_rfl
theorem tc_reg_val (W : World) (v : Value) : (Instr.typeAssert (.iface 152 v) 20 146 true).run Tryz.prog W = .ok (.tuple #[.int .u8 0, .bool false]) W := by kernel_rfl

def withinM (x : Mv) (lo hi : Nat) : Option Int :=
  match x with
  | .val true n => if n ≤ lo then some (-(n : Int)) else none
  | .val false n => if n ≤ hi then some n else none
  | _ => none

set_option maxRecDepth 100000 in
set_option maxHeartbeats 1000000 in
theorem within_none (x : Mv) (lo hi : Nat) (hlo : lo ≤ 4294967296) (hhi : hi ≤ 4294967296) (hx : x.ok) (h : withinM x lo hi = none) (w : World) : Calls Tryz.prog 129 #[x.v, .int .i64 (-(lo : Int)), .int .i64 hi] w (Died w) := by
  cases x with
  | no =>
    have h1 := ta_val_nil
    clear hx h
    unfold Mv.v
    go_enter Tryz.func129, Tryz.ntmps129
    go_wp2_with fail
    exact ⟨rfl, _, rfl, .inl ⟨_, rfl⟩, (Fr.refl _ _).alloc _⟩
  | reg n =>
    have h1 := ta_val_reg
    clear hx h
    unfold Mv.v
    go_enter Tryz.func129, Tryz.ntmps129
    go_wp2_with fail
    exact ⟨rfl, _, rfl, .inl ⟨_, rfl⟩, (Fr.refl _ _).alloc _⟩
  | val m n =>
    unfold Mv.ok at hx
    have h1 := ta_val
    have h2 := ta_i64_nil
    have f1 : IntKind.i64.wrap (lo : Int) = lo := IntWalk.i64_in _ (by omega)
    have f2 : IntKind.u64.wrap (lo : Int) = lo := IntWalk.u64_in _ (by omega)
    have f3 : IntKind.u64.wrap (hi : Int) = hi := IntWalk.u64_in _ (by omega)
    have f0 : -(-(lo : Int)) = lo := by omega
    cases m with
    | true =>
      have q : decide ((n : Int) ≤ (lo : Int)) = false := by
        unfold withinM at h
        simp only [] at h
        split at h
        · cases h
        · simp; omega
      have q2 : decide (n ≤ lo) = false := by simpa using q
      clear hx h hlo hhi
      unfold Mv.v
      go_enter Tryz.func129, Tryz.ntmps129
      go_wp2_with fail
      exact ⟨rfl, _, rfl, .inl ⟨_, rfl⟩, ((Fr.refl _ _).alloc _).alloc _⟩
    | false =>
      have q : decide ((n : Int) ≤ (hi : Int)) = false := by
        unfold withinM at h
        simp only [] at h
        split at h
        · cases h
        · simp; omega
      have q2 : decide (n ≤ hi) = false := by simpa using q
      clear hx h hlo hhi
      unfold Mv.v
      go_enter Tryz.func129, Tryz.ntmps129
      go_wp2_with fail
      exact ⟨rfl, _, rfl, .inl ⟨_, rfl⟩, ((Fr.refl _ _).alloc _).alloc _⟩

set_option maxRecDepth 100000 in
set_option maxHeartbeats 1000000 in
theorem within_some (x : Mv) (lo hi : Nat) (z : Int) (hlo : lo ≤ 4294967296) (hhi : hi ≤ 4294967296) (h : withinM x lo hi = some z) (w : World) : Calls Tryz.prog 129 #[x.v, .int .i64 (-(lo : Int)), .int .i64 hi] w fun e w' => e = .returned (.int .i64 z) ∧ Fr No w w' := by
  cases x with
  | no => cases h
  | reg n => cases h
  | val m n =>
    have h1 := ta_val
    have f1 : IntKind.i64.wrap (lo : Int) = lo := IntWalk.i64_in _ (by omega)
    have f2 : IntKind.u64.wrap (lo : Int) = lo := IntWalk.u64_in _ (by omega)
    have f3 : IntKind.u64.wrap (hi : Int) = hi := IntWalk.u64_in _ (by omega)
    have f0 : -(-(lo : Int)) = lo := by omega
    cases m with
    | true =>
      have hn : n ≤ lo ∧ z = -(n : Int) := by
        unfold withinM at h
        simp only [] at h
        split at h
        · exact ⟨by assumption, (Option.some.inj h).symm⟩
        · cases h
      obtain ⟨hn, rfl⟩ := hn
      have q : decide ((n : Int) ≤ (lo : Int)) = true := by simp; omega
      have q2 : decide (n ≤ lo) = true := by simpa using q
      have g1 : IntKind.i64.wrap (n : Int) = n := IntWalk.i64_in _ (by omega)
      have g2 : IntKind.i64.wrap (-(n : Int)) = -(n : Int) := IntWalk.i64_in _ (by omega)
      clear h hlo hhi hn
      unfold Mv.v
      go_enter Tryz.func129, Tryz.ntmps129
      go_wp2_with fail
      go_ret
      exact ⟨rfl, (Fr.refl _ _).alloc _⟩
    | false =>
      have hn : n ≤ hi ∧ z = (n : Int) := by
        unfold withinM at h
        simp only [] at h
        split at h
        · exact ⟨by assumption, (Option.some.inj h).symm⟩
        · cases h
      obtain ⟨hn, rfl⟩ := hn
      have q : decide ((n : Int) ≤ (hi : Int)) = true := by simp; omega
      have q2 : decide (n ≤ hi) = true := by simpa using q
      have g1 : IntKind.i64.wrap (n : Int) = n := IntWalk.i64_in _ (by omega)
      clear h hlo hhi hn
      unfold Mv.v
      go_enter Tryz.func129, Tryz.ntmps129
      go_wp2_with fail
      go_ret
      exact ⟨rfl, (Fr.refl _ _).alloc _⟩
end Go.Proofs.YtakcdecljfmckaaGreatDoor
