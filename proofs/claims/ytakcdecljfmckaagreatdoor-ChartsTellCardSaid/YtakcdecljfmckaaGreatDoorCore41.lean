/- firewallref04.Next. (Printed by mkrnext.py.) -/
import Derived.Test.YtakcdecljfmckaaGreatDoorCore37
import Derived.Test.YtakcdecljfmckaaGreatDoorCore14
set_option linter.all false
set_option linter.unusedVariables false
set_option linter.unusedSimpArgs false
namespace Go.Proofs.YtakcdecljfmckaaGreatDoor
open Go.RowKit

theorem nats_own {w : World} {base : Nat} {t : TypeId} {v : Value} {L : List Nat} (h : w.ownsRow base t 1 v L.length (i64s L)) : NatsAt w v L := by
  rcases h.2 with ⟨h1, h2⟩ | ⟨g, cap, cur, hv, -⟩
  · exact .inl ⟨List.eq_nil_of_length_eq_zero h2, h1⟩
  · subst hv
    exact .inr ⟨g, cap, rfl, (ownsRow_cells h).1⟩
set_option maxRecDepth 100000 in
set_option maxHeartbeats 8000000 in
theorem rnext_any (l : List Ins) (v : Value) (pc : Nat) (w : World) (hv : InsAt w v l) (hok : ∀ i ∈ l, i.ok) (hl : l.length ≤ 100000) (hpc : pc < l.length) :
    Calls Tryz.prog 28 #[v, .int .i64 pc] w fun e w' => ∃ v', e = .returned v' ∧ NatsAt w' v' (nextM l pc) ∧ (∀ k, v'.ownBlock = some k → w.heap.size ≤ k) ∧ Fr No w w' := by
  have HBH : Hid (∀ W, Fr No w W → Calls Tryz.prog 26 #[v, .int .i64 (pc : Int)] W fun e w' => e = .returned (.int .i64 (behM l pc : Nat)) ∧ W = w') := fun W hf => behind_any l v pc W (hv.fr hf) hl hpc
  rcases hv with ⟨rfl, _⟩ | ⟨g, off, cap, rfl, hc⟩
  · exact absurd hpc (Nat.not_lt_zero _)
  have hi : (insAt l pc).ok := by rw [insAt_ok hpc]; exact hok _ (List.getElem_mem hpc)
  have HIC : Hid (∀ W, Fr No w W → W.cell? ⟨g, off + pc * 5, none⟩ = some (.int .u8 (insAt l pc).op) ∧ W.cell? ⟨g, off + pc * 5 + 1, none⟩ = some (.int .u8 (insAt l pc).dst) ∧ W.cell? ⟨g, off + pc * 5 + 2, none⟩ = some (.int .u8 (insAt l pc).src) ∧ W.cell? ⟨g, off + pc * 5 + 3, none⟩ = some (.int .i16 (insAt l pc).off) ∧ W.cell? ⟨g, off + pc * 5 + 4, none⟩ = some (.int .i32 (insAt l pc).imm)) := fun W hf => ins_cells (hf.cells hc id) hpc
  have HJ : Hid (∀ W, Calls Tryz.prog 62 #[.agg #[.int .u8 (insAt l pc).op, .int .u8 (insAt l pc).dst, .int .u8 (insAt l pc).src, .int .i16 (insAt l pc).off, .int .i32 (insAt l pc).imm]] W fun e w' => e = .returned (.bool (jumpsM (insAt l pc))) ∧ Fr No W w') := fun W => rjumps_any _ hi.op W
  have HE : Hid (∀ W, Calls Tryz.prog 63 #[.agg #[.int .u8 (insAt l pc).op, .int .u8 (insAt l pc).dst, .int .u8 (insAt l pc).src, .int .i16 (insAt l pc).off, .int .i32 (insAt l pc).imm]] W fun e w' => e = .returned (.bool (endsM (insAt l pc))) ∧ Fr No W w') := fun W => rends_any _ hi.op W
  have HA : Hid (∀ W, Calls Tryz.prog 64 #[.agg #[.int .u8 (insAt l pc).op, .int .u8 (insAt l pc).dst, .int .u8 (insAt l pc).src, .int .i16 (insAt l pc).off, .int .i32 (insAt l pc).imm]] W fun e w' => e = .returned (.bool (alwaysM (insAt l pc))) ∧ Fr No W w') := fun W => ralways_any _ hi.op W
  have w1 : wrap64 ((pc : Int) + 1) = (pc : Int) + 1 := IntWalk.wrap64_in _ (by omega)
  have w0 : IntKind.i64.wrap (insAt l pc).off = (insAt l pc).off := IntWalk.i64_in _ (by have := hi.off; omega)
  have w2' : wrap64 ((pc : Int) + 1 + (insAt l pc).off) = toM l pc := IntWalk.wrap64_in _ (by have := hi.off; omega)
  have w1q : IntKind.i64.wrap ((pc : Int) + 1) = (pc : Int) + 1 := IntWalk.i64_in _ (by omega)
  have w2q : IntKind.i64.wrap ((pc : Int) + 1 + (insAt l pc).off) = toM l pc := IntWalk.i64_in _ (by have := hi.off; omega)
  have p1 : (pc : Int) < (l.length : Int) := by omega
  have p2 : (0 : Int) ≤ (pc : Int) := by omega
  have p3 : ¬ (pc : Int) < 0 := by omega
  have p3q : decide ((pc : Int) < 0) = false := decide_eq_false p3
  have p4 : ¬ (l.length : Int) ≤ (pc : Int) := by omega
  have p4q : decide ((l.length : Int) ≤ (pc : Int)) = false := decide_eq_false p4
  have p4n : decide (l.length ≤ pc) = false := decide_eq_false (by omega)
  obtain ⟨R, hR⟩ : ∃ R, nextM l pc = R := ⟨_, rfl⟩
  rw [hR]
  have HR : Hid (R = if l.length ≤ pc ∨ endsM (insAt l pc) = true then [] else (if alwaysM (insAt l pc) = false ∧ behM l pc < l.length then [behM l pc] else []) ++
    (if jumpsM (insAt l pc) = true ∧ 0 ≤ toM l pc ∧ toM l pc < l.length then [(toM l pc).toNat] else [])) := hR.symm
  clear hR
  obtain ⟨n, hn⟩ : ∃ n, l.length = n := ⟨_, rfl⟩
  rw [hn] at HR p1 p4 p4q p4n hl hpc HBH ⊢
  obtain ⟨tt, htt⟩ : ∃ t, toM l pc = t := ⟨_, rfl⟩
  rw [htt] at HR w2' w2q
  obtain ⟨z, hz⟩ : ∃ z, behM l pc = z := ⟨_, rfl⟩
  rw [hz] at HR HBH
  clear hn hc hi hok htt hz
  generalize jumpsM (insAt l pc) = J at *
  generalize endsM (insAt l pc) = E at *
  generalize alwaysM (insAt l pc) = A at *
  generalize (insAt l pc).op = o0 at *
  generalize (insAt l pc).dst = o1 at *
  generalize (insAt l pc).src = o2 at *
  generalize (insAt l pc).off = o3 at *
  generalize (insAt l pc).imm = o4 at *
  obtain ⟨i0, hi0, hz0, hz1, hz2⟩ := info_parts Tryz.infoCh_int
  have HHL := Lib.hid (And.intro hl hpc)
  have HFa : Hid (Fr No w w) := Fr.refl _ _
  obtain ⟨k0, k1, k2, k3, k4⟩ := HIC.out w (Fr.refl _ _)
  clear hl hpc
  cases E
  case true =>
    have e0 : R = [] := by rw [HR.out, if_pos (.inr rfl)]
    subst e0
    clear HR
    go_enter Tryz.func28, Tryz.ntmps28
    go_wp2_with (go_at_call 63; (with_reducible refine (HE.out _).mono ?_); rintro e w9 ⟨rfl, hf1⟩; have HFa := Lib.hid (HFa.out.trans hf1); obtain ⟨k0, k1, k2, k3, k4⟩ := HIC.out _ HFa.out)
    go_ret
    exact ⟨_, rfl, .inl ⟨rfl, rfl⟩, fun k hk => (by cases hk), HFa.out⟩
  have HR2 : Hid (R = (if A = false ∧ z < n then [z] else []) ++ (if J = true ∧ 0 ≤ tt ∧ tt < (n : Int) then [tt.toNat] else [])) := by
    rw [HR.out, if_neg (by have := HHL.out; rintro (h | h); omega; cases h)]
    exact Lib.hid rfl
  clear HR
  go_enter Tryz.func28, Tryz.ntmps28
  go_upto_region 4 with (go_at_call 63; (with_reducible refine (HE.out _).mono ?_); rintro e w9 ⟨rfl, hf1⟩; have HFa := Lib.hid (HFa.out.trans hf1); obtain ⟨k0, k1, k2, k3, k4⟩ := HIC.out _ HFa.out)
  have HFD : Hid (Fr No w w9.drew) := HFa.out.drew
  have HK : Hid (∀ W, Hid (Fr No w W) → (W.cell? ⟨g, off + pc * 5 + 3, none⟩ = some (.int .i16 o3) ∧ Hid (Fr No w W))) := fun W h => ⟨(HIC.out _ h.out).2.2.2.1, h⟩
  have H0 := HK.out _ HFD
  clear k0 k1 k2 k3 k4
  go_region_held3 (fun W => W.cell? ⟨g, off + pc * 5 + 3, none⟩ = some (.int .i16 o3) ∧ Hid (Fr No w W)) (first | assumption | exact HK.out _ (by assumption)) (first | (go_at_call 26; refine (HBH.out _ (Hid.out (by assumption : Hid (Fr No w _)))).mono ?_; rintro e w5 ⟨rfl, rfl⟩))
  have HFa := HFD
  obtain ⟨k0, k1, k2, k3, k4⟩ := HIC.out _ HFa.out
  clear H0 HK HBH
  generalize w9.drew = W4 at *
  have HFb : Hid (Fr No W4 W4) := Fr.refl _ _
  have hA : (A = true) ∨ (A = false ∧ ¬ z < n) ∨ (A = false ∧ z < n) := by
    cases A
    · by_cases h : z < n
      · exact .inr (.inr ⟨rfl, h⟩)
      · exact .inr (.inl ⟨rfl, h⟩)
    · exact .inl rfl
  have hB : (J = false) ∨ (J = true ∧ tt < 0) ∨ (J = true ∧ 0 ≤ tt ∧ ¬ tt < (n : Int)) ∨ (J = true ∧ ∃ q : Nat, tt = (q : Int) ∧ q < n) := by
    cases J
    · exact .inl rfl
    · by_cases h : tt < 0
      · exact .inr (.inl ⟨rfl, h⟩)
      · by_cases h3 : tt < (n : Int)
        · exact .inr (.inr (.inr ⟨rfl, tt.toNat, by omega, by omega⟩))
        · exact .inr (.inr (.inl ⟨rfl, by omega, h3⟩))
  have HB := Lib.hid hB
  clear hB
  rcases hA with h1 | h1 | h1
  · obtain rfl := h1
    go_upto_region 7 with (first | (go_at_call 64; (with_reducible refine (HA.out _).mono ?_); rintro e w9 ⟨rfl, hf1⟩; have HFa := Lib.hid (HFa.out.trans hf1); obtain ⟨k0, k1, k2, k3, k4⟩ := HIC.out _ HFa.out))
    have HFb : Hid (Fr No w9 w9) := Fr.refl _ _
    rcases HB.out with h2 | h2 | h2 | h2
    · obtain rfl := h2
      have e0 : Hid (R = []) := by
        rw [HR2.out, if_neg (by simp), if_neg (by simp)]
        exact Lib.hid rfl
      clear HR2 HB
      go_wp2_with (first | (go_at_call 62; (with_reducible refine (HJ.out _).mono ?_); rintro e w9 ⟨rfl, hf1⟩; have HFa := Lib.hid (HFa.out.trans hf1); have HFb := Lib.hid (HFb.out.trans hf1); obtain ⟨k0, k1, k2, k3, k4⟩ := HIC.out _ HFa.out))
      go_ret
      exact ⟨_, rfl, by rw [e0.out]; exact .inl ⟨rfl, rfl⟩, fun k hk => (by cases hk), HFa.out⟩
    · obtain ⟨rfl, h2⟩ := h2
      have t1 : ¬ (0 : Int) ≤ tt := by omega
      have t1q : decide ((0 : Int) ≤ tt) = false := decide_eq_false t1
      have e0 : Hid (R = []) := by
        rw [HR2.out, if_neg (by simp), if_neg (by rintro ⟨_, h, h'⟩; omega)]
        exact Lib.hid rfl
      clear HR2 HB
      go_wp2_with (first | (go_at_call 62; (with_reducible refine (HJ.out _).mono ?_); rintro e w9 ⟨rfl, hf1⟩; have HFa := Lib.hid (HFa.out.trans hf1); have HFb := Lib.hid (HFb.out.trans hf1); obtain ⟨k0, k1, k2, k3, k4⟩ := HIC.out _ HFa.out))
      go_ret
      exact ⟨_, rfl, by rw [e0.out]; exact .inl ⟨rfl, rfl⟩, fun k hk => (by cases hk), HFa.out⟩
    · obtain ⟨rfl, t1, t2'⟩ := h2
      have t2 : ¬ tt < (n : Int) := by omega
      have t2q : decide (tt < (n : Int)) = false := decide_eq_false t2
      have e0 : Hid (R = []) := by
        rw [HR2.out, if_neg (by simp), if_neg (by rintro ⟨_, h, h'⟩; omega)]
        exact Lib.hid rfl
      clear HR2 HB
      go_wp2_with (first | (go_at_call 62; (with_reducible refine (HJ.out _).mono ?_); rintro e w9 ⟨rfl, hf1⟩; have HFa := Lib.hid (HFa.out.trans hf1); have HFb := Lib.hid (HFb.out.trans hf1); obtain ⟨k0, k1, k2, k3, k4⟩ := HIC.out _ HFa.out))
      go_ret
      exact ⟨_, rfl, by rw [e0.out]; exact .inl ⟨rfl, rfl⟩, fun k hk => (by cases hk), HFa.out⟩
    · obtain ⟨rfl, q, rfl, h2⟩ := h2
      have t1 : (0 : Int) ≤ (q : Int) := by omega
      have t2 : (q : Int) < (n : Int) := by omega
      have e0 : Hid (R = [q]) := by
        rw [HR2.out, if_neg (by simp), if_pos ⟨rfl, by omega, by omega⟩]
        exact Lib.hid rfl
      clear HR2 HB
      go_wp2_with (first | (go_at_call 62; (with_reducible refine (HJ.out _).mono ?_); rintro e w9 ⟨rfl, hf1⟩; have HFa := Lib.hid (HFa.out.trans hf1); have HFb := Lib.hid (HFb.out.trans hf1); obtain ⟨k0, k1, k2, k3, k4⟩ := HIC.out _ HFa.out) | (at_builtin; refine wpList_append_src rfl _ _ 31 rfl w.heap.size 3 i0 _ 1 8 Tryz.underlying31 hi0 hz0 hz1 hz2 rfl (by decide) (.slice none 0 0) 0 [] rfl (World.ownsRow_nil _ _ _ _) _ 1 [.int .i64 (q : Int)] rfl (src_new _ [.int .i64 (q : Int)] 3) rfl (by simp [Value.oneCell']) (by unfold maxLen; omega) (by omega) (HFa.out.alloc _).size ?_; intro v1 w2 own2 fr2; obtain ⟨g1, c1, rfl⟩ := ownsRow_form own2 (by omega); have HO1 := Lib.hid own2; have HFa : Hid (Fr No w w2) := (HFa.out.alloc _).trans (fr2.mono fun k _ hk => by cases hk); clear own2 fr2; obtain ⟨k0, k1, k2, k3, k4⟩ := HIC.out _ HFa.out))
      go_ret
      exact ⟨_, rfl, by rw [e0.out]; exact nats_own (L := [q]) HO1.out, fun k hk => OwnOf.ge HO1.out hk, HFa.out⟩
  · obtain ⟨rfl, h1⟩ := h1
    have z1 : ¬ (z : Int) < (n : Int) := by omega
    have z1q : decide ((z : Int) < (n : Int)) = false := decide_eq_false z1
    go_upto_region 7 with (first | (go_at_call 64; (with_reducible refine (HA.out _).mono ?_); rintro e w9 ⟨rfl, hf1⟩; have HFa := Lib.hid (HFa.out.trans hf1); obtain ⟨k0, k1, k2, k3, k4⟩ := HIC.out _ HFa.out))
    have HFb : Hid (Fr No w9 w9) := Fr.refl _ _
    rcases HB.out with h2 | h2 | h2 | h2
    · obtain rfl := h2
      have e0 : Hid (R = []) := by
        rw [HR2.out, if_neg (by rintro ⟨_, h⟩; omega), if_neg (by simp)]
        exact Lib.hid rfl
      clear HR2 HB
      go_wp2_with (first | (go_at_call 62; (with_reducible refine (HJ.out _).mono ?_); rintro e w9 ⟨rfl, hf1⟩; have HFa := Lib.hid (HFa.out.trans hf1); have HFb := Lib.hid (HFb.out.trans hf1); obtain ⟨k0, k1, k2, k3, k4⟩ := HIC.out _ HFa.out))
      go_ret
      exact ⟨_, rfl, by rw [e0.out]; exact .inl ⟨rfl, rfl⟩, fun k hk => (by cases hk), HFa.out⟩
    · obtain ⟨rfl, h2⟩ := h2
      have t1 : ¬ (0 : Int) ≤ tt := by omega
      have t1q : decide ((0 : Int) ≤ tt) = false := decide_eq_false t1
      have e0 : Hid (R = []) := by
        rw [HR2.out, if_neg (by rintro ⟨_, h⟩; omega), if_neg (by rintro ⟨_, h, h'⟩; omega)]
        exact Lib.hid rfl
      clear HR2 HB
      go_wp2_with (first | (go_at_call 62; (with_reducible refine (HJ.out _).mono ?_); rintro e w9 ⟨rfl, hf1⟩; have HFa := Lib.hid (HFa.out.trans hf1); have HFb := Lib.hid (HFb.out.trans hf1); obtain ⟨k0, k1, k2, k3, k4⟩ := HIC.out _ HFa.out))
      go_ret
      exact ⟨_, rfl, by rw [e0.out]; exact .inl ⟨rfl, rfl⟩, fun k hk => (by cases hk), HFa.out⟩
    · obtain ⟨rfl, t1, t2'⟩ := h2
      have t2 : ¬ tt < (n : Int) := by omega
      have t2q : decide (tt < (n : Int)) = false := decide_eq_false t2
      have e0 : Hid (R = []) := by
        rw [HR2.out, if_neg (by rintro ⟨_, h⟩; omega), if_neg (by rintro ⟨_, h, h'⟩; omega)]
        exact Lib.hid rfl
      clear HR2 HB
      go_wp2_with (first | (go_at_call 62; (with_reducible refine (HJ.out _).mono ?_); rintro e w9 ⟨rfl, hf1⟩; have HFa := Lib.hid (HFa.out.trans hf1); have HFb := Lib.hid (HFb.out.trans hf1); obtain ⟨k0, k1, k2, k3, k4⟩ := HIC.out _ HFa.out))
      go_ret
      exact ⟨_, rfl, by rw [e0.out]; exact .inl ⟨rfl, rfl⟩, fun k hk => (by cases hk), HFa.out⟩
    · obtain ⟨rfl, q, rfl, h2⟩ := h2
      have t1 : (0 : Int) ≤ (q : Int) := by omega
      have t2 : (q : Int) < (n : Int) := by omega
      have e0 : Hid (R = [q]) := by
        rw [HR2.out, if_neg (by rintro ⟨_, h⟩; omega), if_pos ⟨rfl, by omega, by omega⟩]
        exact Lib.hid rfl
      clear HR2 HB
      go_wp2_with (first | (go_at_call 62; (with_reducible refine (HJ.out _).mono ?_); rintro e w9 ⟨rfl, hf1⟩; have HFa := Lib.hid (HFa.out.trans hf1); have HFb := Lib.hid (HFb.out.trans hf1); obtain ⟨k0, k1, k2, k3, k4⟩ := HIC.out _ HFa.out) | (at_builtin; refine wpList_append_src rfl _ _ 31 rfl w.heap.size 3 i0 _ 1 8 Tryz.underlying31 hi0 hz0 hz1 hz2 rfl (by decide) (.slice none 0 0) 0 [] rfl (World.ownsRow_nil _ _ _ _) _ 1 [.int .i64 (q : Int)] rfl (src_new _ [.int .i64 (q : Int)] 3) rfl (by simp [Value.oneCell']) (by unfold maxLen; omega) (by omega) (HFa.out.alloc _).size ?_; intro v1 w2 own2 fr2; obtain ⟨g1, c1, rfl⟩ := ownsRow_form own2 (by omega); have HO1 := Lib.hid own2; have HFa : Hid (Fr No w w2) := (HFa.out.alloc _).trans (fr2.mono fun k _ hk => by cases hk); clear own2 fr2; obtain ⟨k0, k1, k2, k3, k4⟩ := HIC.out _ HFa.out))
      go_ret
      exact ⟨_, rfl, by rw [e0.out]; exact nats_own (L := [q]) HO1.out, fun k hk => OwnOf.ge HO1.out hk, HFa.out⟩
  · obtain ⟨rfl, h1⟩ := h1
    have z1 : (z : Int) < (n : Int) := by omega
    have z1q : decide ((z : Int) < (n : Int)) = true := decide_eq_true z1
    go_upto_region 7 with (first | (go_at_call 64; (with_reducible refine (HA.out _).mono ?_); rintro e w9 ⟨rfl, hf1⟩; have HFa := Lib.hid (HFa.out.trans hf1); obtain ⟨k0, k1, k2, k3, k4⟩ := HIC.out _ HFa.out) | (at_builtin; refine wpList_append_src rfl _ _ 31 rfl w.heap.size 3 i0 _ 1 8 Tryz.underlying31 hi0 hz0 hz1 hz2 rfl (by decide) (.slice none 0 0) 0 [] rfl (World.ownsRow_nil _ _ _ _) _ 1 [.int .i64 (z : Int)] rfl (src_new _ [.int .i64 (z : Int)] 3) rfl (by simp [Value.oneCell']) (by unfold maxLen; omega) (by omega) (HFa.out.alloc _).size ?_; intro v1 w2 own2 fr2; obtain ⟨g1, c1, rfl⟩ := ownsRow_form own2 (by omega); have HO1 := Lib.hid own2; have HFa : Hid (Fr No w w2) := (HFa.out.alloc _).trans (fr2.mono fun k _ hk => by cases hk); clear own2 fr2; obtain ⟨k0, k1, k2, k3, k4⟩ := HIC.out _ HFa.out))
    have HFb : Hid (Fr No w2 w2) := Fr.refl _ _
    rcases HB.out with h2 | h2 | h2 | h2
    · obtain rfl := h2
      have e0 : Hid (R = [z]) := by
        rw [HR2.out, if_pos ⟨by trivial, by omega⟩, if_neg (by simp)]
        exact Lib.hid rfl
      clear HR2 HB
      go_wp2_with (first | (go_at_call 62; (with_reducible refine (HJ.out _).mono ?_); rintro e w9 ⟨rfl, hf1⟩; have HFa := Lib.hid (HFa.out.trans hf1); have HFb := Lib.hid (HFb.out.trans hf1); obtain ⟨k0, k1, k2, k3, k4⟩ := HIC.out _ HFa.out))
      go_ret
      exact ⟨_, rfl, by rw [e0.out]; exact nats_own (L := [z]) (ownsRow_fr HO1.out HFb.out (fun _ _ => id)), fun k hk => OwnOf.ge (ownsRow_fr HO1.out HFb.out (fun _ _ => id)) hk, HFa.out⟩
    · obtain ⟨rfl, h2⟩ := h2
      have t1 : ¬ (0 : Int) ≤ tt := by omega
      have t1q : decide ((0 : Int) ≤ tt) = false := decide_eq_false t1
      have e0 : Hid (R = [z]) := by
        rw [HR2.out, if_pos ⟨by trivial, by omega⟩, if_neg (by rintro ⟨_, h, h'⟩; omega)]
        exact Lib.hid rfl
      clear HR2 HB
      go_wp2_with (first | (go_at_call 62; (with_reducible refine (HJ.out _).mono ?_); rintro e w9 ⟨rfl, hf1⟩; have HFa := Lib.hid (HFa.out.trans hf1); have HFb := Lib.hid (HFb.out.trans hf1); obtain ⟨k0, k1, k2, k3, k4⟩ := HIC.out _ HFa.out))
      go_ret
      exact ⟨_, rfl, by rw [e0.out]; exact nats_own (L := [z]) (ownsRow_fr HO1.out HFb.out (fun _ _ => id)), fun k hk => OwnOf.ge (ownsRow_fr HO1.out HFb.out (fun _ _ => id)) hk, HFa.out⟩
    · obtain ⟨rfl, t1, t2'⟩ := h2
      have t2 : ¬ tt < (n : Int) := by omega
      have t2q : decide (tt < (n : Int)) = false := decide_eq_false t2
      have e0 : Hid (R = [z]) := by
        rw [HR2.out, if_pos ⟨by trivial, by omega⟩, if_neg (by rintro ⟨_, h, h'⟩; omega)]
        exact Lib.hid rfl
      clear HR2 HB
      go_wp2_with (first | (go_at_call 62; (with_reducible refine (HJ.out _).mono ?_); rintro e w9 ⟨rfl, hf1⟩; have HFa := Lib.hid (HFa.out.trans hf1); have HFb := Lib.hid (HFb.out.trans hf1); obtain ⟨k0, k1, k2, k3, k4⟩ := HIC.out _ HFa.out))
      go_ret
      exact ⟨_, rfl, by rw [e0.out]; exact nats_own (L := [z]) (ownsRow_fr HO1.out HFb.out (fun _ _ => id)), fun k hk => OwnOf.ge (ownsRow_fr HO1.out HFb.out (fun _ _ => id)) hk, HFa.out⟩
    · obtain ⟨rfl, q, rfl, h2⟩ := h2
      have t1 : (0 : Int) ≤ (q : Int) := by omega
      have t2 : (q : Int) < (n : Int) := by omega
      have e0 : Hid (R = [z, q]) := by
        rw [HR2.out, if_pos ⟨by trivial, by omega⟩, if_pos ⟨rfl, by omega, by omega⟩]
        exact Lib.hid rfl
      clear HR2 HB
      go_wp2_with (first | (go_at_call 62; (with_reducible refine (HJ.out _).mono ?_); rintro e w9 ⟨rfl, hf1⟩; have HFa := Lib.hid (HFa.out.trans hf1); have HFb := Lib.hid (HFb.out.trans hf1); obtain ⟨k0, k1, k2, k3, k4⟩ := HIC.out _ HFa.out) | (at_builtin; refine wpList_append_src rfl _ _ 31 rfl w.heap.size 3 i0 _ 1 8 Tryz.underlying31 hi0 hz0 hz1 hz2 rfl (by decide) (.slice (some ⟨g1, 0, none⟩) 1 c1) 1 [.int .i64 (z : Int)] rfl (ownsRow_fr HO1.out (HFb.out.alloc _) (fun _ _ => id)) _ 1 [.int .i64 (q : Int)] rfl (src_new _ [.int .i64 (q : Int)] 3) rfl (by simp [Value.oneCell']) (by unfold maxLen; omega) (by omega) (HFa.out.alloc _).size ?_; intro v1 w2 own2 fr2; obtain ⟨g2, c2, rfl⟩ := ownsRow_form own2 (by omega); have HO2 := Lib.hid own2; have HFa : Hid (Fr No w w2) := (((HFa.out.alloc _).any.trans (fr2.mono fun k _ hk => OwnOf.ge HO1.out hk)) : Fr (From w) w w2).ours; clear own2 fr2))
      go_ret
      exact ⟨_, rfl, by rw [e0.out]; exact nats_own (L := [z, q]) HO2.out, fun k hk => OwnOf.ge HO2.out hk, HFa.out⟩
end Go.Proofs.YtakcdecljfmckaaGreatDoor
