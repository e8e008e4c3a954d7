/- firewalllaw08.MapsHash: the walk. -/
import Derived.Test.YtlinnhaodkiolaaHashU
import Derived.Test.YtlinnhaodkiolaaPairs
import Derived.Deep.QuietTactic
import Derived.BigQuiet
import Derived.Deep.DeepCutAuto
import Derived.Deep.CutBlock
import Derived.Deep.RegionHeld3
import Derived.BigRegion
namespace Go.Proofs.Ytlinnhaodkiolaa
open Go.RowKit

set_option maxRecDepth 100000 in
set_option maxHeartbeats 40000000 in
theorem hash8_walk (g off n cap : Nat) (l : List (UInt8 × UInt8)) (places : Nat) (hp : places < 256) (w : World) (hn : l.length = n) (h150 : n ≤ 150) (hc : CellsAt w g off (pflat l)) :
    Calls Try.prog 3 #[.int .u8 places, .slice (some ⟨g, off, none⟩) n cap] w fun e w' => e = .returned (.bool true) ∧ Fr No w w' := by
  obtain ⟨many, hmany⟩ : ∃ many : Nat, many = 1 + places % 16 := ⟨_, rfl⟩
  have hm1 : 1 ≤ many := by omega
  have hm16 : many ≤ 16 := by omega
  have HC := Lib.hid hc
  have HN := Lib.hid hn
  have q1 : (1 : Int) + (places : Int) % 16 = many := by omega
  have HBY : Hid (∀ (j : Nat) W, j < 20 → Calls Try.prog 9 #[.int .u64 j, .int .i64 2] W fun e w' => e = .returned (.string (kB j)) ∧ Fr No W w') := fun j W hj => (bytes_any j 2 W (by omega) (by omega)).mono fun e w' ⟨he, hf⟩ => ⟨he, Fr.of_below hf⟩
  have HBV : Hid (∀ (j : Nat) W, j < 100000 → Calls Try.prog 9 #[.int .u64 j, .int .i64 3] W fun e w' => e = .returned (.string (vB (leBytes 3 j))) ∧ Fr No W w') := fun j W hj => (bytes_any j 3 W (by omega) (by omega)).mono fun e w' ⟨he, hf⟩ => ⟨he, Fr.of_below hf⟩
  clear hc hn hmany
  go_enter Try.func3, Try.ntmps3
  have q150 : decide ((150 : Int) < (n : Int)) = false := by simp; omega
  go_wp2_with fail
  refine (hashed_any many hm1 hm16 w).mono ?_
  rintro e w1 ⟨b, mb, A, H, T, rfl, HK, HB⟩
  have HW0 : Hid (HashW w b mb w1.heap.size many A H T ((hashL many).map Tab.new) (mregs (hashL many)) [] [] (.slice none 0 0) (.slice none 0 0) w1) :=
    ⟨⟨HK.out, Two.start w1 (Nat.le_refl _), HB.out, HK.out.fr.size⟩, HashI.start many hm1 hm16⟩
  clear HK q1 HB
  generalize w1.heap.size = B at *
  go_wp2_with fail
  go_loopw [8, 9, 10] (fun s8 s9 s10 wr => ∃ (i nk kc vc : Nat) (ka va : Option Addr), i ≤ n ∧ s8 = .slice ka nk kc ∧ s9 = .slice va nk vc ∧ s10 = .int .i64 i ∧ Hid (∃ S m K V, K.length = nk ∧ HashW w b mb B many A H T S m K V (.slice ka nk kc) (.slice va nk vc) wr)) (fun _ _ s10 _ => n - (intOf s10).toNat)
  case atStart => exact ⟨0, 0, 0, 0, none, none, Nat.zero_le _, rfl, rfl, rfl, _, _, _, _, rfl, HW0.out⟩
  case round =>
    obtain ⟨i, nk, kc, vc, ka, va, hi, rfl, rfl, rfl, HWx⟩ := hrel
    clear HW0
    by_cases hlt : i < n
    · obtain ⟨⟨u, v⟩, hx⟩ : ∃ x, l[i]? = some x := ⟨l[i]'(by rw [HN.out]; exact hlt), List.getElem?_eq_getElem _⟩
      obtain ⟨S, m, K, V, hnk, ha⟩ := HWx.out
      have HNK := Lib.hid hnk
      have HW := Lib.hid ha
      obtain ⟨p0, p1⟩ := pair_cells (ha.kt.k.fr.cells HC.out id) hx
      have HX := Lib.hid hx
      obtain ⟨U, hU⟩ : ∃ U : Nat, U = u.toNat := ⟨_, rfl⟩
      have hU1 : U < 256 := by rw [hU]; exact u.toNat_lt
      obtain ⟨Y, hY⟩ : ∃ Y : Nat, Y = v.toNat := ⟨_, rfl⟩
      have hY1 : Y < 256 := by rw [hY]; exact v.toNat_lt
      simp only at p0 p1
      rw [← hU] at p0
      rw [← hY] at p1
      have HY := Lib.hid hY
      have b1 : (0 : Int) ≤ (i : Int) := by omega
      have b2 : (i : Int) < (n : Int) := by omega
      obtain ⟨c, hcq⟩ : ∃ c : Nat, c = U % 20 := ⟨_, rfl⟩
      have hc20 : c < 20 := by omega
      have e1 : (U : Int) % 20 = c := by omega
      have e1' : (U : Int).tmod 20 = c := by rw [Int.tmod_eq_emod_of_nonneg (by omega)]; omega
      have e2 : IntKind.u64.wrap (c : Int) = c := u64_nat c (by omega)
      have e3 : IntKind.u64.wrap (Y : Int) = Y := u64_nat Y (by omega)
      have e4 : IntKind.u64.wrap ((Y : Int) * 259) = (Y : Int) * 259 := IntWalk.u64_in _ (by omega)
      have HBc : Hid (∀ W, Calls Try.prog 9 #[.int .u64 c, .int .i64 2] W fun e w' => e = .returned (.string (kB c)) ∧ Fr No W w') := fun W => HBY.out c W hc20
      have HBd : Hid (∀ W, Calls Try.prog 9 #[.int .u64 ((Y : Int) * 259), .int .i64 3] W fun e w' => e = .returned (.string (vB (leBytes 3 (Y * 259)))) ∧ Fr No W w') := fun W => by have := HBV.out (Y * 259) W (by omega); rwa [show ((Y * 259 : Nat) : Int) = (Y : Int) * 259 by omega] at this
      obtain ⟨D, hD⟩ : ∃ D : List UInt8, D = leBytes 3 (Y * 259) := ⟨_, rfl⟩
      have HD3 : Hid (D.length = 3) := Lib.hid (by rw [hD]; simp)
      rw [← hD] at HBd
      clear hx ha HWx hnk hU hY hcq hD
      go_upto_region 9 with fail
      go_cut [11, 12] (fun s11 s12 wx => s11 = .string (kB c) ∧ s12 = .string (vB D) ∧ Hid (HashW w b mb B many A H T S m K V (.slice ka nk kc) (.slice va nk vc) wx))
      case first =>
        go_region_with (first
          | (go_at_call 9; (with_reducible refine (HBc.out _).mono ?_); rintro e w3 ⟨rfl, hf3⟩; (try (have p1' := hf3.cell (show (wr.drew).cell? _ = _ from p1) id)); have hfa := hf3)
          | (go_at_call 9; (with_reducible refine (HBd.out _).mono ?_); rintro e w4 ⟨rfl, hf4⟩; (try (have p0' := hf4.cell (show (wr.drew).cell? _ = _ from p0) id)); have hfb := hf4))
        all_goals go_wp2_with fail
        all_goals go_meet
        all_goals exact ⟨rfl, rfl, HW.out.to (by first | exact ((Fr.refl _ _).drew.trans hf3).trans hf4 | exact ((Fr.refl _ _).drew.trans hf4).trans hf3)⟩
      case rest =>
        obtain ⟨rfl, rfl, HW1⟩ := hcut
        clear HW p0 p1 HBc HBd e1 e1' e2 e3 e4
        have HC20 := Lib.hid hc20
        have hnk16 : nk ≤ 16 := by have := HW1.out.i.lens.2.2.2; have := HNK.out; omega
        go_wp2_with fail
        go_loop [13, 14] (fun s13 s14 => ∃ k : Nat, k ≤ nk ∧ s14 = .int .i64 k ∧ Hid (AtIs K c k s13)) (fun _ s14 => nk - (intOf s14).toNat)
        case atStart => exact ⟨0, Nat.zero_le _, rfl, .inl ⟨rfl, fun j d hj => absurd hj (Nat.not_lt_zero _)⟩⟩
        case round =>
          obtain ⟨k, hk, rfl, HAt⟩ := hrel
          by_cases hlk : k < nk
          · obtain ⟨gk, d, rfl, hd, hcell, hd20⟩ := HW1.out.key HNK.out hlk
            have heq := kB_eq (a := d) (b := c) (by omega) (by omega)
            have c1 : (0 : Int) ≤ (k : Int) := by omega
            have c2 : (k : Int) < (nk : Int) := by omega
            have HDk := Lib.hid hd
            clear hd
            by_cases hdc : d = c
            · have q : ((kB d).toList == (kB c).toList) = true := by rw [heq]; simpa using hdc
              have HA2 : Hid (AtIs K c (k + 1) (.int .i64 (k : Nat))) := .inr ⟨k, by omega, rfl, by rw [HDk.out, hdc]⟩
              clear heq hdc HAt
              go_wp2_with fail
              go_round
              case rel => exact ⟨k + 1, by omega, by go_num, HA2⟩
              case measure => simp [intOf] <;> omega
            · have q : ((kB d).toList == (kB c).toList) = false := by rw [heq]; simpa using hdc
              have HA2 := Lib.hid (HAt.out.next (by rw [HDk.out]; exact fun e => hdc (Option.some.inj e)))
              clear heq hdc HAt
              go_wp2_with fail
              go_round
              case rel => exact ⟨k + 1, by omega, by go_num, HA2⟩
              case measure => simp [intOf] <;> omega
          · obtain rfl : k = nk := by omega
            have pc := (pair_cells (HW1.out.kt.k.fr.cells HC.out id) HX.out).2
            simp only at pc
            rw [← HY.out] at pc
            obtain ⟨z, hz⟩ : ∃ z : Bool, ((Y : Int).tmod 4 == 0) = z := ⟨_, rfl⟩
            have hz' : ((Y : Int) % 4 == 0) = z := by rw [← hz, Int.tmod_eq_emod_of_nonneg (by omega)]
            clear hlk
            go_upto_if 79 with fail
            clear hz hz' pc
            go_cut [8, 9] (fun s8 s9 wx => ∃ (nk kc vc : Nat) (ka va : Option Addr), s8 = .slice ka nk kc ∧ s9 = .slice va nk vc ∧ Hid (∃ S m K V, K.length = nk ∧ HashW w b mb B many A H T S m K V (.slice ka nk kc) (.slice va nk vc) wx))
            case first =>
              as_aux_lemma =>
                have HI := Lib.hid HW1.out.i
                rcases HAt.out with ⟨rfl, hno⟩ | ⟨j, hj, rfl, hjc⟩
                · have HNI : Hid (c ∉ K) := Lib.hid (fun hm => by obtain ⟨j, hj⟩ := List.mem_iff_getElem?.1 hm; exact hno j c (by have := (List.getElem?_eq_some_iff.1 hj).1; have := HNK.out; omega) hj rfl)
                  clear HAt hno
                  cases z with
                  | true =>
                    have HDL := Lib.hid (HW1.out.kt.delete c S (-2) (HI.out.del_out HC20.out HNI.out))
                    go_wp2_with (go_at_call 10; (with_reducible refine (HDL.out).mono ?_); rintro e w5 ⟨rfl, HW5⟩)
                    go_meet
                    exact ⟨k, kc, vc, ka, va, rfl, rfl, S, m, K, V, HNK.out, HW5.out, HI.out⟩
                  | false =>
                    by_cases hlm : k < many
                    · have q : decide ((k : Int) < (many : Int)) = true := by simp; omega
                      obtain ⟨S', m', hup, hi'⟩ := HI.out.upd_new HC20.out HNI.out D HD3.out (by rw [HNK.out]; exact hlm)
                      have HUP : Hid (∀ W kv' vv' nk' xk' nv' xv', KT w b mb B A H T S m kv' nk' xk' vv' nv' xv' W → Calls Try.prog 11 #[.pointer (some ⟨b, 0, none⟩), .int .i64 1, .string (kB c), .string (vB D)] W fun e w' => e = .returned (.int .i64 0) ∧ Hid (KT w b mb B A H T S' m' kv' nk' xk' vv' nv' xv' w')) := fun W kv' vv' nk' xk' nv' xv' h => h.update c D S' m' 0 hup
                      have HI2 := Lib.hid hi'
                      have HKT : Hid (KT w b mb B A H T S m (.slice ka k kc) k (kcells K) (.slice va k vc) k (vcells V) wc) := by have := HW1.out.kt; rwa [HNK.out] at this
                      clear hup hi'
                      go_wp2_with (first
                        | (at_builtin; refine list_left rfl (.tmp 115) (.tmp 117) rfl (.string (kB c)) rfl HKT rfl rfl (by omega) ?_; intro v5 w5 HKT5)
                        | (at_builtin; refine list_right rfl (.tmp 119) (.tmp 121) rfl (.string (vB D)) rfl HKT5 rfl rfl (by omega) ?_; intro v6 w6 HKT6)
                        | (go_at_call 11; (with_reducible refine (HUP.out _ _ _ _ _ _ _ HKT6.out).mono ?_); rintro e w7 ⟨rfl, HW7⟩))
                      obtain ⟨ka', kc', rfl, _⟩ := HW7.out.t.form
                      obtain ⟨va', vc', rfl, _⟩ := HW7.out.t.swap.form
                      go_meet
                      exact ⟨k + 1, kc', vc', ka', va', rfl, rfl, S', m', K ++ [c], V ++ [D], by simp [HNK.out], HashW.pushed HNK.out HW7.out HI2.out⟩
                    · have HUP := Lib.hid (HW1.out.kt.update c D S m (-7) (HI.out.upd_full HC20.out HNI.out D HD3.out (by rw [HNK.out]; exact hlm)))
                      have q : decide ((k : Int) < (many : Int)) = false := by simp; omega
                      go_wp2_with (go_at_call 11; (with_reducible refine (HUP.out).mono ?_); rintro e w5 ⟨rfl, HW5⟩)
                      go_meet
                      exact ⟨k, kc, vc, ka, va, rfl, rfl, S, m, K, V, HNK.out, HW5.out, HI.out⟩
                · obtain ⟨gk, rfl, hck, hkc⟩ := HW1.out.krow HNK.out (by omega)
                  obtain ⟨gv, rfl, hcv, hvc, hfz⟩ := HW1.out.vrow HNK.out (by omega)
                  have HKT : Hid (KT w b mb B A H T S m (.slice (some ⟨gk, 0, none⟩) k kc) k (kcells K) (.slice (some ⟨gv, 0, none⟩) k vc) k (vcells V) wc) := by have := HW1.out.kt; rwa [HNK.out] at this
                  have c1 : (0 : Int) ≤ (j : Int) := by omega
                  have c2 : (j : Int) < (k : Int) := by omega
                  clear HAt
                  cases z with
                  | true =>
                    obtain ⟨S', hdl, hi'⟩ := HI.out.del_in hjc
                    have HDL : Hid (∀ W kv' vv' nk' xk' nv' xv', KT w b mb B A H T S m kv' nk' xk' vv' nv' xv' W → Calls Try.prog 10 #[.pointer (some ⟨b, 0, none⟩), .int .i64 1, .string (kB c)] W fun e w' => e = .returned (.int .i64 0) ∧ Hid (KT w b mb B A H T S' m kv' nk' xk' vv' nv' xv' w')) := fun W kv' vv' nk' xk' nv' xv' h => h.delete c S' 0 hdl
                    have HI2 := Lib.hid hi'
                    have hlk : (kcells K).length = k := by simp [kcells, HNK.out]
                    have hlv : (vcells V).length = k := by simp [vcells, HI.out.lens.1, HNK.out]
                    have HSk1 := Lib.hid (src_head (n := k) (cap := kc) (j := j) hck)
                    have HSv1 := Lib.hid (src_head (n := k) (cap := vc) (j := j) hcv)
                    have HSk2 := Lib.hid (src_tail (j := j) hck hlk hkc hj)
                    have HSv2 := Lib.hid (src_tail (j := j) hcv hlv hvc hj)
                    have HLk1 : Hid (((kcells K).take j).length = j) := Lib.hid (by simp; omega)
                    have HLv1 : Hid (((vcells V).take j).length = j) := Lib.hid (by simp; omega)
                    have HLk2 : Hid (((kcells K).drop (j + 1)).length = k - (j + 1)) := Lib.hid (by simp; omega)
                    have HLv2 : Hid (((vcells V).drop (j + 1)).length = k - (j + 1)) := Lib.hid (by simp; omega)
                    have HOk1 : Hid (∀ u ∈ (kcells K).take j, u.oneCell' = true) := fun u hu => kcells_one K u (List.mem_of_mem_take hu)
                    have HOv1 : Hid (∀ u ∈ (vcells V).take j, u.oneCell' = true) := fun u hu => vcells_one V u (List.mem_of_mem_take hu)
                    have HOk2 : Hid (∀ u ∈ (kcells K).drop (j + 1), u.oneCell' = true) := fun u hu => kcells_one K u (List.mem_of_mem_drop hu)
                    have HOv2 : Hid (∀ u ∈ (vcells V).drop (j + 1), u.oneCell' = true) := fun u hu => vcells_one V u (List.mem_of_mem_drop hu)
                    have c3 : (j : Int) ≤ (kc : Int) := by omega
                    have c4 : (j : Int) ≤ (vc : Int) := by omega
                    have c5 : IntKind.i64.wrap ((j : Int) + 1) = (j : Int) + 1 := IntWalk.i64_in _ (by omega)
                    have c6 : (j : Int) + 1 ≤ (k : Int) := by omega
                    have c7 : (0 : Int) ≤ (j : Int) + 1 := by omega
                    have c8 : (k : Int) ≤ (kc : Int) := by omega
                    have c9 : (k : Int) ≤ (vc : Int) := by omega
                    have c10 : ((j : Int) + 1).toNat = j + 1 := by omega
                    have HHj := Lib.hid hj
                    clear hdl hi' hlk hlv hck hcv hfz hjc
                    go_upto_region 20 with fail
                    have HR : Hid (TwoF wc (.slice none 0 0) 0 [] (.slice none 0 0) 0 [] wc.drew) := TwoF.start ((Fr.refl _ _).drew)
                    go_region_held3 (fun _ => True) (first | trivial | go_keep) (first
                      | (refine guard_append (.const (.slice none 0 0)) (.tmp 84) 28 ?_ ?_; rfl; refine step_left (by rfl) (.const (.slice none 0 0)) (.tmp 84) (by rfl) HR (by rfl) _ _ _ (by rfl) HSk1 HLk1 HOk1 (by omega) ?_; intro v1 w1 HR1; clear HR; have HR := HR1; clear HR1)
                      | (refine guard_append (.tmp 85) (.tmp 89) 28 ?_ ?_; rfl; refine step_left (by rfl) (.tmp 85) (.tmp 89) (by rfl) HR (by rfl) _ _ _ (by rfl) HSk2 HLk2 HOk2 (by omega) ?_; intro v2 w2 HR2; clear HR; have HR := HR2; clear HR2)
                      | (refine guard_append (.const (.slice none 0 0)) (.tmp 93) 28 ?_ ?_; rfl; refine step_right (by rfl) (.const (.slice none 0 0)) (.tmp 93) (by rfl) HR (by rfl) _ _ _ (by rfl) HSv1 HLv1 HOv1 (by omega) ?_; intro v3 w3 HR3; clear HR; have HR := HR3; clear HR3)
                      | (refine guard_append (.tmp 94) (.tmp 98) 28 ?_ ?_; rfl; refine step_right (by rfl) (.tmp 94) (.tmp 98) (by rfl) HR (by rfl) _ _ _ (by rfl) HSv2 HLv2 HOv2 (by omega) ?_; intro v4 w4 HR4; clear HR; have HR := HR4; clear HR4))
                    all_goals
                      have HW3 := Lib.hid (HKT.out.anew HR.out)
                      go_wp2_with (go_at_call 10; (with_reducible refine (HDL.out _ _ _ _ _ _ _ HW3.out).mono ?_); rintro e w7 ⟨rfl, HW7⟩)
                      all_goals
                        obtain ⟨ka', kc', rfl, _⟩ := HW7.out.t.form
                        obtain ⟨va', vc', rfl, _⟩ := HW7.out.t.swap.form
                        go_meet
                        exact ⟨_, kc', vc', ka', va', rfl, rfl, S', m, K.eraseIdx j, V.eraseIdx j, by rw [List.length_eraseIdx, if_pos (by have := HNK.out; have := HHj.out; omega)]; have := HNK.out; have := HHj.out; omega, HashW.erased HNK.out HHj.out HW7.out HI2.out⟩
                  | false =>
                    obtain ⟨m', hup, hi'⟩ := HI.out.upd_in hjc D HD3.out
                    obtain ⟨y, hy⟩ : ∃ y, V[j]? = some y := ⟨V[j]'(by have := HI.out.lens.1; have := HNK.out; omega), List.getElem?_eq_getElem _⟩
                    have hyc := vcell hcv hy
                    have hfj := hfz j
                    have HKT2 := Lib.hid (HKT.out.store j (.string (vB D)))
                    have HUP := Lib.hid (HKT2.out.update c D S m' 0 hup)
                    have HI2 := Lib.hid hi'
                    clear hup hi' hy hfz hck hcv hjc
                    go_wp2_with (go_at_call 11; (with_reducible refine (HUP.out).mono ?_); rintro e w5 ⟨rfl, HW5⟩)
                    go_meet
                    exact ⟨k, kc, vc, _, _, rfl, rfl, S, m', K, V.set j D, HNK.out, HashW.stored HNK.out HW5.out HI2.out⟩
            case rest =>
              as_aux_lemma =>
                rename World => W0
                obtain ⟨nk2, kc2, vc2, ka2, va2, rfl, rfl, HWy⟩ := hcut
                obtain ⟨S2, m2, K2, V2, hnk2, ha2⟩ := HWy.out
                have HW2 := Lib.hid ha2
                have HNK2 := Lib.hid hnk2
                have hnk216 : nk2 ≤ 16 := by have := ha2.i.lens.2.2.2; omega
                have HBY2 : Hid (∀ (j : Nat) W, j < 20 → Calls Try.prog 9 #[.int .u64 j, .int .i64 2] W fun e w' => e = .returned (.string (kB j)) ∧ Fr No W w') := Lib.hid HBY.out
                clear HWy ha2 hnk2 HW1 HAt HNK HD3 HC20 hnk16 hk
                go_wp2_with fail
                go_loopw [17, 18] (fun s17 s18 wx => ∃ (q nh hc : Nat) (ha : Option Addr), q ≤ 20 ∧ s17 = .slice ha nh hc ∧ s18 = .int .i64 q ∧ Hid (∃ Ls, HadI W0 S2 K2 q (.slice ha nh hc) Ls wx)) (fun _ s18 _ => 20 - (intOf s18).toNat)
                case atStart => exact ⟨0, 0, 0, none, Nat.zero_le _, rfl, rfl, _, HadI.start W0 S2 K2⟩
                case round =>
                  obtain ⟨q, nh, hc, ha, hq, rfl, rfl, HHx⟩ := hrel
                  by_cases hlq : q < 20
                  · obtain ⟨Ls, hh⟩ := HHx.out
                    have HH := Lib.hid hh
                    have HWr := Lib.hid (HW2.out.to hh.g.fr)
                    have HIx := Lib.hid HW2.out.i
                    have hfew : Ls.length ≤ q := hh.few
                    have HEach := Lib.hid hh.each
                    obtain ⟨a, haq⟩ : ∃ a : Int, mlookup S2 1 (leBytes 2 q) = a := ⟨_, rfl⟩
                    have HAq := Lib.hid haq
                    have HBq : Hid (∀ W, Calls Try.prog 9 #[.int .u64 q, .int .i64 2] W fun e w' => e = .returned (.string (kB q)) ∧ Fr No W w') := fun W => HBY2.out q W hlq
                    have HLK : Hid (∀ W, Fr No wr W → Calls Try.prog 12 #[.pointer (some ⟨b, 0, none⟩), .int .i64 1, .string (kB q)] W fun e w' => e = .returned (.int .u64 a) ∧ Fr No W w') := fun W hW => ((HWr.out.kt.k.to hW).lookup 1 (leBytes 2 q) a haq).mono fun e w' ⟨he, _, hf⟩ => ⟨he, hf⟩
                    have f1 : IntKind.u64.wrap (q : Int) = q := u64_nat q (by omega)
                    clear hh haq HHx HWr
                    go_wp2_with (first
                      | (go_at_call 9; (with_reducible refine (HBq.out _).mono ?_); rintro e w3 ⟨rfl, hf3⟩)
                      | (go_at_call 12; (with_reducible refine (HLK.out _ hf3).mono ?_); rintro e w4 ⟨rfl, hf4⟩))
                    have HJ0 : Hid (JI W0 K2 q Ls a 0 false (.slice ha nh hc) w4) := JI.start (HH.out.to (hf3.trans hf4))
                    clear hf3 hf4 HH HLK
                    go_loopw [17, 20, 21] (fun s17 s20 s21 wx => ∃ (j nh hc : Nat) (ha : Option Addr) (t : Bool), j ≤ nk2 ∧ s17 = .slice ha nh hc ∧ s20 = .bool t ∧ s21 = .int .i64 j ∧ Hid (JI W0 K2 q Ls a j t (.slice ha nh hc) wx)) (fun _ _ s21 _ => nk2 - (intOf s21).toNat)
                    case atStart => exact ⟨0, nh, hc, ha, false, Nat.zero_le _, rfl, rfl, rfl, HJ0.out⟩
                    case round =>
                      clear HJ0
                      obtain ⟨j, nh, hc, ha, t, hj, rfl, rfl, rfl, HJ⟩ := hrel
                      by_cases hlj : j < nk2
                      · have hw5 : Fr No W0 wr := HJ.out.2.fr
                        obtain ⟨gk, d, rfl, hd, hcell, hd20⟩ := (HW2.out.to hw5).key HNK2.out hlj
                        have heq := kB_eq (a := d) (b := q) (by omega) (by omega)
                        have c1 : (0 : Int) ≤ (j : Int) := by omega
                        have c2 : (j : Int) < (nk2 : Int) := by omega
                        have HDk := Lib.hid hd
                        clear hd hw5
                        go_upto_region 40 with fail
                        go_cut [151] (fun s wx => s = .bool (decide (d = q)) ∧ Hid (JI W0 K2 q Ls a j t (.slice ha nh hc) wx))
                        case first =>
                          go_region_with (go_at_call 9; (with_reducible refine (HBq.out _).mono ?_); rintro e w6 ⟨rfl, hf6⟩; have hc6 := (((Fr.refl No wr).drew).trans hf6).cell hcell id)
                          all_goals go_wp2_with fail
                          all_goals go_meet
                          all_goals exact ⟨rfl, HJ.out.to (((Fr.refl _ _).drew).trans hf6)⟩
                        case rest =>
                          obtain ⟨rfl, HJ6⟩ := hcut
                          clear hcell heq HJ
                          by_cases hdq : d = q
                          · have hdK : K2[j]? = some q := by rw [HDk.out, hdq]
                            have q1 : decide (d = q) = true := by simpa using hdq
                            obtain ⟨rfl, hg⟩ := HJ6.out.fresh HIx.out.lens.2.1 hdK
                            obtain ⟨p, v', hp16, hav, hV, htx⟩ := HIx.out.into hdK
                            rw [HAq.out] at hav
                            have HDK := Lib.hid hdK
                            have HG := Lib.hid hg
                            have HTX : Hid (∀ W, Fr No W0 W → Calls Try.prog 13 #[.pointer (some ⟨mb, 0, none⟩), .int .u64 a, .int .i64 3] W fun e w' => e = .returned (.tuple #[.string (vB v'), .int .i64 0]) ∧ Fr No W w' ∧ Hid (Fr No W0 w')) := fun W hW => by
                              subst hav
                              exact ((HW2.out.to hW).kt.k.text (1114112 + 3 * (p : Int)) 3 (v', 0) (by omega) (by omega) (by decide) htx).mono fun e w' ⟨he, _, hf⟩ => ⟨he, hf, hW.trans hf⟩
                            obtain ⟨gv, rfl, hcv, hvc, _⟩ := HW2.out.vrow HNK2.out (by omega)
                            have hyc := vcell hcv hV
                            have HYC := Lib.hid hyc
                            have f2 : IntKind.u64.wrap (a - 1048576) = 65536 + 3 * (p : Int) := by rw [hav, show (1114112 + 3 * (p : Int) - 1048576) = 65536 + 3 * (p : Int) by omega]; exact IntWalk.u64_in _ (by omega)
                            have f3 : IntKind.u64.wrap (65536 + 3 * (p : Int) - 65536) = 3 * (p : Int) := by rw [show (65536 + 3 * (p : Int) - 65536) = 3 * (p : Int) by omega]; exact IntWalk.u64_in _ (by omega)
                            have f4 : (3 * (p : Int)).tmod 3 = 0 := by rw [Int.tmod_eq_emod_of_nonneg (by omega)]; omega
                            have f5 : (3 * (p : Int)) % 3 = 0 := by omega
                            obtain ⟨hnh, hpos⟩ := gath_shape hg
                            have HNE : Hid (∀ x ∈ Ls, (x == a) = false) := fun x hx => by
                              obtain ⟨y, hy1, hy2, hy3⟩ := HEach.out x hx
                              rw [beq_eq_false_iff_ne]
                              intro e
                              have := HIx.out.inj hy2 (List.mem_of_getElem? hdK) (by rw [HAq.out, ← hy3, e])
                              omega
                            clear hav htx hV hcv hdK hdq hg HJ6 hyc
                            subst hnh
                            rw [q1]
                            have q2 := vB_eq v' v'
                            have q3 : decide (v' = v') = true := by simp
                            rw [q3] at q2
                            go_wp2_with (go_at_call 13; (with_reducible refine (HTX.out _ HG.out.fr).mono ?_); rintro e w7 ⟨rfl, hf7, HF7⟩; have hyc7 := HF7.out.cell HYC.out id)
                            have HG7 := Lib.hid (HG.out.to hf7)
                            have HPOS := Lib.hid hpos
                            clear hf7 HG hyc7 q2 q3 f2 f3 f4 f5 HTX HYC HF7 hpos
                            go_loop [24] (fun s => ∃ h : Nat, h ≤ Ls.length ∧ s = .int .i64 h) (fun s => Ls.length - (intOf s).toNat)
                            case atStart => exact ⟨0, Nat.zero_le _, rfl⟩
                            case round =>
                              obtain ⟨h, hh, rfl⟩ := hrel
                              by_cases hlh : h < Ls.length
                              · obtain ⟨x, hx⟩ : ∃ x, Ls[h]? = some x := ⟨Ls[h], List.getElem?_eq_getElem hlh⟩
                                have hne := HNE.out x (List.mem_of_getElem? hx)
                                have hsh := (gath_shape HG7.out).2 (by omega)
                                obtain ⟨gh, rfl, hch⟩ := hsh
                                have hc1 := acell hch hx
                                have d1 : (0 : Int) ≤ (h : Int) := by omega
                                have d2 : (h : Int) < (Ls.length : Int) := by omega
                                clear hx hch
                                go_wp2_with fail
                                go_round
                                case rel => exact ⟨h + 1, by omega, by go_num⟩
                                case measure => simp [intOf] <;> omega
                              · obtain rfl : h = Ls.length := by omega
                                go_wp2_with (at_builtin; refine list_had rfl (.tmp 187) (.tmp 189) rfl a HG7 rfl rfl (by omega) ?_; intro v' w8 HG8)
                                obtain ⟨ha', hc', rfl⟩ := gath_form HG8.out
                                have HJ9 := Lib.hid (JI.hit HDK.out HG8.out)
                                go_roundw
                                case rel => exact ⟨j + 1, Ls.length + 1, hc', ha', true, by omega, rfl, rfl, by go_num, HJ9⟩
                                case measure => simp [intOf] <;> omega
                          · have q1 : decide (d = q) = false := by simpa using hdq
                            have HJ7 := Lib.hid (HJ6.out.pass (by rw [HDk.out]; exact fun e => hdq (Option.some.inj e)))
                            clear hdq HJ6
                            rw [q1]
                            go_wp2_with fail
                            go_roundw
                            case rel => exact ⟨j + 1, nh, hc, ha, t, by omega, rfl, rfl, by go_num, HJ7⟩
                            case measure => simp [intOf] <;> omega
                      · obtain rfl : j = nk2 := by omega
                        have he := JI.ends (S := S2) (K := K2) (by rw [HAq.out]; exact HJ.out) (by rw [HNK2.out]; exact Nat.le_refl _) hfew HEach.out
                        obtain ⟨ht, hh2⟩ := he
                        have HH2 : Hid (∃ Ls, HadI W0 S2 K2 (q + 1) (.slice ha nh hc) Ls wr) := hh2
                        have hat : (a != 0) = t := by
                          cases t with
                          | true =>
                            obtain ⟨i', hi'⟩ := List.mem_iff_getElem?.1 (ht.1 rfl)
                            obtain ⟨p, v', _, hav, _⟩ := HIx.out.into hi'
                            rw [HAq.out] at hav
                            simp; omega
                          | false =>
                            have hn : q ∉ K2 := fun hm => Bool.noConfusion (ht.2 hm)
                            have := HIx.out.out hlq hn
                            rw [HAq.out] at this
                            simp [this]
                        clear ht hh2 HJ
                        cases t with
                        | true =>
                          go_wp2_with fail
                          go_roundw
                          case rel => exact ⟨q + 1, nh, hc, ha, by omega, rfl, by go_num, HH2⟩
                          case measure => simp [intOf] <;> omega
                        | false =>
                          go_wp2_with fail
                          go_roundw
                          case rel => exact ⟨q + 1, nh, hc, ha, by omega, rfl, by go_num, HH2⟩
                          case measure => simp [intOf] <;> omega
                  · obtain rfl : q = 20 := by omega
                    obtain ⟨Ls, hh⟩ := HHx.out
                    have HWr := Lib.hid (HW2.out.to hh.g.fr)
                    have hl : (mentries S2 m2 1).length = nk2 := by rw [HW2.out.i.ents, HNK2.out]
                    have HL := Lib.hid hl
                    have HEN : Hid (Calls Try.prog 14 #[.pointer (some ⟨b, 0, none⟩), .int .i64 1] wr fun e w' => ∃ a c, e = .returned (.slice a nk2 c) ∧ Fr No wr w') := (HWr.out.kt.k.entries 1 _ rfl).mono fun e w' ⟨a, c, he, _, _, hf⟩ => ⟨a, c, by rw [he, hl], hf⟩
                    clear hh hl HHx
                    go_wp2_with fail
                    refine (HEN.out).mono ?_
                    rintro e w5 ⟨ea, ec, rfl, hf5⟩
                    have HW5 := Lib.hid (HWr.out.to hf5)
                    clear hf5 HEN HWr
                    go_wp2_with fail
                    go_roundw
                    case rel => exact ⟨i + 1, nk2, kc2, vc2, ka2, va2, by omega, rfl, rfl, by go_num, S2, m2, K2, V2, HNK2.out, HW5.out⟩
                    case measure => simp [intOf] <;> omega
    · obtain rfl : i = n := by omega
      obtain ⟨S, m, K, V, _, ha⟩ := HWx.out
      have HF := Lib.hid ha.kt.k.fr
      clear ha HWx
      go_wp2_with (go_at_call 7; refine (kept_any _).mono ?_; rintro e w20 ⟨rfl, hlf⟩)
      go_ret
      exact ⟨rfl, HF.out.trans hlf⟩

end Go.Proofs.Ytlinnhaodkiolaa
