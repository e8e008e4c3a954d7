/- firewallref04.Check is checkM. firewallref31.Blocks: its first loop, plain, and what it steps over. -/
import Derived.Test.YtakcdecljfmckaaGreatDoorCore40
import Derived.Test.YtakcdecljfmckaaGreatDoorCore41
import Derived.Test.YtakcdecljfmckaaGreatDoorCore22
import Derived.Test.YtakcdecljfmckaaGreatDoorCore23
import Derived.Test.YtakcdecljfmckaaGreatDoorCore38
import Derived.Test.YtakcdecljfmckaaGreatDoorCore19
set_option linter.all false
set_option linter.unusedVariables false
set_option linter.unusedSimpArgs false
namespace Go.Proofs.YtakcdecljfmckaaGreatDoor
open Go.RowKit

/-- the starts ahead of the next one -/
theorem starts_upto {l : List Ins} {pc p : Nat} (hs : pc ∈ starts l) (hp : p ∈ starts l) (h : p < behM l pc) : p < pc ∨ p = pc := by
  rcases Nat.lt_trichotomy p pc with h1 | h1 | h1
  · exact .inl h1
  · exact .inr h1
  · have := starts_sep hs hp h1; omega
def flagOf : Value → Nat
  | .bool true => 1
  | _ => 0

set_option maxRecDepth 100000 in
set_option maxHeartbeats 8000000 in
theorem rcheck_any (l : List Ins) (v : Value) (maps : Int) (w : World) (hv : InsAt w v l) (hok : ∀ i ∈ l, i.ok) (hl : l.length ≤ 100000) :
    Calls Tryz.prog 25 #[v, .int .i64 maps, .bool false] w fun e w' => e = .returned (.tuple #[.int .i64 ((checkM l maps false).1 : Nat), .int .i64 (checkM l maps false).2]) ∧ Fr No w w' := by
  have HBH : Hid (∀ W, Fr No w W → ∀ pc : Nat, pc < l.length → Calls Tryz.prog 26 #[v, .int .i64 (pc : Int)] W fun e w' => e = .returned (.int .i64 (behM l pc : Nat)) ∧ W = w') := fun W hf pc hpc => behind_any l v pc W (hv.fr hf) hl hpc
  have HAL : Hid (∀ W, Fr No w W → ∀ pc : Nat, pc < l.length → Calls Tryz.prog 60 #[v, .int .i64 (pc : Int), .int .i64 maps, .bool false] W fun e w' => e = .returned (.int .i64 (fieldM l pc maps false)) ∧ Fr No W w') := fun W hf pc hpc => alone_any l v pc maps false W (hv.fr hf) hok hl hpc
  have HLE : Hid (∀ W, Fr No w W → ∀ pc : Nat, pc < l.length → Calls Tryz.prog 61 #[v, .int .i64 (pc : Int)] W fun e w' => e = .returned (.int .i64 (wayM l (fun k => (starts l).contains k) pc)) ∧ Fr No W w') := fun W hf pc hpc => leads_any l v pc W (hv.fr hf) hok hl hpc
  have HNE : Hid (∀ W, Fr No w W → ∀ pc : Nat, pc < l.length → Calls Tryz.prog 28 #[v, .int .i64 (pc : Int)] W fun e w' => ∃ v', e = .returned v' ∧ NatsAt w' v' (nextM l pc) ∧ (∀ k, v'.ownBlock = some k → W.heap.size ≤ k) ∧ Fr No W w') := fun W hf pc hpc => rnext_any l v pc W (hv.fr hf) hok hl hpc
  obtain ⟨a, c, rfl⟩ := hv.form
  clear hv hok
  have fin : Hid (∀ (p : Nat) (x : Int) W, Fr No w W → checkM l maps false = (p, x) → (Ending.returned (Value.tuple #[.int .i64 (p : Int), .int .i64 x]) = Ending.returned (Value.tuple #[.int .i64 ((checkM l maps false).1 : Nat), .int .i64 (checkM l maps false).2]) ∧ Fr No w W)) := fun p x W hf h => ⟨by rw [h], hf⟩
  have hN : Hid (∀ pc : Nat, pc ∈ starts l → pc < l.length) := fun pc h => starts_lt h
  obtain ⟨n, hn⟩ : ∃ n, l.length = n := ⟨_, rfl⟩
  rw [hn] at HBH HAL HLE HNE hl hN ⊢
  have HNN := Lib.hid hn
  by_cases hlong : n = 0 ∨ 64 < n
  · have e0 : Hid (checkM l maps false = (0, 3)) := check_long (by rw [hn]; exact hlong)
    rcases hlong with rfl | hlong
    · clear hn hl HBH HAL HLE HNE
      go_enter Tryz.func25, Tryz.ntmps25
      go_wp2_with fail
      go_ret2
      exact fin.out 0 3 _ (Fr.refl _ _) e0.out
    · have g1 : ¬ (n : Int) < 1 := by omega
      have g1q : decide ((n : Int) < 1) = false := decide_eq_false g1
      have g3 : (64 : Int) < (n : Int) := by omega
      have g3q : decide ((64 : Int) < (n : Int)) = true := decide_eq_true g3
      by_cases h192 : 192 < n
      · have g2 : (192 : Int) < (n : Int) := by omega
        have g2q : decide ((192 : Int) < (n : Int)) = true := decide_eq_true g2
        clear hn hl HBH HAL HLE HNE hlong h192
        go_enter Tryz.func25, Tryz.ntmps25
        go_wp2_with fail
        go_ret2
        exact fin.out 0 3 _ (Fr.refl _ _) e0.out
      · have g2 : ¬ (192 : Int) < (n : Int) := by omega
        have g2q : decide ((192 : Int) < (n : Int)) = false := decide_eq_false g2
        clear hn hl HBH HAL HLE HNE hlong h192
        go_enter Tryz.func25, Tryz.ntmps25
        go_wp2_with fail
        go_ret2
        exact fin.out 0 3 _ (Fr.refl _ _) e0.out
  have HLEN : Hid (¬ (l.length = 0 ∨ 64 < l.length)) := by rw [hn]; exact hlong
  have hn64 : n ≤ 64 := by omega
  have hn0 : 0 < n := by omega
  have g1 : ¬ (n : Int) < 1 := by omega
  have g1q : decide ((n : Int) < 1) = false := decide_eq_false g1
  have g2 : ¬ (192 : Int) < (n : Int) := by omega
  have g2q : decide ((192 : Int) < (n : Int)) = false := decide_eq_false g2
  have g3 : ¬ (64 : Int) < (n : Int) := by omega
  have g3q : decide ((64 : Int) < (n : Int)) = false := decide_eq_false g3
  have HN0 := Lib.hid (And.intro hn0 hn64)
  have HS0 : Hid (0 ∈ starts l) := starts_zero (by rw [hn]; exact hn0)
  clear hn hl hlong hn0 hn64
  go_enter Tryz.func25, Tryz.ntmps25
  go_wp2_with fail
  clear g1 g1q g2 g2q g3 g3q
  go_loopw [8] (fun pv wr => ∃ pc : Nat, pv = .int .i64 (pc : Int) ∧ Hid (pc < n → pc ∈ starts l) ∧ Hid (∀ p ∈ starts l, p < pc → fieldM l p maps false = 0) ∧ Hid (Fr No w wr)) (fun pv _ => n - (intOf pv).toNat)
  case atStart => exact ⟨0, rfl, fun _ => HS0.out, fun p _ h => absurd h (Nat.not_lt_zero _), Fr.refl _ _⟩
  case round =>
    obtain ⟨pc, rfl, HS, HZ, HF⟩ := hrel
    by_cases hlt : pc < n
    · have p1 : (pc : Int) < (n : Int) := by omega
      have HA := Lib.hid (HAL.out _ HF.out pc hlt)
      have HB := Lib.hid (fun W (hf : Fr No wr W) => HBH.out _ (HF.out.trans hf) pc hlt)
      have HPS := Lib.hid (HS.out hlt)
      have HLT := Lib.hid hlt
      obtain ⟨er, her⟩ : ∃ er, fieldM l pc maps false = er := ⟨_, rfl⟩
      rw [her] at HA
      have HER := Lib.hid her
      clear hlt her
      by_cases h0 : er = 0
      · subst h0
        go_wp2_with (first
          | (go_at_call 60; (with_reducible refine (HA.out).mono ?_); rintro e w9 ⟨rfl, hf9⟩; have HF9 := Lib.hid hf9; clear hf9)
          | (go_at_call 26; (with_reducible refine (HB.out _ HF9.out).mono ?_); rintro e w10 ⟨rfl, rfl⟩))
        go_roundw
        case rel =>
          refine ⟨behM l pc, rfl, fun h => starts_next HPS.out (by rw [HNN.out]; exact h), fun p hp hlt => ?_, HF.out.trans HF9.out⟩
          rcases starts_upto HPS.out hp hlt with h | rfl
          · exact HZ.out p hp h
          · exact HER.out
        case measure => (have := HLT.out; have := behM_pos l pc; simp [intOf] <;> omega)
      · have q1 : (er != 0) = true := by simpa using h0
        have HE0 := Lib.hid h0
        clear h0
        go_wp2_with (go_at_call 60; (with_reducible refine (HA.out).mono ?_); rintro e w9 ⟨rfl, hf9⟩; have HF9 := Lib.hid hf9; clear hf9)
        go_ret2
        refine fin.out pc er _ (HF.out.trans HF9.out) ?_
        rw [check_field HLEN.out (firstBad_at (f := fun pc => fieldM l pc maps false) HPS.out (by show fieldM l pc maps false ≠ 0; rw [HER.out]; exact HE0.out) HZ.out)]
        show (pc, fieldM l pc maps false) = _
        rw [HER.out]
    · have p1 : ¬ (pc : Int) < (n : Int) := by omega
      have HA1 : Hid (∀ p ∈ starts l, fieldM l p maps false = 0) := fun p hp => HZ.out p hp (by have := hN.out p hp; omega)
      clear hlt
      go_wp2_with fail
      have HFW := HF
      go_loopw [10] (fun pv wr' => ∃ pc : Nat, pv = .int .i64 (pc : Int) ∧ Hid (pc < n → pc ∈ starts l) ∧ Hid (∀ p ∈ starts l, p < pc → wayM l (fun k => (starts l).contains k) p = 0) ∧ Hid (Fr No w wr')) (fun pv _ => n - (intOf pv).toNat)
      case atStart => exact ⟨0, rfl, fun _ => HS0.out, fun p _ h => absurd h (Nat.not_lt_zero _), HFW.out⟩
      case round =>
        clear HS HZ HF HFW
        obtain ⟨pc, rfl, HS, HZ, HF⟩ := hrel
        by_cases hlt : pc < n
        · have p1 : (pc : Int) < (n : Int) := by omega
          have HA := Lib.hid (HLE.out _ HF.out pc hlt)
          have HB := Lib.hid (fun W (hf : Fr No wr W) => HBH.out _ (HF.out.trans hf) pc hlt)
          have HPS := Lib.hid (HS.out hlt)
          have HLT := Lib.hid hlt
          obtain ⟨er, her⟩ : ∃ er, wayM l (fun k => (starts l).contains k) pc = er := ⟨_, rfl⟩
          rw [her] at HA
          have HER := Lib.hid her
          clear hlt her
          by_cases h0 : er = 0
          · subst h0
            go_wp2_with (first
              | (go_at_call 61; (with_reducible refine (HA.out).mono ?_); rintro e w9 ⟨rfl, hf9⟩; have HF9 := Lib.hid hf9; clear hf9)
              | (go_at_call 26; (with_reducible refine (HB.out _ HF9.out).mono ?_); rintro e w10 ⟨rfl, rfl⟩))
            go_roundw
            case rel =>
              refine ⟨behM l pc, rfl, fun h => starts_next HPS.out (by rw [HNN.out]; exact h), fun p hp hlt => ?_, HF.out.trans HF9.out⟩
              rcases starts_upto HPS.out hp hlt with h | rfl
              · exact HZ.out p hp h
              · exact HER.out
            case measure => (have := HLT.out; have := behM_pos l pc; simp [intOf] <;> omega)
          · have q1 : (er != 0) = true := by simpa using h0
            have HE0 := Lib.hid h0
            clear h0
            go_wp2_with (go_at_call 61; (with_reducible refine (HA.out).mono ?_); rintro e w9 ⟨rfl, hf9⟩; have HF9 := Lib.hid hf9; clear hf9)
            go_ret2
            refine fin.out pc er _ (HF.out.trans HF9.out) ?_
            rw [check_way HLEN.out (firstBad_nil HA1.out) (firstBad_at (f := wayM l (fun k => (starts l).contains k)) HPS.out (by rw [HER.out]; exact HE0.out) HZ.out)]
            rw [HER.out]
        · have p1 : ¬ (pc : Int) < (n : Int) := by omega
          have HA2 : Hid (∀ p ∈ starts l, wayM l (fun k => (starts l).contains k) p = 0) := fun p hp => HZ.out p hp (by have := hN.out p hp; omega)
          have hn64 := HN0.out.2
          have hmk := fun W => make_bools n (by omega) W
          have r1 : (0 : Int) < (n : Int) := by have := HN0.out.1; omega
          have HB0 : Hid (SeenAt (wr.alloc (.cells (Array.replicate n (.bool false)) 4)) wr.heap.size (List.replicate n false)) := by
            have eR : (Array.replicate n (Value.bool false)) = (List.replicate n (Value.bool false)).toArray := by simp
            have hb := BoolsAt.new wr n 4
            rw [← eR] at hb
            intro k hk
            rw [List.length_replicate] at hk
            obtain ⟨m1, m2⟩ := hb k hk
            refine ⟨?_, m2⟩
            rw [m1]
            refine congrArg (fun b => some (Value.bool b)) ?_
            show false = (List.replicate n false).getD k true
            rw [List.getD_eq_getElem?_getD, List.getElem?_replicate, if_pos hk]
            rfl
          have HFA : Hid (Fr No w (wr.alloc (.cells (Array.replicate n (.bool false)) 4))) := HF.out.alloc _
          have HGS : Hid (w.heap.size ≤ wr.heap.size) := HF.out.size
          clear hlt hn64
          go_upto_region 16 with fail
          clear hmk
          generalize wr.alloc (.cells (Array.replicate n (.bool false)) 4) = W0 at *
          obtain ⟨gs, hgs⟩ : ∃ gs, wr.heap.size = gs := ⟨_, rfl⟩
          rw [hgs] at HB0 HGS ⊢
          clear hgs HS HZ HF
          have k0 : W0.cell? ⟨gs, 0, none⟩ = some (.bool ((List.replicate n false).getD 0 true)) := (HB0.out 0 (by rw [List.length_replicate]; exact HN0.out.1)).1
          have k1 : W0.frozen? ⟨gs, 0, none⟩ = false := (HB0.out 0 (by rw [List.length_replicate]; exact HN0.out.1)).2
          go_upto_region 18 with fail
          have HB1 : Hid (SeenAt (W0.setCell ⟨gs, 0, none⟩ (.bool true)) gs ((List.replicate n false).set 0 true)) := HB0.out.set (by rw [List.length_replicate]; exact HN0.out.1)
          have HF1 : Hid (Fr No w (W0.setCell ⟨gs, 0, none⟩ (.bool true))) := ((HFA.out.any.trans (((Fr.refl (Isb gs) W0).setB _ _).mono fun k _ hk => by rw [show k = gs from hk]; exact HGS.out)) : Fr (From w) w _).ours
          have HM1 : Hid (Marks l ((List.replicate n false).set 0 true) ((List.replicate n false).set 0 true) false 0) := by have h := Marks.start (l := l) (by rw [HNN.out]; exact HN0.out.1); rw [HNN.out] at h; exact Lib.hid h
          generalize W0.setCell ⟨gs, 0, none⟩ (.bool true) = W1 at *
          clear k0 k1 HB0 HFA
          go_loopw [13] (fun mv wr' => ∃ (m : Bool) (s : List Bool), mv = .bool m ∧ Hid (SeenAt wr' gs s) ∧ Hid (s.length = n) ∧ Hid (Marks l s s false 0) ∧ Hid (m = false → ∀ p, seenP s p ↔ SlotLed l p) ∧ Hid (Fr No w wr')) (fun mv wr' => 2 * unseenW wr' gs n + flagOf mv)
          case atStart => exact ⟨true, _, rfl, HB1.out, Lib.hid (by simp), HM1.out, fun h => (by cases h), HF1.out⟩
          case round =>
            obtain ⟨m, s, rfl, HSA, HSL, HMK, HDN, HF⟩ := hrel
            cases m with
            | true =>
              have HMS : Hid (2 * unseenW wr gs n = 2 * unseen s) := by rw [← HSL.out, HSA.out.count]; exact Lib.hid rfl
              go_wp2_with fail
              clear p1
              go_loopw [13, 14] (fun mv pv wr' => ∃ (m : Bool) (t : List Bool) (pc : Nat), mv = .bool m ∧ pv = .int .i64 (pc : Int) ∧ pc ≤ n ∧ Hid (SeenAt wr' gs t) ∧ Hid (Marks l s t m pc) ∧ Hid (Fr No w wr')) (fun _ pv _ => n - (intOf pv).toNat)
              case atStart => exact ⟨false, s, 0, rfl, rfl, Nat.zero_le _, HSA.out, HMK.out, HF.out⟩
              case round =>
                obtain ⟨m, t, pc, rfl, rfl, hpc, HTA, HMT, HG⟩ := hrel
                by_cases hlt : pc < n
                · have p1 : (pc : Int) < (n : Int) := by omega
                  have p0 : (0 : Int) ≤ (pc : Int) := by omega
                  have HC := Lib.hid (HNE.out _ HG.out pc hlt)
                  have hn64 := HN0.out.2
                  have HTL : Hid (t.length = n) := by rw [← HNN.out]; exact Lib.hid HMT.out.len
                  have HGL : Hid (gs < wr.heap.size) := World.block_lt_of_cell? wr _ (HTA.out 0 (by rw [HTL.out]; exact HN0.out.1)).1
                  have HLT := Lib.hid hlt
                  have HN2 := Lib.hid (nextM_len l pc)
                  have HMG : Hid (Marking l s t m pc 0) := HMT.out.go
                  obtain ⟨L, hL⟩ : ∃ L, nextM l pc = L := ⟨_, rfl⟩
                  rw [hL] at HC HN2
                  have HLEQ := Lib.hid hL
                  clear hL hlt
                  go_wp2_with (go_at_call 28; (with_reducible refine (HC.out).mono ?_); rintro e w5 ⟨v', rfl, nat, own, hf5⟩; obtain ⟨a5, c5, rfl⟩ := nat.form; have HNA := Lib.hid nat; have HOW := Lib.hid own; have HF5 := Lib.hid hf5; clear nat own hf5)
                  obtain ⟨q, hq⟩ : ∃ q, L.length = q := ⟨_, rfl⟩
                  rw [hq] at HNA HN2 HOW ⊢
                  have HQ := Lib.hid hq
                  have hq2 : q ≤ 2 := HN2.out
                  have HT5 : Hid (SeenAt w5 gs t) := HTA.out.fr HF5.out
                  have HNG : Hid (∀ k, (Value.slice a5 q c5).ownBlock = some k → ¬ Isb gs k) := fun k hk h => by have h1 := HOW.out k hk; have h2 := HGL.out; have h : k = gs := h; omega
                  clear hq
                  go_loopw [13, 16] (fun mv kv wr' => ∃ (m : Bool) (u : List Bool) (k : Nat), mv = .bool m ∧ kv = .int .i64 (k : Int) ∧ k ≤ q ∧ Hid (SeenAt wr' gs u) ∧ Hid (Marking l s u m pc k) ∧ Hid (Fr (Isb gs) w5 wr')) (fun _ kv _ => q - (intOf kv).toNat)
                  case atStart => exact ⟨m, t, 0, rfl, rfl, Nat.zero_le _, HT5.out, HMG.out, Fr.refl _ _⟩
                  case round =>
                    obtain ⟨m, u, k, rfl, rfl, hk, HUA, HMU, HH⟩ := hrel
                    have HUL : Hid (u.length = n) := by rw [← HNN.out]; exact Lib.hid HMU.out.len
                    have HFW : Hid (Fr No w wr) := (((HG.out.trans HF5.out).any.trans (HH.out.mono fun k _ hk => by rw [show k = gs from hk]; exact HGS.out)) : Fr (From w) w wr).ours
                    by_cases hlt : k < q
                    · have k1 : (k : Int) < (q : Int) := by omega
                      have kq : (0 : Int) ≤ (k : Int) := by omega
                      have HKQ := Lib.hid hlt
                      have b0 : wr.cell? ⟨gs, pc, none⟩ = some (.bool (u.getD pc true)) := (HUA.out pc (by rw [HUL.out]; exact HLT.out)).1
                      obtain ⟨sb, hsb⟩ : ∃ sb, u.getD pc true = sb := ⟨_, rfl⟩
                      rw [hsb] at b0
                      have HSB := Lib.hid hsb
                      clear hsb
                      cases sb with
                      | false =>
                        have HMK2 : Hid (Marks l s u m (pc + 1)) := HMU.out.stop (.inr (fun h => by rw [(seen_get (by rw [HUL.out]; exact HLT.out)).2 h] at HSB; cases HSB.out))
                        have hlt2 := HLT.out
                        clear hlt
                        go_wp2_with fail
                        go_roundw
                        case rel => exact ⟨m, u, pc + 1, rfl, by go_num, by omega, HUA.out, HMK2.out, HFW.out⟩
                        case measure => simp [intOf] <;> omega
                      | true =>
                        have HSP : Hid (seenP u pc) := (seen_get (by rw [HUL.out]; exact HLT.out)).1 HSB.out
                        obtain ⟨x, hx⟩ : ∃ x, L[k]? = some x := ⟨L[k]'(by rw [HQ.out]; exact hlt), List.getElem?_eq_getElem _⟩
                        have HMM : Hid (Marking l s (u.set x true) (m || !u.getD x true) pc (k + 1)) := HMU.out.mark HSP.out (by rw [HLEQ.out]; exact hx)
                        have hxn : x < n := by rw [← HNN.out]; exact nextM_low (u := pc) (by rw [HLEQ.out]; exact List.mem_of_getElem? hx)
                        have hnat := HNA.out.frS HH.out HNG.out
                        rcases hnat with ⟨h1, _⟩ | ⟨g2, c2, h2, hc2⟩
                        · rw [h1] at hx; simp at hx
                        injection h2 with h2 h3 h4
                        clear h3
                        subst h2 h4
                        have k2 := i64_cell hc2 hx
                        have x1 : (x : Int) < (n : Int) := by omega
                        have x0 : (0 : Int) ≤ (x : Int) := by omega
                        have b1 : wr.cell? ⟨gs, x, none⟩ = some (.bool (u.getD x true)) := (HUA.out x (by rw [HUL.out]; exact hxn)).1
                        have b2 : wr.frozen? ⟨gs, x, none⟩ = false := (HUA.out x (by rw [HUL.out]; exact hxn)).2
                        have HUS : Hid (SeenAt (wr.setCell ⟨gs, x, none⟩ (.bool true)) gs (u.set x true)) := HUA.out.set (by rw [HUL.out]; exact hxn)
                        have HHS : Hid (Fr (Isb gs) w5 (wr.setCell ⟨gs, x, none⟩ (.bool true))) := HH.out.setB _ _
                        clear hx hc2 hxn hlt
                        generalize u.getD x true = sx at *
                        generalize u.set x true = u2 at *
                        cases m with
                        | true =>
                          go_wp2_with fail
                          go_roundw
                          case rel => exact ⟨true, u2, k + 1, rfl, by go_num, by have := HKQ.out; omega, HUS.out, HMM.out, HHS.out⟩
                          case measure => (have := HKQ.out; simp [intOf] <;> omega)
                        | false =>
                          cases sx
                          · go_wp2_with fail
                            go_roundw
                            case rel => exact ⟨true, u2, k + 1, rfl, by go_num, by have := HKQ.out; omega, HUS.out, HMM.out, HHS.out⟩
                            case measure => (have := HKQ.out; simp [intOf] <;> omega)
                          · go_wp2_with fail
                            go_roundw
                            case rel => exact ⟨false, u2, k + 1, rfl, by go_num, by have := HKQ.out; omega, HUS.out, HMM.out, HHS.out⟩
                            case measure => (have := HKQ.out; simp [intOf] <;> omega)
                    · obtain rfl : k = q := by omega
                      have k1 : ¬ (k : Int) < (k : Int) := by omega
                      have HMK2 : Hid (Marks l s u m (pc + 1)) := HMU.out.stop (.inl (by rw [HLEQ.out, HQ.out]; exact Nat.le_refl _))
                      have hlt2 := HLT.out
                      clear hlt
                      go_wp2_with fail
                      go_roundw
                      case rel => exact ⟨m, u, pc + 1, rfl, by go_num, by omega, HUA.out, HMK2.out, HFW.out⟩
                      case measure => simp [intOf] <;> omega
                · obtain rfl : pc = n := by omega
                  have p1 : ¬ (pc : Int) < (pc : Int) := by omega
                  have HTL : Hid (t.length = pc) := by rw [← HNN.out]; exact Lib.hid HMT.out.len
                  have HEND : Hid (m = false → ∀ p, seenP t p ↔ SlotLed l p) := fun h p => by
                    have h2 := HMT.out
                    subst h
                    rw [← HNN.out] at h2
                    exact h2.end
                  have HMS2 : Hid (2 * unseenW wr gs pc = 2 * unseen t) := by rw [← HTL.out, HTA.out.count]; exact Lib.hid rfl
                  clear hlt
                  go_wp2_with fail
                  go_roundw
                  case rel => exact ⟨m, t, rfl, HTA.out, HTL.out, HMT.out.turn, HEND.out, HG.out⟩
                  case measure =>
                    have h1 := HMS.out
                    have h2 := HMS2.out
                    cases m with
                    | true => have h3 := HMT.out.fewer rfl; simp [flagOf]; omega
                    | false => have h3 := (HMT.out.same rfl).1; subst h3; simp [flagOf]; omega
            | false =>
              have HLED : Hid (∀ p, seenP s p ↔ SlotLed l p) := HDN.out rfl
              have HFW := HF
              go_wp2_with fail
              go_loopw [17] (fun pv wr' => ∃ pc : Nat, pv = .int .i64 (pc : Int) ∧ Hid (pc < n → pc ∈ starts l) ∧ Hid (∀ p ∈ starts l, p < pc → (if (seenM l).getD p true then (0 : Int) else 42) = 0) ∧ wr' = wr) (fun pv _ => n - (intOf pv).toNat)
              case atStart => exact ⟨0, rfl, fun _ => HS0.out, fun p _ h => absurd h (Nat.not_lt_zero _), rfl⟩
              case round =>
                obtain ⟨pc, rfl, HS, HZ, rfl⟩ := hrel
                by_cases hlt : pc < n
                · have p1 : (pc : Int) < (n : Int) := by omega
                  have p0 : (0 : Int) ≤ (pc : Int) := by omega
                  have HB := Lib.hid (HBH.out _ HF.out pc hlt)
                  have HPS := Lib.hid (HS.out hlt)
                  have HLT := Lib.hid hlt
                  have b0 : wr.cell? ⟨gs, pc, none⟩ = some (.bool (s.getD pc true)) := (HSA.out pc (by rw [HSL.out]; exact hlt)).1
                  obtain ⟨sb, hsb⟩ : ∃ sb, s.getD pc true = sb := ⟨_, rfl⟩
                  rw [hsb] at b0
                  have HSB : Hid ((seenM l).getD pc true = sb) := by
                    have h1 : s.getD pc true = true ↔ SlotLed l pc := (seen_get (by rw [HSL.out]; exact hlt)).trans (HLED.out pc)
                    have h2 : (seenM l).getD pc true = true ↔ SlotLed l pc := seenM_iff (by rw [HNN.out]; exact hlt)
                    rw [hsb] at h1
                    exact Lib.hid (by rw [Bool.eq_iff_iff]; exact h2.trans h1.symm)
                  clear hlt hsb
                  cases sb with
                  | true =>
                    go_wp2_with (go_at_call 26; (with_reducible refine (HB.out).mono ?_); rintro e w10 ⟨rfl, rfl⟩)
                    go_roundw
                    case rel =>
                      refine ⟨behM l pc, rfl, fun h => starts_next HPS.out (by rw [HNN.out]; exact h), fun p hp hlt => ?_, trivial⟩
                      rcases starts_upto HPS.out hp hlt with h | rfl
                      · exact HZ.out p hp h
                      · rw [HSB.out]; rfl
                    case measure => (have := HLT.out; have := behM_pos l pc; simp [intOf] <;> omega)
                  | false =>
                    go_wp2_with fail
                    go_ret2
                    refine fin.out pc 42 _ HF.out ?_
                    have hb := firstBad_at (f := fun pc => if (seenM l).getD pc true then (0 : Int) else 42) HPS.out (by show (if (seenM l).getD pc true then (0 : Int) else 42) ≠ 0; rw [HSB.out]; decide) HZ.out
                    rw [check_seen HLEN.out (firstBad_nil HA1.out) (firstBad_nil HA2.out) hb]
                    show (pc, if (seenM l).getD pc true then (0 : Int) else 42) = _
                    rw [HSB.out]; rfl
                · have p1 : ¬ (pc : Int) < (n : Int) := by omega
                  have HALL : Hid (∀ p ∈ starts l, (if (seenM l).getD p true then (0 : Int) else 42) = 0) := fun p hp => HZ.out p hp (by have := hN.out p hp; omega)
                  clear hlt
                  go_wp2_with fail
                  go_ret2
                  exact fin.out 0 0 _ HF.out (check_ok HLEN.out (firstBad_nil HA1.out) (firstBad_nil HA2.out) (firstBad_nil HALL.out))
end Go.Proofs.YtakcdecljfmckaaGreatDoor

namespace Go.Proofs.YtakcdecljfmckaaGreatDoor
open Go.RowKit

theorem Tryz.infoCh_rblk : (Tryz.prog.info? 69).map (fun i => (i.zero, i.size, i.bytes)) = some (some (.agg #[.int .i64 0, .int .i64 0, .slice none 0 0]), 3, 40) := by kernel_rfl
theorem Tiles.next {e : Nat} : ∀ {B : List Cb} {a : Nat}, Tiles a B e → ∀ {i : Nat} {c : Cb}, B[i]? = some c → (i + 1 = B.length ∧ c.to = e) ∨ ∃ d, B[i + 1]? = some d ∧ d.fr = c.to ∧ d.fr < d.to
  | [], _, _, _, _, h => absurd h (by simp)
  | b :: [], a, h, 0, c, hc => by
    simp only [List.getElem?_cons_zero, Option.some.injEq] at hc
    subst hc
    exact .inl ⟨rfl, h.2.2⟩
  | b :: d :: r, a, h, 0, c, hc => by
    simp only [List.getElem?_cons_zero, Option.some.injEq] at hc
    subst hc
    have h1 := h.2.2.1
    have h2 := h.2.2.2.1
    exact .inr ⟨d, rfl, h1, h2⟩
  | b :: B, a, h, i + 1, c, hc => by
    simp only [List.getElem?_cons_succ] at hc
    rcases h.2.2.next hc with ⟨h1, h2⟩ | ⟨d, h1, h2⟩
    · exact .inl ⟨by simp only [List.length_cons]; omega, h2⟩
    · exact .inr ⟨d, by simpa using h1, h2⟩
/-- where the second loop stands: in the i-th block, or behind all -/
def Stand (l : List Ins) (B : List Cb) (i pc : Nat) : Prop := (pc = l.length ∧ i = B.length) ∨ (pc < l.length ∧ pc ∈ starts l ∧ ∃ c, B[i]? = some c ∧ c.fr ≤ pc ∧ pc < c.to)
theorem Whole.stand0 {l : List Ins} {maps : Int} (h : Whole l maps) : Stand l (cutsM l) 0 0 := by
  refine .inr ⟨h.pos, starts_zero h.pos, ?_⟩
  cases hB : cutsM l with
  | nil =>
    have h1 := h.cut.none hB
    have h2 := starts_zero h.pos
    rw [h1] at h2
    simp at h2
  | cons b r =>
    have ht := h.cut.tiles
    rw [hB] at ht
    exact ⟨b, rfl, by have := ht.1; omega, by have := ht.1; have := ht.2.1; omega⟩
theorem Whole.onward {l : List Ins} {maps : Int} (h : Whole l maps) {i pc : Nat} {c : Cb} (hc : (cutsM l)[i]? = some c) (hs : pc ∈ starts l) (h1 : c.fr ≤ pc) (h2 : pc < c.to) :
    (behM l pc < c.to ∧ Stand l (cutsM l) i (behM l pc)) ∨ (behM l pc = c.to ∧ pc = c.la ∧ Stand l (cutsM l) (i + 1) c.to) := by
  have hm := List.mem_of_getElem? hc
  obtain ⟨a1, a2, a3, a4, a5⟩ := h.cut.la c hm
  have hle := (h.cut.tiles.le.2 c hm).2
  have hp := behM_pos l pc
  by_cases hlt : behM l pc < c.to
  · have hbs : behM l pc ∈ starts l := starts_next hs (by omega)
    exact .inl ⟨hlt, .inr ⟨by omega, hbs, c, hc, by omega, hlt⟩⟩
  · have e : pc = c.la := by
      rcases Nat.lt_trichotomy pc c.la with hlt2 | rfl | hgt
      · have h3 := starts_sep hs a3 hlt2
        have := behM_pos l c.la
        omega
      · rfl
      · have := starts_sep a3 hs hgt; omega
    refine .inr ⟨by rw [e]; exact a2, e, ?_⟩
    rcases h.cut.tiles.next hc with ⟨h3, h4⟩ | ⟨d, h3, h4, h5⟩
    · exact .inl ⟨h4, h3⟩
    · have hd := h.cut.la d (List.mem_of_getElem? h3)
      have hds : d.fr ∈ starts l := hd.2.2.2.1
      have hdl := starts_lt hds
      exact .inr ⟨by omega, by rw [← h4]; exact hds, d, h3, by omega, by omega⟩
end Go.Proofs.YtakcdecljfmckaaGreatDoor
