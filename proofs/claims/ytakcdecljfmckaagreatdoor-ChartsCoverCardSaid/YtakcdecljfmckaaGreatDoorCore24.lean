/- charts.near: its meeting of two blocks. -/
import Derived.Test.YtakcdecljfmckaaGreatDoorCore23
set_option linter.all false
set_option linter.unusedVariables false
set_option linter.unusedSimpArgs false
namespace Go.Proofs.YtakcdecljfmckaaGreatDoor
open Go.RowKit

/-- a row of numbers, whatever sign they have -/
def ZF (w : World) (g n : Nat) (f : Nat → Int) : Prop := ∀ p, p < n → w.cell? ⟨g, p, none⟩ = some (.int .i64 (f p)) ∧ w.frozen? ⟨g, p, none⟩ = false
theorem ZF.set {w : World} {g n : Nat} {f : Nat → Int} (h : ZF w g n f) {k : Nat} (hk : k < n) (x : Int) : ZF (w.setCell ⟨g, k, none⟩ (.int .i64 x)) g n (setAt f k x) := fun p hp => by
  obtain ⟨h1, h2⟩ := h p hp
  refine ⟨?_, by simpa using h2⟩
  unfold setAt
  by_cases e : p = k
  · subst e
    rw [if_pos rfl]
    exact World.cell?_setCell_same _ _ _ h1
  · rw [if_neg e, World.cell?_setCell_other _ _ _ _ (by intro hc; injection hc with _ hc _; exact e hc.symm)]
    exact h1
theorem ZF.congr {w : World} {g n : Nat} {f f' : Nat → Int} (h : ZF w g n f) (he : ∀ p, p < n → f p = f' p) : ZF w g n f' := fun p hp => by rw [← he p hp]; exact h p hp
theorem ZF.frS {S : Nat → Prop} {w w' : World} {g n : Nat} {f : Nat → Int} (h : ZF w g n f) (hf : Fr S w w') (hs : ¬ S g) : ZF w' g n f := fun p hp => by
  obtain ⟨h1, h2⟩ := h p hp
  exact ⟨hf.cell h1 hs, by rw [hf.frozen h1 hs]; exact h2⟩
theorem ZF.fr {w w' : World} {g n : Nat} {f : Nat → Int} (h : ZF w g n f) (hf : Fr No w w') : ZF w' g n f := h.frS hf id
/-- what meet finds in memory -/
structure MT (W : World) (N : Nat) (pl : Nat → Nat) (d : Nat → Int) (bp bd gp gd : Nat) : Prop where
  c1 : W.cell? ⟨bp, 0, none⟩ = some (.slice (some ⟨gp, 0, none⟩) N N)
  c2 : W.cell? ⟨bd, 0, none⟩ = some (.slice (some ⟨gd, 0, none⟩) N N)
  p1 : ZF W gp N (fun v => (pl v : Int))
  d1 : ZF W gd N d
theorem MT.fr {W W' : World} {N : Nat} {pl : Nat → Nat} {d : Nat → Int} {bp bd gp gd : Nat} (h : MT W N pl d bp bd gp gd) (hf : Fr No W W') : MT W' N pl d bp bd gp gd := ⟨hf.cell h.c1 id, hf.cell h.c2 id, h.p1.fr hf, h.d1.fr hf⟩
/-- where two meet -/
def MeetTo (N : Nat) (d : Nat → Int) (i m : Nat) (w : World) (e : Ending) (w' : World) : Prop := ∃ r : Nat, e = .returned (.int .i64 (r : Int)) ∧ Meets N d i m r r ∧ Fr No w w'

set_option maxRecDepth 100000 in
set_option maxHeartbeats 4000000 in
theorem meet_any (nx : Nat → List Nat) (N : Nat) (pl : Nat → Nat) (d : Nat → Int) (bp bd gp gd i m : Nat) (w : World) (h : Nears nx N pl d) (hN : N ≤ 1000) (hi : i < N) (hm : m < N) (si : 0 ≤ d i) (sm : 0 ≤ d m) (hmt : MT w N pl d bp bd gp gd) :
    Calls Tryz.prog 66 #[.int .i64 (i : Int), .int .i64 (m : Int), .pointer (some ⟨bp, 0, none⟩), .pointer (some ⟨bd, 0, none⟩)] w (MeetTo N d i m w) := by
  have HNR := Lib.hid h
  have HST : Hid (Meets N d i m i m) := Meets.start hi hm si sm
  have HMT := Lib.hid hmt
  clear h hi hm si sm hmt
  go_enter Tryz.func66, Tryz.ntmps66
  go_wp2_with fail
  go_loopw [0, 1] (fun xv yv wr => ∃ x y : Nat, xv = .int .i64 (x : Int) ∧ yv = .int .i64 (y : Int) ∧ Hid (Meets N d i m x y) ∧ Hid (Fr No w wr)) (fun xv yv _ => pl (intOf xv).toNat + pl (intOf yv).toNat)
  case atStart => exact ⟨i, m, rfl, rfl, HST.out, Fr.refl _ _⟩
  case round =>
    obtain ⟨x, y, rfl, rfl, HX, HF⟩ := hrel
    by_cases hxy : x = y
    · subst hxy
      go_wp2_with fail
      go_ret
      exact ⟨x, rfl, HX.out, HF.out⟩
    · have q : ((x : Int) != (y : Int)) = true := by rw [bne_iff_ne]; omega
      have HXY := Lib.hid hxy
      clear hxy
      go_wp2_with fail
      go_loopw [0] (fun xv wr => ∃ x2 : Nat, xv = .int .i64 (x2 : Int) ∧ Hid (Meets N d i m x2 y) ∧ Hid (pl x2 ≤ pl x) ∧ Hid (Fr No w wr)) (fun xv _ => pl (intOf xv).toNat)
      case atStart => exact ⟨x, rfl, HX.out, Nat.le_refl _, HF.out⟩
      case round =>
        obtain ⟨x2, rfl, HX2, HLE2, HF2⟩ := hrel
        have hx3 := HX2.out.xN
        have hy3 := HX2.out.yN
        have M := HMT.out.fr HF2.out
        have e1 := M.c1
        have e2 := M.c2
        have e3 : wr.cell? ⟨gp, x2, none⟩ = some (.int .i64 (pl x2 : Int)) := (M.p1 x2 hx3).1
        have e4 : wr.cell? ⟨gp, y, none⟩ = some (.int .i64 (pl y : Int)) := (M.p1 y hy3).1
        have b1 : (x2 : Int) < (N : Int) := by omega
        have b2 : (0 : Int) ≤ (x2 : Int) := by omega
        have b3 : (y : Int) < (N : Int) := by omega
        have b4 : (0 : Int) ≤ (y : Int) := by omega
        by_cases hlt : pl y < pl x2
        · obtain ⟨u, hu1, hu2, hu3⟩ := HX2.out.left HNR.out hlt
          have HU2 := Lib.hid hu2
          have HU3 := Lib.hid hu3
          have e5 : wr.cell? ⟨gd, x2, none⟩ = some (.int .i64 (u : Int)) := by rw [← hu1]; exact (M.d1 x2 hx3).1
          have e6 : pl x2 ≤ pl x := HLE2.out
          have HLE3 : Hid (pl u ≤ pl x) := Lib.hid (Nat.le_trans (Nat.le_of_lt hu2) HLE2.out)
          have g : (pl y : Int) < (pl x2 : Int) := by omega
          clear hu1 hu2 hu3 M hlt e6 hx3 hy3
          go_upto_region 2 with fail
          go_quiet (fail)
          go_wp2_with fail
          go_roundw
          case rel => exact ⟨u, rfl, HU3, HLE3, HF2.out.drewN _⟩
          case measure => (have := HU2.out; simp [intOf] <;> omega)
        · have g : ¬ (pl y : Int) < (pl x2 : Int) := by omega
          have HGE : Hid (pl x2 ≤ pl y) := Lib.hid (by omega)
          go_upto_region 2 with fail
          go_quiet (fail)
          go_wp2_with fail
          have HF3 : Hid (Fr No w (wr.drewN nq)) := HF2.out.drewN _
          generalize wr.drewN nq = W3 at *
          clear e1 e2 e3 e4 b1 b2 b3 b4 g hlt M
          go_loopw [1] (fun yv wr => ∃ y2 : Nat, yv = .int .i64 (y2 : Int) ∧ Hid (Meets N d i m x2 y2) ∧ Hid (pl y2 ≤ pl y) ∧ Hid (Fr No w wr)) (fun yv _ => pl (intOf yv).toNat)
          case atStart => exact ⟨y, rfl, HX2.out, Nat.le_refl _, HF3.out⟩
          case round =>
            obtain ⟨y2, rfl, HY2, HLY2, HF4⟩ := hrel
            have hx3 := HY2.out.xN
            have hy3 := HY2.out.yN
            have M := HMT.out.fr HF4.out
            have e1 := M.c1
            have e2 := M.c2
            have e3 : wr.cell? ⟨gp, x2, none⟩ = some (.int .i64 (pl x2 : Int)) := (M.p1 x2 hx3).1
            have e4 : wr.cell? ⟨gp, y2, none⟩ = some (.int .i64 (pl y2 : Int)) := (M.p1 y2 hy3).1
            have b1 : (x2 : Int) < (N : Int) := by omega
            have b2 : (0 : Int) ≤ (x2 : Int) := by omega
            have b3 : (y2 : Int) < (N : Int) := by omega
            have b4 : (0 : Int) ≤ (y2 : Int) := by omega
            by_cases hlt : pl x2 < pl y2
            · obtain ⟨u, hu1, hu2, hu3⟩ := HY2.out.right HNR.out hlt
              have HU2 := Lib.hid hu2
              have HU3 := Lib.hid hu3
              have e5 : wr.cell? ⟨gd, y2, none⟩ = some (.int .i64 (u : Int)) := by rw [← hu1]; exact (M.d1 y2 hy3).1
              have HLE3 : Hid (pl u ≤ pl y) := Lib.hid (Nat.le_trans (Nat.le_of_lt hu2) HLY2.out)
              have g : (pl x2 : Int) < (pl y2 : Int) := by omega
              clear hu1 hu2 hu3 M hlt hx3 hy3
              go_upto_region 4 with fail
              go_quiet (fail)
              go_wp2_with fail
              go_roundw
              case rel => exact ⟨u, rfl, HU3, HLE3, HF4.out.drewN _⟩
              case measure => (have := HU2.out; simp [intOf] <;> omega)
            · have g : ¬ (pl x2 : Int) < (pl y2 : Int) := by omega
              have HGE2 : Hid (pl y2 ≤ pl x2) := Lib.hid (by omega)
              clear hlt M hx3 hy3
              go_upto_region 4 with fail
              go_quiet (fail)
              go_wp2_with fail
              go_roundw
              case rel => exact ⟨x2, y2, rfl, rfl, HY2.out, HF4.out.drewN _⟩
              case measure =>
                have h1 : pl x2 ≤ pl x := HLE2.out
                have h2 : pl x2 ≤ pl y := HGE.out
                have h3 : pl y2 ≤ pl y := HLY2.out
                have h4 : pl y2 ≤ pl x2 := HGE2.out
                have h5 : pl x ≠ pl y := fun e => HXY.out (HNR.out.inj x y HX.out.xN HX.out.yN e)
                simp [intOf] <;> omega
end Go.Proofs.YtakcdecljfmckaaGreatDoor
