/- firewalllaw08.MapsArray: the walk. -/
import Derived.Test.YtlinnhaodkiolaaHashed
import Derived.Test.YtlinnhaodkiolaaPairs
namespace Go.Proofs.Ytlinnhaodkiolaa
open Go.RowKit

def aS : List Tab := (hashL 2).map Tab.new
def aM (a b c : UInt8) : List Reg := [⟨1048576, [a, b, c], true⟩, ⟨1114112, [0, 0, 0, 0, 0, 0], true⟩]

theorem aM0 : mregs (hashL 2) = aM 0 0 0 := by kernel_rfl
theorem up0 (a b c v : UInt8) : mupdate aS (aM a b c) 0 [0, 0, 0, 0] [v] = ((aS, aM v b c), 0) := by kernel_rfl
theorem up1 (a b c v : UInt8) : mupdate aS (aM a b c) 0 [1, 0, 0, 0] [v] = ((aS, aM a v c), 0) := by kernel_rfl
theorem up2 (a b c v : UInt8) : mupdate aS (aM a b c) 0 [2, 0, 0, 0] [v] = ((aS, aM a b v), 0) := by kernel_rfl
theorem up3 (a b c v : UInt8) : mupdate aS (aM a b c) 0 [3, 0, 0, 0] [v] = ((aS, aM a b c), -2) := by kernel_rfl
theorem up4 (a b c v : UInt8) : mupdate aS (aM a b c) 0 [4, 0, 0, 0] [v] = ((aS, aM a b c), -2) := by kernel_rfl
theorem aText (a b c : UInt8) : mtext (aM a b c) 1048576 3 = ([a, b, c], 0) := by kernel_rfl
theorem aEnts (a b c : UInt8) : mentries aS (aM a b c) 0 = [([0, 0, 0, 0], [a]), ([1, 0, 0, 0], [b]), ([2, 0, 0, 0], [c])] := by kernel_rfl

/-- the state of the loop -/
structure ArrI (w : World) (b mb bw : Nat) (A H T : Nat → Prop) (x y z : UInt8) (wr : World) : Prop where
  k : KSt w b mb aS (aM x y z) A H T wr
  c0 : wr.cell? ⟨bw, 0, none⟩ = some (.int .u8 (x.toNat : Int))
  c1 : wr.cell? ⟨bw, 1, none⟩ = some (.int .u8 (y.toNat : Int))
  c2 : wr.cell? ⟨bw, 2, none⟩ = some (.int .u8 (z.toNat : Int))
  fz : ∀ j, wr.frozen? ⟨bw, j, none⟩ = false
  nb : ¬ A bw ∧ ¬ H bw ∧ ¬ T bw
  lo : w.heap.size ≤ bw

theorem ArrI.to {w wr w' : World} {b mb bw : Nat} {A H T : Nat → Prop} {x y z : UInt8} (h : ArrI w b mb bw A H T x y z wr) (hf : Fr No wr w') : ArrI w b mb bw A H T x y z w' :=
  ⟨h.k.to hf, hf.cell h.c0 id, hf.cell h.c1 id, hf.cell h.c2 id, fun j => by rw [World.frozen?_of_block (w := wr) (hf.block bw (World.block_lt_of_cell? wr _ h.c0) id)]; exact h.fz j, h.nb, h.lo⟩

/-- behind a call that changes the maps' memory alone -/
theorem ArrI.upd {w wr w' : World} {b mb bw : Nat} {A H T : Nat → Prop} {x y z x' y' z' : UInt8} (h : ArrI w b mb bw A H T x y z wr) (hk : KSt w b mb aS (aM x' y' z') A H T w') (hf : Fr (Or2 H T) wr w') :
    KSt w b mb aS (aM x' y' z') A H T w' ∧ w'.cell? ⟨bw, 0, none⟩ = some (.int .u8 (x.toNat : Int)) ∧ w'.cell? ⟨bw, 1, none⟩ = some (.int .u8 (y.toNat : Int)) ∧ w'.cell? ⟨bw, 2, none⟩ = some (.int .u8 (z.toNat : Int)) ∧ ∀ j, w'.frozen? ⟨bw, j, none⟩ = false := by
  have hn : ¬ Or2 H T bw := fun hh => hh.elim h.nb.2.1 h.nb.2.2
  exact ⟨hk, hf.cell h.c0 hn, hf.cell h.c1 hn, hf.cell h.c2 hn, fun j => by rw [World.frozen?_of_block (w := wr) (hf.block bw (World.block_lt_of_cell? wr _ h.c0) hn)]; exact h.fz j⟩

/-- a byte of the array is laid -/
theorem KSt.beside {w wr : World} {b mb bw : Nat} {A H T : Nat → Prop} {S : List Tab} {m : List Reg} (h : KSt w b mb S m A H T wr) (nb : ¬ A bw ∧ ¬ H bw ∧ ¬ T bw) (lo : w.heap.size ≤ bw) (j : Nat) (v : Value) : KSt w b mb S m A H T (wr.setCell ⟨bw, j, none⟩ v) :=
  h.apart (X := fun k => k = bw) ((Fr.refl (fun k => k = bw) wr).setCell (p := ⟨bw, j, none⟩) (.inr rfl) v) (fun k hk => by rw [hk]; exact lo) (fun k hA e => nb.1 (e ▸ hA)) (fun k hH e => nb.2.1 (e ▸ hH)) (fun k hT e => nb.2.2 (e ▸ hT))

/-- behind a call that changes the maps alone, the bytes as they were -/
theorem ArrI.keep {w wr w' : World} {b mb bw : Nat} {A H T : Nat → Prop} {x y z : UInt8} (h : ArrI w b mb bw A H T x y z wr) (hk : KSt w b mb aS (aM x y z) A H T w') (hf : Fr (Or2 H T) wr w') : ArrI w b mb bw A H T x y z w' := by
  obtain ⟨a, c0, c1, c2, fz⟩ := h.upd hk hf
  exact ⟨a, c0, c1, c2, fz, h.nb, h.lo⟩

theorem ArrI.put0 {w wr w' : World} {b mb bw : Nat} {A H T : Nat → Prop} {x y z v : UInt8} (h : ArrI w b mb bw A H T x y z wr) (hk : KSt w b mb aS (aM v y z) A H T w') (hf : Fr (Or2 H T) wr w') : ArrI w b mb bw A H T v y z (w'.setCell ⟨bw, 0, none⟩ (.int .u8 (v.toNat : Int))) := by
  obtain ⟨a, c0, c1, c2, fz⟩ := h.upd hk hf
  refine ⟨a.beside h.nb h.lo _ _, ?_, ?_, ?_, fun j => by rw [World.frozen?_setCell]; exact fz j, h.nb, h.lo⟩
  · exact World.cell?_setCell_same _ _ _ (by rw [c0])
  · rw [World.cell?_setCell_other _ _ _ _ (by simp)]; exact c1
  · rw [World.cell?_setCell_other _ _ _ _ (by simp)]; exact c2

theorem ArrI.put1 {w wr w' : World} {b mb bw : Nat} {A H T : Nat → Prop} {x y z v : UInt8} (h : ArrI w b mb bw A H T x y z wr) (hk : KSt w b mb aS (aM x v z) A H T w') (hf : Fr (Or2 H T) wr w') : ArrI w b mb bw A H T x v z (w'.setCell ⟨bw, 1, none⟩ (.int .u8 (v.toNat : Int))) := by
  obtain ⟨a, c0, c1, c2, fz⟩ := h.upd hk hf
  refine ⟨a.beside h.nb h.lo _ _, ?_, ?_, ?_, fun j => by rw [World.frozen?_setCell]; exact fz j, h.nb, h.lo⟩
  · rw [World.cell?_setCell_other _ _ _ _ (by simp)]; exact c0
  · exact World.cell?_setCell_same _ _ _ (by rw [c1])
  · rw [World.cell?_setCell_other _ _ _ _ (by simp)]; exact c2

theorem ArrI.put2 {w wr w' : World} {b mb bw : Nat} {A H T : Nat → Prop} {x y z v : UInt8} (h : ArrI w b mb bw A H T x y z wr) (hk : KSt w b mb aS (aM x y v) A H T w') (hf : Fr (Or2 H T) wr w') : ArrI w b mb bw A H T x y v (w'.setCell ⟨bw, 2, none⟩ (.int .u8 (v.toNat : Int))) := by
  obtain ⟨a, c0, c1, c2, fz⟩ := h.upd hk hf
  refine ⟨a.beside h.nb h.lo _ _, ?_, ?_, ?_, fun j => by rw [World.frozen?_setCell]; exact fz j, h.nb, h.lo⟩
  · rw [World.cell?_setCell_other _ _ _ _ (by simp)]; exact c0
  · rw [World.cell?_setCell_other _ _ _ _ (by simp)]; exact c1
  · exact World.cell?_setCell_same _ _ _ (by rw [c2])

theorem str_want {w : World} {bw : Nat} {x y z : UInt8} (h0 : w.cell? ⟨bw, 0, none⟩ = some (.int .u8 (x.toNat : Int))) (h1 : w.cell? ⟨bw, 1, none⟩ = some (.int .u8 (y.toNat : Int))) (h2 : w.cell? ⟨bw, 2, none⟩ = some (.int .u8 (z.toNat : Int))) :
    (convert 43 9 (.slice (some ⟨bw, 0, none⟩) 3 3)).run Try.prog w = .ok (.string ⟨#[x, y, z]⟩) w := by
  have hc : CellsAt w bw 0 (u8s [x, y, z]) := fun j v hj => by
    match j with
    | 0 => simp [u8s] at hj; subst hj; exact h0
    | 1 => simp [u8s] at hj; subst hj; exact h1
    | 2 => simp [u8s] at hj; subst hj; exact h2
    | j + 3 => simp [u8s] at hj
  exact str_at hc 3

theorem byte_str (W : World) (x : UInt8) : (convert 43 9 (.slice (some ⟨W.heap.size, 0, none⟩) 1 1)).run Try.prog (W.alloc (.cells #[.int .u8 (x.toNat : Int)] 5)) = .ok (.string ⟨#[x]⟩) (W.alloc (.cells #[.int .u8 (x.toNat : Int)] 5)) := by
  have hc : CellsAt (W.alloc (.cells #[.int .u8 (x.toNat : Int)] 5)) W.heap.size 0 (u8s [x]) := CellsAt.new W (u8s [x]) _
  exact str_at hc 1

set_option maxRecDepth 100000 in
set_option maxHeartbeats 4000000 in
theorem arr8_walk (g off n cap : Nat) (l : List (UInt8 × UInt8)) (w : World) (hn : l.length = n) (h100 : n ≤ 100) (hc : CellsAt w g off (pflat l)) :
    Calls Try.prog 4 #[.slice (some ⟨g, off, none⟩) n cap] w fun e w' => e = .returned (.bool true) ∧ Fr No w w' := by
  have HC := Lib.hid hc
  have HN := Lib.hid hn
  clear hc hn
  go_enter Try.func4, Try.ntmps4
  go_wp2_with fail
  refine (hashed_any 2 (by decide) (by decide) w).mono ?_
  rintro e w1 ⟨b, mb, A, H, T, rfl, HK, HB⟩
  have HI0 : Hid (ArrI w b mb w1.heap.size A H T 0 0 0 (w1.alloc (.cells #[.int .u8 0, .int .u8 0, .int .u8 0] 42))) := by
    have hk := HK.out
    rw [aM0] at hk
    have hf : Fr No w1 (w1.alloc (.cells #[.int .u8 0, .int .u8 0, .int .u8 0] 42)) := (Fr.refl _ _).alloc _
    refine ⟨hk.to hf, ?_, ?_, ?_, fun j => World.frozen?_alloc_new _ _ _ _, ⟨fun h => ?_, fun h => ?_, fun h => ?_⟩, HK.out.fr.size⟩
    · rw [World.cell?_alloc_new]; rfl
    · rw [World.cell?_alloc_new]; rfl
    · rw [World.cell?_alloc_new]; rfl
    · exact Nat.lt_irrefl _ (HB.out _ (.inl h))
    · exact Nat.lt_irrefl _ (HB.out _ (.inr (.inl h)))
    · exact Nat.lt_irrefl _ (HB.out _ (.inr (.inr h)))
  clear HK HB
  have q100 : decide ((100 : Int) < (n : Int)) = false := by simp; omega
  go_wp2_with fail
  generalize hbw : w1.heap.size = bw at *
  clear hbw
  generalize w1.alloc (.cells #[.int .u8 0, .int .u8 0, .int .u8 0] 42) = w2 at *
  go_loopw [6] (fun s wr => ∃ i : Nat, i ≤ n ∧ s = .int .i64 i ∧ Hid (∃ x y z, ArrI w b mb bw A H T x y z wr)) (fun s _ => n - (intOf s).toNat)
  case atStart => exact ⟨0, Nat.zero_le _, rfl, 0, 0, 0, HI0.out⟩
  case round =>
    obtain ⟨i, hi, rfl, HIx⟩ := hrel
    by_cases hlt : i < n
    · obtain ⟨⟨u, v⟩, hx⟩ : ∃ x, l[i]? = some x := ⟨l[i]'(by rw [HN.out]; exact hlt), List.getElem?_eq_getElem _⟩
      obtain ⟨x, y, z, ha⟩ := HIx.out
      have HA := Lib.hid ha
      obtain ⟨p0, p1⟩ := pair_cells (ha.k.fr.cells HC.out id) hx
      have HX := Lib.hid hx
      obtain ⟨U, hU⟩ : ∃ U : Nat, U = u.toNat := ⟨_, rfl⟩
      have hU1 : U < 256 := by rw [hU]; exact u.toNat_lt
      simp only at p0 p1
      rw [← hU] at p0
      have b1 : (0 : Int) ≤ (i : Int) := by omega
      have b2 : (i : Int) < (n : Int) := by omega
      clear hx ha HIx HI0 hU p1
      rcases (show U % 5 = 0 ∨ U % 5 = 1 ∨ U % 5 = 2 ∨ U % 5 = 3 ∨ U % 5 = 4 by omega) with h5 | h5 | h5 | h5 | h5
      · have hq : ((U : Int) % 5) = 0 := by omega
        have HBY : Hid (∀ W, Calls Try.prog 9 #[.int .u64 0, .int .i64 4] W fun e w' => e = .returned (.string ⟨#[0, 0, 0, 0]⟩) ∧ Fr No W w') := fun W => (bytes_any 0 4 W (by decide) (by decide)).mono fun e w' ⟨he, hf⟩ => ⟨he, Fr.of_below hf⟩
        clear h5
        go_wp2_with fail
        refine (HBY.out _).mono ?_
        rintro e w3 ⟨rfl, hf3⟩
        have HA3 := Lib.hid (HA.out.to hf3)
        have pc := (pair_cells (HA3.out.k.fr.cells HC.out id) HX.out).2
        have hbs := byte_str w3 v
        have HA4 := Lib.hid (HA3.out.to ((Fr.refl No w3).alloc (.cells #[.int .u8 (v.toNat : Int)] 5)))
        have HUP := Lib.hid (HA4.out.k.update 0 [0, 0, 0, 0] [v] aS (aM v y z) 0 (up0 x y z v))
        simp only at pc
        clear hf3 HBY HA p0 HA3
        go_wp2_with fail
        refine (HUP.out).mono ?_
        rintro e w5 ⟨rfl, HK5, hf5⟩
        have HF5 := Lib.hid hf5
        clear hf5 pc hbs HUP
        obtain ⟨_, s0, s1, s2, sz⟩ := HA4.out.upd HK5.out HF5.out
        have pc5 := (pair_cells (HK5.out.fr.cells HC.out id) HX.out).2
        have HA6 := Lib.hid (HA4.out.put0 HK5.out HF5.out)
        simp only at pc5
        have szk := sz 0
        clear HA4 HK5 HF5 sz
        go_wp2_with fail
        refine (HA6.out.k.delete 0 [0, 0, 0, 0] aS (-22) (by kernel_rfl)).mono ?_
        rintro e w7 ⟨rfl, HK7, hf7⟩
        have HA7 := Lib.hid (HA6.out.keep HK7.out (hf7.mono (fun _ _ => .inl)))
        (try clear s0 s1 s2 szk pc5)
        clear hf7 HK7 HA6
        go_wp2_with fail
        refine (HA7.out.k.lookup 0 [0, 0, 0, 0] 1048576 (by kernel_rfl)).mono ?_
        rintro e w8 ⟨rfl, _, hf8⟩
        have HA8 := Lib.hid (HA7.out.to hf8)
        clear hf8 HA7
        go_wp2_with fail
        refine (HA8.out.k.text 1048576 3 _ (by decide) (by decide) (by decide) (aText _ _ _)).mono ?_
        rintro e w9 ⟨rfl, _, hf9⟩
        have HA9 := Lib.hid (HA8.out.to hf9)
        have hsw := str_want HA9.out.c0 HA9.out.c1 HA9.out.c2
        clear hf9 HA8
        go_wp2_with fail
        refine (HA9.out.k.entries 0 _ (aEnts _ _ _)).mono ?_
        rintro e w10 ⟨ea, ec, rfl, _, _, hf10⟩
        have HA10 := Lib.hid (HA9.out.to hf10)
        clear hf10 HA9 hsw
        go_wp2_with fail
        go_roundw
        case rel => exact ⟨i + 1, by omega, by go_num, _, _, _, HA10.out⟩
        case measure => simp [intOf] <;> omega
      · have hq : ((U : Int) % 5) = 1 := by omega
        have HBY : Hid (∀ W, Calls Try.prog 9 #[.int .u64 1, .int .i64 4] W fun e w' => e = .returned (.string ⟨#[1, 0, 0, 0]⟩) ∧ Fr No W w') := fun W => (bytes_any 1 4 W (by decide) (by decide)).mono fun e w' ⟨he, hf⟩ => ⟨he, Fr.of_below hf⟩
        clear h5
        go_wp2_with fail
        refine (HBY.out _).mono ?_
        rintro e w3 ⟨rfl, hf3⟩
        have HA3 := Lib.hid (HA.out.to hf3)
        have pc := (pair_cells (HA3.out.k.fr.cells HC.out id) HX.out).2
        have hbs := byte_str w3 v
        have HA4 := Lib.hid (HA3.out.to ((Fr.refl No w3).alloc (.cells #[.int .u8 (v.toNat : Int)] 5)))
        have HUP := Lib.hid (HA4.out.k.update 0 [1, 0, 0, 0] [v] aS (aM x v z) 0 (up1 x y z v))
        simp only at pc
        clear hf3 HBY HA p0 HA3
        go_wp2_with fail
        refine (HUP.out).mono ?_
        rintro e w5 ⟨rfl, HK5, hf5⟩
        have HF5 := Lib.hid hf5
        clear hf5 pc hbs HUP
        obtain ⟨_, s0, s1, s2, sz⟩ := HA4.out.upd HK5.out HF5.out
        have pc5 := (pair_cells (HK5.out.fr.cells HC.out id) HX.out).2
        have HA6 := Lib.hid (HA4.out.put1 HK5.out HF5.out)
        simp only at pc5
        have szk := sz 1
        clear HA4 HK5 HF5 sz
        go_wp2_with fail
        refine (HA6.out.k.delete 0 [1, 0, 0, 0] aS (-22) (by kernel_rfl)).mono ?_
        rintro e w7 ⟨rfl, HK7, hf7⟩
        have HA7 := Lib.hid (HA6.out.keep HK7.out (hf7.mono (fun _ _ => .inl)))
        (try clear s0 s1 s2 szk pc5)
        clear hf7 HK7 HA6
        go_wp2_with fail
        refine (HA7.out.k.lookup 0 [1, 0, 0, 0] 1048577 (by kernel_rfl)).mono ?_
        rintro e w8 ⟨rfl, _, hf8⟩
        have HA8 := Lib.hid (HA7.out.to hf8)
        clear hf8 HA7
        go_wp2_with fail
        refine (HA8.out.k.text 1048576 3 _ (by decide) (by decide) (by decide) (aText _ _ _)).mono ?_
        rintro e w9 ⟨rfl, _, hf9⟩
        have HA9 := Lib.hid (HA8.out.to hf9)
        have hsw := str_want HA9.out.c0 HA9.out.c1 HA9.out.c2
        clear hf9 HA8
        go_wp2_with fail
        refine (HA9.out.k.entries 0 _ (aEnts _ _ _)).mono ?_
        rintro e w10 ⟨ea, ec, rfl, _, _, hf10⟩
        have HA10 := Lib.hid (HA9.out.to hf10)
        clear hf10 HA9 hsw
        go_wp2_with fail
        go_roundw
        case rel => exact ⟨i + 1, by omega, by go_num, _, _, _, HA10.out⟩
        case measure => simp [intOf] <;> omega
      · have hq : ((U : Int) % 5) = 2 := by omega
        have HBY : Hid (∀ W, Calls Try.prog 9 #[.int .u64 2, .int .i64 4] W fun e w' => e = .returned (.string ⟨#[2, 0, 0, 0]⟩) ∧ Fr No W w') := fun W => (bytes_any 2 4 W (by decide) (by decide)).mono fun e w' ⟨he, hf⟩ => ⟨he, Fr.of_below hf⟩
        clear h5
        go_wp2_with fail
        refine (HBY.out _).mono ?_
        rintro e w3 ⟨rfl, hf3⟩
        have HA3 := Lib.hid (HA.out.to hf3)
        have pc := (pair_cells (HA3.out.k.fr.cells HC.out id) HX.out).2
        have hbs := byte_str w3 v
        have HA4 := Lib.hid (HA3.out.to ((Fr.refl No w3).alloc (.cells #[.int .u8 (v.toNat : Int)] 5)))
        have HUP := Lib.hid (HA4.out.k.update 0 [2, 0, 0, 0] [v] aS (aM x y v) 0 (up2 x y z v))
        simp only at pc
        clear hf3 HBY HA p0 HA3
        go_wp2_with fail
        refine (HUP.out).mono ?_
        rintro e w5 ⟨rfl, HK5, hf5⟩
        have HF5 := Lib.hid hf5
        clear hf5 pc hbs HUP
        obtain ⟨_, s0, s1, s2, sz⟩ := HA4.out.upd HK5.out HF5.out
        have pc5 := (pair_cells (HK5.out.fr.cells HC.out id) HX.out).2
        have HA6 := Lib.hid (HA4.out.put2 HK5.out HF5.out)
        simp only at pc5
        have szk := sz 2
        clear HA4 HK5 HF5 sz
        go_wp2_with fail
        refine (HA6.out.k.delete 0 [2, 0, 0, 0] aS (-22) (by kernel_rfl)).mono ?_
        rintro e w7 ⟨rfl, HK7, hf7⟩
        have HA7 := Lib.hid (HA6.out.keep HK7.out (hf7.mono (fun _ _ => .inl)))
        (try clear s0 s1 s2 szk pc5)
        clear hf7 HK7 HA6
        go_wp2_with fail
        refine (HA7.out.k.lookup 0 [2, 0, 0, 0] 1048578 (by kernel_rfl)).mono ?_
        rintro e w8 ⟨rfl, _, hf8⟩
        have HA8 := Lib.hid (HA7.out.to hf8)
        clear hf8 HA7
        go_wp2_with fail
        refine (HA8.out.k.text 1048576 3 _ (by decide) (by decide) (by decide) (aText _ _ _)).mono ?_
        rintro e w9 ⟨rfl, _, hf9⟩
        have HA9 := Lib.hid (HA8.out.to hf9)
        have hsw := str_want HA9.out.c0 HA9.out.c1 HA9.out.c2
        clear hf9 HA8
        go_wp2_with fail
        refine (HA9.out.k.entries 0 _ (aEnts _ _ _)).mono ?_
        rintro e w10 ⟨ea, ec, rfl, _, _, hf10⟩
        have HA10 := Lib.hid (HA9.out.to hf10)
        clear hf10 HA9 hsw
        go_wp2_with fail
        go_roundw
        case rel => exact ⟨i + 1, by omega, by go_num, _, _, _, HA10.out⟩
        case measure => simp [intOf] <;> omega
      · have hq : ((U : Int) % 5) = 3 := by omega
        have HBY : Hid (∀ W, Calls Try.prog 9 #[.int .u64 3, .int .i64 4] W fun e w' => e = .returned (.string ⟨#[3, 0, 0, 0]⟩) ∧ Fr No W w') := fun W => (bytes_any 3 4 W (by decide) (by decide)).mono fun e w' ⟨he, hf⟩ => ⟨he, Fr.of_below hf⟩
        clear h5
        go_wp2_with fail
        refine (HBY.out _).mono ?_
        rintro e w3 ⟨rfl, hf3⟩
        have HA3 := Lib.hid (HA.out.to hf3)
        have pc := (pair_cells (HA3.out.k.fr.cells HC.out id) HX.out).2
        have hbs := byte_str w3 v
        have HA4 := Lib.hid (HA3.out.to ((Fr.refl No w3).alloc (.cells #[.int .u8 (v.toNat : Int)] 5)))
        have HUP := Lib.hid (HA4.out.k.update 0 [3, 0, 0, 0] [v] aS (aM x y z) (-2) (up3 x y z v))
        simp only at pc
        clear hf3 HBY HA p0 HA3
        go_wp2_with fail
        refine (HUP.out).mono ?_
        rintro e w5 ⟨rfl, HK5, hf5⟩
        have HF5 := Lib.hid hf5
        clear hf5 pc hbs HUP
        have HA6 := Lib.hid (HA4.out.keep HK5.out HF5.out)
        clear HA4 HK5 HF5
        go_wp2_with fail
        refine (HA6.out.k.delete 0 [3, 0, 0, 0] aS (-22) (by kernel_rfl)).mono ?_
        rintro e w7 ⟨rfl, HK7, hf7⟩
        have HA7 := Lib.hid (HA6.out.keep HK7.out (hf7.mono (fun _ _ => .inl)))
        (try clear s0 s1 s2 szk pc5)
        clear hf7 HK7 HA6
        go_wp2_with fail
        refine (HA7.out.k.lookup 0 [3, 0, 0, 0] 0 (by kernel_rfl)).mono ?_
        rintro e w8 ⟨rfl, _, hf8⟩
        have HA8 := Lib.hid (HA7.out.to hf8)
        clear hf8 HA7
        go_wp2_with fail
        refine (HA8.out.k.text 1048576 3 _ (by decide) (by decide) (by decide) (aText _ _ _)).mono ?_
        rintro e w9 ⟨rfl, _, hf9⟩
        have HA9 := Lib.hid (HA8.out.to hf9)
        have hsw := str_want HA9.out.c0 HA9.out.c1 HA9.out.c2
        clear hf9 HA8
        go_wp2_with fail
        refine (HA9.out.k.entries 0 _ (aEnts _ _ _)).mono ?_
        rintro e w10 ⟨ea, ec, rfl, _, _, hf10⟩
        have HA10 := Lib.hid (HA9.out.to hf10)
        clear hf10 HA9 hsw
        go_wp2_with fail
        go_roundw
        case rel => exact ⟨i + 1, by omega, by go_num, _, _, _, HA10.out⟩
        case measure => simp [intOf] <;> omega
      · have hq : ((U : Int) % 5) = 4 := by omega
        have HBY : Hid (∀ W, Calls Try.prog 9 #[.int .u64 4, .int .i64 4] W fun e w' => e = .returned (.string ⟨#[4, 0, 0, 0]⟩) ∧ Fr No W w') := fun W => (bytes_any 4 4 W (by decide) (by decide)).mono fun e w' ⟨he, hf⟩ => ⟨he, Fr.of_below hf⟩
        clear h5
        go_wp2_with fail
        refine (HBY.out _).mono ?_
        rintro e w3 ⟨rfl, hf3⟩
        have HA3 := Lib.hid (HA.out.to hf3)
        have pc := (pair_cells (HA3.out.k.fr.cells HC.out id) HX.out).2
        have hbs := byte_str w3 v
        have HA4 := Lib.hid (HA3.out.to ((Fr.refl No w3).alloc (.cells #[.int .u8 (v.toNat : Int)] 5)))
        have HUP := Lib.hid (HA4.out.k.update 0 [4, 0, 0, 0] [v] aS (aM x y z) (-2) (up4 x y z v))
        simp only at pc
        clear hf3 HBY HA p0 HA3
        go_wp2_with fail
        refine (HUP.out).mono ?_
        rintro e w5 ⟨rfl, HK5, hf5⟩
        have HF5 := Lib.hid hf5
        clear hf5 pc hbs HUP
        have HA6 := Lib.hid (HA4.out.keep HK5.out HF5.out)
        clear HA4 HK5 HF5
        go_wp2_with fail
        refine (HA6.out.k.delete 0 [4, 0, 0, 0] aS (-22) (by kernel_rfl)).mono ?_
        rintro e w7 ⟨rfl, HK7, hf7⟩
        have HA7 := Lib.hid (HA6.out.keep HK7.out (hf7.mono (fun _ _ => .inl)))
        (try clear s0 s1 s2 szk pc5)
        clear hf7 HK7 HA6
        go_wp2_with fail
        refine (HA7.out.k.lookup 0 [4, 0, 0, 0] 0 (by kernel_rfl)).mono ?_
        rintro e w8 ⟨rfl, _, hf8⟩
        have HA8 := Lib.hid (HA7.out.to hf8)
        clear hf8 HA7
        go_wp2_with fail
        refine (HA8.out.k.text 1048576 3 _ (by decide) (by decide) (by decide) (aText _ _ _)).mono ?_
        rintro e w9 ⟨rfl, _, hf9⟩
        have HA9 := Lib.hid (HA8.out.to hf9)
        have hsw := str_want HA9.out.c0 HA9.out.c1 HA9.out.c2
        clear hf9 HA8
        go_wp2_with fail
        refine (HA9.out.k.entries 0 _ (aEnts _ _ _)).mono ?_
        rintro e w10 ⟨ea, ec, rfl, _, _, hf10⟩
        have HA10 := Lib.hid (HA9.out.to hf10)
        clear hf10 HA9 hsw
        go_wp2_with fail
        go_roundw
        case rel => exact ⟨i + 1, by omega, by go_num, _, _, _, HA10.out⟩
        case measure => simp [intOf] <;> omega
    · obtain rfl : i = n := by omega
      obtain ⟨x, y, z, ha⟩ := HIx.out
      have HA := Lib.hid ha
      clear ha HIx HI0
      go_wp2_with fail
      refine (HA.out.k.len).mono ?_
      rintro e w3 ⟨rfl, rfl⟩
      go_wp2_with (go_at_call 7; refine (kept_any _).mono ?_; rintro e w9 ⟨rfl, hlf⟩)
      go_ret
      exact ⟨rfl, HA.out.k.fr.trans hlf⟩

end Go.Proofs.Ytlinnhaodkiolaa
