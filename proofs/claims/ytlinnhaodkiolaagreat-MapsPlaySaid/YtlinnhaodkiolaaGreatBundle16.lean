/- firewallref08: Update at any maps; Delete. firewallref08: Entries. make([]byte, n) as a string of zeros. -/
import Derived.Test.YtlinnhaodkiolaaGreatBundle15
import Derived.Test.YtlinnhaodkiolaaGreatBundle2
namespace Go.Proofs.YtlinnhaodkiolaaGreat
open Go.RowKit

theorem RMapsL.cells {A H : Nat → Prop} {w : World} {b mb : Nat} {l : List HTab} (h : RMapsL w b mb l A H) {i : Nat} {x : HTab} (hx : l[i]? = some x) :
    ∃ gl cl gt ct, A gl ∧ A gt ∧ i < l.length ∧ RCells b mb i l.length cl gl ct gt x.h x.cap x.t.ks.length x.t.d.kind x.t.d.value w := by
  obtain ⟨gl, cl, gt, ct, c0, c1, hi, a1, a2, d0, d1, d2, d3, d4⟩ := h.at hx
  exact ⟨gl, cl, gt, ct, a1, a2, hi, c0, c1, h.mem, d0, d2, d4⟩

theorem RCells.fr {b mb i n cl gl ct gt h cap N : Nat} {kind value : Int} {W W' : World} {X : Nat → Prop} (hc : RCells b mb i n cl gl ct gt h cap N kind value W) (hf : Fr X W W') (h1 : ¬ X b) (h2 : ¬ X gl) (h3 : ¬ X gt) : RCells b mb i n cl gl ct gt h cap N kind value W' :=
  ⟨hf.cell hc.c0 h1, hf.cell hc.c1 h1, hf.cell hc.c2 h1, hf.cell hc.k0 h2, hf.cell hc.k2 h2, hf.cell hc.row h3⟩

/-- what Update leaves -/
def RUpd (w : World) (b mb : Nat) (S : List Tab) (m : List Reg) (A H T : Nat → Prop) (w' : World) : Prop := Fr (Or2 H T) w w' ∧ RMapsAt w' b mb S A H ∧ RefAt w' mb m T

theorem rupdate_any {A H T : Nat → Prop} {w : World} {b mb : Nat} {S : List Tab} {m : List Reg} (h : RMapsAt w b mb S A H) (hm : RefAt w mb m T) (hml : m.length ≤ 1000000) (hT : ∀ k, T k → ¬ A k ∧ ¬ H k) (hold : HoldsM S m) (i : Int) (key val : List UInt8) (hv : val.length ≤ 1000000) :
    Calls Tryz.prog 27 #[.pointer (some ⟨b, 0, none⟩), .int .i64 i, .string ⟨key.toArray⟩, .string ⟨val.toArray⟩] w fun e w' =>
      e = .returned (.int .i64 (mupdate S m i key val).2) ∧ Fr (Or2 H T) w w' ∧ RMapsAt w' b mb (mupdate S m i key val).1.1 A H ∧ RefAt w' mb (mupdate S m i key val).1.2 T := by
  have hmaps := h
  have hpl := fun W (hW : Fr No w W) => rplace_any (hmaps.no hW) i key
  have hp0 := hpl w (Fr.refl _ _)
  have same : ∀ w', Fr No w w' → Fr (Or2 H T) w w' ∧ RMapsAt w' b mb S A H ∧ RefAt w' mb m T := fun w' hf => ⟨hf.any, hmaps.no hf, hm.fr hf (fun _ _ => id)⟩
  unfold placeI at hp0
  unfold mupdate
  cases hmh : mhas S i key with
  | none =>
    rw [hmh] at hp0
    exact (rupdate_none _ i _ _ w hp0).mono fun e w' ⟨he, hf⟩ => ⟨he, same w' hf⟩
  | some t =>
    rw [hmh] at hp0
    obtain ⟨k, rfl, hk, hkl⟩ := mhas_some hmh
    simp only at hp0 ⊢
    obtain ⟨l, hS, hl⟩ := h
    obtain ⟨x, hx, rfl⟩ : ∃ x, l[k]? = some x ∧ x.t = t := by
      rw [← hS, List.getElem?_map] at hk
      exact Option.map_eq_some_iff.1 hk
    obtain ⟨gl, cl, gt, ct, a1, a2, hi, hcs⟩ := hl.cells hx
    have hxm := List.mem_of_getElem? hx
    have ok := hl.ok x hxm
    have hb := ok.bounds
    have hfew := hl.few
    obtain ⟨hh, hH⟩ := hl.here x hxm
    by_cases hlen : (val.length : Int) = x.t.d.value
    · simp only [hlen, if_true, Int.toNat_natCast]
      have hq : ((val.length : Int) != x.t.d.value) = false := by simp [hlen]
      have hbd := ok.bounds
      have lay : ∀ (m' : List Reg) (p : Nat), p < x.t.ks.length → HoldsM S m' → WF m' → ∃ j, spot m' (mplace k p x.t) (val.length : Int) = some j := fun m' p hp ho hw => by
        obtain ⟨j, r, c1, c2, c3, _⟩ := ho.place hk ok hp
        exact ⟨j, spot_of hw c1 (by omega) ((Reg.has_iff _ _ _).2 ⟨c2, by rw [hlen]; exact c3⟩)⟩
      cases hf : x.t.find key with
      | some p =>
        rw [hf] at hp0
        have hpl2 := (find_some hf).1
        have hpb := mplace_bounds (i := k) ok hpl2 (by omega)
        obtain ⟨j, hj⟩ := lay m p hpl2 hold hm.wf
        refine (rupdate_at b mb k l.length cl gl ct gt x.h x.cap x.t.ks.length val.length p x.t.d.kind x.t.d.value (mplace k p x.t) _ _ w (fun w' => Fr (Or2 H T) w w' ∧ RMapsAt w' b mb S A H ∧ RefAt w' mb (mput m (mplace k p x.t) val) T) hi (by omega) (by omega) rfl hq
          (fun W hW => hcs.fr hW id id id) hp0 (fun W hW => rat_any (hmaps.no hW) hk hpl2) (fun W hW => ?_)).mono fun e w' ⟨he, hr⟩ => ⟨he, hr⟩
        refine (refput_any (hm.fr hW (fun _ _ => id)) hml (mplace k p x.t) val (by omega) (by omega) (by omega) hv hj).mono ?_
        rintro e w' ⟨he, hf2, hr⟩
        refine ⟨he, fun w2 hw2 => ⟨(hW.any.trans (hf2.mono fun k _ hk => .inr hk)).trans hw2.any, ((hmaps.no hW).fr hf2 (fun k hk ht => (hT k ht).1 hk) (fun k hk ht => (hT k ht).2 hk)).no hw2, hr.fr hw2 (fun _ _ => id)⟩, ?_⟩
        exact hf2.cell (hW.cell hl.mem id) (fun ht => (hT _ ht).1 hl.own)
      | none =>
        rw [hf] at hp0
        by_cases h1 : x.t.d.kind = 1
        · simp only [h1, if_true]
          refine (rupdate_arr b k l.length cl gl val.length x.t.d.value _ _ w hi (by omega) rfl hq (fun W hW => ?_) hp0).mono fun e w' ⟨he, hf⟩ => ⟨he, same w' hf⟩
          have := hcs.fr hW id id id
          exact ⟨this.c0, this.k2, by rw [← h1]; exact this.k0⟩
        · simp only [if_neg h1]
          have h2 : x.t.d.kind = 2 := by rcases ok.kinds with h | h; exact absurd h h1; exact h
          have hcs2 := hcs
          rw [h2] at hcs2
          have hnA : ∀ q, A q → ¬ q = x.h := fun q hq e => hl.AH q hq (e ▸ hH)
          refine (rupdate_new b mb k l.length cl gl ct gt x.h x.cap x.t.ks.length val.length x.t.d.value x.t.ks key _ w (fun w' => ∀ q, x.t.find [] = some q → Fr (Or2 H T) w w' ∧ RMapsAt w' b mb (S.set k (x.t.lay q key)) A H ∧ RefAt w' mb (mput m (mplace k q x.t) val) T) hi (by omega) (by omega) (by omega) rfl hq rfl hh.keys hh.opened ⟨fun e => hnA _ hl.own e.symm, fun e => hnA _ a1 e.symm, fun e => hnA _ a2 e.symm⟩
            (fun W hW => hcs2.fr hW (hnA _ hl.own) (hnA _ a1) (hnA _ a2)) hp0 (fun q w1 W hq hf1 hf2 => ?_)).mono ?_
          · have hqf : x.t.find [] = some q := hq
            have hql := (find_some hqf).1
            have hpb := mplace_bounds (i := k) ok hql (by omega)
            obtain ⟨hl1, hfl⟩ := (hl.fr hf1 (fun _ _ => id) (fun _ _ => id)).lay hx h2 hql (key := key) (.inr hkl)
            have hl2 := hl1.fr hf2 (fun _ _ => id) (fun _ _ => id)
            have hmapsW : RMapsAt W b mb (S.set k (x.t.lay q key)) A H := ⟨_, by rw [← hS, List.map_set]; rfl, hl2⟩
            have hfW : Fr H w W := (hf1.any.trans hfl).trans hf2.any
            have hmW : RefAt W mb m T := hm.fr hfW (fun k hk => (hT k hk).2)
            have hk2 : (S.set k (x.t.lay q key))[k]? = some (x.t.lay q key) := by
              have hk' : k < S.length := (List.getElem?_eq_some_iff.1 hk).1
              rw [List.getElem?_set]; simp [hk']
            obtain ⟨j, hj⟩ := lay m q hql hold hm.wf
            refine ⟨mplace k q x.t, fun W2 hW2 => ?_, fun W2 hW2 => ?_⟩
            · have := rat_any (hmapsW.no hW2) hk2 (p := q) (by simpa [Tab.lay] using hql)
              exact this
            · refine (refput_any (hmW.fr hW2 (fun _ _ => id)) hml (mplace k q x.t) val (by omega) (by omega) (by omega) hv hj).mono ?_
              rintro e w' ⟨he, hf3, hr⟩
              refine ⟨he, fun q' hq' => ?_, ?_⟩
              · rw [hqf] at hq'
                obtain rfl := Option.some.inj hq'
                exact ⟨(((hfW.mono fun k _ hk => .inl hk) : Fr (Or2 H T) w W).trans hW2.any).trans (hf3.mono fun k _ hk => .inr hk), (hmapsW.no hW2).fr hf3 (fun k hk ht => (hT k ht).1 hk) (fun k hk ht => (hT k ht).2 hk), hr⟩
              · exact hf3.cell (hW2.cell hl2.mem id) (fun ht => (hT _ ht).1 hl.own)
          · rintro e w' ⟨p1, p2⟩
            cases he : x.t.find [] with
            | none =>
              obtain ⟨q1, q2⟩ := p1 he
              exact ⟨q1, same w' q2⟩
            | some q =>
              obtain ⟨q1, q2⟩ := p2 q he
              exact ⟨q1, q2 q he⟩
    · simp only [hlen, if_false]
      refine (rupdate_len b k l.length cl gl val.length _ x.t.d.value _ _ w hi (by omega) (by cases hf : x.t.find key <;> simp [optI] <;> omega) rfl (by simpa using hlen) (fun W hW => ?_) hp0).mono fun e w' ⟨he, hf⟩ => ⟨he, same w' hf⟩
      have := hcs.fr hW id id id
      exact ⟨this.c0, this.k2⟩

/-! ### Delete -/

set_option maxHeartbeats 400000 in
theorem rdelete_none (p : Value) (i : Int) (K : ByteArray) (w : World) (hh : Calls Tryz.prog 45 #[p, .int .i64 i, .string K] w fun e w' => e = .returned (.int .i64 (-2)) ∧ Fr No w w') :
    Calls Tryz.prog 16 #[p, .int .i64 i, .string K] w fun e w' => e = .returned (.int .i64 (-22)) ∧ Fr No w w' := by
  have HH := Lib.hid hh
  clear hh
  go_enter Tryz.func16, Tryz.ntmps16
  go_wp2_with (go_at_call 45; (with_reducible refine (HH.out).mono ?_); rintro e w' ⟨rfl, hf⟩)
  go_ret
  exact ⟨rfl, hf⟩

set_option maxHeartbeats 400000 in
theorem rdelete_arr (b mb i n cl gl ct gt h cap N : Nat) (r value : Int) (K : ByteArray) (w : World) (hi : i < n) (hr : (r == -2) = false)
    (hc : ∀ W, Fr No w W → RCells b mb i n cl gl ct gt h cap N 1 value W)
    (hh : Calls Tryz.prog 45 #[.pointer (some ⟨b, 0, none⟩), .int .i64 i, .string K] w fun e w' => e = .returned (.int .i64 r) ∧ Fr No w w') :
    Calls Tryz.prog 16 #[.pointer (some ⟨b, 0, none⟩), .int .i64 i, .string K] w fun e w' => e = .returned (.int .i64 (-22)) ∧ Fr No w w' := by
  have HH := Lib.hid hh
  have HC := Lib.hid hc
  have b1 : (0 : Int) ≤ (i : Int) := by omega
  have b2 : (i : Int) < (n : Int) := by omega
  clear hh hc
  go_enter Tryz.func16, Tryz.ntmps16
  go_wp2_with (go_at_call 45; (with_reducible refine (HH.out).mono ?_); rintro e w' ⟨rfl, hf⟩; obtain ⟨d0, d1, d2, d3, d4, d5⟩ := HC.out w' hf)
  go_ret
  exact ⟨rfl, hf⟩

set_option maxHeartbeats 400000 in
theorem rdelete_off (b mb i n cl gl ct gt h cap N : Nat) (value : Int) (K : ByteArray) (w : World) (hi : i < n)
    (hc : ∀ W, Fr No w W → RCells b mb i n cl gl ct gt h cap N 2 value W)
    (hh : Calls Tryz.prog 45 #[.pointer (some ⟨b, 0, none⟩), .int .i64 i, .string K] w fun e w' => e = .returned (.int .i64 (-1)) ∧ Fr No w w') :
    Calls Tryz.prog 16 #[.pointer (some ⟨b, 0, none⟩), .int .i64 i, .string K] w fun e w' => e = .returned (.int .i64 (-2)) ∧ Fr No w w' := by
  have HH := Lib.hid hh
  have HC := Lib.hid hc
  have b1 : (0 : Int) ≤ (i : Int) := by omega
  have b2 : (i : Int) < (n : Int) := by omega
  clear hh hc
  go_enter Tryz.func16, Tryz.ntmps16
  go_wp2_with (go_at_call 45; (with_reducible refine (HH.out).mono ?_); rintro e w' ⟨rfl, hf⟩; obtain ⟨d0, d1, d2, d3, d4, d5⟩ := HC.out w' hf)
  go_ret
  exact ⟨rfl, hf⟩

set_option maxHeartbeats 400000 in
theorem rdelete_hit (b mb i n cl gl ct gt h cap N p : Nat) (value : Int) (old : Value) (K : ByteArray) (w : World) (hi : i < n) (hp : p < N) (_ : N ≤ 1000)
    (hc : ∀ W, Fr No w W → RCells b mb i n cl gl ct gt h cap N 2 value W ∧ W.cell? ⟨h, p, none⟩ = some old ∧ W.frozen? ⟨h, p, none⟩ = false)
    (hh : Calls Tryz.prog 45 #[.pointer (some ⟨b, 0, none⟩), .int .i64 i, .string K] w fun e w' => e = .returned (.int .i64 p) ∧ Fr No w w') :
    Calls Tryz.prog 16 #[.pointer (some ⟨b, 0, none⟩), .int .i64 i, .string K] w fun e w' => e = .returned (.int .i64 0) ∧ ∃ w1, Fr No w w1 ∧ w' = w1.setCell ⟨h, p, none⟩ (.string ⟨#[]⟩) := by
  have HH := Lib.hid hh
  have HC := Lib.hid hc
  have b1 : (0 : Int) ≤ (i : Int) := by omega
  have b2 : (i : Int) < (n : Int) := by omega
  have b3 : (0 : Int) ≤ (p : Int) := by omega
  have b4 : (p : Int) < (N : Int) := by omega
  have q1 : ((p : Int) == -2) = false := by simp
  have q2 : decide ((p : Int) < 0) = false := by simp
  clear hh hc
  go_enter Tryz.func16, Tryz.ntmps16
  go_wp2_with (go_at_call 45; (with_reducible refine (HH.out).mono ?_); rintro e w' ⟨rfl, hf⟩; obtain ⟨⟨d0, d1, d2, d3, d4, d5⟩, d6, d7⟩ := HC.out w' hf)
  go_ret
  exact ⟨rfl, _, hf, rfl⟩

theorem rdelete_any {A H : Nat → Prop} {w : World} {b mb : Nat} {S : List Tab} (h : RMapsAt w b mb S A H) (i : Int) (key : List UInt8) :
    Calls Tryz.prog 16 #[.pointer (some ⟨b, 0, none⟩), .int .i64 i, .string ⟨key.toArray⟩] w fun e w' =>
      e = .returned (.int .i64 (mdelete S i key).2) ∧ Fr H w w' ∧ RMapsAt w' b mb (mdelete S i key).1 A H := by
  have hmaps := h
  have hp0 := rplace_any hmaps i key
  have same : ∀ w', Fr No w w' → Fr H w w' ∧ RMapsAt w' b mb S A H := fun w' hf => ⟨hf.any, hmaps.no hf⟩
  unfold placeI at hp0
  unfold mdelete
  cases hmh : mhas S i key with
  | none =>
    rw [hmh] at hp0
    exact (rdelete_none _ i _ w hp0).mono fun e w' ⟨he, hf⟩ => ⟨he, same w' hf⟩
  | some t =>
    rw [hmh] at hp0
    obtain ⟨k, rfl, hk, hkl⟩ := mhas_some hmh
    simp only at hp0 ⊢
    obtain ⟨l, hS, hl⟩ := h
    obtain ⟨x, hx, rfl⟩ : ∃ x, l[k]? = some x ∧ x.t = t := by
      rw [← hS, List.getElem?_map] at hk
      exact Option.map_eq_some_iff.1 hk
    obtain ⟨gl, cl, gt, ct, a1, a2, hi, hcs⟩ := hl.cells hx
    have hxm := List.mem_of_getElem? hx
    have ok := hl.ok x hxm
    have hb := ok.bounds
    obtain ⟨hh, hH⟩ := hl.here x hxm
    by_cases h1 : x.t.d.kind = 1
    · simp only [h1, if_true]
      have hcs1 := hcs
      rw [h1] at hcs1
      exact (rdelete_arr b mb k l.length cl gl ct gt x.h x.cap x.t.ks.length _ x.t.d.value _ w hi (by cases hf : x.t.find key <;> simp [optI] <;> omega) (fun W hW => hcs1.fr hW id id id) hp0).mono fun e w' ⟨he, hf⟩ => ⟨he, same w' hf⟩
    · simp only [if_neg h1]
      have h2 : x.t.d.kind = 2 := by rcases ok.kinds with h | h; exact absurd h h1; exact h
      have hcs2 := hcs
      rw [h2] at hcs2
      cases hf : x.t.find key with
      | none =>
        rw [hf] at hp0
        exact (rdelete_off b mb k l.length cl gl ct gt x.h x.cap x.t.ks.length x.t.d.value _ w hi (fun W hW => hcs2.fr hW id id id) hp0).mono fun e w' ⟨he, hf⟩ => ⟨he, same w' hf⟩
      | some p =>
        rw [hf] at hp0
        have hpl := (find_some hf).1
        have c0 : w.cell? ⟨x.h, p, none⟩ = some (.string ⟨(x.t.ks[p]).toArray⟩) := by
          have := hh.keys p (.string ⟨(x.t.ks[p]).toArray⟩) (by rw [strs_get, List.getElem?_eq_getElem hpl]; rfl)
          rwa [Nat.zero_add] at this
        have f0 : w.frozen? ⟨x.h, p, none⟩ = false := by have := hh.opened p hpl; rwa [Nat.zero_add] at this
        refine (rdelete_hit b mb k l.length cl gl ct gt x.h x.cap x.t.ks.length p x.t.d.value _ _ w hi hpl (by omega) (fun W hW => ⟨hcs2.fr hW id id id, hW.cell c0 id, by rw [hW.frozen c0 id]; exact f0⟩) hp0).mono ?_
        rintro e w' ⟨he, w1, hf1, rfl⟩
        obtain ⟨hl1, hfl⟩ := (hl.fr hf1 (fun _ _ => id) (fun _ _ => id)).lay hx h2 hpl (key := []) (.inl rfl)
        exact ⟨he, hf1.any.trans hfl, _, by rw [← hS, List.map_set]; rfl, hl1⟩

end Go.Proofs.YtlinnhaodkiolaaGreat

namespace Go.Proofs.YtlinnhaodkiolaaGreat
open Go.RowKit

set_option maxHeartbeats 400000 in
theorem rentries_lo (b : Nat) (i : Int) (w : World) (hi : i < 0) :
    Calls Tryz.prog 19 #[.pointer (some ⟨b, 0, none⟩), .int .i64 i] w fun e w' => e = .returned (.slice none 0 0) ∧ Fr No w w' := by
  have q : decide (i < 0) = true := by simpa using hi
  go_enter Tryz.func19, Tryz.ntmps19
  go_wp2_with fail
  go_ret
  exact ⟨rfl, Fr.refl _ _⟩

set_option maxHeartbeats 400000 in
theorem rentries_hi (b i n cap : Nat) (a : Option Addr) (w : World) (hi : n ≤ i) (h : w.cell? ⟨b, 0, none⟩ = some (.slice a n cap)) :
    Calls Tryz.prog 19 #[.pointer (some ⟨b, 0, none⟩), .int .i64 i] w fun e w' => e = .returned (.slice none 0 0) ∧ Fr No w w' := by
  go_enter Tryz.func19, Tryz.ntmps19
  go_wp2_with fail
  go_ret
  exact ⟨rfl, Fr.refl _ _⟩

set_option maxRecDepth 100000 in
set_option maxHeartbeats 2000000 in
theorem rentries_walk (b mb i n cl gl ct gt h cap mx : Nat) (kind size : Int) (ks : List (List UInt8)) (V : Nat → ByteArray) (addr err : Nat → Int) (w : World) (hi : i < n) (_ : n ≤ 4) (hmx : mx ≤ 16) (hl : ks.length = mx)
    (hc : RCells b mb i n cl gl ct gt h cap mx kind size w) (hks : CellsAt w h 0 (strs ks))
    (hv : ∀ p, p < mx → ∀ W, Fr No w W → Calls Tryz.prog 46 #[.pointer (some ⟨b, 0, none⟩), .int .i64 i, .int .i64 p] W fun e w' => e = .returned (.int .u64 (addr p)) ∧ Fr No W w')
    (ht : ∀ p, p < mx → ∀ W, Fr No w W → Calls Tryz.prog 49 #[.pointer (some ⟨mb, 0, none⟩), .int .u64 (addr p), .int .i64 size] W fun e w' => e = .returned (.tuple #[.string (V p), .int .i64 (err p)]) ∧ Fr No W w') :
    Calls Tryz.prog 19 #[.pointer (some ⟨b, 0, none⟩), .int .i64 i] w fun e w' => ∃ u, e = .returned u ∧ Hid (EInv w (toldTo (fun p => decide (ks.getD p [] ≠ [])) (fun p => ⟨(ks.getD p []).toArray⟩) V mx) u w') := by
  have b1 : (0 : Int) ≤ (i : Int) := by omega
  have b2 : (i : Int) < (n : Int) := by omega
  have q1 : decide ((i : Int) < 0) = false := by simp
  have q2 : decide (n ≤ i) = false := by simp; omega
  have HCS : Hid (∀ W, Fr No w W → RCells b mb i n cl gl ct gt h cap mx kind size W) := fun W hW => hc.fr hW id id id
  have HKS := Lib.hid hks
  have HV := Lib.hid hv
  have HT := Lib.hid ht
  have HL := Lib.hid hl
  obtain ⟨i0, hi0, hz0, hz1, hz2⟩ := info_parts Tryz.info_entry
  have c0 := hc.c0
  clear hv ht hks hc hl
  obtain ⟨ok, hok⟩ : ∃ ok : Nat → Bool, ok = fun p => decide (ks.getD p [] ≠ []) := ⟨_, rfl⟩
  obtain ⟨K, hK⟩ : ∃ K : Nat → ByteArray, K = fun p => ⟨(ks.getD p []).toArray⟩ := ⟨_, rfl⟩
  rw [← hok, ← hK]
  have HOK := Lib.hid hok
  have HK := Lib.hid hK
  clear hok hK
  go_enter Tryz.func19, Tryz.ntmps19
  go_wp2_with fail
  clear c0
  go_loopw [5, 6, 7] (fun o s _ wr => ∃ k : Nat, k ≤ mx ∧ s = .int .i64 k ∧ Hid (EInv w (toldTo ok K V k) o wr)) (fun _ s _ _ => mx - (intOf s).toNat)
  case atStart => exact ⟨0, Nat.zero_le _, rfl, ⟨Gath.start _ _ _⟩⟩
  case round =>
    obtain ⟨k, hk, rfl, HI⟩ := hrel
    have HF := Lib.hid HI.out.g.fr
    obtain ⟨d0, d1, d2, d3, d4, d5⟩ := HCS.out wr HF.out
    by_cases hlt : k < mx
    · obtain ⟨x, hx⟩ : ∃ x, ks[k]? = some x := ⟨ks[k]'(by rw [HL.out]; exact hlt), List.getElem?_eq_getElem _⟩
      have hkc : ∀ W, Fr No w W → W.cell? ⟨h, k, none⟩ = some (.string ⟨x.toArray⟩) := fun W hW => by
        have := (hW.cells HKS.out id) k (.string ⟨x.toArray⟩) (by rw [strs_get, hx]; rfl)
        rwa [Nat.zero_add] at this
      have hcell := hkc wr HF.out
      have hgd : ks.getD k [] = x := by rw [List.getD_eq_getElem?_getD, hx]; rfl
      have hts := toldTo_succ ok K V k
      have hle := toldTo_le ok K V k
      have hokk : ok k = decide (x ≠ []) := by rw [HOK.out]; simp only [hgd]
      have hKk : K k = ⟨x.toArray⟩ := by rw [HK.out]; simp only [hgd]
      rw [hokk, hKk] at hts
      have c1 : (0 : Int) ≤ (k : Int) := by omega
      have c2 : (k : Int) < (mx : Int) := by omega
      have HKC := Lib.hid hkc
      have HV1 : Hid (∀ W, Fr No w W → Calls Tryz.prog 46 #[.pointer (some ⟨b, 0, none⟩), .int .i64 i, .int .i64 k] W fun e w' => e = .returned (.int .u64 (addr k)) ∧ Fr No W w') := HV.out k hlt
      have HT1 : Hid (∀ W, Fr No w W → Calls Tryz.prog 49 #[.pointer (some ⟨mb, 0, none⟩), .int .u64 (addr k), .int .i64 size] W fun e w' => e = .returned (.tuple #[.string (V k), .int .i64 (err k)]) ∧ Fr No W w') := HT.out k hlt
      clear hx hkc hgd hokk hKk
      by_cases hxe : x = []
      · subst hxe
        have HTS : Hid (toldTo ok K V (k + 1) = toldTo ok K V k) := Lib.hid (by rw [hts]; simp)
        clear hts HV1 HT1 HKC
        go_wp2_with fail
        go_roundw
        case rel => exact ⟨k + 1, by omega, by go_num, by rw [HTS.out]; exact HI.out⟩
        case measure => simp [intOf] <;> omega
      · have HTS : Hid (toldTo ok K V (k + 1) = toldTo ok K V k ++ [(⟨x.toArray⟩, V k)]) := Lib.hid (by rw [hts]; simp [hxe])
        have qe : (!(⟨x.toArray⟩ : ByteArray).toList.isEmpty) = true := by simp [ByteArray.toList_eq]; exact hxe
        have qe2 : (⟨x.toArray⟩ : ByteArray).toList.isEmpty = false := by simp [ByteArray.toList_eq]; exact hxe
        clear hts hxe
        generalize (⟨x.toArray⟩ : ByteArray) = KK at *
        generalize V k = VV at HT1 HTS
        generalize addr k = aa at HV1 HT1
        generalize err k = ee at HT1
        generalize toldTo ok K V k = L at HI HTS hle
        clear HV HT
        go_wp2_with fail
        go_region_held3 (fun W => W.cell? ⟨b, 0, none⟩ = some (.slice (some ⟨gl, 0, none⟩) n cl) ∧ W.cell? ⟨b, 2, none⟩ = some (.pointer (some ⟨mb, 0, none⟩)) ∧ W.cell? ⟨gl, i * 4 + 2, none⟩ = some (.int .i64 size))
          (first | go_keep | exact ⟨hf6.cell (by go_keep) id, hf6.cell (by go_keep) id, hf6.cell (by go_keep) id⟩ | exact ⟨hf7.cell (hf6.cell (by go_keep) id) id, hf7.cell (hf6.cell (by go_keep) id) id, hf7.cell (hf6.cell (by go_keep) id) id⟩)
          (first
            | (go_at_call 46; (with_reducible refine (HV1.out _ (by exact HF.out.trans ((Fr.refl _ _).drew))).mono ?_); rintro e w6 ⟨rfl, hf6⟩)
            | (go_at_call 49; (with_reducible refine (HT1.out _ (by exact HF.out.trans (((Fr.refl _ _).drew).trans hf6))).mono ?_); rintro e w7 ⟨rfl, hf7⟩))
        have HF57 : Hid (Fr No wr w7) := (((Fr.refl _ _).drew).trans hf6).trans hf7
        have HI7 : Hid (EInv w L u5 w7) := ⟨HI.out.g.to HF57.out⟩
        obtain ⟨e0, e1, e2, e3, e4, e5⟩ := HCS.out w7 (HF.out.trans HF57.out)
        have e6 := HKC.out w7 (HF.out.trans HF57.out)
        have HST : Hid (∀ o v' w', w'.ownsRow w.heap.size 64 2 v' (L.length + 1) (eflat L ++ [.string KK, .string VV]) → Fr (OwnOf u5) (w7.alloc o) w' → EInv w (L ++ [(KK, VV)]) v' w') := fun o v' w' h1 h2 => (EInv.step ⟨HI7.out.g.to ((Fr.refl _ _).alloc o)⟩ KK VV h1 h2)
        have HOW : Hid (∀ o, (w7.alloc o).ownsRow w.heap.size 64 2 u5 L.length (eflat L)) := fun o => HI7.out.g.own.alloc o
        have HSZ : Hid (w.heap.size ≤ w7.heap.size) := HI7.out.g.fr.size
        clear HI HI7 HF HF57 hf6 hf7 d0 d1 d2 d3 d4 d5 HV1 HT1 HCS hcell HKC
        generalize hll : L.length = ll at *
        generalize eflat L = ef at *
        have HLL := Lib.hid hll
        clear hll
        go_wp2_with (at_builtin; refine wpList_append_src rfl _ _ 48 rfl w.heap.size 64 i0 _ 2 32 Tryz.underlying48 hi0 hz0 hz1 hz2 rfl (by decide) u5 ll ef rfl (HOW.out _) _ 1 [.string KK, .string VV] rfl (src_new w7 [.string KK, .string VV] 64) rfl (by simp [Value.oneCell']) (by unfold maxLen; omega) (by omega) (by simp; have := HSZ.out; omega) ?_; intro v' w8 own8 fr8)
        have HE8 : Hid (EInv w (L ++ [(KK, VV)]) v' w8) := HST.out _ _ _ own8 fr8
        clear own8 fr8
        go_roundw
        case rel => exact ⟨k + 1, by omega, by go_num, by rw [HTS.out]; exact HE8⟩
        case measure => simp [intOf] <;> omega
    · obtain rfl : k = mx := by omega
      go_wp2_with fail
      go_ret
      exact ⟨_, rfl, HI⟩

theorem rentries_any {A H T : Nat → Prop} {w : World} {b mb : Nat} {S : List Tab} {m : List Reg} (h : RMapsAt w b mb S A H) (hm : RefAt w mb m T) (hml : m.length ≤ 1000000) (i : Int) :
    Calls Tryz.prog 19 #[.pointer (some ⟨b, 0, none⟩), .int .i64 i] w fun e w' => ∃ u, e = .returned u ∧ EntsAt w' u (mentries S m i) ∧ Fr No w w' := by
  have hmaps := h
  obtain ⟨l, hS, h⟩ := h
  have hfew := h.few
  unfold mentries
  by_cases h0 : i < 0
  · rw [if_neg (by omega)]
    exact (rentries_lo b i w h0).mono fun e w' ⟨he, hw⟩ => ⟨_, he, .inl ⟨rfl, _, _, rfl⟩, hw⟩
  · obtain ⟨k, rfl⟩ := Int.eq_ofNat_of_zero_le (show 0 ≤ i by omega)
    rw [if_pos (by omega), Int.toNat_natCast]
    by_cases h1 : k < l.length
    · have hx : l[k]? = some l[k] := List.getElem?_eq_getElem h1
      generalize l[k] = x at hx
      have hxm := List.mem_of_getElem? hx
      have ok := h.ok x hxm
      have hb := ok.bounds
      obtain ⟨gl, cl, gt, ct, _, _, hi, hcs⟩ := h.cells hx
      have hSk : S[k]? = some x.t := by rw [← hS, List.getElem?_map, hx]; rfl
      rw [hSk]
      refine (rentries_walk b mb k l.length cl gl ct gt x.h x.cap x.t.ks.length x.t.d.kind x.t.d.value x.t.ks (fun p => ⟨(mtext m (mplace k p x.t) x.t.d.value).1.toArray⟩) (fun p => mplace k p x.t) (fun p => (mtext m (mplace k p x.t) x.t.d.value).2) w hi hfew (by omega) rfl
        hcs (h.here x hxm).1.keys (fun p hp W hW => rat_any (hmaps.no hW) hSk hp) (fun p hp W hW => ?_)).mono ?_
      · have hpb := mplace_bounds (i := k) ok hp (by omega)
        exact reftext_any (hm.fr hW (fun _ _ => id)) hml _ _ (by omega) (by omega) (by omega)
      · rintro e w' ⟨u, rfl, hE⟩
        have hE' := hE.out
        rw [told_entries m k x.t x.t.ks.length (Nat.le_refl _)] at hE'
        obtain ⟨a, c⟩ := hE'.ents
        exact ⟨u, rfl, a, c⟩
    · have hSk : S[k]? = none := by rw [← hS, List.getElem?_map, List.getElem?_eq_none (by omega)]; rfl
      rw [hSk]
      obtain ⟨a, c, _, _, c1, _⟩ := h.len
      exact (rentries_hi b k l.length c a w (by omega) c1).mono fun e w' ⟨he, hw⟩ => ⟨_, he, .inl ⟨rfl, _, _, rfl⟩, hw⟩

end Go.Proofs.YtlinnhaodkiolaaGreat

namespace Go.Proofs.YtlinnhaodkiolaaGreat
open Go.RowKit

def zs (n : Nat) : ByteArray := ⟨(List.replicate n (0 : UInt8)).toArray⟩
def zcells (n : Nat) : Array Value := (u8s (List.replicate n 0)).toArray
theorem zs_size (n : Nat) : (zs n).size = n := by simp [zs, ByteArray.size]

theorem make_z (n : Nat) (hn : n ≤ 4294967296) (w : World) : (Instr.makeSlice 67 (.int .i64 n) (.int .i64 n)).run Tryz.prog w = .ok (.slice (some ⟨w.heap.size, 0, none⟩) n n) (w.alloc (.cells (zcells n) 5)) := make_bytes n hn w

theorem str_zs (n : Nat) (W : World) : (convert 67 9 (.slice (some ⟨W.heap.size, 0, none⟩) n n)).run Tryz.prog (W.alloc (.cells (zcells n) 5)) = .ok (.string (zs n)) (W.alloc (.cells (zcells n) 5)) := by
  have h := str_at (CellsAt.new W (u8s (List.replicate n 0)) 5) n
  rw [List.length_replicate] at h
  exact h

end Go.Proofs.YtlinnhaodkiolaaGreat
