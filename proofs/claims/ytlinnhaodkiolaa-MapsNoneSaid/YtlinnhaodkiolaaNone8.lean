/- firewalllaw08.MapsNone: the walk. -/
import Derived.Test.YtlinnhaodkiolaaRMay
namespace Go.Proofs.Ytlinnhaodkiolaa
open Go.RowKit

/-- maps that are none -/
def NoMaps (p : Value) (w : World) : Prop := p = .pointer none ∨ ∃ b, p = .pointer (some ⟨b, 0, none⟩) ∧ w.cell? ⟨b, 0, none⟩ = some (.bool false) ∧ w.cell? ⟨b, 1, none⟩ = some (.slice none 0 0)
def NoMem (q : Value) (w : World) : Prop := q = .pointer none ∨ ∃ b, q = .pointer (some ⟨b, 0, none⟩) ∧ w.cell? ⟨b, 0, none⟩ = some (.bool false)

theorem NoMaps.fr {p : Value} {w w' : World} (h : NoMaps p w) (hf : Fr No w w') : NoMaps p w' := by
  rcases h with h | ⟨b, e, h0, h1⟩
  · exact .inl h
  · exact .inr ⟨b, e, hf.cell h0 id, hf.cell h1 id⟩
theorem NoMem.fr {p : Value} {w w' : World} (h : NoMem p w) (hf : Fr No w w') : NoMem p w' := by
  rcases h with h | ⟨b, e, h0⟩
  · exact .inl h
  · exact .inr ⟨b, e, hf.cell h0 id⟩

theorem NoMaps.len {p : Value} {w : World} (h : NoMaps p w) : Calls Try.prog 15 #[p] w fun e w' => e = .returned (.int .i64 0) ∧ w = w' := by
  rcases h with rfl | ⟨b, rfl, h0, h1⟩
  · exact mlen_nil w
  · exact mlen_any b 0 0 none w h1
theorem NoMaps.has {p : Value} {w : World} (h : NoMaps p w) (i : Int) (K : ByteArray) : Calls Try.prog 24 #[p, .int .i64 i, .string K] w fun e w' => e = .returned (.bool false) ∧ w = w' := by
  rcases h with rfl | ⟨b, rfl, h0, h1⟩
  · exact has_nil i K w
  · by_cases hi : i < 0
    · exact has_lo b i K w hi
    · obtain ⟨k, rfl⟩ := Int.eq_ofNat_of_zero_le (show 0 ≤ i by omega)
      exact has_hi b k 0 0 none K w (Nat.zero_le _) h1
theorem NoMaps.entries {p : Value} {w : World} (h : NoMaps p w) (i : Int) : Calls Try.prog 14 #[p, .int .i64 i] w fun e w' => e = .returned (.slice none 0 0) ∧ w = w' := by
  have hl := h.len
  rcases h with rfl | ⟨b, rfl, h0, h1⟩
  · exact entries_nil i w
  · by_cases hi : i < 0
    · exact entries_lo b i w hi
    · obtain ⟨k, rfl⟩ := Int.eq_ofNat_of_zero_le (show 0 ≤ i by omega)
      exact entries_hi _ k 0 w (Nat.zero_le _) hl
theorem NoMaps.copy {p : Value} {w : World} (h : NoMaps p w) (mp : Value) : Calls Try.prog 20 #[p, mp] w fun e w' => e = .returned (.pointer none) ∧ w = w' := by
  rcases h with rfl | ⟨b, rfl, h0, h1⟩
  · exact mcopy_nil mp w
  · exact mcopy_unmade b mp w h0
theorem NoMem.copy {p : Value} {w : World} (h : NoMem p w) : Calls Try.prog 21 #[p] w fun e w' => e = .returned (.pointer none) ∧ w = w' := by
  rcases h with rfl | ⟨b, rfl, h0⟩
  · exact copy_none _ w (none_nil w)
  · exact copy_none _ w (none_unmade b w h0)

/-- the state of the loop -/
structure N8 (w : World) (bx bl mb : Nat) (x : ActM) (d : MapD) (T : Nat → Prop) (p q : Value) (wr : World) : Prop where
  fr : Fr No w wr
  b1 : wr.cell? ⟨bx, 1, none⟩ = some (.int .i64 x.map)
  b2 : wr.cell? ⟨bx, 2, none⟩ = some (.string x.key)
  b3 : wr.cell? ⟨bx, 3, none⟩ = some (.string x.value)
  maps : MapsIn wr (.slice (some ⟨bl, 0, none⟩) 1 1) [d]
  mem : MemAt wr mb [] T
  np : NoMaps p wr
  nq : NoMem q wr

theorem N8.to {w : World} {bx bl mb : Nat} {x : ActM} {d : MapD} {T : Nat → Prop} {p q : Value} {wr w' : World} (h : N8 w bx bl mb x d T p q wr) (hf : Fr No wr w') : N8 w bx bl mb x d T p q w' :=
  ⟨h.fr.trans hf, hf.cell h.b1 id, hf.cell h.b2 id, hf.cell h.b3 id, h.maps.fr hf, h.mem.fr hf (fun _ _ => id), h.np.fr hf, h.nq.fr hf⟩

structure N8On (w : World) (bx bl mb : Nat) (x : ActM) (d : MapD) (T : Nat → Prop) (p q : Value) (wr : World) : Prop where
  st : Hid (N8 w bx bl mb x d T p q wr)
  b1 : wr.cell? ⟨bx, 1, none⟩ = some (.int .i64 x.map)
  b2 : wr.cell? ⟨bx, 2, none⟩ = some (.string x.key)
  b3 : wr.cell? ⟨bx, 3, none⟩ = some (.string x.value)
theorem N8.on {w : World} {bx bl mb : Nat} {x : ActM} {d : MapD} {T : Nat → Prop} {p q : Value} {wr : World} (h : N8 w bx bl mb x d T p q wr) : N8On w bx bl mb x d T p q wr := ⟨h, h.b1, h.b2, h.b3⟩

section
variable {w : World} {bx bl mb : Nat} {x : ActM} {d : MapD} {T : Nat → Prop} {p q : Value} {wr : World}

theorem N8.new1 (h : N8 w bx bl mb x d T p q wr) (wt : Int) (hw : wt = if mayL [d] = true then 1 else 2) : Calls Try.prog 19 #[.slice (some ⟨bl, 0, none⟩) 1 1, q] wr fun e w' => e = .returned (.tuple #[.pointer none, .int .i64 wt]) ∧ N8On w bx bl mb x d T p q w' := by
  subst hw
  exact (mnew_nomem _ q [d] wr h.maps (by simp) (fun W hW => (h.nq.fr hW).copy)).mono fun e w' ⟨he, hf⟩ => ⟨he, (h.to hf).on⟩

theorem N8.new2 (h : N8 w bx bl mb x d T p q wr) : Calls Try.prog 19 #[.slice (some ⟨bl, 0, none⟩) 1 1, .pointer (some ⟨mb, 0, none⟩)] wr fun e w' => e = .returned (.tuple #[.pointer none, .int .i64 2]) ∧ N8On w bx bl mb x d T p q w' := by
  refine (mnew_any h.mem ⟨by simp, by simp⟩ _ [d] h.maps (by simp)).mono ?_
  intro e w' hq
  unfold NewQ at hq
  have hno : ¬ (mayL [d] = true ∧ holdsB (mregsOf [d]) [] = true) := by
    rintro ⟨h1, h2⟩
    unfold mregsOf at h2
    rw [if_pos h1] at h2
    simp [holdsB, mregs, mregsFrom] at h2
  rw [if_neg hno] at hq
  exact ⟨hq.1, (h.to hq.2).on⟩

theorem N8.len (h : N8 w bx bl mb x d T p q wr) : Calls Try.prog 15 #[p] wr fun e w' => e = .returned (.int .i64 0) ∧ N8On w bx bl mb x d T p q w' :=
  h.np.len.mono fun e w' ⟨he, hw⟩ => ⟨he, hw ▸ h.on⟩
theorem N8.lookup (h : N8 w bx bl mb x d T p q wr) : Calls Try.prog 12 #[p, .int .i64 x.map, .string x.key] wr fun e w' => e = .returned (.int .u64 0) ∧ N8On w bx bl mb x d T p q w' :=
  (lookup_bad p _ _ wr (h.np.has _ _)).mono fun e w' ⟨he, hw⟩ => ⟨he, hw ▸ h.on⟩
theorem N8.update (h : N8 w bx bl mb x d T p q wr) : Calls Try.prog 11 #[p, .int .i64 x.map, .string x.key, .string x.value] wr fun e w' => e = .returned (.int .i64 (-22)) ∧ N8On w bx bl mb x d T p q w' :=
  (update_bad p _ _ _ wr (h.np.has _ _)).mono fun e w' ⟨he, hw⟩ => ⟨he, hw ▸ h.on⟩
theorem N8.delete (h : N8 w bx bl mb x d T p q wr) : Calls Try.prog 10 #[p, .int .i64 x.map, .string x.key] wr fun e w' => e = .returned (.int .i64 (-22)) ∧ N8On w bx bl mb x d T p q w' :=
  (delete_bad p _ _ wr (h.np.has _ _)).mono fun e w' ⟨he, hw⟩ => ⟨he, hw ▸ h.on⟩
theorem N8.entries (h : N8 w bx bl mb x d T p q wr) : Calls Try.prog 14 #[p, .int .i64 x.map] wr fun e w' => e = .returned (.slice none 0 0) ∧ N8On w bx bl mb x d T p q w' :=
  (h.np.entries _).mono fun e w' ⟨he, hw⟩ => ⟨he, hw ▸ h.on⟩
theorem N8.copy (h : N8 w bx bl mb x d T p q wr) : Calls Try.prog 20 #[p, .pointer (some ⟨mb, 0, none⟩)] wr fun e w' => e = .returned (.pointer none) ∧ N8On w bx bl mb x d T p q w' :=
  (h.np.copy _).mono fun e w' ⟨he, hw⟩ => ⟨he, hw ▸ h.on⟩

theorem N8.next (h : N8 w bx bl mb x d T p q wr) :
    N8On w bx bl mb x d T (.pointer (some ⟨wr.heap.size, 0, none⟩)) (.pointer (some ⟨wr.heap.size + 1, 0, none⟩)) ((wr.alloc (.cells #[.bool false, .slice none 0 0, .slice none 0 0, .pointer none] 61)).alloc (.cells #[.bool false, .slice none 0 0] 64)) := by
  have hs : (wr.alloc (.cells #[.bool false, .slice none 0 0, .slice none 0 0, .pointer none] 61)).heap.size = wr.heap.size + 1 := by simp
  have hf : Fr No wr ((wr.alloc (.cells #[.bool false, .slice none 0 0, .slice none 0 0, .pointer none] 61)).alloc (.cells #[.bool false, .slice none 0 0] 64)) := ((Fr.refl _ _).alloc _).alloc _
  have h2 := h.to hf
  refine N8.on ⟨h2.fr, h2.b1, h2.b2, h2.b3, h2.maps, h2.mem, .inr ⟨_, rfl, ?_, ?_⟩, .inr ⟨_, rfl, ?_⟩⟩
  · exact ((Fr.refl No _).alloc _).cell (by rw [World.cell?_alloc_new]; rfl) id
  · exact ((Fr.refl No _).alloc _).cell (by rw [World.cell?_alloc_new]; rfl) id
  · rw [← hs, World.cell?_alloc_new]; rfl
end

set_option maxRecDepth 100000 in
set_option maxHeartbeats 2000000 in
theorem none8_walk (kind : Nat) (i : Int) (K V : ByteArray) (d : MapD) (w : World) :
    Calls Try.prog 5 #[.agg #[.int .u8 kind, .int .i64 i, .string K, .string V], .agg #[.int .i64 d.kind, .int .i64 d.key, .int .i64 d.value, .int .i64 d.max]] w fun e w' => e = .returned (.bool true) ∧ Fr No w w' := by
  have HG : Hid (∀ W : World, Calls Try.prog 16 #[.slice (some ⟨W.heap.size, 0, none⟩) 1 1, .int .i64 1] (W.alloc (.cells #[.int .u8 kind, .int .i64 i, .string K, .string V] 47)) fun e w' => e = .returned (.bool (greatB [⟨kind, i, K, V⟩] 1)) ∧ Fr No W w') := fun W =>
    (great8_any _ [⟨kind, i, K, V⟩] 1 _ (.inr ⟨_, _, _, rfl, CellsAt.new W (amflat [⟨kind, i, K, V⟩]) _⟩) (by simp)).mono fun e w' ⟨he, hw⟩ => ⟨he, hw ▸ (Fr.refl _ _).alloc _⟩
  have HMW : Hid (∀ W : World, MapsIn (W.alloc (.cells #[.int .i64 d.kind, .int .i64 d.key, .int .i64 d.value, .int .i64 d.max] 49)) (.slice (some ⟨W.heap.size, 0, none⟩) 1 1) [d]) := fun W => .inr ⟨_, _, _, rfl, CellsAt.new W (mflat [d]) _⟩
  generalize greatB [⟨kind, i, K, V⟩] 1 = gb at HG
  obtain ⟨W2, hW2⟩ : ∃ W2, W2 = (w.alloc (.cells #[.int .u8 kind, .int .i64 i, .string K, .string V] 47)).alloc (.cells #[.int .i64 d.kind, .int .i64 d.key, .int .i64 d.value, .int .i64 d.max] 49) := ⟨_, rfl⟩
  have hz : W2.heap.size = w.heap.size + 1 + 1 := by rw [hW2]; simp
  have HB0 : Hid (W2.cell? ⟨w.heap.size, 1, none⟩ = some (.int .i64 i) ∧ W2.cell? ⟨w.heap.size, 2, none⟩ = some (.string K) ∧ W2.cell? ⟨w.heap.size, 3, none⟩ = some (.string V)) := by
    rw [hW2]
    exact ⟨((Fr.refl No _).alloc _).cell (by rw [World.cell?_alloc_new]; rfl) id, ((Fr.refl No _).alloc _).cell (by rw [World.cell?_alloc_new]; rfl) id, ((Fr.refl No _).alloc _).cell (by rw [World.cell?_alloc_new]; rfl) id⟩
  have HD0 : Hid (∀ W, Fr No W2 W → W.cell? ⟨w.heap.size + 1, 0, none⟩ = some (.int .i64 d.kind) ∧ W.cell? ⟨w.heap.size + 1, 1, none⟩ = some (.int .i64 d.key) ∧ W.cell? ⟨w.heap.size + 1, 2, none⟩ = some (.int .i64 d.value) ∧ W.cell? ⟨w.heap.size + 1, 3, none⟩ = some (.int .i64 d.max)) := fun W hW => by
    have hs : (w.alloc (.cells #[.int .u8 kind, .int .i64 i, .string K, .string V] 47)).heap.size = w.heap.size + 1 := by simp
    rw [hW2] at hW
    refine ⟨hW.cell ?_ id, hW.cell ?_ id, hW.cell ?_ id, hW.cell ?_ id⟩ <;> (rw [← hs, World.cell?_alloc_new]; rfl)
  have HF0 : Hid (Fr No w W2) := by rw [hW2]; exact ((Fr.refl _ _).alloc _).alloc _
  have HG2 := Lib.hid (HG.out W2)
  rw [hz] at HG2
  obtain ⟨t, ht⟩ : ∃ t, mayL [d] = t := ⟨_, rfl⟩
  have HT := Lib.hid ht
  have HMAY : Hid (∀ W v, MapsIn W v [d] → Calls Try.prog 18 #[v] W fun e w' => e = .returned (.bool t) ∧ Fr No W w') := fun W v h => by rw [← HT.out]; exact refmay_any v [d] W h
  have HW2 := Lib.hid hW2
  clear ht hz HG hW2
  go_enter Try.func5, Try.ntmps5
  go_wp2_with fail
  rw [← HW2.out]
  refine (HG2.out).mono ?_
  rintro e w1 ⟨rfl, hf1⟩
  have HF1 := Lib.hid hf1
  clear hf1 HG2 HW2
  cases gb with
  | true =>
    go_wp2_with (go_at_call 7; refine (kept_any _).mono ?_; rintro e w9 ⟨rfl, hlf⟩)
    go_ret
    exact ⟨rfl, (HF0.out.trans HF1.out).trans hlf⟩
  | false =>
    go_wp2_with fail
    refine (new_is (rs := []) (m := []) (v := .slice none 0 0) ⟨by simp, .inl ⟨rfl, _, _, rfl⟩⟩ (by decide) (List.Perm.refl _) ⟨by simp, by simp, by decide⟩).mono ?_
    rintro e w3 ⟨mb, rfl, hf3, hm3⟩
    have HF3 : Hid (Fr No W2 w3) := HF1.out.trans hf3
    have HM3 := Lib.hid hm3
    obtain ⟨e0, e1, e2, e3⟩ := HD0.out w3 HF3.out
    clear hf3 hm3 HF1 HD0
    generalize Made w1 w3 = T at HM3
    have HMI : Hid (MapsIn (w3.alloc (.cells #[.int .i64 d.kind, .int .i64 d.key, .int .i64 d.value, .int .i64 d.max] 49)) (.slice (some ⟨w3.heap.size, 0, none⟩) 1 1) [d]) := HMW.out w3
    have HN0 : Hid (N8 w w.heap.size w3.heap.size mb ⟨kind, i, K, V⟩ d T (.pointer none) (.pointer none) (w3.alloc (.cells #[.int .i64 d.kind, .int .i64 d.key, .int .i64 d.value, .int .i64 d.max] 49))) := by
      have hf : Fr No W2 (w3.alloc (.cells #[.int .i64 d.kind, .int .i64 d.key, .int .i64 d.value, .int .i64 d.max] 49)) := HF3.out.alloc _
      obtain ⟨g1, g2, g3⟩ := HB0.out
      exact ⟨HF0.out.trans hf, hf.cell g1 id, hf.cell g2 id, hf.cell g3 id, HMI.out, HM3.out.fr ((Fr.refl _ _).alloc _) (fun _ _ => id), .inl rfl, .inl rfl⟩
    clear HB0 HM3 HMW HF0 HF3
    go_wp2_with fail
    refine (HMAY.out _ _ HMI.out).mono ?_
    rintro e w4 ⟨rfl, hf4⟩
    have HN4 := Lib.hid (HN0.out.to hf4)
    clear hf4 HN0 HMI HMAY e0 e1 e2 e3
    generalize w3.heap.size = bl at *
    cases t
    all_goals
      obtain ⟨wt, hwt⟩ : ∃ wt : Int, wt = if mayL [d] = true then 1 else 2 := ⟨_, rfl⟩
      have hwt2 := hwt
      rw [HT.out] at hwt2
      simp only [if_true, Bool.false_eq_true, if_false] at hwt2
      subst hwt2
      have HWT := Lib.hid hwt
      clear hwt
      go_wp2_with fail
      go_loopw [5, 6, 11] (fun s5 s6 s11 wr => ∃ (p q : Value) (k : Int), 0 ≤ k ∧ k ≤ 2 ∧ s5 = p ∧ s6 = q ∧ s11 = .int .i64 k ∧ N8On w w.heap.size bl mb ⟨kind, i, K, V⟩ d T p q wr) (fun _ _ s11 _ => (2 - intOf s11).toNat)
      case atStart => exact ⟨_, _, 0, by omega, by omega, rfl, rfl, rfl, HN4.out.on⟩
      case round =>
        obtain ⟨p, q, k, hk0, hk2, rfl, rfl, rfl, HS, c1, c2, c3⟩ := hrel
        by_cases hlt : k < 2
        · have f1 : IntKind.i64.wrap (k + 1) = k + 1 := IntWalk.i64_in _ (by omega)
          go_wp2_with fail
          refine (HS.out.new1 _ HWT.out).mono ?_
          rintro e w5 ⟨rfl, HS5, _, _, _⟩
          clear HS c1 c2 c3
          go_wp2_with fail
          refine (HS5.out.new2).mono ?_
          rintro e w6 ⟨rfl, HS6, _, _, _⟩
          clear HS5
          go_wp2_with fail
          refine (HS6.out.len).mono ?_
          rintro e w7 ⟨rfl, HS7, d1, d2, d3⟩
          clear HS6
          go_wp2_with fail
          refine (HS7.out.lookup).mono ?_
          rintro e w8 ⟨rfl, HS8, e1, e2, e3⟩
          clear HS7 d1 d2 d3
          go_wp2_with fail
          refine (HS8.out.update).mono ?_
          rintro e w9 ⟨rfl, HS9, d1, d2, d3⟩
          clear HS8 e1 e2 e3
          go_wp2_with fail
          refine (HS9.out.delete).mono ?_
          rintro e w10 ⟨rfl, HS10, e1, e2, e3⟩
          clear HS9 d1 d2 d3
          go_wp2_with fail
          refine (HS10.out.entries).mono ?_
          rintro e w11 ⟨rfl, HS11, d1, d2, d3⟩
          clear HS10 e1 e2 e3
          go_wp2_with fail
          refine (HS11.out.copy).mono ?_
          rintro e w12 ⟨rfl, HS12, _, _, _⟩
          clear HS11 d1 d2 d3
          go_wp2_with fail
          go_roundw
          case rel => exact ⟨_, _, k + 1, by omega, by omega, rfl, rfl, rfl, HS12.out.next⟩
          case measure => simp [intOf] <;> omega
        · obtain rfl : k = 2 := by omega
          go_wp2_with (go_at_call 7; refine (kept_any _).mono ?_; rintro e w9 ⟨rfl, hlf⟩)
          go_ret
          exact ⟨rfl, HS.out.fr.trans hlf⟩

end Go.Proofs.Ytlinnhaodkiolaa
