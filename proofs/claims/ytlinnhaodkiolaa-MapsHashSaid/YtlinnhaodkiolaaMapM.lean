/- maps: Update and Delete at any maps. -/
import Derived.Test.YtlinnhaodkiolaaMapL
namespace Go.Proofs.Ytlinnhaodkiolaa
open Go.RowKit

theorem MemAt.wf {w : World} {b : Nat} {m : List Reg} {S : Nat → Prop} (h : MemAt w b m S) : WF m := by
  obtain ⟨v, l, rfl, h⟩ := h
  exact h.wf

def Or2 (H T : Nat → Prop) : Nat → Prop := fun k => H k ∨ T k

/-- what a call that changes maps and their memory leaves -/
structure MapsOn (w : World) (b mb : Nat) (S : List Tab) (m : List Reg) (A H T : Nat → Prop) (w' : World) : Prop where
  fr : Fr (Or2 H T) w w'
  maps : MapsAt w' b mb S A H
  mem : MemAt w' mb m T

theorem MapsOn.no {w : World} {b mb : Nat} {S : List Tab} {m : List Reg} {A H T : Nat → Prop} {w' w2 : World} (h : MapsOn w b mb S m A H T w') (hf : Fr No w' w2) : MapsOn w b mb S m A H T w2 :=
  ⟨h.fr.trans hf.any, h.maps.no hf, h.mem.fr hf (fun _ _ => id)⟩

def whyOf (t : Tab) : Int := if t.d.kind = 1 then -2 else -7
/-- a table's value and what its lay comes to -/
def LayQ (t : Tab) (g : Nat) (key : List UInt8) (w : World) (e : Ending) (w' : World) : Prop :=
  match t.find key with
  | some p => e = .returned (.tuple #[.int .i64 p, .int .i64 (whyOf t)]) ∧ w = w'
  | none => if t.d.kind = 1 then e = .returned (.tuple #[.int .i64 (-1), .int .i64 (-2)]) ∧ w = w' else LayPost t g key w e w'

theorem HTab.lay_face {w : World} {x : HTab} (ok : x.t.ok) (hh : x.t.d.kind = 2 → x.here w) (key : List UInt8) (hk : (key.length : Int) = x.t.d.key) :
    ∃ T v f, x.cell = .iface T v ∧ Face T v "firewall/maps.lay" f ∧ Calls Try.prog f #[v, .string ⟨key.toArray⟩] w (LayQ x.t x.h key w) := by
  rcases ok.kinds with h1 | h2
  · refine ⟨_, _, _, by unfold HTab.cell; rw [if_pos h1], face_alay _, (alay_any ok h1 key (by have := ok.key1 h1; omega)).mono ?_⟩
    rintro e w' ⟨he, hw⟩
    unfold LayQ
    cases hf : x.t.find key with
    | some p => rw [hf] at he; unfold whyOf; rw [if_pos h1]; exact ⟨he, hw⟩
    | none => rw [hf] at he; simp only [if_pos h1]; exact ⟨he, hw⟩
  · refine ⟨_, _, _, by unfold HTab.cell; rw [if_neg (by omega)], face_hlay _ _ _, (hlay_any (hh h2) (by have := ok.bounds; omega) key).mono ?_⟩
    rintro e w' he
    unfold LayQ
    have he0 := he
    unfold LayPost at he
    cases hf : x.t.find key with
    | some p => rw [hf] at he; unfold whyOf; rw [if_neg (by omega)]; exact he
    | none => simp only [if_neg (show ¬ x.t.d.kind = 1 by omega)]; exact he0

theorem HoldsM.new {S : List Tab} {m : List Reg} (h : HoldsM S m) {i : Nat} {t : Tab} (hi : S[i]? = some t) (p : Nat) (key : List UInt8) : HoldsM (S.set i (t.lay p key)) m := h.set hi rfl

/-- the loop that lays a value, byte by byte -/
theorem update_lays {A H T : Nat → Prop} {w : World} {b mb : Nat} {S S' : List Tab} {m : List Reg} (hm : MemAt w mb m T) (hT : ∀ k, T k → ¬ A k ∧ ¬ H k) {i : Nat} {x : HTab} {l : List HTab} (hS : l.map (·.t) = S) (h : MapsL w b mb l A H) (hx : l[i]? = some x)
    (key val : List UInt8) (hkey : (key.length : Int) = x.t.d.key) (hlen : (val.length : Int) = x.t.d.value) {p : Nat} (hp : p < x.t.ks.length) {why : Int} {TT : TypeId} {v : Value} {f : Nat} (hcell : x.cell = .iface TT v) (face : Face TT v "firewall/maps.lay" f)
    (hold : HoldsM S m) {t' : Tab} (hS' : S'[i]? = some t') (ht' : t'.d = x.t.d ∧ t'.ks.length = x.t.ks.length)
    (hf : Calls Try.prog f #[v, .string ⟨key.toArray⟩] w fun e w' => e = .returned (.tuple #[.int .i64 p, .int .i64 why]) ∧ Hid (Fr H w w' ∧ MapsAt w' b mb S' A H)) :
    Calls Try.prog 11 #[.pointer (some ⟨b, 0, none⟩), .int .i64 i, .string ⟨key.toArray⟩, .string ⟨val.toArray⟩] w fun e w' => e = .returned (.int .i64 0) ∧ MapsOn w b mb S' (mput m (mplace i p x.t) val) A H T w' := by
  have hxm := List.mem_of_getElem? hx
  have ok := h.ok x hxm
  have hb := ok.bounds
  obtain ⟨gl, cl, gt, ct, c1, c2, hi, _, _, d0, d1, d2, d3, d4⟩ := h.at hx
  have hfew := h.few
  have hpb := mplace_bounds (i := i) ok hp (by omega)
  have hSi : S[i]? = some x.t := by rw [← hS, List.getElem?_map, hx]; rfl
  obtain ⟨j, r, hr, hr0, hr1, hfree, _, _⟩ := hold.place hSi ok hp
  have hwf := hm.wf
  have hmaps : MapsAt w b mb S A H := ⟨l, hS, h⟩
  have hh := has_any hmaps i key
  have hhas : (mhas S i key).isSome = true := by rw [mhas_of hSi hkey]; rfl
  rw [hhas] at hh
  rw [hcell] at d4
  have hv : mplace i p t' = mplace i p x.t := by unfold mplace; rw [ht'.1]
  refine (update_in b mb i l.length cl ct gl gt val.length p x.t.d.value why (mplace i p x.t) TT v f ⟨key.toArray⟩ ⟨val.toArray⟩ w hi c1 d2 rfl (by simpa using hlen) c2 d4 (by omega) (by omega) (by omega)
    (fun w' => Fr H w w' ∧ MapsAt w' b mb S' A H) (fun k w' => MapsOn w b mb S' (mput m (mplace i p x.t) (val.take k)) A H T w') hh face hf ?_ ?_ ?_ ?_).mono ?_
  · rintro w' ⟨hf1, hm1⟩
    refine ⟨hf1.mono (fun _ _ => .inl), hm1, ?_⟩
    rw [List.take_zero, mput_nil]
    exact hm.fr hf1 (fun k hk => (hT k hk).2)
  · intro k W hU
    obtain ⟨l2, _, h2⟩ := hU.maps
    exact h2.mem
  · intro k W hU W' hW'
    rw [← hv]
    exact mvalue_any (hU.maps.no hW') hS' (by rw [ht'.2]; exact hp)
  · intro k W hk hU W' hW'
    have hk' : k < val.length := hk
    have hget : val[k]? = some ((⟨val.toArray⟩ : ByteArray)[k]) := by
      rw [List.getElem?_eq_getElem hk']
      rfl
    have hstep := mput_step hwf hr hfree hget hr0 (by rw [hlen]; exact hr1)
    have hlt := ((⟨val.toArray⟩ : ByteArray)[k]).toNat_lt
    refine (write_any (hU.mem.fr hW' (fun _ _ => id)) (mplace i p x.t + k) 1 ((⟨val.toArray⟩ : ByteArray)[k]).toNat (by omega) (by omega) (by omega)).mono ?_
    rw [hstep]
    rintro e w' ⟨he, hf1, hm1⟩
    refine ⟨he, (hU.fr.trans hW'.any).trans (hf1.mono fun _ _ => .inr), ?_, hm1⟩
    exact (hU.maps.no hW').fr hf1 (fun k hA hk => (hT k hk).1 hA) (fun k hH hk => (hT k hk).2 hH)
  · rintro e w' ⟨he, hU⟩
    refine ⟨he, ?_⟩
    rwa [List.take_of_length_le (Nat.le_refl _)] at hU

theorem update_any {A H T : Nat → Prop} {w : World} {b mb : Nat} {S : List Tab} {m : List Reg} (h : MapsAt w b mb S A H) (hm : MemAt w mb m T) (hT : ∀ k, T k → ¬ A k ∧ ¬ H k) (hold : HoldsM S m) (i : Int) (key val : List UInt8) :
    Calls Try.prog 11 #[.pointer (some ⟨b, 0, none⟩), .int .i64 i, .string ⟨key.toArray⟩, .string ⟨val.toArray⟩] w fun e w' =>
      e = .returned (.int .i64 (mupdate S m i key val).2) ∧ MapsOn w b mb (mupdate S m i key val).1.1 (mupdate S m i key val).1.2 A H T w' := by
  have hh := has_any h i key
  have hmaps := h
  have same : MapsOn w b mb S m A H T w := ⟨Fr.refl _ _, h, hm⟩
  obtain ⟨l, hS, h⟩ := h
  unfold mupdate
  cases hmh : mhas S i key with
  | none =>
    rw [hmh] at hh
    exact (update_bad _ i _ _ w hh).mono fun e w' ⟨he, hw⟩ => ⟨he, hw ▸ same⟩
  | some t =>
    rw [hmh] at hh
    obtain ⟨k, rfl, hk, hkl⟩ := mhas_some hmh
    have hk0 := hk
    rw [← hS, List.getElem?_map] at hk
    obtain ⟨x, hx, rfl⟩ := Option.map_eq_some_iff.1 hk
    have hxm := List.mem_of_getElem? hx
    have ok := h.ok x hxm
    obtain ⟨gl, cl, gt, ct, c1, c2, hi, _, _, d0, d1, d2, d3, d4⟩ := h.at hx
    by_cases hlen : (val.length : Int) = x.t.d.value
    · simp only [hlen, if_true, Int.toNat_natCast]
      obtain ⟨TT, v, f, hcell, face, hf⟩ := HTab.lay_face ok (fun h2 => (h.here x hxm h2).1) key hkl
      have d4' := d4
      rw [hcell] at d4
      unfold LayQ at hf
      have off : ∀ why : Int, (Calls Try.prog f #[v, .string ⟨key.toArray⟩] w fun e w' => e = .returned (.tuple #[.int .i64 (-1), .int .i64 why]) ∧ w = w') →
          Calls Try.prog 11 #[.pointer (some ⟨b, 0, none⟩), .int .i64 k, .string ⟨key.toArray⟩, .string ⟨val.toArray⟩] w fun e w' => e = .returned (.int .i64 why) ∧ MapsOn w b mb S m A H T w' := fun why hf =>
        (update_off b k l.length cl ct gl gt val.length x.t.d.value why TT v f ⟨key.toArray⟩ ⟨val.toArray⟩ w hi c1 d2 rfl (by simpa using hlen) c2 d4 hh face hf).mono fun e w' ⟨he, hw⟩ => ⟨he, hw ▸ same⟩
      cases hfi : x.t.find key with
      | some p =>
        simp only [hfi] at hf
        have hp := (find_some hfi).1
        exact update_lays hm hT hS h hx key val hkl hlen hp hcell face hold hk0 ⟨rfl, rfl⟩ (hf.mono fun e w' ⟨he, hw⟩ => ⟨he, hw ▸ ⟨Fr.refl _ _, hmaps⟩⟩)
      | none =>
        simp only [hfi] at hf
        rcases ok.kinds with h1 | h2
        · simp only [h1, if_true] at hf ⊢
          exact off _ hf
        · have hn1 : ¬ x.t.d.kind = 1 := by omega
          simp only [if_neg hn1] at hf ⊢
          unfold LayPost at hf
          simp only [hfi] at hf
          cases hfe : x.t.find [] with
          | none =>
            simp only [hfe] at hf
            exact off _ hf
          | some p =>
            simp only [hfe] at hf
            have hp := (find_some hfe).1
            obtain ⟨g1, g2⟩ := h.lay hx h2 hp (key := key) (.inr hkl)
            have hSt : (l.set k (x.lay p key)).map (·.t) = S.set k (x.t.lay p key) := by rw [List.map_set, hS]; rfl
            have hSk : (S.set k (x.t.lay p key))[k]? = some (x.t.lay p key) := by
              obtain ⟨hk1, _⟩ := List.getElem?_eq_some_iff.1 hk0
              rw [List.getElem?_set]; simp [hk1]
            exact update_lays hm hT hS h hx key val hkl hlen hp hcell face hold hSk ⟨rfl, by simp [Tab.lay]⟩ (hf.mono fun e w' ⟨he, hw⟩ => ⟨he, by rw [hw]; exact ⟨g2, _, hSt, g1⟩⟩)
    · have hne : ((val.length : Int) != x.t.d.value) = true := by simpa using hlen
      simp only [hlen, if_false]
      exact (update_len b k l.length cl gl val.length x.t.d.value ⟨key.toArray⟩ ⟨val.toArray⟩ w hi c1 d2 rfl hne hh).mono fun e w' ⟨he, hw⟩ => ⟨he, hw ▸ same⟩

end Go.Proofs.Ytlinnhaodkiolaa
