/- maps over a memory, both made by the call: what each function does to the pair. No condition. -/
import Derived.Test.YtlinnhaodkiolaaMapC
import Derived.Test.YtlinnhaodkiolaaNew4
namespace Go.Proofs.Ytlinnhaodkiolaa
open Go.RowKit

theorem mregs_wf {l : List MapD} (h : mayL l = true) : WF (mregs l) := by
  obtain ⟨h4, hm⟩ := (mayL_iff l).1 h
  have key : ∀ i (hi : i < (mregs l).length), ∃ x : MapD, x.may = true ∧ (mregs l)[i] = x.reg i ∧ i < 4 := fun i hi => by
    have hl : i < l.length := by rw [mregs_length] at hi; exact hi
    have hg := mregs_get l i
    rw [List.getElem?_eq_getElem hi, List.getElem?_eq_getElem hl] at hg
    exact ⟨l[i], hm _ (List.getElem_mem hl), Option.some.inj hg, by omega⟩
  have size : ∀ (x : MapD) (i : Nat), x.may = true → 1 ≤ (x.reg i).data.length ∧ (x.reg i).data.length ≤ 1024 := fun x i hx => by
    have h := (MapD.may_iff x).1 hx
    have e1 : 1 ≤ x.value * x.max := Int.le_trans (by omega) (Int.mul_le_mul (a := 1) (b := 1) (by omega) (by omega) (by omega) (by omega))
    have e2 : x.value * x.max ≤ 64 * 16 := Int.mul_le_mul (by omega) (by omega) (by omega) (by omega)
    have : (x.reg i).data.length = (x.value * x.max).toNat := by show (List.replicate _ _).length = _; simp
    omega
  refine ⟨fun r hr => ?_, ?_, by rw [mregs_length]; omega⟩
  · obtain ⟨i, hi, rfl⟩ := List.getElem_of_mem hr
    obtain ⟨x, hx, e, h4⟩ := key i hi
    rw [e]
    have := size x i hx
    have hb : (x.reg i).base = mbase i := rfl
    exact ⟨by rw [hb]; unfold mbase; omega, by omega, by unfold Reg.len; rw [hb]; unfold mbase; omega, by omega⟩
  · rw [List.pairwise_iff_getElem]
    intro i j hi hj hij
    obtain ⟨x, hx, e, _⟩ := key i hi
    obtain ⟨y, hy, e2, _⟩ := key j hj
    rw [e, e2]
    have := size x i hx
    show mbase i + (((x.reg i).data.length : Nat) : Int) ≤ mbase j
    unfold mbase
    omega

theorem mregs_ok {l : List MapD} (h : mayL l = true) : MemOk (mregs l) := by
  have hw := mregs_wf h
  obtain ⟨h4, hm⟩ := (mayL_iff l).1 h
  refine ⟨by rw [mregs_length]; omega, fun r hr => ?_⟩
  obtain ⟨i, hi, rfl⟩ := List.getElem_of_mem hr
  have hl : i < l.length := by rw [mregs_length] at hi; exact hi
  have hg := mregs_get l i
  rw [List.getElem?_eq_getElem hi, List.getElem?_eq_getElem hl] at hg
  rw [Option.some.inj hg]
  have h := (MapD.may_iff _).1 (hm _ (List.getElem_mem hl))
  have e2 : l[i].value * l[i].max ≤ 64 * 16 := Int.mul_le_mul (by omega) (by omega) (by omega) (by omega)
  show (List.replicate _ _).length ≤ _
  simp
  omega

theorem holds_self {l : List MapD} (h : mayL l = true) : holdsB (mregsOf l) (mregs l) = true := by
  unfold holdsB mregsOf
  rw [if_pos h, List.all_eq_true]
  intro x hx
  rw [List.any_eq_true]
  refine ⟨x, hx, ?_⟩
  unfold fits
  obtain ⟨i, hi, rfl⟩ := List.getElem_of_mem hx
  have hl : i < l.length := by rw [mregs_length] at hi; exact hi
  have hg := mregs_get l i
  rw [List.getElem?_eq_getElem hi, List.getElem?_eq_getElem hl] at hg
  rw [Option.some.inj hg]
  simp [MapD.reg]

theorem holds_new {l : List MapD} {m : List Reg} (h : mayL l = true) (hh : holdsB (mregsOf l) m = true) : HoldsM (l.map Tab.new) m := by
  intro i t hi
  rw [List.getElem?_map] at hi
  obtain ⟨d, hd, rfl⟩ := Option.map_eq_some_iff.1 hi
  unfold holdsB mregsOf at hh
  rw [if_pos h, List.all_eq_true] at hh
  have hr : (mregs l)[i]? = some (d.reg i) := by rw [mregs_get, hd]; rfl
  have := hh _ (List.mem_of_getElem? hr)
  rw [List.any_eq_true] at this
  obtain ⟨y, hy, hf⟩ := this
  unfold fits at hf
  obtain ⟨f1, f2, f3⟩ := of_decide_eq_true hf
  obtain ⟨j, hj, rfl⟩ := List.getElem_of_mem hy
  have hmay := (MapD.may_iff d).1 (((mayL_iff l).1 h).2 d (List.mem_of_getElem? hd))
  have e1 : 0 ≤ d.value * d.max := Int.mul_nonneg (by omega) (by omega)
  refine ⟨j, m[j], List.getElem?_eq_getElem hj, f1, ?_, f3⟩
  rw [f2]
  show (((List.replicate (d.value * d.max).toNat (0 : UInt8)).length : Nat) : Int) = d.value * d.max
  simp
  omega

/-- what an Update leaves still holds the regions -/
theorem mupdate_holds {S : List Tab} {m : List Reg} (hS : ∀ t ∈ S, t.ok) (hw : WF m) (h : HoldsM S m) (i : Int) (key val : List UInt8) : HoldsM (mupdate S m i key val).1.1 (mupdate S m i key val).1.2 := by
  unfold mupdate
  cases hm : mhas S i key with
  | none => exact h
  | some t =>
    obtain ⟨k, rfl, hk, hkl⟩ := mhas_some hm
    have ok := hS t (List.mem_of_getElem? hk)
    by_cases hlen : (val.length : Int) = t.d.value
    · simp only [hlen, if_true, Int.toNat_natCast]
      have lay : ∀ p, p < t.ks.length → ∃ (j : Nat) (r : Reg), m[j]? = some r ∧ r.base ≤ mplace k p t ∧ mplace k p t + val.length ≤ r.base + (r.data.length : Int) := fun p hp => by
        obtain ⟨j, r, a, b, c, _⟩ := h.place hk ok hp
        exact ⟨j, r, a, b, by rw [hlen]; exact c⟩
      cases hf : t.find key with
      | some p =>
        obtain ⟨j, r, a, b, c⟩ := lay p (find_some hf).1
        exact h.mput hw a b c
      | none =>
        by_cases h1 : t.d.kind = 1
        · simp only [h1, if_true]; exact h
        · simp only [if_neg h1]
          cases he : t.find [] with
          | none => exact h
          | some p =>
            obtain ⟨j, r, a, b, c⟩ := lay p (find_some he).1
            exact (h.mput hw a b c).new hk p key
    · simp only [hlen, if_false]; exact h

theorem mdelete_holds {S : List Tab} {m : List Reg} (h : HoldsM S m) (i : Int) (key : List UInt8) : HoldsM (mdelete S i key).1 m := by
  unfold mdelete
  cases hm : mhas S i key with
  | none => exact h
  | some t =>
    obtain ⟨k, rfl, hk, hkl⟩ := mhas_some hm
    by_cases h1 : t.d.kind = 1
    · simp only [h1, if_true]; exact h
    · simp only [if_neg h1]
      cases hf : t.find key with
      | none => exact h
      | some p => exact h.new hk p []

/-- maps and their memory -/
structure KSt (w0 : World) (b mb : Nat) (S : List Tab) (m : List Reg) (A H T : Nat → Prop) (wr : World) : Prop where
  maps : MapsAt wr b mb S A H
  mem : MemAt wr mb m T
  dis : ∀ k, T k → ¬ A k ∧ ¬ H k
  hold : HoldsM S m
  fr : Fr No w0 wr
  new : ∀ k, H k ∨ T k → From w0 k

theorem KSt.to {w0 wr w' : World} {b mb : Nat} {S : List Tab} {m : List Reg} {A H T : Nat → Prop} (h : KSt w0 b mb S m A H T wr) (hf : Fr No wr w') : KSt w0 b mb S m A H T w' :=
  ⟨h.maps.no hf, h.mem.fr hf (fun _ _ => id), h.dis, h.hold, h.fr.trans hf, h.new⟩

/-- where other blocks turn -/
theorem KSt.apart {w0 wr w' : World} {b mb : Nat} {S : List Tab} {m : List Reg} {A H T X : Nat → Prop} (h : KSt w0 b mb S m A H T wr) (hf : Fr X wr w') (hX : ∀ k, X k → From w0 k) (hA : ∀ k, A k → ¬ X k) (hH : ∀ k, H k → ¬ X k) (hT : ∀ k, T k → ¬ X k) : KSt w0 b mb S m A H T w' :=
  ⟨h.maps.fr hf hA hH, h.mem.fr hf hT, h.dis, h.hold, (h.fr.any.trans (hf.mono fun k _ hk => hX k hk) : Fr (From w0) w0 w').ours, h.new⟩

theorem KSt.len {w0 wr : World} {b mb : Nat} {S : List Tab} {m : List Reg} {A H T : Nat → Prop} (h : KSt w0 b mb S m A H T wr) :
    Calls Try.prog 15 #[.pointer (some ⟨b, 0, none⟩)] wr fun e w' => e = .returned (.int .i64 S.length) ∧ wr = w' := by
  obtain ⟨l, rfl, hl⟩ := h.maps
  obtain ⟨a, c, hc⟩ := hl.len
  rw [List.length_map]
  exact mlen_any b _ _ a wr hc

theorem KSt.lookup {w0 wr : World} {b mb : Nat} {S : List Tab} {m : List Reg} {A H T : Nat → Prop} (h : KSt w0 b mb S m A H T wr) (i : Int) (key : List UInt8) (r : Int) (hr : mlookup S i key = r) :
    Calls Try.prog 12 #[.pointer (some ⟨b, 0, none⟩), .int .i64 i, .string ⟨key.toArray⟩] wr fun e w' => e = .returned (.int .u64 r) ∧ Hid (KSt w0 b mb S m A H T w') ∧ Fr No wr w' :=
  (lookup_any h.maps i key).mono fun e w' ⟨he, hf⟩ => ⟨by rw [he, hr], h.to hf, hf⟩

theorem KSt.update {w0 wr : World} {b mb : Nat} {S : List Tab} {m : List Reg} {A H T : Nat → Prop} (h : KSt w0 b mb S m A H T wr) (i : Int) (key val : List UInt8) (S' : List Tab) (m' : List Reg) (r : Int) (hr : mupdate S m i key val = ((S', m'), r)) :
    Calls Try.prog 11 #[.pointer (some ⟨b, 0, none⟩), .int .i64 i, .string ⟨key.toArray⟩, .string ⟨val.toArray⟩] wr fun e w' => e = .returned (.int .i64 r) ∧ Hid (KSt w0 b mb S' m' A H T w') ∧ Fr (Or2 H T) wr w' := by
  refine (update_any h.maps h.mem h.dis h.hold i key val).mono ?_
  have hh := mupdate_holds h.maps.ok.1 h.mem.wf h.hold i key val
  rw [hr] at hh ⊢
  rintro e w' ⟨he, hon⟩
  exact ⟨he, ⟨hon.maps, hon.mem, h.dis, hh, (h.fr.any.trans (hon.fr.mono fun k _ hk => h.new k hk) : Fr (From w0) w0 w').ours, h.new⟩, hon.fr⟩

theorem KSt.delete {w0 wr : World} {b mb : Nat} {S : List Tab} {m : List Reg} {A H T : Nat → Prop} (h : KSt w0 b mb S m A H T wr) (i : Int) (key : List UInt8) (S' : List Tab) (r : Int) (hr : mdelete S i key = (S', r)) :
    Calls Try.prog 10 #[.pointer (some ⟨b, 0, none⟩), .int .i64 i, .string ⟨key.toArray⟩] wr fun e w' => e = .returned (.int .i64 r) ∧ Hid (KSt w0 b mb S' m A H T w') ∧ Fr H wr w' := by
  refine (delete_any h.maps i key).mono ?_
  have hh := mdelete_holds h.hold i key
  rw [hr] at hh ⊢
  rintro e w' ⟨he, hf, hm⟩
  exact ⟨he, ⟨hm, h.mem.fr hf (fun k hk => (h.dis k hk).2), h.dis, hh, (h.fr.any.trans (hf.mono fun k _ hk => h.new k (.inl hk)) : Fr (From w0) w0 w').ours, h.new⟩, hf⟩

theorem KSt.entries {w0 wr : World} {b mb : Nat} {S : List Tab} {m : List Reg} {A H T : Nat → Prop} (h : KSt w0 b mb S m A H T wr) (i : Int) (L : List (List UInt8 × List UInt8)) (hr : mentries S m i = L) :
    Calls Try.prog 14 #[.pointer (some ⟨b, 0, none⟩), .int .i64 i] wr fun e w' => ∃ a c, e = .returned (.slice a L.length c) ∧ Hid (EntsAt w' (.slice a L.length c) L) ∧ Hid (KSt w0 b mb S m A H T w') ∧ Fr No wr w' := by
  refine (entries_any h.maps h.mem i).mono ?_
  rw [hr]
  rintro e w' ⟨u, rfl, he, hf⟩
  obtain ⟨a, c, rfl⟩ := he.form
  exact ⟨a, c, rfl, he, h.to hf, hf⟩

theorem KSt.text {w0 wr : World} {b mb : Nat} {S : List Tab} {m : List Reg} {A H T : Nat → Prop} (h : KSt w0 b mb S m A H T wr) (addr n : Int) (r : List UInt8 × Int) (ha : 0 ≤ addr) (h64 : addr ≤ 18446744073709551615) (h63 : n ≤ 9223372036854775807) (hr : mtext m addr n = r) :
    Calls Try.prog 13 #[.pointer (some ⟨mb, 0, none⟩), .int .u64 addr, .int .i64 n] wr fun e w' => e = .returned (.tuple #[.string ⟨r.1.toArray⟩, .int .i64 r.2]) ∧ Hid (KSt w0 b mb S m A H T w') ∧ Fr No wr w' :=
  (text_any h.mem addr n ha h64 h63).mono fun e w' ⟨he, hf⟩ => ⟨by rw [he, hr], h.to hf, hf⟩

end Go.Proofs.Ytlinnhaodkiolaa
