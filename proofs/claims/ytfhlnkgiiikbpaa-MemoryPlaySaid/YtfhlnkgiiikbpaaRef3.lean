/- firewallref07: Put, Write. -/
import Derived.Test.YtfhlnkgiiikbpaaRef2
import Derived.Test.YtfhlnkgiiikbpaaStr7
import Derived.Deep.RegionWith
import Derived.Deep.DeepCutAuto
import Derived.Deep.RegionHeld3
namespace Go.Proofs.Ytfhlnkgiiikbpaa
open Go.RowKit

set_option maxRecDepth 100000 in
set_option maxHeartbeats 400000 in
theorem refput_at (b g cap L i : Nat) (base addr : Int) (data bs : List UInt8) (dl F n : Nat) (w : World) (hcell : w.cell? ⟨b, 0, none⟩ = some (.slice (some ⟨g, 0, none⟩) L cap))
    (c0 : w.cell? ⟨g, i * 3, none⟩ = some (.int .u64 base)) (c1 : w.cell? ⟨g, i * 3 + 1, none⟩ = some (.string ⟨data.toArray⟩)) (hfz : w.frozen? ⟨g, i * 3 + 1, none⟩ = false)
    (hi : i < L) (hm : L ≤ 1000000) (hdl : data.length = dl) (hd63 : dl ≤ 9223372036854775807) (hF : addr - base = F) (hn : bs.length = n) (hFn : F + n ≤ dl) (hne : ¬ b = g) (hne2 : ¬ g = b)
    (hat : Calls Try.prog 34 #[.pointer (some ⟨b, 0, none⟩), .int .u64 addr, .int .i64 n] w fun e w' => e = .returned (.int .i64 i) ∧ Fr No w w') :
    Calls Try.prog 35 #[.pointer (some ⟨b, 0, none⟩), .int .u64 addr, .string ⟨bs.toArray⟩] w fun e w' => e = .returned (.tuple #[]) ∧ ∃ w1, Fr No w w1 ∧ w' = (w1.setCell ⟨g, i * 3 + 1, none⟩ (.string ⟨(data.take F ++ bs ++ data.drop (F + n)).toArray⟩)).drew := by
  have HA : Hid (Calls Try.prog 34 #[.pointer (some ⟨b, 0, none⟩), .int .u64 addr, .int .i64 n] w fun e w' => e = .returned (.int .i64 i) ∧ Hid (Fr No w w') ∧ w'.cell? ⟨b, 0, none⟩ = some (.slice (some ⟨g, 0, none⟩) L cap) ∧ w'.cell? ⟨g, i * 3, none⟩ = some (.int .u64 base) ∧ w'.cell? ⟨g, i * 3 + 1, none⟩ = some (.string ⟨data.toArray⟩) ∧ w'.frozen? ⟨g, i * 3 + 1, none⟩ = false) :=
    hat.mono fun _ _ ⟨he, hf⟩ => ⟨he, hf, hf.cell hcell id, hf.cell c0 id, hf.cell c1 id, by rw [hf.frozen c1 id]; exact hfz⟩
  have sz : (⟨data.toArray⟩ : ByteArray).size = dl := hdl
  have sz2 : (⟨bs.toArray⟩ : ByteArray).size = n := hn
  have x1 : IntKind.u64.wrap (addr - base) = F := by rw [hF]; exact IntWalk.u64_in _ (by omega)
  have x2 : IntKind.i64.wrap (F : Int) = F := IntWalk.i64_in _ (by omega)
  have x3 : IntKind.i64.wrap ((F : Int) + n) = F + n := IntWalk.i64_in _ (by omega)
  obtain ⟨D1, hD1⟩ : ∃ D1, D1 = data.take F ++ bs := ⟨_, rfl⟩
  obtain ⟨E, hE⟩ : ∃ E, E = data.take F ++ bs ++ data.drop (F + n) := ⟨_, rfl⟩
  have ha1 : ∀ W, (Op.stringOp .add ((⟨data.toArray⟩ : ByteArray).extract 0 F) ⟨bs.toArray⟩).run Try.prog W = .ok (.string ⟨D1.toArray⟩) W := fun W => by
    rw [ext_take, run_string_add_sum, bapp, hD1]
    simp [ByteArray.size]; omega
  have ha2 : ∀ W, (Op.stringOp .add ⟨D1.toArray⟩ ((⟨data.toArray⟩ : ByteArray).extract ((F : Int) + n).toNat dl)).run Try.prog W = .ok (.string ⟨E.toArray⟩) W := fun W => by
    rw [show ((F : Int) + n).toNat = F + n by omega, ext_drop _ _ _ hdl, run_string_add_sum, bapp, hD1, hE]
    simp [ByteArray.size, hD1]; omega
  rw [← hE]
  have b1 : (0 : Int) ≤ (F : Int) := by omega
  have b2 : (F : Int) ≤ (dl : Int) := by omega
  have b3 : (0 : Int) ≤ (F : Int) + n := by omega
  have b4 : (F : Int) + n ≤ (dl : Int) := by omega
  have b5 : (0 : Int) ≤ (i : Int) := by omega
  have b6 : (i : Int) < (L : Int) := by omega
  clear hat hcell c0 c1 hfz hdl hF hn hD1 hE
  go_enter Try.func35, Try.ntmps35
  go_wp2_with (go_at_call 34; (with_reducible refine HA.out.mono ?_); rintro e w1 ⟨rfl, hf, d0, d1, d2, d3⟩)
  go_region_held3 (fun W => W.cell? ⟨b, 0, none⟩ = some (.slice (some ⟨g, 0, none⟩) L cap)) (first | assumption | go_keep) (fail)
  go_end0
  exact ⟨rfl, w1, hf.out, rfl⟩

theorem modify_is_set (m : List Reg) (i : Nat) (r : Reg) (f : Reg → Reg) (hr : m[i]? = some r) : m.modify i f = m.set i (f r) := by
  apply List.ext_getElem?
  intro j
  rw [List.getElem?_modify, List.getElem?_set]
  by_cases e : i = j
  · subst e
    obtain ⟨hk, hx⟩ := List.getElem?_eq_some_iff.1 hr
    simp [hk, hx]
  · simp [e]

/-- the document's memory, and the region i's cells -/
structure RefOn (w0 : World) (b g cap i L : Nat) (free : Bool) (m : List Reg) (S : Nat → Prop) (W : World) : Prop where
  at' : Hid (RefAt W b m S)
  fr : Hid (Fr S w0 W)
  c0 : W.cell? ⟨b, 0, none⟩ = some (.slice (some ⟨g, 0, none⟩) L cap)
  c2 : W.cell? ⟨g, i * 3 + 2, none⟩ = some (.bool free)

theorem RefOn.to {w0 : World} {b g cap i L : Nat} {free : Bool} {m : List Reg} {S : Nat → Prop} {W W' : World} (h : RefOn w0 b g cap i L free m S W) (hf : Fr No W W') : RefOn w0 b g cap i L free m S W' :=
  ⟨h.at'.out.fr hf (fun _ _ => id), h.fr.out.trans hf.any, hf.cell h.c0 id, hf.cell h.c2 id⟩

/-- what Write calls, at a region that is there -/
structure RefWr (w0 : World) (b g cap i L : Nat) (free : Bool) (m : List Reg) (S : Nat → Prop) (addr n : Int) (V : Nat) (bs : List UInt8) (m' : List Reg) : Prop where
  read : ∀ W, Hid (RefOn w0 b g cap i L free m S W) → Calls Try.prog 20 #[.pointer (some ⟨b, 0, none⟩), .int .u64 addr, .int .i64 n] W fun e w' => ∃ x, e = .returned (.tuple #[x, .int .i64 0]) ∧ Hid (RefOn w0 b g cap i L free m S w') ∧ w'.cell? ⟨b, 0, none⟩ = some (.slice (some ⟨g, 0, none⟩) L cap) ∧ w'.cell? ⟨g, i * 3 + 2, none⟩ = some (.bool free)
  «at» : ∀ W, Hid (RefOn w0 b g cap i L free m S W) → Calls Try.prog 34 #[.pointer (some ⟨b, 0, none⟩), .int .u64 addr, .int .i64 n] W fun e w' => e = .returned (.int .i64 i) ∧ Hid (RefOn w0 b g cap i L free m S w') ∧ w'.cell? ⟨b, 0, none⟩ = some (.slice (some ⟨g, 0, none⟩) L cap) ∧ w'.cell? ⟨g, i * 3 + 2, none⟩ = some (.bool free)
  bytes : ∀ W, Hid (RefOn w0 b g cap i L free m S W) → Calls Try.prog 36 #[.int .u64 V, .int .i64 n] W fun e w' => e = .returned (.string ⟨bs.toArray⟩) ∧ Hid (RefOn w0 b g cap i L free m S w')
  put : ∀ W, Hid (RefOn w0 b g cap i L free m S W) → Calls Try.prog 35 #[.pointer (some ⟨b, 0, none⟩), .int .u64 addr, .string ⟨bs.toArray⟩] W fun e w' => e = .returned (.tuple #[]) ∧ Hid (Fr S w0 w') ∧ Hid (RefAt w' b m' S)

theorem RefWr.make {S : Nat → Prop} {w0 : World} {b g cap i : Nat} {m : List Reg} {r : Reg} (hm : m.length ≤ 1000000) (addr n : Int) (V : Nat) (ha : 0 ≤ addr) (h64 : addr ≤ 18446744073709551615) (hV : V < 2 ^ 64) (hs : sizeOk n = true) (hsp : spot m addr n = some i) (hr : m[i]? = some r) :
    RefWr w0 b g cap i m.length r.free m S addr n V (leBytes n.toNat V) (mput m addr (leBytes n.toNat V)) where
  read := fun W h => by
    have hn := (sizeOk_iff n).1 hs
    refine (refread_any h.out.at'.out hm addr n ha h64).mono ?_
    rintro e w' ⟨rfl, hf⟩
    have := h.out.to hf
    exact ⟨_, by rw [mread, if_pos hs, mtext_some (by omega) hsp hr], this, this.c0, this.c2⟩
  «at» := fun W h => by
    have hn := (sizeOk_iff n).1 hs
    refine (refat_any h.out.at'.out hm addr n ha h64 (by omega) (by omega)).mono ?_
    rintro e w' ⟨rfl, hf⟩
    have := h.out.to hf
    exact ⟨by rw [spotInt, hsp], this, this.c0, this.c2⟩
  bytes := fun W h => by
    have hn := (sizeOk_iff n).1 hs
    have := refbytes_any V n.toNat W hV (by omega)
    rw [show ((n.toNat : Nat) : Int) = n by omega] at this
    refine this.mono ?_
    rintro e w' ⟨rfl, hb⟩
    exact ⟨rfl, h.out.to (Fr.of_below hb)⟩
  put := fun W h => by
    have hn := (sizeOk_iff n).1 hs
    have hi := spot_lt hsp
    have hh := (Reg.has_iff _ _ _).1 (spot_has hsp)
    have hx : m[i] = r := by rw [List.getElem?_eq_getElem hi] at hr; exact Option.some.inj hr
    rw [hx] at hh
    have hre := h.out.at'.out
    have o := hre.wf.ok r (by rw [← hx]; exact List.getElem_mem hi)
    have hN : ((leBytes n.toNat V).length : Int) = n := by simp; omega
    obtain ⟨v, hc, ⟨rfl, rfl⟩ | ⟨g', cap', rfl, hcap, h0, hc2, ho, hne, hS⟩⟩ := id hre.list
    · simp at hi
    have hc0 := h.out.c0
    rw [hc0] at hc
    have e0 := Option.some.inj hc
    injection e0 with e1 _ e3
    have e4 := Option.some.inj e1
    injection e4 with e5 _ _
    subst e5
    subst e3
    obtain ⟨c0, c1, _⟩ := areg_cells0 hc2 hr
    have hat := refat_any hre hm addr n ha h64 (by omega) (by omega)
    have hat2 : Calls Try.prog 34 #[.pointer (some ⟨b, 0, none⟩), .int .u64 addr, .int .i64 ((leBytes n.toNat V).length : Int)] W fun e w' => e = .returned (.int .i64 i) ∧ Fr No W w' := by
      rw [hN]
      refine hat.mono ?_
      rintro e w' ⟨rfl, hf⟩
      exact ⟨by rw [spotInt, hsp], hf⟩
    have hF : addr - r.base = ((addr - r.base).toNat : Int) := by omega
    have hfz : W.frozen? ⟨g, i * 3 + 1, none⟩ = false := by
      have := ho (i * 3 + 1) (by omega)
      rwa [Nat.zero_add] at this
    refine (refput_at b g cap m.length i r.base addr r.data (leBytes n.toNat V) r.data.length (addr - r.base).toNat (leBytes n.toNat V).length W hc0 c0 c1 hfz hi hm rfl o.small hF rfl (by omega) (fun e => hne e.symm) hne hat2).mono ?_
    rintro e w' ⟨rfl, w1, hf, rfl⟩
    have hp := (hre.fr hf (fun _ _ => id)).put (hf.cell hc0 id) i r hr (r.data.take (addr - r.base).toNat ++ leBytes n.toNat V ++ r.data.drop ((addr - r.base).toNat + (leBytes n.toNat V).length)) (by simp; omega)
    have hmp : mput m addr (leBytes n.toNat V) = m.set i { r with data := r.data.take (addr - r.base).toNat ++ leBytes n.toNat V ++ r.data.drop ((addr - r.base).toNat + (leBytes n.toNat V).length) } := by
      have hsp2 : spot m addr ((leBytes n.toNat V).length : Int) = some i := by rw [hN]; exact hsp
      rw [mput, hsp2]
      show m.modify i (·.put addr (leBytes n.toNat V)) = _
      rw [modify_is_set m i r _ hr]
      rfl
    rw [hmp]
    exact ⟨rfl, ((h.out.fr.out.trans hf.any).setCell (.inr hp.2) _).drew, hp.1.fr ((Fr.refl No _).drew) (fun _ _ => id)⟩

set_option maxHeartbeats 400000 in
theorem refwrite_err (p addr n v : Value) (err : Int) (w : World) (he : (err != 0) = true)
    (hr : Calls Try.prog 20 #[p, addr, n] w fun e w' => ∃ x, e = .returned (.tuple #[x, .int .i64 err]) ∧ Fr No w w') :
    Calls Try.prog 21 #[p, addr, n, v] w fun e w' => e = .returned (.int .i64 err) ∧ Fr No w w' := by
  have HR := Lib.hid hr
  clear hr
  go_enter Try.func21, Try.ntmps21
  go_wp2_with (go_at_call 20; (with_reducible refine HR.out.mono ?_); rintro e w1 ⟨x, rfl, hf⟩)
  go_ret
  exact ⟨rfl, hf⟩

def RefWrPost (w : World) (b : Nat) (free : Bool) (m m' : List Reg) (S : Nat → Prop) (e : Ending) (w' : World) : Prop :=
  (free = true → e = .returned (.int .i64 0) ∧ Fr S w w' ∧ RefAt w' b m' S) ∧ (free = false → e = .returned (.int .i64 71) ∧ Fr S w w' ∧ RefAt w' b m S)

set_option maxRecDepth 100000 in
set_option maxHeartbeats 1000000 in
theorem refwrite_walk (w : World) (b g cap i L : Nat) (free : Bool) (m : List Reg) (S : Nat → Prop) (addr n : Int) (V : Nat) (bs : List UInt8) (m' : List Reg) (hi : i < L) (hL : L ≤ 1000000) (H : Hid (RefWr w b g cap i L free m S addr n V bs m')) (h0 : Hid (RefOn w b g cap i L free m S w)) :
    Calls Try.prog 21 #[.pointer (some ⟨b, 0, none⟩), .int .u64 addr, .int .i64 n, .int .u64 V] w (RefWrPost w b free m m' S) := by
  have b5 : (0 : Int) ≤ (i : Int) := by omega
  have b6 : (i : Int) < (L : Int) := by omega
  go_enter Try.func21, Try.ntmps21
  go_upto_region 4 with (go_at_call 20; (with_reducible refine (H.out.read _ h0).mono ?_); rintro e w1 ⟨x, rfl, h1, c0, c2⟩)
  have h1d : Hid (RefOn w b g cap i L free m S w1.drew) := h1.out.to ((Fr.refl _ _).drew)
  go_region_held3 (fun W => W.cell? ⟨b, 0, none⟩ = some (.slice (some ⟨g, 0, none⟩) L cap) ∧ W.cell? ⟨g, i * 3 + 2, none⟩ = some (.bool free)) (first | (constructor <;> assumption) | go_keep) (first | (go_at_call 34; (with_reducible refine (H.out.at _ h1d).mono ?_); rintro e w2 ⟨rfl, h2, d0, d2⟩))
  cases free with
  | true =>
    go_wp2_with (first
      | (go_at_call 36; (with_reducible refine (H.out.bytes _ h2).mono ?_); rintro e w3 ⟨rfl, h3⟩)
      | (go_at_call 35; (with_reducible refine (H.out.put _ h3).mono ?_); rintro e w4 ⟨rfl, hf4, h4⟩))
    go_ret
    exact ⟨fun _ => ⟨rfl, hf4.out, h4.out⟩, fun h => Bool.noConfusion h⟩
  | false =>
    go_wp2_with fail
    go_ret
    exact ⟨fun h => Bool.noConfusion h, fun _ => ⟨rfl, h2.out.fr.out, h2.out.at'.out⟩⟩

theorem refwrite_any {S : Nat → Prop} {w : World} {b : Nat} {m : List Reg} (h : RefAt w b m S) (hm : m.length ≤ 1000000) (addr n : Int) (v : Nat) (ha : 0 ≤ addr) (h64 : addr ≤ 18446744073709551615) (hv : v < 2 ^ 64) :
    Calls Try.prog 21 #[.pointer (some ⟨b, 0, none⟩), .int .u64 addr, .int .i64 n, .int .u64 v] w fun e w' =>
      e = .returned (.int .i64 (mwrite m addr n v).2) ∧ Fr S w w' ∧ RefAt w' b (mwrite m addr n v).1 S := by
  have hrd := refread_any h hm addr n ha h64
  by_cases hs : sizeOk n = true
  · have hn := (sizeOk_iff n).1 hs
    cases hsp : spot m addr n with
    | none =>
      have e1 : mread m addr n = (leNum [], 70) := by rw [mread, if_pos hs, mtext_none (by omega) hsp]
      have e2 : mwrite m addr n v = (m, 70) := by rw [mwrite, if_pos hs, hsp]
      rw [e1] at hrd
      rw [e2]
      refine (refwrite_err _ _ _ _ 70 w (by decide) (hrd.mono fun _ _ ⟨he, hf⟩ => ⟨_, he, hf⟩)).mono ?_
      rintro e w' ⟨rfl, hf⟩
      exact ⟨rfl, hf.any, h.fr hf (fun _ _ => id)⟩
    | some i =>
      have hi := spot_lt hsp
      have hr : m[i]? = some m[i] := List.getElem?_eq_getElem hi
      have e2 : mwrite m addr n v = if m[i].free then (mput m addr (leBytes n.toNat v), 0) else (m, 71) := by
        rw [mwrite, if_pos hs, hsp]; simp [hr]
      obtain ⟨val, hc, ⟨rfl, rfl⟩ | ⟨g, cap, rfl, _, h0, hc2, _⟩⟩ := h.list
      · simp at hi
      obtain ⟨_, _, c2⟩ := areg_cells0 hc2 hr
      refine (refwrite_walk w b g cap i m.length m[i].free m S addr n v _ _ hi hm (RefWr.make hm addr n v ha h64 hv hs hsp hr) ⟨h, Fr.refl _ _, hc, c2⟩).mono ?_
      rintro e w' ⟨p1, p2⟩
      rw [e2]
      cases hfr : m[i].free with
      | true => exact p1 hfr
      | false => exact p2 hfr
  · have e1 : mread m addr n = (0, 2) := by rw [mread, if_neg hs]
    have e2 : mwrite m addr n v = (m, 2) := by rw [mwrite, if_neg hs]
    rw [e1] at hrd
    rw [e2]
    refine (refwrite_err _ _ _ _ 2 w (by decide) (hrd.mono fun _ _ ⟨he, hf⟩ => ⟨_, he, hf⟩)).mono ?_
    rintro e w' ⟨rfl, hf⟩
    exact ⟨rfl, hf.any, h.fr hf (fun _ _ => id)⟩

end Go.Proofs.Ytfhlnkgiiikbpaa
