/- maps over a memory, both made by the call: what each function does to the pair. No condition. firewalllaw08.Same: are two lists of entries the same. firewalllaw07.laid: the chapter's regions. firewalllaw08.kept: the chapter's maps. firewalllaw08.Great: are acts more than is gone through. -/
import Derived.Test.YtlinnhaodkiolaaGreatBundle10
import Derived.Test.YtlinnhaodkiolaaGreatBundle8
namespace Go.Proofs.YtlinnhaodkiolaaGreat
open Go.RowKit

theorem mregs_wf {l : List MapD} (h : mayL l = true) : WF (mregs l) := by
  obtain ⟨h4, hm⟩ := (mayL_iff l).1 h
  have key : ∀ i (hi : i < (mregs l).length), ∃ x : MapD, x.may = true ∧ (mregs l)[i] = x.reg i ∧ i < 4 := fun i hi => by
    have hl : i < l.length := by rw [mregs_length] at hi; exact hi
    have hg := mregs_get l i
    rw [List.getElem?_eq_getElem hi, List.getElem?_eq_getElem hl] at hg
    exact ⟨l[i], hm _ (List.getElem_mem hl), Option.some.inj hg, by omega⟩
  have size : ∀ (x : MapD) (i : Nat), x.may = true → 1 ≤ (x.reg i).data.length ∧ (x.reg i).data.length ≤ 1024 := fun x i hx => by
    have h := (MapD.may_iff x).1 hx
    have e1 : 1 ≤ x.value * x.max := Int.le_trans (by omega) (Int.mul_le_mul (a := 1) (b := 1) (by omega) (by omega) (by omega) (by omega))
    have e2 : x.value * x.max ≤ 64 * 16 := Int.mul_le_mul (by omega) (by omega) (by omega) (by omega)
    have : (x.reg i).data.length = (x.value * x.max).toNat := by show (List.replicate _ _).length = _; simp
    omega
  refine ⟨fun r hr => ?_, ?_, by rw [mregs_length]; omega⟩
  · obtain ⟨i, hi, rfl⟩ := List.getElem_of_mem hr
    obtain ⟨x, hx, e, h4⟩ := key i hi
    rw [e]
    have := size x i hx
    have hb : (x.reg i).base = mbase i := rfl
    exact ⟨by rw [hb]; unfold mbase; omega, by omega, by unfold Reg.len; rw [hb]; unfold mbase; omega, by omega⟩
  · rw [List.pairwise_iff_getElem]
    intro i j hi hj hij
    obtain ⟨x, hx, e, _⟩ := key i hi
    obtain ⟨y, hy, e2, _⟩ := key j hj
    rw [e, e2]
    have := size x i hx
    show mbase i + (((x.reg i).data.length : Nat) : Int) ≤ mbase j
    unfold mbase
    omega

theorem mregs_ok {l : List MapD} (h : mayL l = true) : MemOk (mregs l) := by
  have hw := mregs_wf h
  obtain ⟨h4, hm⟩ := (mayL_iff l).1 h
  refine ⟨by rw [mregs_length]; omega, fun r hr => ?_⟩
  obtain ⟨i, hi, rfl⟩ := List.getElem_of_mem hr
  have hl : i < l.length := by rw [mregs_length] at hi; exact hi
  have hg := mregs_get l i
  rw [List.getElem?_eq_getElem hi, List.getElem?_eq_getElem hl] at hg
  rw [Option.some.inj hg]
  have h := (MapD.may_iff _).1 (hm _ (List.getElem_mem hl))
  have e2 : l[i].value * l[i].max ≤ 64 * 16 := Int.mul_le_mul (by omega) (by omega) (by omega) (by omega)
  show (List.replicate _ _).length ≤ _
  simp
  omega

theorem holds_self {l : List MapD} (h : mayL l = true) : holdsB (mregsOf l) (mregs l) = true := by
  unfold holdsB mregsOf
  rw [if_pos h, List.all_eq_true]
  intro x hx
  rw [List.any_eq_true]
  refine ⟨x, hx, ?_⟩
  unfold fits
  obtain ⟨i, hi, rfl⟩ := List.getElem_of_mem hx
  have hl : i < l.length := by rw [mregs_length] at hi; exact hi
  have hg := mregs_get l i
  rw [List.getElem?_eq_getElem hi, List.getElem?_eq_getElem hl] at hg
  rw [Option.some.inj hg]
  simp [MapD.reg]

theorem holds_new {l : List MapD} {m : List Reg} (h : mayL l = true) (hh : holdsB (mregsOf l) m = true) : HoldsM (l.map Tab.new) m := by
  intro i t hi
  rw [List.getElem?_map] at hi
  obtain ⟨d, hd, rfl⟩ := Option.map_eq_some_iff.1 hi
  unfold holdsB mregsOf at hh
  rw [if_pos h, List.all_eq_true] at hh
  have hr : (mregs l)[i]? = some (d.reg i) := by rw [mregs_get, hd]; rfl
  have := hh _ (List.mem_of_getElem? hr)
  rw [List.any_eq_true] at this
  obtain ⟨y, hy, hf⟩ := this
  unfold fits at hf
  obtain ⟨f1, f2, f3⟩ := of_decide_eq_true hf
  obtain ⟨j, hj, rfl⟩ := List.getElem_of_mem hy
  have hmay := (MapD.may_iff d).1 (((mayL_iff l).1 h).2 d (List.mem_of_getElem? hd))
  have e1 : 0 ≤ d.value * d.max := Int.mul_nonneg (by omega) (by omega)
  refine ⟨j, m[j], List.getElem?_eq_getElem hj, f1, ?_, f3⟩
  rw [f2]
  show (((List.replicate (d.value * d.max).toNat (0 : UInt8)).length : Nat) : Int) = d.value * d.max
  simp
  omega

/-- what an Update leaves still holds the regions -/
theorem mupdate_holds {S : List Tab} {m : List Reg} (hS : ∀ t ∈ S, t.ok) (hw : WF m) (h : HoldsM S m) (i : Int) (key val : List UInt8) : HoldsM (mupdate S m i key val).1.1 (mupdate S m i key val).1.2 := by
  unfold mupdate
  cases hm : mhas S i key with
  | none => exact h
  | some t =>
    obtain ⟨k, rfl, hk, hkl⟩ := mhas_some hm
    have ok := hS t (List.mem_of_getElem? hk)
    by_cases hlen : (val.length : Int) = t.d.value
    · simp only [hlen, if_true, Int.toNat_natCast]
      have lay : ∀ p, p < t.ks.length → ∃ (j : Nat) (r : Reg), m[j]? = some r ∧ r.base ≤ mplace k p t ∧ mplace k p t + val.length ≤ r.base + (r.data.length : Int) := fun p hp => by
        obtain ⟨j, r, a, b, c, _⟩ := h.place hk ok hp
        exact ⟨j, r, a, b, by rw [hlen]; exact c⟩
      cases hf : t.find key with
      | some p =>
        obtain ⟨j, r, a, b, c⟩ := lay p (find_some hf).1
        exact h.mput hw a b c
      | none =>
        by_cases h1 : t.d.kind = 1
        · simp only [h1, if_true]; exact h
        · simp only [if_neg h1]
          cases he : t.find [] with
          | none => exact h
          | some p =>
            obtain ⟨j, r, a, b, c⟩ := lay p (find_some he).1
            exact (h.mput hw a b c).new hk p key
    · simp only [hlen, if_false]; exact h

theorem mdelete_holds {S : List Tab} {m : List Reg} (h : HoldsM S m) (i : Int) (key : List UInt8) : HoldsM (mdelete S i key).1 m := by
  unfold mdelete
  cases hm : mhas S i key with
  | none => exact h
  | some t =>
    obtain ⟨k, rfl, hk, hkl⟩ := mhas_some hm
    by_cases h1 : t.d.kind = 1
    · simp only [h1, if_true]; exact h
    · simp only [if_neg h1]
      cases hf : t.find key with
      | none => exact h
      | some p => exact h.new hk p []

/-- maps and their memory -/
structure KSt (w0 : World) (b mb : Nat) (S : List Tab) (m : List Reg) (A H T : Nat → Prop) (wr : World) : Prop where
  maps : MapsAt wr b mb S A H
  mem : MemAt wr mb m T
  dis : ∀ k, T k → ¬ A k ∧ ¬ H k
  hold : HoldsM S m
  fr : Fr No w0 wr
  new : ∀ k, H k ∨ T k → From w0 k

theorem KSt.to {w0 wr w' : World} {b mb : Nat} {S : List Tab} {m : List Reg} {A H T : Nat → Prop} (h : KSt w0 b mb S m A H T wr) (hf : Fr No wr w') : KSt w0 b mb S m A H T w' :=
  ⟨h.maps.no hf, h.mem.fr hf (fun _ _ => id), h.dis, h.hold, h.fr.trans hf, h.new⟩

/-- where other blocks turn -/
theorem KSt.apart {w0 wr w' : World} {b mb : Nat} {S : List Tab} {m : List Reg} {A H T X : Nat → Prop} (h : KSt w0 b mb S m A H T wr) (hf : Fr X wr w') (hX : ∀ k, X k → From w0 k) (hA : ∀ k, A k → ¬ X k) (hH : ∀ k, H k → ¬ X k) (hT : ∀ k, T k → ¬ X k) : KSt w0 b mb S m A H T w' :=
  ⟨h.maps.fr hf hA hH, h.mem.fr hf hT, h.dis, h.hold, (h.fr.any.trans (hf.mono fun k _ hk => hX k hk) : Fr (From w0) w0 w').ours, h.new⟩

theorem KSt.len {w0 wr : World} {b mb : Nat} {S : List Tab} {m : List Reg} {A H T : Nat → Prop} (h : KSt w0 b mb S m A H T wr) :
    Calls Tryz.prog 29 #[.pointer (some ⟨b, 0, none⟩)] wr fun e w' => e = .returned (.int .i64 S.length) ∧ wr = w' := by
  obtain ⟨l, rfl, hl⟩ := h.maps
  obtain ⟨a, c, hc⟩ := hl.len
  rw [List.length_map]
  exact mlen_any b _ _ a wr hc

theorem KSt.lookup {w0 wr : World} {b mb : Nat} {S : List Tab} {m : List Reg} {A H T : Nat → Prop} (h : KSt w0 b mb S m A H T wr) (i : Int) (key : List UInt8) (r : Int) (hr : mlookup S i key = r) :
    Calls Tryz.prog 13 #[.pointer (some ⟨b, 0, none⟩), .int .i64 i, .string ⟨key.toArray⟩] wr fun e w' => e = .returned (.int .u64 r) ∧ Hid (KSt w0 b mb S m A H T w') ∧ Fr No wr w' :=
  (lookup_any h.maps i key).mono fun e w' ⟨he, hf⟩ => ⟨by rw [he, hr], h.to hf, hf⟩

theorem KSt.update {w0 wr : World} {b mb : Nat} {S : List Tab} {m : List Reg} {A H T : Nat → Prop} (h : KSt w0 b mb S m A H T wr) (i : Int) (key val : List UInt8) (S' : List Tab) (m' : List Reg) (r : Int) (hr : mupdate S m i key val = ((S', m'), r)) :
    Calls Tryz.prog 26 #[.pointer (some ⟨b, 0, none⟩), .int .i64 i, .string ⟨key.toArray⟩, .string ⟨val.toArray⟩] wr fun e w' => e = .returned (.int .i64 r) ∧ Hid (KSt w0 b mb S' m' A H T w') ∧ Fr (Or2 H T) wr w' := by
  refine (update_any h.maps h.mem h.dis h.hold i key val).mono ?_
  have hh := mupdate_holds h.maps.ok.1 h.mem.wf h.hold i key val
  rw [hr] at hh ⊢
  rintro e w' ⟨he, hon⟩
  exact ⟨he, ⟨hon.maps, hon.mem, h.dis, hh, (h.fr.any.trans (hon.fr.mono fun k _ hk => h.new k hk) : Fr (From w0) w0 w').ours, h.new⟩, hon.fr⟩

theorem KSt.delete {w0 wr : World} {b mb : Nat} {S : List Tab} {m : List Reg} {A H T : Nat → Prop} (h : KSt w0 b mb S m A H T wr) (i : Int) (key : List UInt8) (S' : List Tab) (r : Int) (hr : mdelete S i key = (S', r)) :
    Calls Tryz.prog 15 #[.pointer (some ⟨b, 0, none⟩), .int .i64 i, .string ⟨key.toArray⟩] wr fun e w' => e = .returned (.int .i64 r) ∧ Hid (KSt w0 b mb S' m A H T w') ∧ Fr H wr w' := by
  refine (delete_any h.maps i key).mono ?_
  have hh := mdelete_holds h.hold i key
  rw [hr] at hh ⊢
  rintro e w' ⟨he, hf, hm⟩
  exact ⟨he, ⟨hm, h.mem.fr hf (fun k hk => (h.dis k hk).2), h.dis, hh, (h.fr.any.trans (hf.mono fun k _ hk => h.new k (.inl hk)) : Fr (From w0) w0 w').ours, h.new⟩, hf⟩

theorem KSt.entries {w0 wr : World} {b mb : Nat} {S : List Tab} {m : List Reg} {A H T : Nat → Prop} (h : KSt w0 b mb S m A H T wr) (i : Int) (L : List (List UInt8 × List UInt8)) (hr : mentries S m i = L) :
    Calls Tryz.prog 18 #[.pointer (some ⟨b, 0, none⟩), .int .i64 i] wr fun e w' => ∃ a c, e = .returned (.slice a L.length c) ∧ Hid (EntsAt w' (.slice a L.length c) L) ∧ Hid (KSt w0 b mb S m A H T w') ∧ Fr No wr w' := by
  refine (entries_any h.maps h.mem i).mono ?_
  rw [hr]
  rintro e w' ⟨u, rfl, he, hf⟩
  obtain ⟨a, c, rfl⟩ := he.form
  exact ⟨a, c, rfl, he, h.to hf, hf⟩


theorem KSt.text {w0 wr : World} {b mb : Nat} {S : List Tab} {m : List Reg} {A H T : Nat → Prop} (h : KSt w0 b mb S m A H T wr) (addr n : Int) (r : List UInt8 × Int) (ha : 0 ≤ addr) (h64 : addr ≤ 18446744073709551615) (h63 : n ≤ 9223372036854775807) (hr : mtext m addr n = r) :
    Calls Tryz.prog 48 #[.pointer (some ⟨mb, 0, none⟩), .int .u64 addr, .int .i64 n] wr fun e w' => e = .returned (.tuple #[.string ⟨r.1.toArray⟩, .int .i64 r.2]) ∧ Hid (KSt w0 b mb S m A H T w') ∧ Fr No wr w' :=
  (text_any h.mem addr n ha h64 h63).mono fun e w' ⟨he, hf⟩ => ⟨by rw [he, hr], h.to hf, hf⟩

end Go.Proofs.YtlinnhaodkiolaaGreat

namespace Go.Proofs.YtlinnhaodkiolaaGreat
open Go.RowKit

theorem neq_entry (s1 s2 t1 t2 : ByteArray) (w : World) : (binOp .neq 64 (.agg #[.string s1, .string t1]) (.agg #[.string s2, .string t2])).run Tryz.prog w = .ok (.bool (!(s1.toList == s2.toList && t1.toList == t2.toList))) w := by
  have u9 := Tryz.underlying9
  have a9 := Tryz.isAgg9
  have z9 := Tryz.sizeOf9
  have hS : Tryz.prog.underlying 64 = some (.struct (Tryz.prog.fieldsOf 64)) := by kernel_rfl
  have hp : Tryz.prog.stoodInHeld 64 = false := by kernel_rfl
  rw [run_neq_struct, show (10000 : Nat) = 9999 + 1 from rfl, run_equalIn_agg w 9999 _ _ _ hS hp]
  simp only [Program.fieldsOf, Tryz.underlying64]
  go_simp
  by_cases h2 : s1.toList = s2.toList <;> by_cases h3 : t1.toList = t2.toList <;> simp [h2, h3]

theorem guard_entry (xs ys : Array Value) (op : BinOp) (x y : Operand) (w : World) : (eqGuard op 64 x y (.agg xs) (.agg ys)).run Tryz.prog w = .ok () w := run_eqGuard_agg w op _ x y xs ys (by kernel_rfl)

theorem ent_cell {w : World} {g off : Nat} {l : List (List UInt8 × List UInt8)} (h : CellsAt w g off (eflat (l.map bpair))) {k : Nat} {x : List UInt8 × List UInt8} (hr : l[k]? = some x) :
    w.cell? ⟨g, off + k * 2, none⟩ = some (.string ⟨x.1.toArray⟩) ∧ w.cell? ⟨g, off + k * 2 + 1, none⟩ = some (.string ⟨x.2.toArray⟩) := by
  have key : ∀ (l : List (List UInt8 × List UInt8)) (k : Nat) x, l[k]? = some x → (eflat (l.map bpair))[k * 2]? = some (.string ⟨x.1.toArray⟩) ∧ (eflat (l.map bpair))[k * 2 + 1]? = some (.string ⟨x.2.toArray⟩) := by
    intro l
    induction l with
    | nil => intro k x hx; simp at hx
    | cons y l ih =>
      intro k x hx
      cases k with
      | zero =>
        simp at hx
        subst hx
        simp [eflat, bpair]
      | succ k =>
        have := ih k x (by simpa using hx)
        rw [show (k + 1) * 2 = k * 2 + 1 + 1 by omega]
        simpa [eflat] using this
  obtain ⟨a, b⟩ := key l k x hr
  exact ⟨h _ _ a, h _ _ b⟩

set_option maxRecDepth 100000 in
set_option maxHeartbeats 1000000 in
theorem esame_walk (g1 o1 c1 g2 o2 c2 n : Nat) (l1 l2 : List (List UInt8 × List UInt8)) (w : World) (h1 : l1.length = n) (h2 : l2.length = n) (hc1 : CellsAt w g1 o1 (eflat (l1.map bpair))) (hc2 : CellsAt w g2 o2 (eflat (l2.map bpair))) (hn : 1 ≤ n) (hm : n ≤ 4294967296) :
    Calls Tryz.prog 17 #[.slice (some ⟨g1, o1, none⟩) n c1, .slice (some ⟨g2, o2, none⟩) n c2] w fun e w' => (∃ r : Bool, e = .returned (.bool r) ∧ (r = true ↔ l1 = l2)) ∧ Fr No w w' := by
  have HC1 := Lib.hid hc1
  have HC2 := Lib.hid hc2
  have HL1 := Lib.hid h1
  have HL2 := Lib.hid h2
  have hb1 : g1 < w.heap.size := World.block_lt_of_cell? w _ (ent_cell hc1 (k := 0) (List.getElem?_eq_getElem (by omega))).1
  have hb2 : g2 < w.heap.size := World.block_lt_of_cell? w _ (ent_cell hc2 (k := 0) (List.getElem?_eq_getElem (by omega))).1
  clear hc1 hc2 h1 h2
  go_enter Tryz.func17, Tryz.ntmps17
  go_wp2_with fail
  go_loopw [5] (fun i wr => ∃ (k : Nat), k ≤ n ∧ i = .int .i64 k ∧ Hid (l1.take k = l2.take k) ∧ Hid (Fr No w wr)) (fun i _ => n - (intOf i).toNat)
  case atStart => exact ⟨0, Nat.zero_le _, rfl, Lib.hid (by simp), Fr.refl _ _⟩
  case round =>
    obtain ⟨k, hk, rfl, HI, HF⟩ := hrel
    by_cases hlt : k < n
    · obtain ⟨x, hx⟩ : ∃ x, l1[k]? = some x := ⟨l1[k]'(by rw [HL1.out]; exact hlt), List.getElem?_eq_getElem _⟩
      obtain ⟨y, hy⟩ : ∃ y, l2[k]? = some y := ⟨l2[k]'(by rw [HL2.out]; exact hlt), List.getElem?_eq_getElem _⟩
      obtain ⟨k0, k1⟩ := ent_cell (HF.out.cells HC1.out id) hx
      obtain ⟨m0, m1⟩ := ent_cell (HF.out.cells HC2.out id) hy
      obtain ⟨r, q1, hr⟩ : ∃ r : Bool, (∀ w, (binOp .neq 64 (.agg #[.string ⟨x.1.toArray⟩, .string ⟨x.2.toArray⟩]) (.agg #[.string ⟨y.1.toArray⟩, .string ⟨y.2.toArray⟩])).run Tryz.prog w = .ok (.bool r) w) ∧ (r = false ↔ x = y) := by
        refine ⟨_, neq_entry _ _ _ _, ?_⟩
        rw [Lib.toList_data, Lib.toList_data, Lib.toList_data, Lib.toList_data]
        cases x; cases y; simp
      have HS : Hid ((x = y → l1.take (k + 1) = l2.take (k + 1)) ∧ (x ≠ y → l1 ≠ l2)) := by
        refine ⟨fun e => ?_, fun e h => e ?_⟩
        · rw [List.take_add_one, List.take_add_one, HI.out, hx, hy, e]
        · rw [h, hy] at hx; exact (Option.some.inj hx).symm
      have HR := Lib.hid hr
      generalize (⟨x.1.toArray⟩ : ByteArray) = s1 at *
      generalize (⟨y.1.toArray⟩ : ByteArray) = s2 at *
      generalize (⟨x.2.toArray⟩ : ByteArray) = s3 at *
      generalize (⟨y.2.toArray⟩ : ByteArray) = s4 at *
      have hz := HF.out.size
      have hb1' : g1 < wr.heap.size := by omega
      have hb2' : g2 < wr.heap.size := by omega
      clear hx hy hr hz hb1 hb2
      have q2 := guard_entry
      go_wp2_with fail
      go_quiet (fail)
      cases r with
      | false =>
        go_wp2_with fail
        go_roundw
        case rel => exact ⟨k + 1, by omega, by go_num, Lib.hid (HS.out.1 (HR.out.1 rfl)), HF.out.drewN _⟩
        case measure => simp [intOf] <;> omega
      | true =>
        go_wp2_with fail
        go_ret
        exact ⟨⟨_, rfl, ⟨fun e => (Bool.noConfusion e), fun e => absurd e (HS.out.2 fun e2 => Bool.noConfusion (HR.out.2 e2))⟩⟩, HF.out.drewN _⟩
    · obtain rfl : k = n := by omega
      go_wp2_with fail
      go_ret
      exact ⟨⟨_, rfl, ⟨fun _ => by
        have := HI.out
        rwa [List.take_of_length_le (by rw [HL1.out]; exact Nat.le_refl _), List.take_of_length_le (by rw [HL2.out]; exact Nat.le_refl _)] at this, fun _ => rfl⟩⟩, HF.out⟩

set_option maxHeartbeats 400000 in
theorem esame_unlike (a1 a2 : Option Addr) (c1 c2 n1 n2 : Nat) (w : World) (h : n1 ≠ n2) :
    Calls Tryz.prog 17 #[.slice a1 n1 c1, .slice a2 n2 c2] w fun e w' => e = .returned (.bool false) ∧ w = w' := by
  have h' : ((n1 : Int) == (n2 : Int)) = false := by rw [beq_eq_false_iff_ne]; omega
  go_enter Tryz.func17, Tryz.ntmps17
  go_wp2_with fail
  go_ret
  exact ⟨rfl, rfl⟩

set_option maxHeartbeats 400000 in
theorem esame_zero (a1 a2 : Option Addr) (c1 c2 : Nat) (w : World) :
    Calls Tryz.prog 17 #[.slice a1 0 c1, .slice a2 0 c2] w fun e w' => e = .returned (.bool true) ∧ w = w' := by
  go_enter Tryz.func17, Tryz.ntmps17
  go_wp2_with fail
  refine wp_loop_rounds 1 ?_
  rw [rounds_succ]
  go_wp2_with fail
  go_ret
  exact ⟨rfl, rfl⟩

theorem esame_any (v1 v2 : Value) (l1 l2 : List (List UInt8 × List UInt8)) (w : World) (h1 : EntsAt w v1 l1) (h2 : EntsAt w v2 l2) (hm : l1.length ≤ 4294967296) :
    Calls Tryz.prog 17 #[v1, v2] w fun e w' => (∃ r : Bool, e = .returned (.bool r) ∧ (r = true ↔ l1 = l2)) ∧ Fr No w w' := by
  by_cases hl : l1.length = l2.length
  · rcases Nat.eq_zero_or_pos l1.length with h0 | h0
    · have e1 := List.eq_nil_of_length_eq_zero h0
      have e2 := List.eq_nil_of_length_eq_zero (hl ▸ h0)
      subst e1 e2
      obtain ⟨a1, c1, rfl⟩ : ∃ a c, v1 = .slice a 0 c := by
        rcases h1 with ⟨_, h⟩ | ⟨g, off, cap, rfl, _⟩
        · exact h
        · exact ⟨_, _, rfl⟩
      obtain ⟨a2, c2, rfl⟩ : ∃ a c, v2 = .slice a 0 c := by
        rcases h2 with ⟨_, h⟩ | ⟨g, off, cap, rfl, _⟩
        · exact h
        · exact ⟨_, _, rfl⟩
      exact (esame_zero a1 a2 c1 c2 w).mono fun e w' ⟨he, hw⟩ => ⟨⟨true, he, by simp⟩, hw ▸ Fr.refl _ _⟩
    · rcases h1 with ⟨rfl, _⟩ | ⟨g1, o1, c1, rfl, hc1⟩
      · simp at h0
      rcases h2 with ⟨rfl, _⟩ | ⟨g2, o2, c2, rfl, hc2⟩
      · rw [hl] at h0; simp at h0
      rw [← hl]
      exact esame_walk g1 o1 c1 g2 o2 c2 l1.length l1 l2 w rfl hl.symm hc1 hc2 h0 hm
  · have form : ∀ v l, EntsAt w v l → ∃ a c, v = .slice a l.length c := fun v l h => by
      rcases h with ⟨rfl, a, c, rfl⟩ | ⟨g, off, cap, rfl, _⟩
      · exact ⟨a, c, rfl⟩
      · exact ⟨_, _, rfl⟩
    obtain ⟨a1, c1, rfl⟩ := form v1 l1 h1
    obtain ⟨a2, c2, rfl⟩ := form v2 l2 h2
    exact (esame_unlike a1 a2 c1 c2 _ _ w hl).mono fun e w' ⟨he, hw⟩ => ⟨⟨false, he, by simp; intro e; exact hl (by rw [e])⟩, hw ▸ Fr.refl _ _⟩

end Go.Proofs.YtlinnhaodkiolaaGreat

namespace Go.Proofs.YtlinnhaodkiolaaGreat
open Go.RowKit

/-- regions laid in a block of their own -/
theorem RegsAt.new (w : World) (rs : List Reg) (cap : Nat) (h : ∀ r ∈ rs, r.typed) : RegsAt (w.alloc (.cells (aflat rs).toArray 69)) (.slice (some ⟨w.heap.size, 0, none⟩) rs.length cap) rs :=
  ⟨h, .inr ⟨_, _, _, rfl, CellsAt.new _ _ _⟩⟩

/-- New's answer where the memory is known -/
theorem new_is {rs m : List Reg} {v : Value} {w : World} (h : RegsAt w v rs) (h12 : rs.length ≤ 12) (hp : m.Perm rs) (hm : WF m) :
    Calls Tryz.prog 9 #[v] w fun e w' => ∃ b, e = .returned (.tuple #[.pointer (some ⟨b, 0, none⟩), .int .i64 0]) ∧ Fr No w w' ∧ MemAt w' b m (Made w w') := by
  refine (new_any rs v w h h12).mono ?_
  rintro e w' ⟨hf, ⟨m', b, hp', hm', rfl, hmem⟩ | ⟨hno, _⟩⟩
  · obtain rfl := hm.unique hm' (hp'.trans hp.symm)
    exact ⟨b, rfl, hf, hmem⟩
  · exact absurd ⟨m, hp, hm⟩ hno

theorem new_not {rs : List Reg} {v : Value} {w : World} (h : RegsAt w v rs) (h12 : rs.length ≤ 12) (hno : ¬ ∃ m, m.Perm rs ∧ WF m) :
    Calls Tryz.prog 9 #[v] w fun e w' => e = .returned (.tuple #[.pointer none, .int .i64 2]) ∧ Fr No w w' := by
  refine (new_any rs v w h h12).mono ?_
  rintro e w' ⟨hf, ⟨m', b, hp', hm', _⟩ | ⟨_, rfl⟩⟩
  · exact absurd ⟨m', hp', hm'⟩ hno
  · exact ⟨rfl, hf⟩

theorem text_is {S : Nat → Prop} {w : World} {b : Nat} {m : List Reg} (h : MemAt w b m S) (addr n : Int) (v : List UInt8) (err : Int) (ha : 0 ≤ addr) (h64 : addr ≤ 18446744073709551615) (h63 : n ≤ 9223372036854775807) (he : mtext m addr n = (v, err)) :
    Calls Tryz.prog 48 #[.pointer (some ⟨b, 0, none⟩), .int .u64 addr, .int .i64 n] w fun e w' => e = .returned (.tuple #[.string ⟨v.toArray⟩, .int .i64 err]) ∧ MemAt w' b m S ∧ Fr No w w' :=
  (text_any h addr n ha h64 h63).mono fun e w' ⟨h1, h2⟩ => ⟨by rw [h1, he], h.fr h2 (fun _ _ => id), h2⟩

theorem write_is {S : Nat → Prop} {w : World} {b : Nat} {m : List Reg} (h : MemAt w b m S) (addr n : Int) (v : Nat) (m' : List Reg) (err : Int) (ha : 0 ≤ addr) (h64 : addr ≤ 18446744073709551615) (hv : v < 2 ^ 64) (he : mwrite m addr n v = (m', err)) :
    Calls Tryz.prog 20 #[.pointer (some ⟨b, 0, none⟩), .int .u64 addr, .int .i64 n, .int .u64 v] w fun e w' => e = .returned (.int .i64 err) ∧ MemAt w' b m' S ∧ Fr S w w' :=
  (write_any h addr n v ha h64 hv).mono fun e w' ⟨h1, h2, h3⟩ => ⟨by rw [h1, he], by rw [he] at h3; exact h3, h2⟩

def laidIn : List Reg := [⟨18, [3], false⟩, ⟨16, [1, 2], true⟩]
def laidM : List Reg := [⟨16, [1, 2], true⟩, ⟨18, [3], false⟩]
def laidM2 : List Reg := [⟨16, [1, 5], true⟩, ⟨18, [3], false⟩]
theorem laidM_wf : WF laidM := ⟨by
  intro r hr
  simp [laidM] at hr
  rcases hr with rfl | rfl <;> exact ⟨by decide, by decide, by simp [Reg.len], by decide⟩, by simp [laidM, Reg.len], by decide⟩
theorem laid_over : ¬ ∃ m, m.Perm [(⟨16, [97], false⟩ : Reg), ⟨16, [98], false⟩] ∧ WF m := by
  rintro ⟨m, hp, hm⟩
  have := base_inj hm (hp.mem_iff.2 (List.mem_cons_self)) (hp.mem_iff.2 (List.mem_cons_of_mem _ (List.mem_cons_self))) rfl
  cases this

end Go.Proofs.YtlinnhaodkiolaaGreat

namespace Go.Proofs.YtlinnhaodkiolaaGreat
open Go.RowKit

theorem mem_of_maps (l : List MapD) (h : mayL l = true) (u : Value) (W : World) (hu : RegsAt W u (mregsOf l)) :
    Calls Tryz.prog 9 #[u] W fun e w' => ∃ mb, e = .returned (.tuple #[.pointer (some ⟨mb, 0, none⟩), .int .i64 0]) ∧ Hid (MemAt w' mb (mregs l) (Made W w')) ∧ Fr No W w' := by
  have e1 : mregsOf l = mregs l := by unfold mregsOf; rw [if_pos h]
  rw [e1] at hu
  refine (new_is hu (by rw [mregs_length]; have := ((mayL_iff l).1 h).1; omega) (List.Perm.refl _) (mregs_wf h)).mono ?_
  rintro e w' ⟨b, he, hf, hm⟩
  exact ⟨b, he, hm, hf⟩

theorem maps_over (w0 : World) (l : List MapD) (h : mayL l = true) (v : Value) (mb : Nat) (T : Nat → Prop) (W : World) (hv : MapsIn W v l) (hm : MemAt W mb (mregs l) T) (hT : ∀ k, T k → From w0 k ∧ k < W.heap.size) (hf : Fr No w0 W) :
    Calls Tryz.prog 11 #[v, .pointer (some ⟨mb, 0, none⟩)] W fun e w' => ∃ b A H, e = .returned (.tuple #[.pointer (some ⟨b, 0, none⟩), .int .i64 0]) ∧ Hid (KSt w0 b mb (l.map Tab.new) (mregs l) A H T w') ∧ Hid (∀ k, A k ∨ H k ∨ T k → k < w'.heap.size) ∧ Fr No W w' := by
  have h4 := ((mayL_iff l).1 h).1
  refine (mnew_any hm (mregs_ok h) v l hv (by omega)).mono ?_
  intro e w' hq
  unfold NewQ at hq
  rw [if_pos ⟨h, holds_self h⟩] at hq
  obtain ⟨b, he, ⟨A, H, ha, hA, hH⟩, hf2⟩ := hq
  have hsz := hf.size
  have hsz2 := hf2.size
  refine ⟨b, A, H, he, ⟨ha, hm.fr hf2 (fun _ _ => id), fun k hk => ⟨fun hk2 => ?_, fun hk2 => ?_⟩, holds_new h (holds_self h), hf.trans hf2, fun k hk => ?_⟩, (fun k hk => ?_), hf2⟩
  · have := (hT k hk).2
    rcases hA k hk2 with h | h
    · omega
    · exact h
  · have := (hT k hk).2
    have := hH k hk2
    omega
  · rcases hk with hk | hk
    · have := hH k hk
      unfold From
      omega
    · exact (hT k hk).1
  · rcases hk with hk | hk | hk
    · rcases hA k hk with h | h
      · exact h.2
      · exact h.elim
    · exact (hH k hk).2
    · have := (hT k hk).2
      omega

theorem KSt.updates {w0 wr : World} {b mb : Nat} {S : List Tab} {m : List Reg} {A H T : Nat → Prop} (h : KSt w0 b mb S m A H T wr) (i : Int) (key val : List UInt8) (r : Int) (hr : (mupdate S m i key val).2 = r) :
    Calls Tryz.prog 26 #[.pointer (some ⟨b, 0, none⟩), .int .i64 i, .string ⟨key.toArray⟩, .string ⟨val.toArray⟩] wr fun e w' => e = .returned (.int .i64 r) ∧ Hid (KSt w0 b mb (mupdate S m i key val).1.1 (mupdate S m i key val).1.2 A H T w') ∧ Fr (Or2 H T) wr w' :=
  h.update i key val _ _ r (by rw [← hr])

theorem KSt.deletes {w0 wr : World} {b mb : Nat} {S : List Tab} {m : List Reg} {A H T : Nat → Prop} (h : KSt w0 b mb S m A H T wr) (i : Int) (key : List UInt8) (r : Int) (hr : (mdelete S i key).2 = r) :
    Calls Tryz.prog 15 #[.pointer (some ⟨b, 0, none⟩), .int .i64 i, .string ⟨key.toArray⟩] wr fun e w' => e = .returned (.int .i64 r) ∧ Hid (KSt w0 b mb (mdelete S i key).1 m A H T w') ∧ Fr H wr w' :=
  h.delete i key _ r (by rw [← hr])

theorem EntsAt.new (w : World) (l : List (List UInt8 × List UInt8)) (cap : Nat) : EntsAt (w.alloc (.cells (eflat (l.map bpair)).toArray 64)) (.slice (some ⟨w.heap.size, 0, none⟩) l.length cap) l :=
  .inr ⟨_, _, _, rfl, CellsAt.new _ _ _⟩

theorem esame_yes (v1 v2 : Value) (l : List (List UInt8 × List UInt8)) (w : World) (h1 : EntsAt w v1 l) (h2 : EntsAt w v2 l) (hm : l.length ≤ 4294967296) :
    Calls Tryz.prog 17 #[v1, v2] w fun e w' => e = .returned (.bool true) ∧ Fr No w w' :=
  (esame_any v1 v2 l l w h1 h2 hm).mono fun e w' ⟨⟨r, he, hr⟩, hf⟩ => ⟨by rw [he, hr.2 rfl], hf⟩

def keptL : List MapD := [⟨1, 4, 1, 2⟩, ⟨2, 1, 2, 1⟩]
def kS0 : List Tab := keptL.map Tab.new
def kM0 : List Reg := mregs keptL
def kU1 := mupdate kS0 kM0 1 [97] [120, 121]
def kU2 := mupdate kU1.1.1 kU1.1.2 1 [98] [120, 121]
def kU3 := mupdate kU2.1.1 kU2.1.2 0 [2, 0, 0, 0] [120]
def kU4 := mupdate kU3.1.1 kU3.1.2 0 [1, 0, 0, 0] [120]
def kD1 := mdelete kU4.1.1 0 [1, 0, 0, 0]
def kD2 := mdelete kD1.1 1 [97]
def kD3 := mdelete kD2.1 1 [97]

theorem keptIn (w : World) : MapsIn (w.alloc (.cells #[.int .i64 1, .int .i64 4, .int .i64 1, .int .i64 2, .int .i64 2, .int .i64 1, .int .i64 2, .int .i64 1] 62)) (.slice (some ⟨w.heap.size, 0, none⟩) 2 2) keptL :=
  .inr ⟨_, _, _, rfl, CellsAt.new w (mflat keptL) _⟩

set_option maxRecDepth 100000 in
set_option maxHeartbeats 2000000 in
theorem kept_any (w : World) : Calls Tryz.prog 5 #[] w fun e w' => e = .returned (.bool true) ∧ Fr No w w' := by
  have HI := Lib.hid (keptIn w)
  go_enter Tryz.func5, Tryz.ntmps5
  go_wp2_with fail
  refine (mregions_any _ keptL _ HI.out (by decide)).mono ?_
  rintro e w1 ⟨u, rfl, hu, hf1⟩
  have HF1 : Hid (Fr No w w1) := ((Fr.refl _ _).alloc _).trans hf1
  have HI1 : Hid (MapsIn w1 (.slice (some ⟨w.heap.size, 0, none⟩) 2 2) keptL) := HI.out.fr hf1
  have HU := Lib.hid hu
  clear hf1 hu HI
  go_wp2_with fail
  refine (mem_of_maps keptL (by decide) u w1 HU.out).mono ?_
  rintro e w2 ⟨mb, rfl, HM, hf2⟩
  have HF2 : Hid (Fr No w w2) := HF1.out.trans hf2
  have HI2 : Hid (MapsIn w2 (.slice (some ⟨w.heap.size, 0, none⟩) 2 2) keptL) := HI1.out.fr hf2
  have HT : Hid (∀ k, Made w1 w2 k → From w k ∧ k < w2.heap.size) := fun k hk => ⟨by have := HF1.out.size; have := hk.1; unfold From; omega, hk.2⟩
  generalize Made w1 w2 = T at HM HT
  clear hf2 HF1 HI1 HU
  go_wp2_with fail
  refine (maps_over w keptL (by decide) _ mb T w2 HI2.out HM.out HT.out HF2.out).mono ?_
  rintro e w3 ⟨b, A, H, rfl, HK, _, _⟩
  have HK3 : Hid (KSt w b mb kS0 kM0 A H T w3) := HK
  clear HK HM HT HI2 HF2
  go_wp2_with fail
  refine (HK3.out.len).mono ?_
  rintro e w4 ⟨rfl, rfl⟩
  go_wp2_with fail
  refine (HK3.out.lookup 0 [1, 0, 0, 0] 1048577 (by decide +kernel)).mono ?_
  rintro e w5 ⟨rfl, HK5, _⟩
  clear HK3
  go_wp2_with fail
  refine (HK5.out.lookup 0 [2, 0, 0, 0] 0 (by decide +kernel)).mono ?_
  rintro e w6 ⟨rfl, HK6, _⟩
  clear HK5
  go_wp2_with fail
  refine (HK6.out.lookup 1 [97] 0 (by decide +kernel)).mono ?_
  rintro e w7 ⟨rfl, HK7, _⟩
  clear HK6
  go_wp2_with fail
  refine (HK7.out.updates 1 [97] [120, 121] 0 (by decide +kernel)).mono ?_
  rintro e w8 ⟨rfl, HK, _⟩
  have HK8 : Hid (KSt w b mb kU1.1.1 kU1.1.2 A H T w8) := HK
  clear HK7 HK
  go_wp2_with fail
  refine (HK8.out.updates 1 [98] [120, 121] (-7) (by decide +kernel)).mono ?_
  rintro e w9 ⟨rfl, HK, _⟩
  have HK9 : Hid (KSt w b mb kU2.1.1 kU2.1.2 A H T w9) := HK
  clear HK8 HK
  go_wp2_with fail
  refine (HK9.out.lookup 1 [97] 1114112 (by decide +kernel)).mono ?_
  rintro e w10 ⟨rfl, HK10, _⟩
  clear HK9
  go_wp2_with fail
  refine (HK10.out.updates 0 [2, 0, 0, 0] [120] (-2) (by decide +kernel)).mono ?_
  rintro e w11 ⟨rfl, HK, _⟩
  have HK11 : Hid (KSt w b mb kU3.1.1 kU3.1.2 A H T w11) := HK
  clear HK10 HK
  go_wp2_with fail
  refine (HK11.out.updates 0 [1, 0, 0, 0] [120] 0 (by decide +kernel)).mono ?_
  rintro e w12 ⟨rfl, HK, _⟩
  have HK12 : Hid (KSt w b mb kU4.1.1 kU4.1.2 A H T w12) := HK
  clear HK11 HK
  go_wp2_with fail
  refine (HK12.out.deletes 0 [1, 0, 0, 0] (-22) (by decide +kernel)).mono ?_
  rintro e w13 ⟨rfl, HK, _⟩
  have HK13 : Hid (KSt w b mb kD1.1 kU4.1.2 A H T w13) := HK
  clear HK12 HK
  go_wp2_with fail
  refine (HK13.out.entries 0 [([0, 0, 0, 0], [0]), ([1, 0, 0, 0], [120])] (by decide +kernel)).mono ?_
  rintro e w14 ⟨ea, ec, rfl, HE, HK14, _⟩
  have HN : Hid (EntsAt (w14.alloc (.cells #[.string ⟨#[0, 0, 0, 0]⟩, .string ⟨#[0]⟩, .string ⟨#[1, 0, 0, 0]⟩, .string ⟨#[120]⟩] 64)) (.slice (some ⟨w14.heap.size, 0, none⟩) 2 2) [([0, 0, 0, 0], [0]), ([1, 0, 0, 0], [120])]) := EntsAt.new w14 [([0, 0, 0, 0], [0]), ([1, 0, 0, 0], [120])] 2
  clear HK13
  go_wp2_with fail
  refine (esame_yes _ _ [([0, 0, 0, 0], [0]), ([1, 0, 0, 0], [120])] _ (HE.out.fr ((Fr.refl _ _).alloc _)) HN.out (by decide)).mono ?_
  rintro e w15 ⟨rfl, hf15⟩
  have HK15 : Hid (KSt w b mb kD1.1 kU4.1.2 A H T w15) := HK14.out.to (((Fr.refl _ _).alloc _).trans hf15)
  clear HK14 HE HN hf15
  go_wp2_with fail
  refine (HK15.out.entries 1 [([97], [120, 121])] (by decide +kernel)).mono ?_
  rintro e w16 ⟨ea2, ec2, rfl, HE, HK16, _⟩
  have HN : Hid (EntsAt (w16.alloc (.cells #[.string ⟨#[97]⟩, .string ⟨#[120, 121]⟩] 64)) (.slice (some ⟨w16.heap.size, 0, none⟩) 1 1) [([97], [120, 121])]) := EntsAt.new w16 [([97], [120, 121])] 1
  clear HK15
  go_wp2_with fail
  refine (esame_yes _ _ [([97], [120, 121])] _ (HE.out.fr ((Fr.refl _ _).alloc _)) HN.out (by decide)).mono ?_
  rintro e w17 ⟨rfl, hf17⟩
  have HK17 : Hid (KSt w b mb kD1.1 kU4.1.2 A H T w17) := HK16.out.to (((Fr.refl _ _).alloc _).trans hf17)
  clear HK16 HE HN hf17
  go_wp2_with fail
  refine (HK17.out.deletes 1 [97] 0 (by decide +kernel)).mono ?_
  rintro e w18 ⟨rfl, HK, _⟩
  have HK18 : Hid (KSt w b mb kD2.1 kU4.1.2 A H T w18) := HK
  clear HK17 HK
  go_wp2_with fail
  refine (HK18.out.deletes 1 [97] (-2) (by decide +kernel)).mono ?_
  rintro e w19 ⟨rfl, HK, _⟩
  have HK19 : Hid (KSt w b mb kD3.1 kU4.1.2 A H T w19) := HK
  clear HK18 HK
  go_wp2_with fail
  refine (HK19.out.entries 1 [] (by decide +kernel)).mono ?_
  rintro e w20 ⟨ea3, ec3, rfl, HE, HK20, _⟩
  clear HK19 HE
  go_wp2_with fail
  go_ret
  exact ⟨rfl, HK20.out.fr⟩

end Go.Proofs.YtlinnhaodkiolaaGreat

namespace Go.Proofs.YtlinnhaodkiolaaGreat
open Go.RowKit

/-- what is done with maps -/
structure ActM where
  kind : Nat
  map : Int
  key : ByteArray
  value : ByteArray

def ActM.cells (x : ActM) : List Value := [.int .u8 x.kind, .int .i64 x.map, .string x.key, .string x.value]
def amflat (l : List ActM) : List Value := l.flatMap ActM.cells

theorem am_cells {w : World} {g off : Nat} {l : List ActM} (h : CellsAt w g off (amflat l)) {k : Nat} {x : ActM} (hr : l[k]? = some x) :
    w.cell? ⟨g, off + k * 4, none⟩ = some (.int .u8 x.kind) ∧ w.cell? ⟨g, off + k * 4 + 1, none⟩ = some (.int .i64 x.map) ∧ w.cell? ⟨g, off + k * 4 + 2, none⟩ = some (.string x.key) ∧ w.cell? ⟨g, off + k * 4 + 3, none⟩ = some (.string x.value) := by
  have key : ∀ (l : List ActM) (k : Nat) x, l[k]? = some x → (amflat l)[k * 4]? = some (.int .u8 x.kind) ∧ (amflat l)[k * 4 + 1]? = some (.int .i64 x.map) ∧ (amflat l)[k * 4 + 2]? = some (.string x.key) ∧ (amflat l)[k * 4 + 3]? = some (.string x.value) := by
    intro l
    induction l with
    | nil => intro k x hx; simp at hx
    | cons y l ih =>
      intro k x hx
      cases k with
      | zero =>
        simp at hx
        subst hx
        simp [amflat, ActM.cells]
      | succ k =>
        have := ih k x (by simpa using hx)
        rw [show (k + 1) * 4 = k * 4 + 1 + 1 + 1 + 1 by omega]
        simpa [amflat, ActM.cells] using this
  obtain ⟨a, b, c, d⟩ := key l k x hr
  exact ⟨h _ _ a, h _ _ b, h _ _ c, h _ _ d⟩

def ActM.big (x : ActM) : Bool := decide (100 < x.key.size ∨ 100 < x.value.size)

def ActsIn (w : World) (v : Value) (l : List ActM) : Prop := (l = [] ∧ ∃ a c, v = .slice a 0 c) ∨ ∃ g off cap, v = .slice (some ⟨g, off, none⟩) l.length cap ∧ CellsAt w g off (amflat l)

theorem ActsIn.fr {w w' : World} {v : Value} {l : List ActM} (h : ActsIn w v l) (hf : Fr No w w') : ActsIn w' v l := by
  rcases h with h | ⟨g, off, cap, rfl, hc⟩
  · exact .inl h
  · exact .inr ⟨g, off, cap, rfl, hf.cells hc id⟩

def greatB (l : List ActM) (most : Int) : Bool := l.any ActM.big || decide (most < (l.length : Int))

set_option maxHeartbeats 1000000 in
theorem great8_walk (g off n cap : Nat) (l : List ActM) (most : Int) (w : World) (hn : l.length = n) (hm : n ≤ 9223372036854775807) (hc : CellsAt w g off (amflat l)) :
    Calls Tryz.prog 4 #[.slice (some ⟨g, off, none⟩) n cap, .int .i64 most] w fun e w' => e = .returned (.bool (greatB l most)) ∧ w = w' := by
  have HC := Lib.hid hc
  have HN := Lib.hid hn
  clear hc hn
  go_enter Tryz.func4, Tryz.ntmps4
  go_wp2_with fail
  go_loop [5] (fun i => ∃ k : Nat, k ≤ n ∧ i = .int .i64 k ∧ Hid (∀ (j : Nat) x, j < k → l[j]? = some x → x.big = false)) (fun i => n - (intOf i).toNat)
  case atStart => exact ⟨0, Nat.zero_le _, rfl, fun j _ h => absurd h (Nat.not_lt_zero _)⟩
  case round =>
    obtain ⟨k, hk, rfl, HJ⟩ := hrel
    by_cases hlt : k < n
    · obtain ⟨x, hx⟩ : ∃ x, l[k]? = some x := ⟨l[k]'(by rw [HN.out]; exact hlt), List.getElem?_eq_getElem _⟩
      obtain ⟨k0, k1, k2, k3⟩ := am_cells HC.out hx
      have HX := Lib.hid hx
      have hbig : Hid (x.big = true → greatB l most = true) := Lib.hid fun hb => by
        have : l.any ActM.big = true := by
          rw [List.any_eq_true]
          exact ⟨x, List.mem_of_getElem? HX.out, hb⟩
        unfold greatB
        rw [this]; rfl
      obtain ⟨kl, hkl⟩ : ∃ kl, x.key.size = kl := ⟨_, rfl⟩
      obtain ⟨vl, hvl⟩ : ∃ vl, x.value.size = vl := ⟨_, rfl⟩
      have HB : Hid (x.big = decide (100 < kl ∨ 100 < vl)) := Lib.hid (by unfold ActM.big; rw [hkl, hvl])
      have HXX : Hid (∀ j y, j < k + 1 → l[j]? = some y → x.big = false → y.big = false) := fun j y hj hy hb => by
        by_cases e : j = k
        · subst e
          rw [HX.out] at hy
          obtain rfl := Option.some.inj hy
          exact hb
        · exact HJ.out j y (by omega) hy
      generalize hK : x.key = K at *
      generalize hV : x.value = V at *
      clear hx hK hV
      by_cases c1 : 100 < kl
      · have HG : Hid (greatB l most = true) := hbig.out (by rw [HB.out]; simp [c1])
        go_wp2_with fail
        go_ret
        exact ⟨by rw [HG.out]; rfl, rfl⟩
      · by_cases c2 : 100 < vl
        · have HG : Hid (greatB l most = true) := hbig.out (by rw [HB.out]; simp [c2])
          go_wp2_with fail
          go_ret
          exact ⟨by rw [HG.out]; rfl, rfl⟩
        · have HJ2 : Hid (∀ (j : Nat) y, j < k + 1 → l[j]? = some y → y.big = false) := fun j y hj hy => HXX.out j y hj hy (by rw [HB.out]; simp; omega)
          go_wp2_with fail
          go_round
          case rel => exact ⟨k + 1, by omega, by go_num, HJ2⟩
          case measure => simp [intOf] <;> omega
    · obtain rfl : k = n := by omega
      have HG : Hid (greatB l most = decide (most < (k : Int))) := Lib.hid (by
        have : l.any ActM.big = false := by
          rw [List.any_eq_false]
          intro x hx
          obtain ⟨j, hj, rfl⟩ := List.getElem_of_mem hx
          have := HJ.out j _ (by rw [← HN.out]; exact hj) (List.getElem?_eq_getElem hj)
          rw [this]; simp
        unfold greatB
        rw [this, HN.out]
        rfl)
      go_wp2_with fail
      go_ret
      exact ⟨by rw [HG.out]; rfl, rfl⟩

set_option maxHeartbeats 400000 in
theorem great8_zero (a : Option Addr) (c : Nat) (most : Int) (w : World) :
    Calls Tryz.prog 4 #[.slice a 0 c, .int .i64 most] w fun e w' => e = .returned (.bool (decide (most < 0))) ∧ w = w' := by
  go_enter Tryz.func4, Tryz.ntmps4
  go_wp2_with fail
  refine wp_loop_rounds 1 ?_
  rw [rounds_succ]
  go_wp2_with fail
  go_ret
  exact ⟨rfl, rfl⟩

theorem great8_any (v : Value) (l : List ActM) (most : Int) (w : World) (h : ActsIn w v l) (hm : l.length ≤ 9223372036854775807) :
    Calls Tryz.prog 4 #[v, .int .i64 most] w fun e w' => e = .returned (.bool (greatB l most)) ∧ w = w' := by
  rcases h with ⟨rfl, a, c, rfl⟩ | ⟨g, off, cap, rfl, hc⟩
  · exact great8_zero a c most w
  · exact great8_walk g off l.length cap l most w rfl hm hc

end Go.Proofs.YtlinnhaodkiolaaGreat
