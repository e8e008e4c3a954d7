/- lines.build: exit, nospec, call, ja, ldimm. -/
import Derived.Test.YtakcdecljfmckaaGreatDoorCore29
import Derived.Handy
import Derived.Test.YtakcdecljfmckaaGreatDoorCore1
set_option linter.all false
set_option linter.unusedVariables false
set_option linter.unusedSimpArgs false
namespace Go.Proofs.YtakcdecljfmckaaGreatDoor
open Go.RowKit

theorem idx_die {xv : Value} {b : Nat} {x : List Mv} {w : World} (h : XsAt w xv b x) (j : Nat) (hj6 : j < 6) (hj : x[j]? = none) : ∃ f : World → Value, (∀ W, (Instr.indexAt 107 xv (.int .i64 j)).run Tryz.prog W = .halt (.panic (f W)) W.drew) ∧ ∀ W, IsErr (f W) := by
  obtain ⟨f, hf⟩ := Classical.axiomOfChoice (fun W => idx_none h j hj6 hj (W := W))
  exact ⟨f, fun W => (hf W).1, fun W => (hf W).2⟩
set_option maxRecDepth 100000 in
set_option maxHeartbeats 1000000 in
theorem build_exit (x : List Mv) (xv : Value) (w : World) : Calls Tryz.prog 75 #[.string ⟨#[101, 120, 105, 116]⟩, xv] w (BuildTo w (some ([⟨149, 0, 0, 0, 0⟩], 0))) := by
  go_enter Tryz.func75, Tryz.ntmps75
  go_wp2_with fail
  go_returns
  exact ⟨_, rfl, insAt_new _ _ _ _ _ _ rfl rfl, (Fr.refl _ _).alloc _⟩
set_option maxRecDepth 100000 in
set_option maxHeartbeats 1000000 in
theorem build_nospec (x : List Mv) (xv : Value) (w : World) : Calls Tryz.prog 75 #[.string ⟨#[110, 111, 115, 112, 101, 99]⟩, xv] w (BuildTo w (some ([⟨194, 0, 0, 0, 0⟩], 0))) := by
  go_enter Tryz.func75, Tryz.ntmps75
  go_wp2_with fail
  go_returns
  exact ⟨_, rfl, insAt_new _ _ _ _ _ _ rfl rfl, (Fr.refl _ _).alloc _⟩
def callO (x : List Mv) : Option (List Ins × Int) := (ag wholeG x 0).bind fun z => some ([⟨133, 0, 0, 0, z⟩], 1)
set_option maxRecDepth 100000 in
set_option maxHeartbeats 1000000 in
theorem build_call (x : List Mv) (xv : Value) (b : Nat) (w : World) (hX : XsAt w xv b x) : Calls Tryz.prog 75 #[.string ⟨#[99, 97, 108, 108]⟩, xv] w (BuildTo w (callO x)) := by
  cases hx : x[0]? with
  | none =>
    obtain ⟨f, hix, hv⟩ := idx_die hX 0 (by decide) hx
    have hix0 : ∀ W, (Instr.indexAt 107 xv (.int .i64 0)).run Tryz.prog W = .halt (.panic (f W)) W.drew := hix
    have HV := Lib.hid hv
    have e : callO x = none := by simp [callO, ag, hx]
    rw [e]
    clear hv hX hx e hix
    go_enter Tryz.func75, Tryz.ntmps75
    go_wp2_with fail
    exact ⟨rfl, build_dies rfl (HV.out _) (Fr.refl _ _).drew⟩
  | some m =>
    have hix : ∀ W, (Instr.indexAt 107 xv (.int .i64 0)).run Tryz.prog W = .ok (.pointer (some ⟨b, 0, none⟩)) W := fun W => idx_some hX 0 (by rw [hx]; rfl)
    have hc : w.cell? ⟨b, 0, none⟩ = some m.v := hX.2.1 0 m.v (by rw [List.getElem?_map, hx]; rfl)
    have hok : m.ok := hX.2.2.1 m (List.mem_of_getElem? hx)
    have e : callO x = (wholeG m).bind fun z => some ([⟨133, 0, 0, 0, z⟩], 1) := by simp [callO, ag, hx]
    rw [e]
    clear e hX hx
    cases hm : wholeG m with
    | none =>
      have HC := whole_c.none hok hm
      clear hok
      generalize m.v = mv at *
      go_enter Tryz.func75, Tryz.ntmps75
      go_wp2_with (go_at_call 98; (with_reducible refine (HC.out _).mono ?_); rintro e w1 ⟨v1, rfl, hv1⟩; have HV := Lib.hid hv1; clear hv1)
      exact ⟨rfl, build_dies rfl HV.out.1 HV.out.2⟩
    | some z =>
      have HC := whole_c.some hok hm
      clear hm hok
      generalize m.v = mv at *
      go_enter Tryz.func75, Tryz.ntmps75
      go_wp2_with (go_at_call 98; (with_reducible refine (HC.out _).mono ?_); rintro e w1 ⟨rfl, hf1⟩)
      go_returns
      exact ⟨_, rfl, insAt_new _ _ _ _ _ _ rfl rfl, hf1.alloc _⟩
def jaO (x : List Mv) : Option (List Ins × Int) := (ag shortG x 0).bind fun z => some ([⟨5, 0, 0, z, 0⟩], 1)
set_option maxRecDepth 100000 in
set_option maxHeartbeats 1000000 in
theorem build_ja (x : List Mv) (xv : Value) (b : Nat) (w : World) (hX : XsAt w xv b x) : Calls Tryz.prog 75 #[.string ⟨#[106, 97]⟩, xv] w (BuildTo w (jaO x)) := by
  cases hx : x[0]? with
  | none =>
    obtain ⟨f, hix, hv⟩ := idx_die hX 0 (by decide) hx
    have hix0 : ∀ W, (Instr.indexAt 107 xv (.int .i64 0)).run Tryz.prog W = .halt (.panic (f W)) W.drew := hix
    have HV := Lib.hid hv
    have e : jaO x = none := by simp [jaO, ag, hx]
    rw [e]
    clear hv hX hx e hix
    go_enter Tryz.func75, Tryz.ntmps75
    go_wp2_with fail
    exact ⟨rfl, build_dies rfl (HV.out _) (Fr.refl _ _).drew⟩
  | some m =>
    have hix : ∀ W, (Instr.indexAt 107 xv (.int .i64 0)).run Tryz.prog W = .ok (.pointer (some ⟨b, 0, none⟩)) W := fun W => idx_some hX 0 (by rw [hx]; rfl)
    have hc : w.cell? ⟨b, 0, none⟩ = some m.v := hX.2.1 0 m.v (by rw [List.getElem?_map, hx]; rfl)
    have hok : m.ok := hX.2.2.1 m (List.mem_of_getElem? hx)
    have e : jaO x = (shortG m).bind fun z => some ([⟨5, 0, 0, z, 0⟩], 1) := by simp [jaO, ag, hx]
    rw [e]
    clear e hX hx
    cases hm : shortG m with
    | none =>
      have HC := short_c.none hok hm
      clear hok
      generalize m.v = mv at *
      go_enter Tryz.func75, Tryz.ntmps75
      go_wp2_with (go_at_call 99; (with_reducible refine (HC.out _).mono ?_); rintro e w1 ⟨v1, rfl, hv1⟩; have HV := Lib.hid hv1; clear hv1)
      exact ⟨rfl, build_dies rfl HV.out.1 HV.out.2⟩
    | some z =>
      have HC := short_c.some hok hm
      clear hm hok
      generalize m.v = mv at *
      go_enter Tryz.func75, Tryz.ntmps75
      go_wp2_with (go_at_call 99; (with_reducible refine (HC.out _).mono ?_); rintro e w1 ⟨rfl, hf1⟩)
      go_returns
      exact ⟨_, rfl, insAt_new _ _ _ _ _ _ rfl rfl, hf1.alloc _⟩
def ldimmO (x : List Mv) : Option (List Ins × Int) := ((x[1]?).bind longM).bind fun n => (ag dstG x 0).bind fun d => some ([⟨24, d.toNat, 0, 0, s32 (n % 4294967296)⟩, ⟨0, 0, 0, 0, s32 (n / 4294967296)⟩], 2)
set_option maxRecDepth 100000 in
set_option maxHeartbeats 1000000 in
theorem low32_any (v : Nat) (w : World) : Calls Tryz.prog 102 #[.int .u64 v, .int .i64 32] w fun e w' => e = .returned (.int .u64 ((v % 4294967296 : Nat) : Int)) ∧ w = w' := by
  go_enter Tryz.func102, Tryz.ntmps102
  go_wp2_with fail
  go_ret
  exact ⟨by rw [show (v % 4294967296 : Nat) = v % 2 ^ 32 from rfl, ← low_bits v 32 (by decide)]; rfl, rfl⟩
theorem i32_s32 {n : Nat} (h : n < 4294967296) : IntKind.i32.wrap (n : Int) = s32 n := by
  unfold s32
  split
  · exact IntWalk.i32_in _ (by omega)
  · have : IntKind.i32.wrap (n : Int) = IntKind.i32.wrap ((n : Int) - 4294967296) := by
      have e1 : IntKind.bits .i32 = 32 := rfl
      have e2 : IntKind.signed .i32 = true := rfl
      unfold IntKind.wrap
      rw [e1, e2]
      simp only [if_true]
      have : ((n : Int) - 4294967296) % 2 ^ 32 = (n : Int) % 2 ^ 32 := by omega
      rw [this]
    rw [this]
    exact IntWalk.i32_in _ (by omega)
theorem ag_none {g : Mv → Option Int} {x : List Mv} {j : Nat} (h : x[j]? = none) : ag g x j = none := by unfold ag; rw [h]; rfl
theorem ag_some {g : Mv → Option Int} {x : List Mv} {j : Nat} {m : Mv} (h : x[j]? = some m) : ag g x j = g m := by unfold ag; rw [h]; rfl
theorem XsAt.idx {w : World} {xv : Value} {b : Nat} {x : List Mv} (h : XsAt w xv b x) {j : Nat} {m : Mv} (hj : x[j]? = some m) : (∀ W, (Instr.indexAt 107 xv (.int .i64 j)).run Tryz.prog W = .ok (.pointer (some ⟨b, j, none⟩)) W) ∧ m.ok ∧ Hid (∀ W, Fr No w W → W.cell? ⟨b, j, none⟩ = some m.v) := by
  refine ⟨fun W => idx_some h j (by rw [hj]; rfl), h.2.2.1 m (List.mem_of_getElem? hj), fun W hf => ?_⟩
  have := (hf.cells h.2.1 id) j m.v (by rw [List.getElem?_map, hj]; rfl)
  rwa [Nat.zero_add] at this
set_option maxRecDepth 100000 in
set_option maxHeartbeats 1000000 in
theorem build_ldimm (x : List Mv) (xv : Value) (b : Nat) (w : World) (hX : XsAt w xv b x) : Calls Tryz.prog 75 #[.string ⟨#[108, 100, 105, 109, 109]⟩, xv] w (BuildTo w (ldimmO x)) := by
  have HF0 := Lib.hid (Fr.refl No w)
  cases hx : x[1]? with
  | none =>
    obtain ⟨f, hix, hv⟩ := idx_die hX 1 (by decide) hx
    have hix0 : ∀ W, (Instr.indexAt 107 xv (.int .i64 1)).run Tryz.prog W = .halt (.panic (f W)) W.drew := hix
    have HV := Lib.hid hv
    rw [show ldimmO x = none by unfold ldimmO; rw [hx]; rfl]
    clear hv hX hx hix
    go_enter Tryz.func75, Tryz.ntmps75
    go_wp2_with fail
    exact ⟨rfl, build_dies rfl (HV.out _) (Fr.refl _ _).drew⟩
  | some m1 =>
    obtain ⟨hix1, hok1, HC1⟩ := hX.idx hx
    have hix1' : ∀ W, (Instr.indexAt 107 xv (.int .i64 1)).run Tryz.prog W = .ok (.pointer (some ⟨b, 1, none⟩)) W := hix1
    clear hix1
    have hc1 := HC1.out _ HF0.out
    cases hm1 : longM m1 with
    | none =>
      have HL : Hid (∀ W, Calls Tryz.prog 100 #[m1.v] W (Died W)) := fun W => long_none m1 hm1 W
      rw [show ldimmO x = none by unfold ldimmO; rw [hx]; show (longM m1).bind _ = none; rw [hm1]; rfl]
      clear hX hx HC1 hm1 hok1
      generalize m1.v = mv at *
      go_enter Tryz.func75, Tryz.ntmps75
      go_wp2_with (go_at_call 100; (with_reducible refine (HL.out _).mono ?_); rintro e w1 ⟨v1, rfl, hv1⟩; have HV := Lib.hid hv1; clear hv1)
      exact ⟨rfl, build_dies rfl HV.out.1 HV.out.2⟩
    | some n =>
      have HL : Hid (∀ W, Calls Tryz.prog 100 #[m1.v] W fun e w' => e = .returned (.int .u64 n) ∧ Fr No W w') := fun W => long_some m1 n hm1 W
      have hn : n < 18446744073709551616 := by
        cases m1 with
        | no => cases hm1
        | reg k => cases hm1
        | val mm k =>
          cases mm with
          | true => cases hm1
          | false => obtain rfl := Option.some.inj hm1; exact hok1
      have hO : ldimmO x = (ag dstG x 0).bind fun d => some ([⟨24, d.toNat, 0, 0, s32 (n % 4294967296)⟩, ⟨0, 0, 0, 0, s32 (n / 4294967296)⟩], 2) := by unfold ldimmO; rw [hx]; show (longM m1).bind _ = _; rw [hm1]; rfl
      rw [hO]
      clear hO hm1 hok1 HC1 hx
      generalize m1.v = mv1 at *
      cases hx0 : x[0]? with
      | none =>
        obtain ⟨f, hix, hv⟩ := idx_die hX 0 (by decide) hx0
        have hix0 : ∀ W, (Instr.indexAt 107 xv (.int .i64 0)).run Tryz.prog W = .halt (.panic (f W)) W.drew := hix
        have HV := Lib.hid hv
        rw [ag_none hx0]
        clear hv hX hx0 hix
        go_enter Tryz.func75, Tryz.ntmps75
        go_wp2_with (go_at_call 100; (with_reducible refine (HL.out _).mono ?_); rintro e w1 ⟨rfl, hf1⟩; have HF1 := Lib.hid hf1; clear hf1)
        exact ⟨rfl, build_dies rfl (HV.out _) HF1.out.drew⟩
      | some m0 =>
        obtain ⟨hix0, hok0, HC0⟩ := hX.idx hx0
        have hix0' : ∀ W, (Instr.indexAt 107 xv (.int .i64 0)).run Tryz.prog W = .ok (.pointer (some ⟨b, 0, none⟩)) W := hix0
        rw [ag_some hx0]
        clear hix0 hX hx0
        cases hm0 : dstG m0 with
        | none =>
          have HD := dst_c.none hok0 hm0
          clear hm0 hok0
          generalize m0.v = mv0 at *
          go_enter Tryz.func75, Tryz.ntmps75
          go_wp2_with (first | (go_at_call 100; (with_reducible refine (HL.out _).mono ?_); rintro e w1 ⟨rfl, hf1⟩; have HF1 := Lib.hid hf1; have hc0 := HC0.out _ hf1; clear hf1) | (go_at_call 101; (with_reducible refine (HD.out _).mono ?_); rintro e w2 ⟨v1, rfl, hv1⟩; have HV := Lib.hid hv1; clear hv1))
          exact ⟨rfl, build_dies rfl HV.out.1 (HF1.out.trans HV.out.2)⟩
        | some d =>
          have HD := dst_c.some hok0 hm0
          have HP : Hid (((d.toNat : Nat) : Int) = d) := by
            unfold dstG at hm0
            split at hm0
            · obtain rfl := Option.some.inj hm0; exact congrArg Int.ofNat (Int.toNat_natCast _)
            · cases hm0
          have HLow : Hid (∀ W, Calls Tryz.prog 102 #[.int .u64 n, .int .i64 32] W fun e w' => e = .returned (.int .u64 ((n % 4294967296 : Nat) : Int)) ∧ W = w') := fun W => low32_any n W
          have g1 := i32_s32 (n := n % 4294967296) (Nat.mod_lt _ (by decide))
          have g2 := i32_s32 (n := n / 4294967296) (by omega)
          clear hm0 hok0
          generalize m0.v = mv0 at *
          go_enter Tryz.func75, Tryz.ntmps75
          go_wp2_with (first | (go_at_call 100; (with_reducible refine (HL.out _).mono ?_); rintro e w1 ⟨rfl, hf1⟩; have HF1 := Lib.hid hf1; have hc0 := HC0.out _ hf1; clear hf1) | (go_at_call 101; (with_reducible refine (HD.out _).mono ?_); rintro e w2 ⟨rfl, hf2⟩) | (go_at_call 102; (with_reducible refine (HLow.out _).mono ?_); rintro e w3 ⟨rfl, rfl⟩))
          go_returns
          have q1 : wrap32 ((n : Int) % 4294967296) = s32 (n % 4294967296) := by unfold wrap32 s32; split <;> omega
          have q2 : wrap32 ((n : Int) / 4294967296) = s32 (n / 4294967296) := by unfold wrap32 s32; split <;> omega
          refine ⟨_, rfl, insAt_new _ _ _ _ _ _ ?_ rfl, (HF1.out.trans hf2).alloc _⟩
          simp only [iflat, Ins.cells, List.flatMap_cons, List.flatMap_nil, List.cons_append, List.nil_append, HP.out, q1, q2]
          rfl
end Go.Proofs.YtakcdecljfmckaaGreatDoor
