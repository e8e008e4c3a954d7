/- maps: Entries. -/
import Derived.Test.YtlinnhaodkiolaaMapN
import Derived.Test.YtlinnhaodkiolaaGath
namespace Go.Proofs.Ytlinnhaodkiolaa
open Go.RowKit

theorem Try.info_entry : (Try.prog.info? 72).map (fun i => (i.zero, i.size, i.bytes)) = some (some (.agg #[.string ⟨#[]⟩, .string ⟨#[]⟩]), 2, 32) := by kernel_rfl

def eflat (l : List (ByteArray × ByteArray)) : List Value := l.flatMap fun x => [.string x.1, .string x.2]
theorem eflat_length (l : List (ByteArray × ByteArray)) : (eflat l).length = l.length * 2 := by
  induction l with
  | nil => rfl
  | cons x l ih => simp only [eflat, List.flatMap_cons, List.length_append, List.length_cons, List.length_nil] at *; omega

/-- what the first k places tell -/
def toldTo (ok : Nat → Bool) (K V : Nat → ByteArray) (k : Nat) : List (ByteArray × ByteArray) := (List.range k).filterMap fun p => if ok p then some (K p, V p) else none

theorem toldTo_succ (ok : Nat → Bool) (K V : Nat → ByteArray) (k : Nat) : toldTo ok K V (k + 1) = toldTo ok K V k ++ (if ok k then [(K k, V k)] else []) := by
  unfold toldTo
  rw [List.range_succ, List.filterMap_append]
  congr 1
  cases h : ok k <;> simp [h]

theorem toldTo_le (ok : Nat → Bool) (K V : Nat → ByteArray) (k : Nat) : (toldTo ok K V k).length ≤ k := by
  have := List.length_filterMap_le (fun p => if ok p then some (K p, V p) else none) (List.range k)
  simpa [toldTo] using this

structure EInv (w : World) (L : List (ByteArray × ByteArray)) (v : Value) (wr : World) : Prop where
  g : Gath w 72 2 L.length (eflat L) v wr

theorem EInv.step {w wr w' : World} {L : List (ByteArray × ByteArray)} {v v' : Value} (h : EInv w L v wr) (K V : ByteArray) (ho : w'.ownsRow w.heap.size 72 2 v' (L.length + 1) (eflat L ++ [.string K, .string V])) (hf : Fr (OwnOf v) wr w') : EInv w (L ++ [(K, V)]) v' w' := by
  refine ⟨?_⟩
  have h2 := h.g.step ho hf
  rw [List.length_append]
  have e : eflat (L ++ [(K, V)]) = eflat L ++ [.string K, .string V] := by simp [eflat]
  rw [e]
  exact h2

set_option maxHeartbeats 400000 in
theorem entries_lo (b : Nat) (i : Int) (w : World) (hi : i < 0) :
    Calls Try.prog 14 #[.pointer (some ⟨b, 0, none⟩), .int .i64 i] w fun e w' => e = .returned (.slice none 0 0) ∧ w = w' := by
  have q : decide (i < 0) = true := by simpa using hi
  go_enter Try.func14, Try.ntmps14
  go_wp2_with fail
  go_ret
  exact ⟨rfl, rfl⟩

set_option maxHeartbeats 400000 in
theorem entries_hi (p : Value) (i n : Nat) (w : World) (hi : n ≤ i) (hl : Calls Try.prog 15 #[p] w fun e w' => e = .returned (.int .i64 n) ∧ w = w') :
    Calls Try.prog 14 #[p, .int .i64 i] w fun e w' => e = .returned (.slice none 0 0) ∧ w = w' := by
  have HL := Lib.hid hl
  clear hl
  go_enter Try.func14, Try.ntmps14
  go_wp2_with (go_at_call 15; (with_reducible refine (HL.out).mono ?_); rintro e w' ⟨rfl, rfl⟩)
  go_ret
  exact ⟨rfl, rfl⟩

set_option maxHeartbeats 400000 in
theorem entries_nil (i : Int) (w : World) :
    Calls Try.prog 14 #[.pointer none, .int .i64 i] w fun e w' => e = .returned (.slice none 0 0) ∧ w = w' := by
  by_cases hi : i < 0
  · have q : decide (i < 0) = true := by simpa using hi
    go_enter Try.func14, Try.ntmps14
    go_wp2_with fail
    go_ret
    exact ⟨rfl, rfl⟩
  · obtain ⟨k, rfl⟩ := Int.eq_ofNat_of_zero_le (show 0 ≤ i by omega)
    exact entries_hi _ k 0 w (Nat.zero_le _) (mlen_nil w)

set_option maxRecDepth 100000 in
set_option maxHeartbeats 1000000 in
theorem entries_walk (b mb i n cl ct gl gt mx : Nat) (size : Int) (T : TypeId) (v : Value) (f : Nat) (ok : Nat → Bool) (K V : Nat → ByteArray) (addr err : Nat → Int) (w : World) (hi : i < n) (hn : n ≤ 4) (hmx : mx ≤ 16)
    (h1 : w.cell? ⟨b, 1, none⟩ = some (.slice (some ⟨gl, 0, none⟩) n cl)) (h2 : w.cell? ⟨b, 2, none⟩ = some (.slice (some ⟨gt, 0, none⟩) n ct)) (h3 : w.cell? ⟨b, 3, none⟩ = some (.pointer (some ⟨mb, 0, none⟩)))
    (hs : w.cell? ⟨gl, i * 4 + 2, none⟩ = some (.int .i64 size)) (hx : w.cell? ⟨gl, i * 4 + 3, none⟩ = some (.int .i64 mx)) (hc : w.cell? ⟨gt, i, none⟩ = some (.iface T v)) (hm : Face T v "firewall/maps.key" f)
    (hk : ∀ p, p < mx → ∀ W, Fr No w W → Calls Try.prog f #[v, .int .i64 p] W fun e w' => e = .returned (.tuple #[.string (K p), .bool (ok p)]) ∧ Fr No W w')
    (hv : ∀ p, p < mx → ∀ W, Fr No w W → Calls Try.prog 27 #[.pointer (some ⟨b, 0, none⟩), .int .i64 i, .int .i64 p] W fun e w' => e = .returned (.int .u64 (addr p)) ∧ Fr No W w')
    (ht : ∀ p, p < mx → ∀ W, Fr No w W → Calls Try.prog 13 #[.pointer (some ⟨mb, 0, none⟩), .int .u64 (addr p), .int .i64 size] W fun e w' => e = .returned (.tuple #[.string (V p), .int .i64 (err p)]) ∧ Fr No W w') :
    Calls Try.prog 14 #[.pointer (some ⟨b, 0, none⟩), .int .i64 i] w fun e w' => ∃ u, e = .returned u ∧ Hid (EInv w (toldTo ok K V mx) u w') := by
  have b1 : (0 : Int) ≤ (i : Int) := by omega
  have b2 : (i : Int) < (n : Int) := by omega
  have HL := Lib.hid (mlen_any b n cl _ w h1)
  have q1 : decide ((i : Int) < 0) = false := by simp
  have q2 : decide (n ≤ i) = false := by simp; omega
  have HCS : Hid (∀ W, Fr No w W → W.cell? ⟨b, 1, none⟩ = some (.slice (some ⟨gl, 0, none⟩) n cl) ∧ W.cell? ⟨b, 2, none⟩ = some (.slice (some ⟨gt, 0, none⟩) n ct) ∧ W.cell? ⟨b, 3, none⟩ = some (.pointer (some ⟨mb, 0, none⟩)) ∧ W.cell? ⟨gl, i * 4 + 2, none⟩ = some (.int .i64 size) ∧ W.cell? ⟨gt, i, none⟩ = some (.iface T v)) :=
    fun W hW => ⟨hW.cell h1 id, hW.cell h2 id, hW.cell h3 id, hW.cell hs id, hW.cell hc id⟩
  have HK := Lib.hid hk
  have HV := Lib.hid hv
  have HT := Lib.hid ht
  obtain ⟨hm, he⟩ := hm
  obtain ⟨i0, hi0, hz0, hz1, hz2⟩ := info_parts Try.info_entry
  clear hk hv ht h2 h3 hs hc
  go_enter Try.func14, Try.ntmps14
  go_wp2_with (go_at_call 15; (with_reducible refine (HL.out).mono ?_); rintro e w' ⟨rfl, rfl⟩)
  go_loopw [5, 27] (fun o s wr => ∃ k : Nat, k ≤ mx ∧ s = .int .i64 k ∧ Hid (EInv w (toldTo ok K V k) o wr)) (fun _ s _ => mx - (intOf s).toNat)
  case atStart => exact ⟨0, Nat.zero_le _, rfl, ⟨Gath.start _ _ _⟩⟩
  case round =>
    obtain ⟨k, hk, rfl, HI⟩ := hrel
    by_cases hlt : k < mx
    · have HF := Lib.hid HI.out.g.fr
      obtain ⟨d1, d2, d3, d4, d5⟩ := HCS.out wr HF.out
      have HK1 : Hid (Calls Try.prog f #[v, .int .i64 k] wr fun e w' => e = .returned (.tuple #[.string (K k), .bool (ok k)]) ∧ Fr No wr w') := HK.out k hlt wr HF.out
      obtain ⟨t, htk⟩ : ∃ t, ok k = t := ⟨_, rfl⟩
      have hts := toldTo_succ ok K V k
      have hle := toldTo_le ok K V k
      rw [htk] at HK1 hts
      have HTS := Lib.hid hts
      have HV1 : Hid (∀ W, Fr No w W → Calls Try.prog 27 #[.pointer (some ⟨b, 0, none⟩), .int .i64 i, .int .i64 k] W fun e w' => e = .returned (.int .u64 (addr k)) ∧ Fr No W w') := HV.out k hlt
      have HT1 : Hid (∀ W, Fr No w W → Calls Try.prog 13 #[.pointer (some ⟨mb, 0, none⟩), .int .u64 (addr k), .int .i64 size] W fun e w' => e = .returned (.tuple #[.string (V k), .int .i64 (err k)]) ∧ Fr No W w') := HT.out k hlt
      generalize K k = KK at HK1 HTS
      generalize V k = VV at HT1 HTS
      generalize addr k = aa at HV1 HT1
      generalize err k = ee at HT1
      generalize toldTo ok K V k = L at HI HTS hle
      clear hts htk HK HV HT
      cases t with
      | false =>
        have hts2 : toldTo ok K V (k + 1) = L := by rw [HTS.out]; simp
        have HTS2 := Lib.hid hts2
        clear hts2
        go_wp2_with fail
        refine (HK1.out).mono ?_
        rintro e w5 ⟨rfl, hf5⟩
        go_wp2_with fail
        go_roundw
        case rel => exact ⟨k + 1, by omega, by go_num, by rw [HTS2.out]; exact ⟨HI.out.g.to hf5⟩⟩
        case measure => simp [intOf] <;> omega
      | true =>
        have hts2 : toldTo ok K V (k + 1) = L ++ [(KK, VV)] := by rw [HTS.out]; simp
        have HTS2 := Lib.hid hts2
        clear hts2
        go_wp2_with fail
        refine (HK1.out).mono ?_
        rintro e w5 ⟨rfl, hf5⟩
        have HF5 := Lib.hid (HF.out.trans hf5)
        have HI5 : Hid (EInv w L u5 w5) := ⟨HI.out.g.to hf5⟩
        obtain ⟨q1, q2, q3, q4, q5⟩ := HCS.out w5 HF5.out
        clear d1 d2 d3 d4 d5 hf5
        go_upto_region 22 with fail
        go_region_held3 (fun W => W.cell? ⟨b, 1, none⟩ = some (.slice (some ⟨gl, 0, none⟩) n cl) ∧ W.cell? ⟨b, 3, none⟩ = some (.pointer (some ⟨mb, 0, none⟩)) ∧ W.cell? ⟨gl, i * 4 + 2, none⟩ = some (.int .i64 size))
          (first | go_keep | exact ⟨hf6.cell (by go_keep) id, hf6.cell (by go_keep) id, hf6.cell (by go_keep) id⟩ | exact ⟨hf7.cell (hf6.cell (by go_keep) id) id, hf7.cell (hf6.cell (by go_keep) id) id, hf7.cell (hf6.cell (by go_keep) id) id⟩)
          (first
            | (go_at_call 27; (with_reducible refine (HV1.out _ (by exact HF5.out.trans ((Fr.refl _ _).drew))).mono ?_); rintro e w6 ⟨rfl, hf6⟩)
            | (go_at_call 13; (with_reducible refine (HT1.out _ (by exact HF5.out.trans (((Fr.refl _ _).drew).trans hf6))).mono ?_); rintro e w7 ⟨rfl, hf7⟩))
        have HF57 : Hid (Fr No w5 w7) := (((Fr.refl _ _).drew).trans hf6).trans hf7
        have HI7 : Hid (EInv w L u5 w7) := ⟨HI5.out.g.to HF57.out⟩
        have HST : Hid (∀ o v' w', w'.ownsRow w.heap.size 72 2 v' (L.length + 1) (eflat L ++ [.string KK, .string VV]) → Fr (OwnOf u5) (w7.alloc o) w' → EInv w (L ++ [(KK, VV)]) v' w') := fun o v' w' h1 h2 => (EInv.step ⟨HI7.out.g.to ((Fr.refl _ _).alloc o)⟩ KK VV h1 h2)
        have HOW : Hid (∀ o, (w7.alloc o).ownsRow w.heap.size 72 2 u5 L.length (eflat L)) := fun o => HI7.out.g.own.alloc o
        have HSZ : Hid (w.heap.size ≤ w7.heap.size) := HI7.out.g.fr.size
        clear HI HI5 HI7 HF HF5 HF57 hf6 hf7 q1 q2 q3 q4 q5 HK1 HV1 HT1 HCS
        generalize hll : L.length = ll at *
        generalize eflat L = ef at *
        have HLL := Lib.hid hll
        clear hll
        go_wp2_with (at_builtin; refine wpList_append_src rfl _ _ 39 rfl w.heap.size 72 i0 _ 2 32 Try.underlying39 hi0 hz0 hz1 hz2 rfl (by decide) u5 ll ef rfl (HOW.out _) _ 1 [.string KK, .string VV] rfl (src_new w7 [.string KK, .string VV] 72) rfl (by simp [Value.oneCell']) (by unfold maxLen; omega) (by omega) (by simp; have := HSZ.out; omega) ?_; intro v' w8 own8 fr8)
        have HE8 : Hid (EInv w (L ++ [(KK, VV)]) v' w8) := HST.out _ _ _ own8 fr8
        clear own8 fr8
        go_roundw
        case rel => exact ⟨k + 1, by omega, by go_num, by rw [HTS2.out]; exact HE8⟩
        case measure => simp [intOf] <;> omega
    · obtain rfl : k = mx := by omega
      go_wp2_with fail
      go_ret
      exact ⟨_, rfl, HI⟩

end Go.Proofs.Ytlinnhaodkiolaa
