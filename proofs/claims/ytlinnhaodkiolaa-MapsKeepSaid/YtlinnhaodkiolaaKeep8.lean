/- firewalllaw08.MapsKeep: the walk. -/
import Derived.Test.YtlinnhaodkiolaaKeep7
import Derived.Test.YtlinnhaodkiolaaCopy2
namespace Go.Proofs.Ytlinnhaodkiolaa
open Go.RowKit

theorem MapsAt.AH {A H : Nat → Prop} {w : World} {b mb : Nat} {S : List Tab} (h : MapsAt w b mb S A H) : ∀ k, A k → ¬ H k := by
  obtain ⟨l, _, h⟩ := h
  exact h.AH

/-- a copy, over a copy of the memory -/
theorem KSt.copied {w0 wr w1 : World} {b mb mb2 : Nat} {S : List Tab} {m : List Reg} {A H T : Nat → Prop} (h : KSt w0 b mb S m A H T wr) (hb : ∀ k, A k ∨ H k ∨ T k → k < wr.heap.size) (hf1 : Fr No wr w1) (hm1 : MemAt w1 mb2 m (Made wr w1)) (hok : MemOk m)
    (hh : holdsB (mregsOf (S.map (·.d))) m = true) :
    Calls Try.prog 20 #[.pointer (some ⟨b, 0, none⟩), .pointer (some ⟨mb2, 0, none⟩)] w1 fun e w' => ∃ b2 A2 H2, e = .returned (.pointer (some ⟨b2, 0, none⟩)) ∧ Hid (KSt w0 b2 mb2 S m A2 H2 (Made wr w1) w') ∧ Fr No w1 w' ∧ Hid (∀ k, A2 k ∨ H2 k ∨ Made wr w1 k → ¬ Or2 H T k) ∧ Hid (∀ k, A2 k ∨ H2 k ∨ Made wr w1 k → k < w'.heap.size) := by
  refine (mcopy_any (h.maps.no hf1) hm1 hok).mono ?_
  intro e w' hq
  unfold CopyQ at hq
  rw [if_pos hh] at hq
  obtain ⟨b2, he, ⟨A2, H2, ha, hA, hH⟩, hf⟩ := hq
  have s0 := h.fr.size
  have s1 := hf1.size
  have s2 := hf.size
  have hAH := h.maps.AH
  refine ⟨b2, A2, H2, he, ⟨ha, hm1.fr hf (fun _ _ => id), fun k hk => ⟨fun hk2 => ?_, fun hk2 => ?_⟩, h.hold, (h.fr.trans hf1).trans hf, fun k hk => ?_⟩, hf, (fun k hk ho => ?_), (fun k hk => ?_)⟩
  · rcases hA k hk2 with h1 | h1
    · have := hk.2; omega
    · have := hb k (.inl h1); have := hk.1; omega
  · have := hH k hk2
    have := hk.2
    omega
  · rcases hk with hk | hk
    · have := hH k hk
      unfold From; omega
    · have := hk.1
      unfold From; omega
  · have hlt : k < wr.heap.size := hb k (.inr ho)
    rcases hk with hk | hk | hk
    · rcases hA k hk with h1 | h1
      · omega
      · rcases ho with ho | ho
        · exact hAH k h1 ho
        · exact (h.dis k ho).1 h1
    · have := hH k hk; omega
    · have := hk.1; omega
  · rcases hk with hk | hk | hk
    · rcases hA k hk with h1 | h1
      · exact h1.2
      · have := hb k (.inl h1); omega
    · exact (hH k hk).2
    · have := hk.2; omega

theorem byte_nat (i : Nat) (h : i < 256) : ((UInt8.ofNat i).toNat : Int) = i := by simp; omega

theorem byte_strN (W : World) (i : Nat) (h : i < 256) : (convert 43 9 (.slice (some ⟨W.heap.size, 0, none⟩) 1 1)).run Try.prog (W.alloc (.cells #[.int .u8 (i : Int)] 5)) = .ok (.string ⟨#[UInt8.ofNat i]⟩) (W.alloc (.cells #[.int .u8 (i : Int)] 5)) := by
  have hc : CellsAt (W.alloc (.cells #[.int .u8 (i : Int)] 5)) W.heap.size 0 (u8s [UInt8.ofNat i]) := by
    have := CellsAt.new W [.int .u8 (i : Int)] 5
    simp only [u8s, List.map_cons, List.map_nil, byte_nat i h]
    exact this
  exact str_at hc 1

theorem byte_strA (W W' : World) (i : Nat) (h : i < 256) (hf : Fr No (W.alloc (.cells #[.int .u8 (i : Int)] 5)) W') : (convert 43 9 (.slice (some ⟨W.heap.size, 0, none⟩) 1 1)).run Try.prog W' = .ok (.string ⟨#[UInt8.ofNat i]⟩) W' := by
  have hc : CellsAt (W.alloc (.cells #[.int .u8 (i : Int)] 5)) W.heap.size 0 (u8s [UInt8.ofNat i]) := by
    have := CellsAt.new W [.int .u8 (i : Int)] 5
    simp only [u8s, List.map_cons, List.map_nil, byte_nat i h]
    exact this
  exact str_at (hf.cells hc id) 1

set_option maxRecDepth 100000 in
set_option maxHeartbeats 4000000 in
theorem keep8_walk (many which : Nat) (hmany : many < 256) (hwhich : which < 256) (w : World) :
    Calls Try.prog 6 #[.int .u8 many, .int .u8 which] w fun e w' => e = .returned (.bool true) ∧ Fr No w w' := by
  obtain ⟨n, hn⟩ : ∃ n : Nat, n = 1 + many % 16 := ⟨_, rfl⟩
  have hn1 : 1 ≤ n := by omega
  have hn16 : n < 17 := by omega
  obtain ⟨k, hk⟩ : ∃ k : Nat, k = which % n := ⟨_, rfl⟩
  have hkn : k < n := by rw [hk]; exact Nat.mod_lt _ (by omega)
  have HBY : Hid (∀ (j : Nat) W, j < 17 → Calls Try.prog 9 #[.int .u64 j, .int .i64 2] W fun e w' => e = .returned (.string ⟨(leBytes 2 j).toArray⟩) ∧ Fr No W w') := fun j W hj => (bytes_any j 2 W (by omega) (by omega)).mono fun e w' ⟨he, hf⟩ => ⟨he, Fr.of_below hf⟩
  have q1 : (1 : Int) + (many : Int) % 16 = n := by omega
  have HQ2 : Hid ((which : Int) % (n : Int) = k) := Lib.hid (by rw [hk]; rfl)
  clear hn hk
  go_enter Try.func6, Try.ntmps6
  go_wp2_with fail
  refine (hashed_any n hn1 (by omega) w).mono ?_
  rintro e w1 ⟨b, mb, A, H, T, rfl, HK, HB⟩
  have HK0 : Hid (KSt w b mb (keepS n 0) (keepM n 0) A H T w1) := by
    have h := HK.out
    rw [(keep_new n hn16).1, (keep_new n hn16).2] at h
    exact h
  clear HK q1
  go_wp2_with fail
  go_loopw [8] (fun s wr => ∃ i : Nat, i ≤ n ∧ s = .int .i64 i ∧ Hid (KSt w b mb (keepS n i) (keepM n i) A H T wr) ∧ Hid (w1.heap.size ≤ wr.heap.size)) (fun s _ => n - (intOf s).toNat)
  case atStart => exact ⟨0, Nat.zero_le _, rfl, HK0.out, Nat.le_refl _⟩
  case round =>
    obtain ⟨i, hi, rfl, HKi, HZi⟩ := hrel
    by_cases hlt : i < n
    · have HUP : Hid (∀ W, Fr No wr W → Calls Try.prog 11 #[.pointer (some ⟨b, 0, none⟩), .int .i64 1, .string ⟨(leBytes 2 i).toArray⟩, .string ⟨#[97, 98, UInt8.ofNat i]⟩] W fun e w' => e = .returned (.int .i64 0) ∧ Hid (KSt w b mb (keepS n (i + 1)) (keepM n (i + 1)) A H T w') ∧ Hid (w1.heap.size ≤ w'.heap.size)) := fun W hW =>
        ((HKi.out.to hW).update 1 (leBytes 2 i) [97, 98, UInt8.ofNat i] _ _ 0 (keep_step n hn16 i hlt)).mono fun e w' ⟨he, hu, hs⟩ => ⟨he, hu, Nat.le_trans HZi.out (Nat.le_trans hW.size hs.size)⟩
      have f1 : IntKind.u64.wrap (i : Int) = i := u64_nat i (by omega)
      have f2 : IntKind.u8.wrap (i : Int) = i := IntWalk.u8_in _ (by omega)
      have hadd : ∀ W, (Op.stringOp .add ⟨#[97, 98]⟩ ⟨#[UInt8.ofNat i]⟩).run Try.prog W = .ok (.string ⟨#[97, 98, UInt8.ofNat i]⟩) W := fun W => rfl
      have HBi : Hid (∀ W, Calls Try.prog 9 #[.int .u64 i, .int .i64 2] W fun e w' => e = .returned (.string ⟨(leBytes 2 i).toArray⟩) ∧ Fr No W w') := fun W => HBY.out i W (by omega)
      have HCV : Hid (∀ W', Fr No (wr.alloc (.cells #[.int .u8 (i : Int)] 5)) W' → (convert 43 9 (.slice (some ⟨wr.heap.size, 0, none⟩) 1 1)).run Try.prog W' = .ok (.string ⟨#[UInt8.ofNat i]⟩) W') := fun W' hf => byte_strA wr W' i (by omega) hf
      have hcv := HCV.out (wr.alloc (.cells #[.int .u8 (i : Int)] 5)).drew ((Fr.refl _ _).drew)
      have HCN : Hid (∀ W : World, (convert 43 9 (.slice (some ⟨W.heap.size, 0, none⟩) 1 1)).run Try.prog (W.alloc (.cells #[.int .u8 (i : Int)] 5)) = .ok (.string ⟨#[UInt8.ofNat i]⟩) (W.alloc (.cells #[.int .u8 (i : Int)] 5))) := fun W => byte_strN W i (by omega)
      clear HK0 HBY
      generalize (⟨(leBytes 2 i).toArray⟩ : ByteArray) = KB at HUP HBi
      generalize UInt8.ofNat i = bi at *
      go_upto_region 11 with fail
      go_region_with (first
        | (go_at_call 9; (with_reducible refine (HBi.out _).mono ?_); rintro e w3 ⟨rfl, hf3⟩; have hb3 := HCN.out w3; (try have hb4 := HCV.out w3 ((((Fr.refl _ _).drew)).trans hf3)))
        | (go_at_call 11; (with_reducible refine (HUP.out _ (by first | exact (((Fr.refl _ _).drew).trans hf3).alloc _ | exact (((Fr.refl _ _).alloc _).drew).trans hf3)).mono ?_); rintro e w5 ⟨rfl, HK5, HZ5⟩))
      all_goals
        go_wp2_with fail
        go_roundw
        case rel => exact ⟨i + 1, by omega, by go_num, HK5, HZ5⟩
        case measure => simp [intOf] <;> omega
    · obtain rfl : i = n := by omega
      have hq2 := HQ2.out
      have f1 : IntKind.u64.wrap (k : Int) = k := u64_nat k (by omega)
      have f2 : IntKind.u8.wrap (k : Int) = k := IntWalk.u8_in _ (by omega)
      have f3 : IntKind.u64.wrap (3 * (k : Int)) = 3 * k := IntWalk.u64_in _ (by omega)
      have f4 : IntKind.u64.wrap (1114112 + 3 * (k : Int)) = 1114112 + 3 * k := IntWalk.u64_in _ (by omega)
      have f5 : IntKind.i64.wrap (3 * (k : Int)) = 3 * k := IntWalk.i64_in _ (by omega)
      have hz0 : ((1114112 + 3 * (k : Int)) != 0) = true := by simp; omega
      have f6 : IntKind.i64.wrap ((i : Int) - 1) = ((i - 1 : Nat) : Int) := by rw [show ((i : Int) - 1) = ((i - 1 : Nat) : Int) by omega]; exact IntWalk.i64_in _ (by omega)
      have f7 : ((i : Int) - 1) = ((i - 1 : Nat) : Int) := by omega
      have hadd : ∀ W, (Op.stringOp .add ⟨#[97, 98]⟩ ⟨#[UInt8.ofNat k]⟩).run Try.prog W = .ok (.string ⟨#[97, 98, UInt8.ofNat k]⟩) W := fun W => rfl
      have hne : (i == 0) = false := by simp; omega
      have HBk : Hid (∀ W, Calls Try.prog 9 #[.int .u64 k, .int .i64 2] W fun e w' => e = .returned (.string ⟨(leBytes 2 k).toArray⟩) ∧ Fr No W w') := fun W => HBY.out k W (by omega)
      clear HK0 HBY HQ2
      have HF6 := Lib.hid f6
      have HF7 := Lib.hid f7
      clear f6 f7
      go_wp2_with fail
      refine (HBk.out _).mono ?_
      rintro e w3 ⟨rfl, hf3⟩
      have HK3 := Lib.hid (HKi.out.to hf3)
      have HZ3 : Hid (w1.heap.size ≤ w3.heap.size) := Nat.le_trans HZi.out hf3.size
      clear hf3 HKi HZi
      go_wp2_with fail
      refine (HK3.out.lookup 1 (leBytes 2 k) (1114112 + 3 * (k : Int)) (keep_look i hn16 k hkn)).mono ?_
      rintro e w4 ⟨rfl, HK4, hs⟩
      have HZ4 : Hid (w1.heap.size ≤ w4.heap.size) := Nat.le_trans HZ3.out hs.size
      clear HK3 hs HZ3
      go_wp2_with fail
      refine (HBk.out _).mono ?_
      rintro e w5 ⟨rfl, hf5⟩
      have HK5 := Lib.hid (HK4.out.to hf5)
      have HZ5 : Hid (w1.heap.size ≤ w5.heap.size) := Nat.le_trans HZ4.out hf5.size
      clear hf5 HK4 HZ4
      go_wp2_with fail
      refine (HK5.out.deletes 1 (leBytes 2 k) 0 (keep_del i hn16 k hkn)).mono ?_
      rintro e w6 ⟨rfl, HK, hs⟩
      have HK6 : Hid (KSt w b mb (keepX i k) (keepM i i) A H T w6) := HK
      have HZ6 : Hid (w1.heap.size ≤ w6.heap.size) := Nat.le_trans HZ5.out hs.size
      clear HK5 HK hs HZ5
      go_wp2_with fail
      refine (HBk.out _).mono ?_
      rintro e w7 ⟨rfl, hf7⟩
      have HK7 := Lib.hid (HK6.out.to hf7)
      have HZ7 : Hid (w1.heap.size ≤ w7.heap.size) := Nat.le_trans HZ6.out hf7.size
      clear hf7 HK6 HZ6
      go_wp2_with fail
      refine (HK7.out.lookup 1 (leBytes 2 k) 0 (keep_gone i hn16 k hkn).1).mono ?_
      rintro e w8 ⟨rfl, HK8, hs⟩
      have HZ8 : Hid (w1.heap.size ≤ w8.heap.size) := Nat.le_trans HZ7.out hs.size
      clear HK7 hs HZ7
      go_wp2_with fail
      refine (HK8.out.text (1114112 + 3 * (k : Int)) 3 _ (by omega) (by omega) (by decide) (keep_text i hn16 k hkn)).mono ?_
      rintro e w9 ⟨rfl, HK9, hs⟩
      have HB9 : Hid (∀ q, A q ∨ H q ∨ T q → q < w9.heap.size) := fun q hq => Nat.lt_of_lt_of_le (HB.out q hq) (Nat.le_trans HZ8.out hs.size)
      have HOK : Hid (MemOk (keepM i i)) := ⟨by simp [keepM], keep_ok i hn16⟩
      clear HK8 hs HZ8 HB
      go_wp2_with fail
      refine (copy_any HK9.out.mem HOK.out.1 HOK.out.2).mono ?_
      rintro e w10 ⟨mb2, rfl, hf10, hm10⟩
      have HK10 := Lib.hid (HK9.out.to hf10)
      have HCP := Lib.hid (HK9.out.copied HB9.out hf10 hm10 HOK.out (keep_holds i hn16 hn1 k hkn))
      have HS10 : Hid (w9.heap.size ≤ w10.heap.size) := hf10.size
      generalize hT2 : Made w9 w10 = T2 at HCP
      clear hf10 hm10 HOK hT2
      go_wp2_with fail
      refine (HCP.out).mono ?_
      rintro e w11 ⟨b2, A2, H2, rfl, HC11, hf11, HD, _⟩
      have HK11 := Lib.hid (HK10.out.to hf11)
      have hb3 := byte_strN w11 k (by omega)
      have HK12 := Lib.hid (HK11.out.to ((Fr.refl No w11).alloc (.cells #[.int .u8 (k : Int)] 5)))
      have HC12 := Lib.hid (HC11.out.to ((Fr.refl No w11).alloc (.cells #[.int .u8 (k : Int)] 5)))
      clear hf11 HCP HK10 HS10 HB9 HK9 HK11 HC11
      go_wp2_with fail
      refine (HK12.out.updates 1 [122, 122] [110, 101, 119] 0 (keep_zz i hn16 k hkn).1).mono ?_
      rintro e w13 ⟨rfl, HK, hf13⟩
      have HK13 : Hid (KSt w b mb (keepY i k).1.1 (keepY i k).1.2 A H T w13) := HK
      have HC13 := Lib.hid (HC12.out.apart hf13 (fun q hq => HK12.out.new q hq) (fun q hq => HD.out q (.inl hq)) (fun q hq => HD.out q (.inr (.inl hq))) (fun q hq => HD.out q (.inr (.inr hq))))
      clear HK HK12 HC12 hf13 hb3
      go_wp2_with fail
      refine (HK13.out.lookup 1 [122, 122] (1114112 + 3 * (k : Int)) (keep_zz i hn16 k hkn).2).mono ?_
      rintro e w14 ⟨rfl, HK14, hf14⟩
      have HC14 := Lib.hid (HC13.out.to hf14)
      clear HK13 HC13 hf14
      go_wp2_with fail
      refine (HC14.out.lookup 1 [122, 122] 0 (keep_gone i hn16 k hkn).2).mono ?_
      rintro e w15 ⟨rfl, HC15, hf15⟩
      have HK15 := Lib.hid (HK14.out.to hf15)
      clear HK14 HC14 hf15
      go_wp2_with fail
      refine (HC15.out.entries 1 _ rfl).mono ?_
      rintro e w16 ⟨ea, ec, rfl, _, _, hf16⟩
      have HK16 := Lib.hid (HK15.out.to hf16)
      have hl := (keep_ents i hn16 k hkn).1
      have f6 := HF6.out
      have f7 := HF7.out
      rw [hl]
      clear HK15 HC15 hf16 hl
      go_wp2_with fail
      refine (HK16.out.text (1114112 + 3 * (k : Int)) 3 _ (by omega) (by omega) (by decide) (keep_news i hn16 k hkn)).mono ?_
      rintro e w17 ⟨rfl, HK17, _⟩
      clear HK16
      go_wp2_with fail
      refine (HK17.out.entries 1 _ rfl).mono ?_
      rintro e w18 ⟨ea2, ec2, rfl, _, HK18, _⟩
      have hl2 := (keep_ents i hn16 k hkn).2
      rw [hl2]
      clear HK17 hl2
      go_wp2_with fail
      refine (HK18.out.updates 1 [121, 121] [110, 101, 119] (-7) (keep_full i hn16 k hkn)).mono ?_
      rintro e w19 ⟨rfl, HK19, _⟩
      clear HK18
      go_wp2_with (go_at_call 7; refine (kept_any _).mono ?_; rintro e w20 ⟨rfl, hlf⟩)
      go_ret
      exact ⟨rfl, HK19.out.fr.trans hlf⟩

end Go.Proofs.Ytlinnhaodkiolaa
