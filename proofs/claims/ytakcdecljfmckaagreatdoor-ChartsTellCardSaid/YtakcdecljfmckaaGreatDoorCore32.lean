/- lines.build, of any word. lines.split: a line's words. -/
import Derived.Test.YtakcdecljfmckaaGreatDoorCore31
import Derived.Test.YtakcdecljfmckaaGreatDoorCore9
import Derived.Test.YtakcdecljfmckaaGreatDoorCore13
import Derived.Test.YtakcdecljfmckaaGreatDoorCore4
import Derived.Lib.OthersKept
import Derived.Deep.CutBlock
set_option linter.all false
set_option linter.unusedVariables false
set_option linter.unusedSimpArgs false
namespace Go.Proofs.YtakcdecljfmckaaGreatDoor
open Go.RowKit

/-- what build makes of a word and those behind it; none: it panics -/
def buildO (word : List UInt8) (x : List Mv) : Option (List Ins × Int) :=
  if word = [101, 120, 105, 116] then some ([⟨149, 0, 0, 0, 0⟩], 0)
  else if word = [110, 111, 115, 112, 101, 99] then some ([⟨194, 0, 0, 0, 0⟩], 0)
  else if word = [99, 97, 108, 108] then callO x
  else if word = [106, 97] then jaO x
  else if word = [108, 100, 105, 109, 109] then ldimmO x
  else if word = [108, 100, 109, 97, 112] then ldmapO x
  else if word = [114, 97, 119] then rawO x
  else if sizedY (sizedN word [108, 100, 120]) = true then ldxO (sizedX (sizedN word [108, 100, 120])).1 x
  else if sizedY (sizedN word [115, 116, 120]) = true then stxO (sizedX (sizedN word [115, 116, 120])).2.2 x
  else if sizedY (sizedN word [115, 116]) = true then stO (sizedX (sizedN word [115, 116])).2.1 x
  else match codeW word with
    | none => some ([], -1)
    | some (op, j) => codeO op j x
theorem build_code (word : List UInt8) (ho : Other (bA word)) (x : List Mv) (xv : Value) (b : Nat) (w : World) (hX : XsAt w xv b x) (hC : CodeC word w) (op : Nat) (j : Bool) (hc : codeW word = some (op, j)) : Calls Tryz.prog 75 #[.string (bA word), xv] w (BuildTo w (codeO op j x)) := by
  cases hd : ag dstG x 0 with
  | none => exact build_c0 word ho x xv b w hX hC op j hc hd
  | some di =>
    have hdi := dst_pos hd
    generalize hdd : di.toNat = d at hdi
    subst hdi
    have e0 : codeO op j x = if !j && op / 16 == 8 then some ([⟨op, d, 0, 0, 0⟩], 1) else ((x[1]?).bind (eitherO op d)).bind fun i => if j then (ag shortG x 2).bind fun o => some ([{ i with off := o }], 3) else some ([i], 2) := by
      unfold codeO
      rw [hd]
      show (if _ then _ else _) = _
      rw [hdd]
    rw [e0]
    cases j with
    | false =>
      by_cases hn : op / 16 = 8
      · rw [if_pos (by simp [hn])]
        exact build_cneg word ho x xv b w hX hC op false hc d hd rfl hn
      · rw [if_neg (by simp [hn])]
        cases hx1 : x[1]? with
        | none => exact build_cAf word ho x xv b w hX hC op hc d hd hn hx1
        | some m1 =>
          show Calls Tryz.prog 75 #[.string (bA word), xv] w (BuildTo w ((eitherO op d m1).bind _))
          cases he : eitherO op d m1 with
          | none => exact build_cBf word ho x xv b w hX hC op hc d hd hn m1 hx1 he
          | some i => exact build_cCf word ho x xv b w hX hC op hc d hd hn m1 hx1 i he
    | true =>
      rw [if_neg (by simp)]
      cases hx1 : x[1]? with
      | none => exact build_cAt word ho x xv b w hX hC op hc d hd hx1
      | some m1 =>
        show Calls Tryz.prog 75 #[.string (bA word), xv] w (BuildTo w ((eitherO op d m1).bind _))
        cases he : eitherO op d m1 with
        | none => exact build_cBt word ho x xv b w hX hC op hc d hd m1 hx1 he
        | some i =>
          show Calls Tryz.prog 75 #[.string (bA word), xv] w (BuildTo w ((ag shortG x 2).bind _))
          cases hx2 : x[2]? with
          | none =>
            rw [ag_none hx2]
            exact build_cD0 word ho x xv b w hX hC op hc d hd m1 hx1 i he hx2
          | some m2 =>
            rw [ag_some hx2]
            cases h2 : shortG m2 with
            | none => exact build_cD1 word ho x xv b w hX hC op hc d hd m1 hx1 i he m2 hx2 h2
            | some o => exact build_cD2 word ho x xv b w hX hC op hc d hd m1 hx1 i he m2 hx2 o h2
theorem build_any (word : List UInt8) (hs : word.length ≤ 1000000) (x : List Mv) (xv : Value) (b : Nat) (w : World) (hX : XsAt w xv b x) (hT : LT w) : Calls Tryz.prog 75 #[.string (bA word), xv] w (BuildTo w (buildO word x)) := by
  unfold buildO
  by_cases h1 : word = [101, 120, 105, 116]
  · rw [if_pos h1]; subst h1; exact build_exit x xv w
  by_cases h2 : word = [110, 111, 115, 112, 101, 99]
  · rw [if_neg h1, if_pos h2]; subst h2; exact build_nospec x xv w
  by_cases h3 : word = [99, 97, 108, 108]
  · rw [if_neg h1, if_neg h2, if_pos h3]; subst h3; exact build_call x xv b w hX
  by_cases h4 : word = [106, 97]
  · rw [if_neg h1, if_neg h2, if_neg h3, if_pos h4]; subst h4; exact build_ja x xv b w hX
  by_cases h5 : word = [108, 100, 105, 109, 109]
  · rw [if_neg h1, if_neg h2, if_neg h3, if_neg h4, if_pos h5]; subst h5; exact build_ldimm x xv b w hX
  by_cases h6 : word = [108, 100, 109, 97, 112]
  · rw [if_neg h1, if_neg h2, if_neg h3, if_neg h4, if_neg h5, if_pos h6]; subst h6; exact build_ldmap x xv b w hX
  by_cases h7 : word = [114, 97, 119]
  · rw [if_neg h1, if_neg h2, if_neg h3, if_neg h4, if_neg h5, if_neg h6, if_pos h7]; subst h7; exact build_raw x xv b w hX
  rw [if_neg h1, if_neg h2, if_neg h3, if_neg h4, if_neg h5, if_neg h6, if_neg h7]
  have q : ∀ l : List UInt8, word ≠ l → ((bA word).toList == l) = false := fun l h => by
    rw [Lib.toList_data]
    show (word == l) = false
    simpa using h
  have ho : Other (bA word) := ⟨q _ h1, q _ h2, q _ h3, q _ h4, q _ h5, q _ h6, q _ h7⟩
  cases s1 : sizedY (sizedN word [108, 100, 120]) with
  | true => rw [if_pos rfl]; exact build_ldx word ho x xv b w hX hT s1
  | false =>
    rw [if_neg (by simp)]
    cases s2 : sizedY (sizedN word [115, 116, 120]) with
    | true => rw [if_pos rfl]; exact build_stx word ho x xv b w hX hT s1 s2
    | false =>
      rw [if_neg (by simp)]
      cases s3 : sizedY (sizedN word [115, 116]) with
      | true => rw [if_pos rfl]; exact build_st word ho x xv b w hX hT s1 s2 s3
      | false =>
        rw [if_neg (by simp)]
        have hC : CodeC word w := ⟨sized_c word _ w hT _ s1, sized_c word _ w hT _ s2, sized_c word _ w hT _ s3, fun W hW => lcode_any word hs W (hT.fr hW)⟩
        cases hc : codeW word with
        | none => exact build_unknown word ho xv w hC hc
        | some p =>
          obtain ⟨op, j⟩ := p
          exact build_code word ho x xv b w hX hC op j hc
end Go.Proofs.YtakcdecljfmckaaGreatDoor

namespace Go.Proofs.YtakcdecljfmckaaGreatDoor
open Go.RowKit

/-- words come back -/
def SlWords (l : List (List UInt8)) (w : World) (e : Ending) (w' : World) : Prop := ∃ v, e = .returned v ∧ StrsAt w' v l ∧ Fr No w w'
theorem Tryz.infoL_str : (Tryz.prog.info? 9).map (fun i => (i.zero, i.size, i.bytes)) = some (some (.string ⟨#[]⟩), 1, 16) := by kernel_rfl
theorem extract_bA (s : List UInt8) (a b : Nat) : (bA s).extract a b = bA ((s.drop a).take (b - a)) := by
  apply ByteArray.ext
  apply Array.toList_inj.1
  simp [bA]
theorem Gath.words {w w' : World} {t : TypeId} {v : Value} {l : List (List UInt8)} (h : Gath w t 1 l.length (strs l) v w') : StrsAt w' v l := by
  rcases h.own.2 with ⟨rfl, h0⟩ | ⟨g, cap, cur, hv, hb, hg, h1, h2, h3, hx⟩
  · refine .inl ⟨?_, _, _, rfl⟩
    exact List.eq_nil_of_length_eq_zero h0
  · refine .inr ⟨g, 0, cap, hv, (Array.getElem?_eq_some_iff.1 hg).1, ?_, fun j u hj => ?_⟩
    · exact h1
    · rw [Nat.zero_add, cell_of_row w' g j cur t _ hg]
      rw [← hx, List.getElem?_take] at hj
      split at hj
      · simpa using hj
      · cases hj
theorem Gath.iter {w wr : World} {t : TypeId} {size n : Nat} {xs : List Value} {v : Value} (h : Gath w t size n xs v wr) {k : Nat} {s : ByteArray} {p : Nat} (hk : wr.heap[k]? = some (.stringIter s p)) (hw : w.heap.size ≤ k) (q : Nat) : Gath w t size n xs v (wr.iterAt k s q) := by
  refine ⟨Fr.of_below (Lib.below_iterAt h.fr.below hw s q), h.own.1, ?_⟩
  rcases h.own.2 with h2 | ⟨g, cap, cur, hv, hb, hg, h3⟩
  · exact .inl h2
  · refine .inr ⟨g, cap, cur, hv, hb, ?_, h3⟩
    have hne : g ≠ k := by rintro rfl; rw [hk] at hg; cases hg
    rw [Lib.iterAt_other _ _ _ _ _ hne]
    exact hg
theorem ownL_form {w : World} {base size n : Nat} {e : TypeId} {v : Value} {xs : List Value} (h : w.ownsRow base e size v n xs) : ∃ a c, v = .slice a n c := by
  rcases h.2 with ⟨rfl, h0⟩ | ⟨g, cap, cur, rfl, _⟩
  · exact ⟨none, 0, by rw [h0]⟩
  · exact ⟨_, _, rfl⟩
theorem own_noiter {wr : World} {base size n : Nat} {e : TypeId} {v : Value} {xs : List Value} (h : wr.ownsRow base e size v n xs) {k : Nat} {s : ByteArray} {p : Nat} (hk : wr.heap[k]? = some (.stringIter s p)) : ¬ OwnOf v k := by
  intro ho
  rcases h.2 with ⟨rfl, h0⟩ | ⟨g, cap, cur, rfl, hb, hg, _⟩
  · simp [OwnOf, Value.ownBlock] at ho
  · simp [OwnOf, Value.ownBlock] at ho
    subst ho
    rw [hk] at hg; cases hg
theorem strs_snoc (l : List (List UInt8)) (a : List UInt8) : strs (l ++ [a]) = strs l ++ [.string (bA a)] := by simp [strs]
theorem iter_fr {S : Nat → Prop} {wr w' : World} {k : Nat} {s : ByteArray} {p : Nat} (hk : wr.heap[k]? = some (.stringIter s p)) (hf : Fr S wr w') (hs : ¬ S k) : w'.heap[k]? = some (.stringIter s p) :=
  (hf.block k (Array.getElem?_eq_some_iff.1 hk).1 hs).trans hk

set_option maxRecDepth 100000 in
set_option maxHeartbeats 4000000 in
theorem split_any (s : List UInt8) (ws : List (List UInt8)) (hs : s.length ≤ 1000000) (hw : wordsL s = some ws) (w : World) : Calls Tryz.prog 49 #[.string (bA s)] w (SlWords ws w) := by
  obtain ⟨i0, hi0, hz0, hz1, hz2⟩ := info_parts Tryz.infoL_str
  have HST := Lib.hid (SplitSt.start hw)
  have hsz : (bA s).size = s.length := bA_size s
  have HSS := Lib.hid hsz
  clear hw hsz
  go_enter Tryz.func49, Tryz.ntmps49
  go_wp2_with fail
  go_loopw [3, 4] (fun s3 s4 wr => ∃ (pos : Nat) (f : Int) (acc : List (List UInt8)), s4 = .int .i64 f ∧ Hid (SplitSt s ws pos f acc) ∧ Hid (Gath w 9 1 acc.length (strs acc) s3 wr) ∧ Hid (wr.heap[w.heap.size]? = some (.stringIter (bA s) pos))) (fun _ _ wr => s.length - wr.iterPos w.heap.size)
  case atStart => exact ⟨0, -1, [], rfl, HST.out, Gath.start' ((Fr.refl _ _).alloc _) _ _, World.iter_heap w (bA s) 0⟩
  case round =>
    obtain ⟨pos, f, acc, rfl, HSP, HGA0, HIT⟩ := hrel
    obtain ⟨va, vc, rfl⟩ := ownL_form HGA0.out.own
    have hfew := HSP.out.few
    have hple := HSP.out.le
    have HMES := Lib.hid (iterPos_of HIT.out)
    by_cases hp : pos < s.length
    · have hc0 := HSP.out.char hp
      have hne : s.drop pos ≠ [] := fun e => by have := congrArg List.length e; simp at this; omega
      have hd : Utf8.decode (bA s) pos = Lib.decodeL (s.drop pos) := (Lib.decodeL_drop (bA s) pos).symm
      have hn : (Lib.decodeL (s.drop pos)).2 = charN (s.drop pos) := by
        rcases char_dec _ hne with ⟨h0, _⟩ | ⟨_, h2, _⟩
        · exact absurd h0 hc0
        · exact h2
      have r9 := rune_is _ hne hc0 9 [9] (by decide) (dec1 9 (by decide))
      have r13 := rune_is _ hne hc0 13 [13] (by decide) (dec1 13 (by decide))
      have r32 := rune_is _ hne hc0 32 [32] (by decide) (dec1 32 (by decide))
      have r160 := rune_is _ hne hc0 160 [194, 160] (by decide) dec160
      have r8195 := rune_is _ hne hc0 8195 [226, 128, 131] (by decide) dec8195
      have r59 := rune_is _ hne hc0 59 [59] (by decide) (dec1 59 (by decide))
      have hnx : ∀ ty, (Instr.next (.pointer (some ⟨w.heap.size, 0, none⟩)) true ty).run Tryz.prog wr = _ := fun ty => Lib.run_next_any_at wr w.heap.size (bA s) pos ty HIT.out (by rw [HSS.out]; exact hp)
      have HCN := Lib.hid hc0
      rw [hd, hn] at hnx
      obtain ⟨r, hr⟩ : ∃ r, (Lib.decodeL (s.drop pos)).1 = r := ⟨_, rfl⟩
      rw [hr] at hnx r9 r13 r32 r160 r8195 r59
      have HHP := Lib.hid hp
      clear hd hn hne hc0 hr
      have HW1 : Hid (Gath w 9 1 acc.length (strs acc) (.slice va acc.length vc) (wr.iterAt w.heap.size (bA s) (pos + charN (s.drop pos)))) := HGA0.out.iter HIT.out (Nat.le_refl _) _
      have HI1 : Hid ((wr.iterAt w.heap.size (bA s) (pos + charN (s.drop pos))).heap[w.heap.size]? = some (.stringIter (bA s) (pos + charN (s.drop pos)))) := Lib.iterAt_heap wr _ _ _ _ HIT.out
      obtain ⟨n, hn⟩ : ∃ n, charN (s.drop pos) = n := ⟨_, rfl⟩
      have HNN := Lib.hid hn
      rw [hn] at hnx HW1 HI1 r9 r13 r32 r160 r8195 r59
      obtain ⟨W1, hW1⟩ : ∃ W1, wr.iterAt w.heap.size (bA s) (pos + n) = W1 := ⟨_, rfl⟩
      rw [hW1] at hnx HW1 HI1
      have HGT : Hid (∀ W, Fr No W1 W → Gath w 9 1 acc.length (strs acc) (.slice va acc.length vc) W) := fun W h => HW1.out.to h
      have HIW : Hid (∀ W V, Fr No W1 W → Fr (OwnOf (.slice va acc.length vc)) W V → V.heap[w.heap.size]? = some (.stringIter (bA s) (pos + n))) := fun W V h1 h2 => iter_fr (iter_fr HI1.out h1 id) h2 (own_noiter (HGT.out W h1).own (iter_fr HI1.out h1 id))
      have HIP := Lib.hid (iterPos_of HI1.out)
      have hal : acc.length ≤ 1000000 := by omega
      have hn1 : 1 ≤ n := by have := HCN.out; omega
      have q9 : ((r : Int) == 9) = ((s.drop pos).take n == [9]) := by rw [← r9]; exact beq_nat r 9
      have q13 : ((r : Int) == 13) = ((s.drop pos).take n == [13]) := by rw [← r13]; exact beq_nat r 13
      have q32 : ((r : Int) == 32) = ((s.drop pos).take n == [32]) := by rw [← r32]; exact beq_nat r 32
      have q160 : ((r : Int) == 160) = ((s.drop pos).take n == [194, 160]) := by rw [← r160]; exact beq_nat r 160
      have q8195 : ((r : Int) == 8195) = ((s.drop pos).take n == [226, 128, 131]) := by rw [← r8195]; exact beq_nat r 8195
      have q59 : ((r : Int) == 59) = ((s.drop pos).take n == [59]) := by rw [← r59]; exact beq_nat r 59
      have HSP2 := HSP
      clear r9 r13 r32 r160 r8195 r59 hW1 hp hple hfew HGA0
      obtain ⟨C, hC⟩ : ∃ C, (s.drop pos).take n = C := ⟨_, rfl⟩
      rw [hC] at q9 q13 q32 q160 q8195 q59
      have HC := Lib.hid hC
      by_cases h59 : C = [59]
      · subst h59
        have h59' : ((s.drop pos).take (charN (s.drop pos)) == [59]) = true := by rw [HNN.out, HC.out]; rfl
        have p9 : ((r : Int) == 9) = false := q9
        have p13 : ((r : Int) == 13) = false := q13
        have p32 : ((r : Int) == 32) = false := q32
        have p160 : ((r : Int) == 160) = false := q160
        have p8195 : ((r : Int) == 8195) = false := q8195
        have p59 : ((r : Int) == 59) = true := q59
        rcases HSP.out.f with rfl | ⟨m, rfl, hm⟩
        · have HW := Lib.hid (HSP.out.semi0 HHP.out h59')
          clear h59' hC hn q9 q13 q32 q160 q8195 q59
          go_wp2_with fail
          go_ret
          exact ⟨_, rfl, by rw [HW.out]; exact HW1.out.words, HW1.out.fr⟩
        · have HW := Lib.hid (HSP.out.semi1 HHP.out h59')
          have hb1 : (m : Int) ≤ (pos : Int) := by omega
          have hb2 : (pos : Int) ≤ ((bA s).size : Int) := by rw [HSS.out]; have := HHP.out; omega
          clear h59' hC hn q9 q13 q32 q160 q8195 q59
          go_wp2_with (at_builtin; refine wpList_append_src rfl _ _ 92 rfl w.heap.size 9 i0 _ 1 16 Tryz.underlying92 hi0 hz0 hz1 hz2 rfl (by decide) (.slice va acc.length vc) acc.length (strs acc) rfl (HGT.out _ ((Fr.refl _ _).alloc _)).own _ 1 [.string ((bA s).extract m pos)] rfl (src_new _ [.string ((bA s).extract m pos)] 9) rfl (by simp [Value.oneCell']) (by unfold maxLen; omega) (by omega) (HGT.out _ ((Fr.refl _ _).alloc _)).fr.size ?_; intro v' w2 own2 fr2; have HG2 := Lib.hid ((HGT.out _ ((Fr.refl _ _).alloc _)).step own2 fr2); have HFR2 := Lib.hid fr2; clear own2 fr2)
          go_ret
          refine ⟨_, rfl, ?_, HG2.out.fr⟩
          rw [HW.out.2]
          refine Gath.words (w := w) (t := 9) ?_
          rw [strs_snoc, List.length_append, ← extract_bA]
          exact HG2.out
      · have h59' : ((s.drop pos).take (charN (s.drop pos)) == [59]) = false := by rw [HNN.out, HC.out]; simpa using h59
        have p59 : ((r : Int) == 59) = false := by rw [q59]; simpa using h59
        cases hB : blankB C with
        | true =>
          have hB' : blankB ((s.drop pos).take (charN (s.drop pos))) = true := by rw [HNN.out, HC.out]; exact hB
          have HBB : Hid ((C == [9] || C == [13] || C == [32] || C == [194, 160] || C == [226, 128, 131]) = true) := hB
          rcases HSP.out.f with rfl | ⟨m, rfl, hm⟩
          · have HW := Lib.hid (HSP.out.blank0 HHP.out h59' hB')
            rw [HNN.out] at HW
            clear h59' hC hn h59 hB hB' q59
            generalize (C == [9]) = b9 at *
            generalize (C == [13]) = b13 at *
            generalize (C == [32]) = b32 at *
            generalize (C == [194, 160]) = b160 at *
            generalize (C == [226, 128, 131]) = b8195 at *
            go_wp2_with fail
            all_goals (first
              | (exfalso; have hz := HBB.out; simp_all; done)
              | skip)
            all_goals
              go_roundw
              case rel => exact ⟨pos + n, -1, acc, rfl, HW.out, HW1.out, HI1.out⟩
              case measure => rw [HMES.out, HIP.out]; have := HHP.out; omega
          · have HW := Lib.hid (HSP.out.blank1 HHP.out h59' hB')
            rw [HNN.out] at HW
            have hb1 : (m : Int) ≤ (pos : Int) := by omega
            have hb2 : (pos : Int) ≤ ((bA s).size : Int) := by rw [HSS.out]; have := HHP.out; omega
            clear h59' hC hn h59 hB hB' q59
            generalize (C == [9]) = b9 at *
            generalize (C == [13]) = b13 at *
            generalize (C == [32]) = b32 at *
            generalize (C == [194, 160]) = b160 at *
            generalize (C == [226, 128, 131]) = b8195 at *
            go_wp2_with (at_builtin; refine wpList_append_src rfl _ _ 92 rfl w.heap.size 9 i0 _ 1 16 Tryz.underlying92 hi0 hz0 hz1 hz2 rfl (by decide) (.slice va acc.length vc) acc.length (strs acc) rfl (HGT.out _ ((Fr.refl _ _).alloc _)).own _ 1 [.string ((bA s).extract m pos)] rfl (src_new _ [.string ((bA s).extract m pos)] 9) rfl (by simp [Value.oneCell']) (by unfold maxLen; omega) (by omega) (HGT.out _ ((Fr.refl _ _).alloc _)).fr.size ?_; intro v' w2 own2 fr2; have HG2 := Lib.hid ((HGT.out _ ((Fr.refl _ _).alloc _)).step own2 fr2); have HFR2 := Lib.hid fr2; clear own2 fr2)
            all_goals (first
              | (exfalso; have hz := HBB.out; simp_all; done)
              | skip)
            all_goals
              go_roundw
              case rel => exact ⟨pos + n, -1, acc ++ [(s.drop m).take (pos - m)], rfl, HW.out.2, by rw [strs_snoc, List.length_append, ← extract_bA]; exact HG2.out, HIW.out _ _ ((Fr.refl _ _).alloc _) HFR2.out⟩
              case measure => rw [HMES.out, iterPos_of (HIW.out _ _ ((Fr.refl _ _).alloc _) HFR2.out)]; have := HHP.out; omega
        | false =>
          have hB' : blankB ((s.drop pos).take (charN (s.drop pos))) = false := by rw [HNN.out, HC.out]; exact hB
          unfold blankB at hB
          simp only [Bool.or_eq_false_iff] at hB
          obtain ⟨⟨⟨⟨e9, e13⟩, e32⟩, e160⟩, e8195⟩ := hB
          rw [e9] at q9
          rw [e13] at q13
          rw [e32] at q32
          rw [e160] at q160
          rw [e8195] at q8195
          rcases HSP.out.f with rfl | ⟨m, rfl, hm⟩
          · have HW := Lib.hid (HSP.out.on0 HHP.out h59' hB')
            rw [HNN.out] at HW
            clear h59' hC hn h59 hB' q59 e9 e13 e32 e160 e8195
            go_wp2_with fail
            go_roundw
            case rel => exact ⟨pos + n, pos, acc, rfl, HW.out, HW1.out, HI1.out⟩
            case measure => rw [HMES.out, HIP.out]; have := HHP.out; omega
          · have HW := Lib.hid (HSP.out.on1 HHP.out h59' hB')
            rw [HNN.out] at HW
            clear h59' hC hn h59 hB' q59 e9 e13 e32 e160 e8195
            go_wp2_with fail
            go_roundw
            case rel => exact ⟨pos + n, m, acc, rfl, HW.out, HW1.out, HI1.out⟩
            case measure => rw [HMES.out, HIP.out]; have := HHP.out; omega
    · have hnx : ∀ ty, (Instr.next (.pointer (some ⟨w.heap.size, 0, none⟩)) true ty).run Tryz.prog wr = _ := fun ty => Lib.run_next_end_at wr w.heap.size (bA s) pos ty HIT.out (by rw [HSS.out]; exact hp)
      have hpe : pos = s.length := by omega
      have HPE := Lib.hid hpe
      rcases HSP.out.f with rfl | ⟨m, rfl, hm⟩
      · have HW := Lib.hid (HSP.out.end0 hp)
        clear hp hpe hple
        go_wp2_with fail
        go_ret
        exact ⟨_, rfl, by rw [HW.out]; exact HGA0.out.words, HGA0.out.fr⟩
      · have HW := Lib.hid (HSP.out.end1 hp)
        have hb1 : (m : Int) ≤ ((bA s).size : Int) := by rw [HSS.out]; omega
        clear hp hpe
        have HGT : Hid (∀ W, Fr No wr W → Gath w 9 1 acc.length (strs acc) (.slice va acc.length vc) W) := fun W h => HGA0.out.to h
        have hal : acc.length ≤ 1000000 := by omega
        clear hple hfew
        go_wp2_with (at_builtin; refine wpList_append_src rfl _ _ 92 rfl w.heap.size 9 i0 _ 1 16 Tryz.underlying92 hi0 hz0 hz1 hz2 rfl (by decide) (.slice va acc.length vc) acc.length (strs acc) rfl (HGT.out _ ((Fr.refl _ _).alloc _)).own _ 1 [.string ((bA s).extract m (bA s).size)] rfl (src_new _ [.string ((bA s).extract m (bA s).size)] 9) rfl (by simp [Value.oneCell']) (by unfold maxLen; omega) (by omega) (HGT.out _ ((Fr.refl _ _).alloc _)).fr.size ?_; intro v' w2 own2 fr2; have HG2 := Lib.hid ((HGT.out _ ((Fr.refl _ _).alloc _)).step own2 fr2); have HFR2 := Lib.hid fr2; clear own2 fr2)
        go_ret
        refine ⟨_, rfl, ?_, HG2.out.fr⟩
        rw [HW.out.2]
        refine Gath.words (w := w) (t := 9) ?_
        rw [strs_snoc, List.length_append]
        have e : (bA s).extract m (bA s).size = bA ((s.drop m).take (pos - m)) := by rw [extract_bA, HSS.out, HPE.out]
        rw [← e]
        exact HG2.out
end Go.Proofs.YtakcdecljfmckaaGreatDoor
