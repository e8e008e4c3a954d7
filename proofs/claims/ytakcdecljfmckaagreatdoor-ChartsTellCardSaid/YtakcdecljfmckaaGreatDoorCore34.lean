/- lines.Read. what a word means, for the program and for the document. a line's slots, for the program and for the document. a line's slots: the words that code knows. -/
import Derived.Test.YtakcdecljfmckaaGreatDoorCore33
import Derived.Test.YtakcdecljfmckaaGreatDoorCore8
import Derived.Test.YtakcdecljfmckaaGreatDoorCore9
import Derived.Shelf.Unicode.ValidAny
set_option linter.all false
set_option linter.unusedVariables false
set_option linter.unusedSimpArgs false
namespace Go.Proofs.YtakcdecljfmckaaGreatDoor
open Go.RowKit

/-- a line's slots, as package lines finds them -/
def slotsP (t : List UInt8) : Option (List Ins) := (wordsL t).bind fun ws => if ws = [] then some [] else match slotsO ws with
  | some (l, true) => some l
  | _ => none
def readPF : List (List UInt8) → Nat → List Ins → List Ins × Nat × Int
  | [], _, acc => (acc, 0, 0)
  | t :: r, a, acc =>
    match slotsP t with
    | none => ([], a, 10)
    | some more => if 64 < (acc ++ more).length then ([], a, 3) else readPF r (a + 1) (acc ++ more)
def readP (s : List UInt8) : List Ins × Nat × Int := if 4000 < s.length then ([], 0, 3) else readPF (splitL s) 1 []
def ReadTo (w : World) (r : List Ins × Nat × Int) (e : Ending) (w' : World) : Prop := ∃ lv, e = .returned (.tuple #[lv, .int .i64 r.2.1, .int .i64 r.2.2]) ∧ InsAt w' lv r.1 ∧ Fr No w w'
theorem Tryz.infoL_ins : (Tryz.prog.info? 51).map (fun i => (i.zero, i.size, i.bytes)) = some (some (.agg #[.int .u8 0, .int .u8 0, .int .u8 0, .int .i16 0, .int .i32 0]), 5, 12) := by kernel_rfl
theorem valid_any (s : List UInt8) (hs : s.length ≤ 1000000) (w : World) (hT : LT w) : Calls Tryz.prog 48 #[.string (bA s)] w fun e w' => e = .returned (.bool (Lib.validD s)) ∧ Fr No w w' :=
  (Any.utf8_ValidString Tryz.laysValid (bA s) w (by rw [bA_size]; omega) hT.utf).mono fun e w' ⟨he, hb⟩ => ⟨he, Fr.of_below hb⟩
theorem lsplit_any (s : List UInt8) (hs : s.length ≤ 1000000) (w : World) (hT : LT w) : Calls Tryz.prog 47 #[.string (bA s), .string ⟨#[10]⟩] w fun e w' => ∃ g, e = .returned (.slice (some ⟨g, 0, none⟩) (splitL s).length (splitL s).length) ∧ CellsAt w' g 0 (strs (splitL s)) ∧ Fr No w w' := by
  obtain ⟨m, hm⟩ := hT.max
  have e2 : Lib.splitB ⟨#[10]⟩ 0 (Lib.countB (bA s) ⟨#[10]⟩) (bA s) = (splitL s).map bA := by
    have h := lines_split (bA s)
    have e3 : ∀ l : List ByteArray, (l.map (·.data.toList)).map bA = l := fun l => by
      rw [List.map_map]
      conv => rhs; rw [← List.map_id l]
      rfl
    rw [← e3 (Lib.splitB _ _ _ _), h]
    rfl
  have e1 : Lib.countB (bA s) ⟨#[10]⟩ + 1 = (splitL s).length := by
    rw [← Lib.splitB_all ⟨#[10]⟩ (by decide) 0 _ (bA s) rfl, e2, List.length_map]
  refine (Tryz.strings_Split (bA s) ⟨#[10]⟩ m w (by rw [bA_size]; omega) hm (by decide)).mono ?_
  rintro e w' ⟨rfl, rfl⟩
  rw [e1, e2]
  refine ⟨_, rfl, ?_, (Fr.refl _ _).alloc _⟩
  have e4 : ((splitL s).map bA).map Value.string = strs (splitL s) := by rw [List.map_map]; rfl
  rw [e4]
  exact CellsAt.new _ _ _
theorem readPF_some {t : List UInt8} {more : List Ins} (h : slotsP t = some more) (r : List (List UInt8)) (a : Nat) (acc : List Ins) : readPF (t :: r) a acc = if 64 < (acc ++ more).length then ([], a, 3) else readPF r (a + 1) (acc ++ more) := by
  show (match slotsP t with | none => _ | some more => _) = _
  rw [h]
theorem readPF_none {t : List UInt8} (h : slotsP t = none) (r : List (List UInt8)) (a : Nat) (acc : List Ins) : readPF (t :: r) a acc = ([], a, 10) := by
  show (match slotsP t with | none => _ | some more => _) = _
  rw [h]
theorem Gath.ins {w w' : World} {t : TypeId} {v : Value} {l : List Ins} (h : Gath w t 5 l.length (iflat l) v w') : InsAt w' v l := by
  rcases h.cells with ⟨h0, _, a, c, rfl⟩ | ⟨g, cap, rfl, hc, _⟩
  · exact .inl ⟨List.eq_nil_of_length_eq_zero h0, a, c, rfl⟩
  · exact .inr ⟨g, 0, cap, rfl, hc⟩
/-- build makes one slot or two; of an unknown word none, and then it says -1 -/
def Few (o : Option (List Ins × Int)) : Prop := ∀ l k, o = some (l, k) → l.length ≤ 2 ∧ (l = [] → k = -1)
theorem Few.no : Few none := fun _ _ h => by cases h
theorem Few.nil : Few (some ([], -1)) := fun l k h => by cases h; exact ⟨by simp, fun _ => rfl⟩
theorem Few.one (i : Ins) (k : Int) : Few (some ([i], k)) := fun l k h => by cases h; exact ⟨by simp, fun h => by cases h⟩
theorem Few.two (i j : Ins) (k : Int) : Few (some ([i, j], k)) := fun l k h => by cases h; exact ⟨by simp, fun h => by cases h⟩
theorem Few.bind {α : Type} {o : Option α} {f : α → Option (List Ins × Int)} (h : ∀ a, Few (f a)) : Few (o.bind f) := by
  cases o with
  | none => exact Few.no
  | some a => exact h a
theorem Few.ite {c : Prop} [Decidable c] {a b : Option (List Ins × Int)} (ha : Few a) (hb : Few b) : Few (if c then a else b) := by
  split
  · exact ha
  · exact hb
theorem build_few (word : List UInt8) (x : List Mv) : Few (buildO word x) := by
  unfold buildO callO jaO ldimmO ldmapO rawO ldxO stxO stO
  repeat' (first | exact Few.one _ _ | exact Few.two _ _ _ | exact Few.no | apply Few.ite | (apply Few.bind; intro _))
  cases codeW word with
  | none => exact Few.nil
  | some p =>
    obtain ⟨op, j⟩ := p
    show Few (codeO op j x)
    unfold codeO
    repeat' (first | exact Few.one _ _ | exact Few.two _ _ _ | exact Few.no | apply Few.ite | (apply Few.bind; intro _))
theorem slotsO_few {ws : List (List UInt8)} {l : List Ins} (h : slotsO ws = some (l, true)) : l.length ≤ 2 ∧ l ≠ [] := by
  cases ws with
  | nil => cases h
  | cons first rest =>
    obtain ⟨⟨l1, k⟩, hb, he⟩ := Option.map_eq_some_iff.1 (show (buildO first (rest.map meanM)).map (fun (l, k) => (l, decide (k = (rest.length : Int)))) = some (l, true) from h)
    simp only [Prod.mk.injEq, decide_eq_true_eq] at he
    obtain ⟨rfl, hk⟩ := he
    obtain ⟨h1, h2⟩ := build_few _ _ l1 k hb
    refine ⟨h1, fun h0 => ?_⟩
    have := h2 h0
    omega
theorem InsAt.src {w : World} {v : Value} {l : List Ins} (h : InsAt w v l) (h0 : l ≠ []) : SrcAt w v l.length (iflat l) := by
  rcases h with ⟨h, _⟩ | ⟨g, off, cap, rfl, hc⟩
  · exact absurd h h0
  · refine .inr ⟨_, _, rfl, fun j u hj => ?_⟩
    have := hc j u hj
    by_cases hj0 : j = 0
    · subst hj0; simpa [Addr.add] using this
    · simpa [Addr.add, hj0] using this
theorem iflat_app (a b : List Ins) : iflat (a ++ b) = iflat a ++ iflat b := by simp [iflat]
theorem iflat_len (l : List Ins) : (iflat l).length = l.length * 5 := by
  induction l with
  | nil => rfl
  | cons i l ih => rw [show i :: l = [i] ++ l from rfl, iflat_app, List.length_append, ih]; simp [iflat, Ins.cells]; omega
theorem iflat_one {l : List Ins} : ∀ u ∈ iflat l, u.oneCell' = true := fun u hu => by
  obtain ⟨i, _, hi⟩ := List.mem_flatMap.1 hu
  simp only [Ins.cells, List.mem_cons, List.not_mem_nil, or_false] at hi
  rcases hi with rfl | rfl | rfl | rfl | rfl <;> rfl
theorem Gath.stepm {w wr w' : World} {t : TypeId} {size n m : Nat} {xs news : List Value} {v v' : Value} (h : Gath w t size n xs v wr) (ho : w'.ownsRow w.heap.size t size v' (n + m) (xs ++ news)) (hf : Fr (OwnOf v) wr w') : Gath w t size (n + m) (xs ++ news) v' w' :=
  ⟨((h.fr.any.trans (hf.mono fun k _ hk => OwnOf.ge h.own hk)) : Fr (From w) w w').ours, ho⟩
theorem StrsAt.form1 {w : World} {v : Value} {l : List (List UInt8)} (h : StrsAt w v l) : ∃ a c, v = .slice a l.length c := by
  rcases h with ⟨rfl, a, c, h⟩ | ⟨g3, o3, c3, h, _⟩
  · exact ⟨_, _, h⟩
  · exact ⟨_, _, h⟩
theorem words_valid (t : List UInt8) : Lib.validD t = true ↔ wordsL t ≠ none := valid_words t.length t false [] [] (Nat.le_refl _)
set_option maxRecDepth 100000 in
set_option maxHeartbeats 1000000 in
theorem read_long (s : List UInt8) (hs : 4000 < s.length) (w : World) : Calls Tryz.prog 21 #[.string (bA s)] w (ReadTo w ([], 0, 3)) := by
  have hsz : (bA s).size = s.length := bA_size s
  have h1 : (4000 : Int) < ((bA s).size : Int) := by omega
  clear hsz
  generalize bA s = B at *
  go_enter Tryz.func21, Tryz.ntmps21
  go_wp2_with fail
  go_returns
  exact ⟨_, rfl, .inl ⟨rfl, _, _, rfl⟩, Fr.refl _ _⟩
set_option maxRecDepth 100000 in
set_option maxHeartbeats 4000000 in
theorem read_short (s : List UInt8) (hs : s.length ≤ 4000) (w : World) (hT : LT w) : Calls Tryz.prog 21 #[.string (bA s)] w (ReadTo w (readPF (splitL s) 1 [])) := by
  have hsz : (bA s).size = s.length := bA_size s
  have h1 : ¬ (4000 : Int) < ((bA s).size : Int) := by omega
  have HSP := Lib.hid (lsplit_any s (by omega) w hT)
  have HT : Hid (∀ W, Fr No w W → LT W) := fun W hf => hT.fr hf
  have HLE : Hid (∀ t ∈ splitL s, t.length ≤ 1000000) := fun t ht => by have := splitF_le s [] t ht; simp at this; omega
  have hnum : (splitL s).length ≤ 4001 := by have := splitF_len s []; unfold splitL; omega
  obtain ⟨i0, hi0, hz0, hz1, hz2⟩ := info_parts Tryz.infoL_ins
  clear hsz hT hs
  generalize splitL s = L at *
  generalize bA s = B at *
  obtain ⟨n, hn⟩ : ∃ n, L.length = n := ⟨_, rfl⟩
  rw [hn] at HSP hnum
  have HN := Lib.hid hn
  clear hn
  go_enter Tryz.func21, Tryz.ntmps21
  go_wp2_with (go_at_call 47; (with_reducible refine HSP.out.mono ?_); rintro e W0 ⟨g, rfl, hc0, hf0⟩; have HC0 := Lib.hid hc0; have HF0 := Lib.hid hf0; clear hc0 hf0)
  go_loopw [2, 5, 6, 7, 8, 9, 16] (fun s2 s5 s6 s7 s8 s9 s16 wr => ∃ (k : Nat) (acc : List Ins), k ≤ n ∧ s16 = .int .i64 k ∧ acc.length ≤ 64 ∧ Hid (Gath W0 51 5 acc.length (iflat acc) s2 wr) ∧ Hid (readPF (L.drop k) (k + 1) acc = readPF L 1 [])) (fun _ _ _ _ _ _ s16 _ => n - (intOf s16).toNat)
  case atStart => exact ⟨0, [], Nat.zero_le _, rfl, Nat.zero_le _, Gath.start W0 _ _, rfl⟩
  case round =>
    obtain ⟨k, acc, hk, rfl, hacc, HG, HR⟩ := hrel
    obtain ⟨va, vc, rfl⟩ := ownL_form HG.out.own
    have hfw := HF0.out.trans HG.out.fr
    by_cases hlt : k < n
    · obtain ⟨t, ht⟩ : ∃ t, L[k]? = some t := ⟨_, List.getElem?_eq_getElem (by rw [HN.out]; exact hlt)⟩
      have hcell : wr.cell? ⟨g, k, none⟩ = some (.string (bA t)) := by
        have := (HG.out.fr.cells HC0.out id) k (.string (bA t)) (by simp [strs, ht])
        rwa [Nat.zero_add] at this
      have htl := HLE.out t (List.mem_of_getElem? ht)
      have HV := Lib.hid (valid_any t htl wr (HT.out _ hfw))
      have HFW := Lib.hid hfw
      have HD : Hid (L.drop k = t :: L.drop (k + 1)) := by
        have := List.drop_eq_getElem_cons (l := L) (i := k) (by rw [HN.out]; exact hlt)
        rw [List.getElem?_eq_getElem (by rw [HN.out]; exact hlt)] at ht
        rw [this, Option.some.inj ht]
        exact Lib.hid rfl
      rw [HD.out] at HR
      clear ht hfw
      cases hvd : Lib.validD t with
      | false =>
        rw [hvd] at HV
        have HW : Hid (readPF L 1 [] = ([], k + 1, 10)) := by
          have h0 : wordsL t = none := by
            cases hw : wordsL t with
            | none => rfl
            | some ws => have := (words_valid t).2 (by rw [hw]; simp); rw [hvd] at this; cases this
          rw [← HR.out]
          unfold readPF slotsP
          rw [h0]; rfl
        clear hvd htl
        go_wp2_with (go_at_call 48; (with_reducible refine HV.out.mono ?_); rintro e w2 ⟨rfl, hf2⟩)
        go_returns
        rw [HW.out]
        exact ⟨_, rfl, .inl ⟨rfl, _, _, rfl⟩, HFW.out.trans hf2⟩
      | true =>
        rw [hvd] at HV
        obtain ⟨ws, hw⟩ := Option.ne_none_iff_exists'.1 ((words_valid t).1 hvd)
        have HSPL : Hid (∀ W, Calls Tryz.prog 49 #[.string (bA t)] W (SlWords ws W)) := fun W => split_any t ws htl hw W
        obtain ⟨hwl, hwn⟩ := wordsL_le hw
        cases ws with
        | nil =>
          have HR2 : Hid (readPF (L.drop (k + 1)) (k + 1 + 1) acc = readPF L 1 []) := by
            rw [← HR.out]
            have e : slotsP t = some [] := by unfold slotsP; rw [hw]; rfl
            rw [readPF_some e, List.append_nil, if_neg (by omega)]
            exact Lib.hid rfl
          clear hvd htl hw hwl hwn
          go_wp2_with (first
            | (go_at_call 48; (with_reducible refine HV.out.mono ?_); rintro e w2 ⟨rfl, hf2⟩; have HF2 := Lib.hid hf2; clear hf2)
            | (go_at_call 49; (with_reducible refine (HSPL.out _).mono ?_); rintro e w3 ⟨v3, rfl, hv3, hf3⟩; obtain ⟨a3, c3, rfl⟩ : ∃ a c, v3 = .slice a 0 c := (by rcases hv3 with ⟨_, a, c, h⟩ | ⟨g3, o3, c3, h, _⟩; exact ⟨_, _, h⟩; exact ⟨_, _, h⟩); have HF3 := Lib.hid (HF2.out.trans hf3); clear hf3 hv3))
          go_roundw
          case rel => exact ⟨k + 1, acc, hlt, rfl, hacc, HG.out.to HF3.out, HR2.out⟩
          case measure => show n - (k + 1) < n - k; omega
        | cons first rest =>
          have HSL : Hid (∀ W v, Fr No w W → StrsAt W v (first :: rest) → Calls Tryz.prog 50 #[v] W (SlotsTo W (slotsO (first :: rest)))) := fun W v hf hv => slots_any first rest v (fun u hu => by have := hwl u hu; omega) (by simp at hwn; omega) W (HT.out W hf) hv
          obtain ⟨m, hm⟩ : ∃ m, (first :: rest).length = m := ⟨_, rfl⟩
          have hm1 : 1 ≤ m := by rw [← hm]; simp
          have q0 : ((m : Int) == 0) = false := by rw [beq_eq_false_iff_ne]; omega
          clear hwl hwn
          cases hso : slotsO (first :: rest) with
          | none =>
            rw [hso] at HSL
            have HW : Hid (readPF L 1 [] = ([], k + 1, 10)) := by
              rw [← HR.out]
              exact readPF_none (by unfold slotsP; rw [hw]; show (match slotsO (first :: rest) with | some (l, true) => some l | _ => none) = none; rw [hso]) _ _ _
            clear hvd htl hw hso
            go_wp2_with (first
              | (go_at_call 48; (with_reducible refine HV.out.mono ?_); rintro e w2 ⟨rfl, hf2⟩; have HF2 := Lib.hid hf2; clear hf2)
              | (go_at_call 49; (with_reducible refine (HSPL.out _).mono ?_); rintro e w3 ⟨v3, rfl, hv3, hf3⟩; obtain ⟨a3, c3, rfl⟩ := hv3.form1; have HF3 := Lib.hid (HF2.out.trans hf3); have HS3 := Lib.hid (HSL.out _ _ (HFW.out.trans HF3.out) hv3); rw [hm] at HS3 ⊢; clear hf3 hv3)
              | (go_at_call 50; (with_reducible refine HS3.out.mono ?_); rintro e w4 ⟨rfl, hf4⟩; have HF4 := Lib.hid (HF3.out.trans hf4); clear hf4))
            go_returns
            rw [HW.out]
            exact ⟨_, rfl, .inl ⟨rfl, _, _, rfl⟩, HFW.out.trans HF4.out⟩
          | some r =>
            obtain ⟨l, ok⟩ := r
            rw [hso] at HSL
            cases ok with
            | false =>
              have HW : Hid (readPF L 1 [] = ([], k + 1, 10)) := by
                rw [← HR.out]
                exact readPF_none (by unfold slotsP; rw [hw]; show (match slotsO (first :: rest) with | some (l, true) => some l | _ => none) = none; rw [hso]) _ _ _
              clear hvd htl hw hso
              go_wp2_with (first
                | (go_at_call 48; (with_reducible refine HV.out.mono ?_); rintro e w2 ⟨rfl, hf2⟩; have HF2 := Lib.hid hf2; clear hf2)
                | (go_at_call 49; (with_reducible refine (HSPL.out _).mono ?_); rintro e w3 ⟨v3, rfl, hv3, hf3⟩; obtain ⟨a3, c3, rfl⟩ := hv3.form1; have HF3 := Lib.hid (HF2.out.trans hf3); have HS3 := Lib.hid (HSL.out _ _ (HFW.out.trans HF3.out) hv3); rw [hm] at HS3 ⊢; clear hf3 hv3)
                | (go_at_call 50; (with_reducible refine HS3.out.mono ?_); rintro e w4 ⟨v4, rfl, hv4, hf4⟩; have HF4 := Lib.hid (HF3.out.trans hf4); clear hf4))
              go_returns
              rw [HW.out]
              exact ⟨_, rfl, .inl ⟨rfl, _, _, rfl⟩, HFW.out.trans HF4.out⟩
            | true =>
              obtain ⟨hl2, hl0⟩ := slotsO_few hso
              have HL0 := Lib.hid hl0
              have HR1 : Hid (readPF L 1 [] = if 64 < (acc ++ l).length then ([], k + 1, 3) else readPF (L.drop (k + 1)) (k + 1 + 1) (acc ++ l)) := by
                rw [← HR.out]
                exact readPF_some (by unfold slotsP; rw [hw]; show (match slotsO (first :: rest) with | some (l, true) => some l | _ => none) = some l; rw [hso]) _ _ _
              clear hvd htl hw hso hl0
              by_cases hbig : 64 < acc.length + l.length
              · have HW : Hid (readPF L 1 [] = ([], k + 1, 3)) := by rw [HR1.out, if_pos (by rw [List.length_append]; exact hbig)]; exact Lib.hid rfl
                have hb2 : (64 : Int) < (acc.length : Int) + (l.length : Int) := by omega
                go_wp2_with (first
                  | (go_at_call 48; (with_reducible refine HV.out.mono ?_); rintro e w2 ⟨rfl, hf2⟩; have HF2 := Lib.hid hf2; clear hf2)
                  | (go_at_call 49; (with_reducible refine (HSPL.out _).mono ?_); rintro e w3 ⟨v3, rfl, hv3, hf3⟩; obtain ⟨a3, c3, rfl⟩ := hv3.form1; have HF3 := Lib.hid (HF2.out.trans hf3); have HS3 := Lib.hid (HSL.out _ _ (HFW.out.trans HF3.out) hv3); rw [hm] at HS3 ⊢; clear hf3 hv3)
                  | (go_at_call 50; (with_reducible refine HS3.out.mono ?_); rintro e w4 ⟨v4, rfl, hv4, hf4⟩; obtain ⟨a4, c4, rfl⟩ := hv4.form; have HF4 := Lib.hid (HF3.out.trans hf4); have HG4 := Lib.hid (HG.out.to HF4.out); have HV4 := Lib.hid (hv4.src HL0.out); clear hf4 hv4)
                  | (at_builtin; refine wpList_append_src rfl _ _ 22 rfl W0.heap.size 51 i0 _ 5 12 Tryz.underlying22 hi0 hz0 hz1 hz2 rfl (by decide) (.slice va acc.length vc) acc.length (iflat acc) rfl HG4.out.own _ l.length (iflat l) rfl HV4.out (iflat_len l) iflat_one (by unfold maxLen; omega) (by omega) HG4.out.fr.size ?_; intro v' w5 own5 fr5; obtain ⟨a5, c5, rfl⟩ := ownL_form own5; have HG5 := Lib.hid (HG4.out.stepm own5 fr5); clear own5 fr5))
                go_returns
                rw [HW.out]
                exact ⟨_, rfl, .inl ⟨rfl, _, _, rfl⟩, HF0.out.trans HG5.out.fr⟩
              · have HR2 : Hid (readPF (L.drop (k + 1)) (k + 1 + 1) (acc ++ l) = readPF L 1 []) := by rw [HR1.out, if_neg (by rw [List.length_append]; exact hbig)]; exact Lib.hid rfl
                have hb2 : ¬ (64 : Int) < (acc.length : Int) + (l.length : Int) := by omega
                go_wp2_with (first
                  | (go_at_call 48; (with_reducible refine HV.out.mono ?_); rintro e w2 ⟨rfl, hf2⟩; have HF2 := Lib.hid hf2; clear hf2)
                  | (go_at_call 49; (with_reducible refine (HSPL.out _).mono ?_); rintro e w3 ⟨v3, rfl, hv3, hf3⟩; obtain ⟨a3, c3, rfl⟩ := hv3.form1; have HF3 := Lib.hid (HF2.out.trans hf3); have HS3 := Lib.hid (HSL.out _ _ (HFW.out.trans HF3.out) hv3); rw [hm] at HS3 ⊢; clear hf3 hv3)
                  | (go_at_call 50; (with_reducible refine HS3.out.mono ?_); rintro e w4 ⟨v4, rfl, hv4, hf4⟩; obtain ⟨a4, c4, rfl⟩ := hv4.form; have HF4 := Lib.hid (HF3.out.trans hf4); have HG4 := Lib.hid (HG.out.to HF4.out); have HV4 := Lib.hid (hv4.src HL0.out); clear hf4 hv4)
                  | (at_builtin; refine wpList_append_src rfl _ _ 22 rfl W0.heap.size 51 i0 _ 5 12 Tryz.underlying22 hi0 hz0 hz1 hz2 rfl (by decide) (.slice va acc.length vc) acc.length (iflat acc) rfl HG4.out.own _ l.length (iflat l) rfl HV4.out (iflat_len l) iflat_one (by unfold maxLen; omega) (by omega) HG4.out.fr.size ?_; intro v' w5 own5 fr5; obtain ⟨a5, c5, rfl⟩ := ownL_form own5; have HG5 := Lib.hid (HG4.out.stepm own5 fr5); clear own5 fr5))
                go_roundw
                case rel => exact ⟨k + 1, acc ++ l, hlt, rfl, by rw [List.length_append]; omega, by rw [List.length_append, iflat_app]; exact HG5.out, HR2.out⟩
                case measure => show n - (k + 1) < n - k; omega
    · obtain rfl : k = n := by omega
      have HE : Hid (readPF L 1 [] = (acc, 0, 0)) := by
        rw [← HR.out, List.drop_of_length_le (by rw [HN.out]; exact Nat.le_refl _)]
        exact Lib.hid rfl
      have hlt2 : ¬ ((k : Int) < (k : Int)) := by omega
      go_wp2_with fail
      go_returns
      rw [HE.out]
      exact ⟨_, rfl, HG.out.ins, hfw⟩
/-- lines.Read -/
theorem read_any (s : List UInt8) (hs : s.length ≤ 1000000) (w : World) (hT : LT w) : Calls Tryz.prog 21 #[.string (bA s)] w (ReadTo w (readP s)) := by
  unfold readP
  split
  · rename_i h; exact read_long s h w
  · rename_i h; exact read_short s (by omega) w hT
end Go.Proofs.YtakcdecljfmckaaGreatDoor

namespace Go.Proofs.YtakcdecljfmckaaGreatDoor

theorem regW_some {s : List UInt8} {n : Nat} (h : regW s = some n) : s = regN n := by
  have := List.find?_some h
  simpa using this
theorem regW_head {s : List UInt8} {n : Nat} (h : regW s = some n) : s.head? = some 114 := by
  rw [regW_some h]; rfl
theorem dst_mean (s : List UInt8) : dstG (meanM s) = Option.map (fun n : Nat => (n : Int)) (regW s) := by
  unfold meanM
  split
  · cases hr : regW s with
    | none => rfl
    | some n => rfl
  · rename_i hh
    have hr : regW s = none := by
      cases hr : regW s with
      | none => rfl
      | some n => exact absurd (regW_head hr) hh
    rw [hr]
    split <;> rfl
theorem num_r {s : List UInt8} (h : s.head? = some 114) : numW s = none := by
  cases s with
  | nil => cases h
  | cons c t =>
    obtain rfl := Option.some.inj h
    unfold numW
    rw [if_neg (by rintro ⟨_, h⟩; simp at h), if_neg (by rintro ⟨_, h⟩; simp at h), if_neg (by rintro ⟨_, h⟩; simp at h)]
    unfold digL digV
    rw [if_neg (by simp), if_pos (by decide)]
    rfl
theorem within_mean (s : List UInt8) (lo hi : Nat) : withinM (meanM s) lo hi = parseI s lo hi := by
  unfold meanM parseI
  split
  · rename_i hh
    rw [num_r hh]
    cases regW s <;> rfl
  · cases hn : numW s with
    | none => rfl
    | some p =>
      obtain ⟨m, n⟩ := p
      cases m with
      | false =>
        show withinM (.val (false && decide (0 < n)) n) lo hi = _
        simp [withinM]
      | true =>
        show withinM (.val (true && decide (0 < n)) n) lo hi = _
        by_cases h0 : 0 < n
        · simp [withinM, h0]
        · obtain rfl : n = 0 := by omega
          simp [withinM]
theorem long_mean (s : List UInt8) : longM (meanM s) = (parseI s 0 18446744073709551615).map Int.toNat := by
  unfold meanM parseI
  split
  · rename_i hh
    rw [num_r hh]
    cases regW s <;> rfl
  · cases hn : numW s with
    | none => rfl
    | some p =>
      obtain ⟨m, n⟩ := p
      have hlt := numW_lt hn
      cases m with
      | false =>
        show longM (.val (false && decide (0 < n)) n) = _
        simp [longM]
        omega
      | true =>
        show longM (.val (true && decide (0 < n)) n) = _
        by_cases h0 : 0 < n
        · simp [longM, h0]
          omega
        · obtain rfl : n = 0 := by omega
          simp [longM]
theorem either_mean (op d : Nat) (s : List UInt8) : eitherO op d (meanM s) = fieldI ⟨op, d, 0, 0, 0⟩ .e s := by
  unfold fieldI
  cases hr : regW s with
  | some n =>
    have : meanM s = .reg n := by unfold meanM; rw [if_pos (regW_head hr), hr]
    rw [this]
    rfl
  | none =>
    have hw := within_mean s 2147483648 2147483647
    cases hm : meanM s with
    | reg n =>
      have := dst_mean s
      rw [hm, hr] at this
      cases this
    | no => rw [hm] at hw; rw [← hw]; rfl
    | val m n => rw [hm] at hw; rw [← hw]; rfl
end Go.Proofs.YtakcdecljfmckaaGreatDoor

namespace Go.Proofs.YtakcdecljfmckaaGreatDoor

/-- the slots, if all words behind the first are used up -/
def okP (o : Option (List Ins × Int)) (n : Nat) : Option (List Ins) := match o with
  | some (l, k) => if k = (n : Int) then some l else none
  | none => none
theorem okP_ne {l : List Ins} {k : Int} {n : Nat} (h : k ≠ (n : Int)) : okP (some (l, k)) n = none := if_neg h
theorem small_mean (s : List UInt8) : smallG (meanM s) = parseI s 0 255 := within_mean s 0 255
theorem short_mean (s : List UInt8) : shortG (meanM s) = parseI s 32768 32767 := within_mean s 32768 32767
theorem whole_mean (s : List UInt8) : wholeG (meanM s) = parseI s 2147483648 2147483647 := within_mean s 2147483648 2147483647
theorem ag_cons0 (g : Mv → Option Int) (a : List UInt8) (r : List (List UInt8)) : ag g ((a :: r).map meanM) 0 = g (meanM a) := rfl
theorem ag_cons1 (g : Mv → Option Int) (a b : List UInt8) (r : List (List UInt8)) : ag g ((a :: b :: r).map meanM) 1 = g (meanM b) := rfl
theorem ag_cons2 (g : Mv → Option Int) (a b c : List UInt8) (r : List (List UInt8)) : ag g ((a :: b :: c :: r).map meanM) 2 = g (meanM c) := rfl
theorem ag_cons3 (g : Mv → Option Int) (a b c d : List UInt8) (r : List (List UInt8)) : ag g ((a :: b :: c :: d :: r).map meanM) 3 = g (meanM d) := rfl
theorem ag_cons4 (g : Mv → Option Int) (a b c d e : List UInt8) (r : List (List UInt8)) : ag g ((a :: b :: c :: d :: e :: r).map meanM) 4 = g (meanM e) := rfl
theorem call_is (rest : List (List UInt8)) : okP (callO (rest.map meanM)) rest.length = (fieldsI ⟨133, 0, 0, 0, 0⟩ [.v] rest).map fun i => [i] := by
  unfold callO
  match rest with
  | [] => rfl
  | [a] =>
    rw [ag_cons0, whole_mean]
    unfold fieldsI fieldI
    cases parseI a 2147483648 2147483647 <;> rfl
  | a :: b :: r =>
    rw [ag_cons0, whole_mean]
    unfold fieldsI fieldI
    cases parseI a 2147483648 2147483647 with
    | none => rfl
    | some z =>
      exact okP_ne (by simp only [List.length_cons]; omega)
theorem ja_is (rest : List (List UInt8)) : okP (jaO (rest.map meanM)) rest.length = (fieldsI ⟨5, 0, 0, 0, 0⟩ [.o] rest).map fun i => [i] := by
  unfold jaO
  match rest with
  | [] => rfl
  | [a] =>
    rw [ag_cons0, short_mean]
    unfold fieldsI fieldI
    cases parseI a 32768 32767 <;> rfl
  | a :: b :: r =>
    rw [ag_cons0, short_mean]
    unfold fieldsI fieldI
    cases parseI a 32768 32767 with
    | none => rfl
    | some z =>
      exact okP_ne (by simp only [List.length_cons]; omega)
theorem stx_is (op : Nat) (rest : List (List UInt8)) : okP (stxO op (rest.map meanM)) rest.length = (fieldsI ⟨op, 0, 0, 0, 0⟩ [.d, .o, .s] rest).map fun i => [i] := by
  unfold stxO
  match rest with
  | [] => rfl
  | [a] =>
    rw [ag_cons0]
    simp only [dst_mean, short_mean, whole_mean]
    unfold fieldsI fieldI
    cases (regW a) <;> rfl
  | [a, b] =>
    rw [ag_cons0, ag_cons1]
    simp only [dst_mean, short_mean, whole_mean]
    unfold fieldsI fieldI
    cases (regW a) with
    | none => rfl
    | some x =>
      unfold fieldsI fieldI
      cases (parseI b 32768 32767) <;> rfl
  | a :: b :: c :: r =>
    rw [ag_cons0, ag_cons1, ag_cons2]
    simp only [dst_mean, short_mean, whole_mean]
    unfold fieldsI fieldI
    cases (regW a) with
    | none => rfl
    | some x =>
      unfold fieldsI fieldI
      cases (parseI b 32768 32767) with
      | none => rfl
      | some y =>
        unfold fieldsI fieldI
        cases (regW c) with
        | none => rfl
        | some z =>
          cases r with
          | nil => rfl
          | cons d r => exact okP_ne (by simp only [List.length_cons]; omega)
theorem st_is (op : Nat) (rest : List (List UInt8)) : okP (stO op (rest.map meanM)) rest.length = (fieldsI ⟨op, 0, 0, 0, 0⟩ [.d, .o, .v] rest).map fun i => [i] := by
  unfold stO
  match rest with
  | [] => rfl
  | [a] =>
    rw [ag_cons0]
    simp only [dst_mean, short_mean, whole_mean]
    unfold fieldsI fieldI
    cases (regW a) <;> rfl
  | [a, b] =>
    rw [ag_cons0, ag_cons1]
    simp only [dst_mean, short_mean, whole_mean]
    unfold fieldsI fieldI
    cases (regW a) with
    | none => rfl
    | some x =>
      unfold fieldsI fieldI
      cases (parseI b 32768 32767) <;> rfl
  | a :: b :: c :: r =>
    rw [ag_cons0, ag_cons1, ag_cons2]
    simp only [dst_mean, short_mean, whole_mean]
    unfold fieldsI fieldI
    cases (regW a) with
    | none => rfl
    | some x =>
      unfold fieldsI fieldI
      cases (parseI b 32768 32767) with
      | none => rfl
      | some y =>
        unfold fieldsI fieldI
        cases (parseI c 2147483648 2147483647) with
        | none => rfl
        | some z =>
          cases r with
          | nil => rfl
          | cons d r => exact okP_ne (by simp only [List.length_cons]; omega)
theorem ldx_is (op : Nat) (rest : List (List UInt8)) : okP (ldxO op (rest.map meanM)) rest.length = (fieldsI ⟨op, 0, 0, 0, 0⟩ [.d, .s, .o] rest).map fun i => [i] := by
  unfold ldxO
  match rest with
  | [] => rfl
  | [a] =>
    rw [ag_cons0]
    simp only [dst_mean, short_mean, whole_mean]
    unfold fieldsI fieldI
    cases (regW a) <;> rfl
  | [a, b] =>
    rw [ag_cons0, ag_cons1]
    simp only [dst_mean, short_mean, whole_mean]
    unfold fieldsI fieldI
    cases (regW a) with
    | none => rfl
    | some x =>
      unfold fieldsI fieldI
      cases (regW b) <;> rfl
  | a :: b :: c :: r =>
    rw [ag_cons0, ag_cons1, ag_cons2]
    simp only [dst_mean, short_mean, whole_mean]
    unfold fieldsI fieldI
    cases (regW a) with
    | none => rfl
    | some x =>
      unfold fieldsI fieldI
      cases (regW b) with
      | none => rfl
      | some y =>
        unfold fieldsI fieldI
        cases (parseI c 32768 32767) with
        | none => rfl
        | some z =>
          cases r with
          | nil => rfl
          | cons d r => exact okP_ne (by simp only [List.length_cons]; omega)
theorem ldmap_is (rest : List (List UInt8)) : okP (ldmapO (rest.map meanM)) rest.length = (fieldsI ⟨24, 0, 1, 0, 0⟩ [.d, .v] rest).map fun i => [i, ⟨0, 0, 0, 0, 0⟩] := by
  unfold ldmapO
  match rest with
  | [] => rfl
  | [a] =>
    rw [ag_cons0]
    simp only [dst_mean, whole_mean]
    unfold fieldsI fieldI
    cases regW a <;> rfl
  | a :: b :: r =>
    rw [ag_cons0, ag_cons1]
    simp only [dst_mean, whole_mean]
    unfold fieldsI fieldI
    cases regW a with
    | none => rfl
    | some x =>
      unfold fieldsI fieldI
      cases parseI b 2147483648 2147483647 with
      | none => rfl
      | some y =>
        cases r with
        | nil => rfl
        | cons d r => exact okP_ne (by simp only [List.length_cons]; omega)
def rawWM (rest : List (List UInt8)) : Option (List Ins) := match rest with
  | [a, b, c, o, v] => (parseI a 0 255).bind fun x => (parseI b 0 255).bind fun y => (parseI c 0 255).bind fun z => (fieldsI ⟨x.toNat, y.toNat, z.toNat, 0, 0⟩ [.o, .v] [o, v]).map fun i => [i]
  | _ => none
theorem raw_is (rest : List (List UInt8)) : okP (rawO (rest.map meanM)) rest.length = rawWM rest := by
  unfold rawO
  match rest with
  | [] => rfl
  | [a] =>
    rw [ag_cons0]
    simp only [small_mean]
    cases parseI a 0 255 <;> rfl
  | [a, b] =>
    rw [ag_cons0, ag_cons1]
    simp only [small_mean]
    cases parseI a 0 255 <;> cases parseI b 0 255 <;> rfl
  | [a, b, c] =>
    rw [ag_cons0, ag_cons1, ag_cons2]
    simp only [small_mean]
    cases parseI a 0 255 <;> cases parseI b 0 255 <;> cases parseI c 0 255 <;> rfl
  | [a, b, c, o] =>
    rw [ag_cons0, ag_cons1, ag_cons2, ag_cons3]
    simp only [small_mean, short_mean]
    cases parseI a 0 255 <;> cases parseI b 0 255 <;> cases parseI c 0 255 <;> cases parseI o 32768 32767 <;> rfl
  | a :: b :: c :: o :: v :: r =>
    rw [ag_cons0, ag_cons1, ag_cons2, ag_cons3, ag_cons4]
    simp only [small_mean, short_mean, whole_mean]
    cases r with
    | nil =>
      show _ = ((parseI a 0 255).bind fun x => (parseI b 0 255).bind fun y => (parseI c 0 255).bind fun z => (fieldsI ⟨x.toNat, y.toNat, z.toNat, 0, 0⟩ [.o, .v] [o, v]).map fun i => [i])
      cases parseI a 0 255 with
      | none => rfl
      | some x =>
        cases parseI b 0 255 with
        | none => rfl
        | some y =>
          cases parseI c 0 255 with
          | none => rfl
          | some z =>
            show _ = (fieldsI ⟨x.toNat, y.toNat, z.toNat, 0, 0⟩ [.o, .v] [o, v]).map fun i => [i]
            unfold fieldsI fieldI
            cases parseI o 32768 32767 with
            | none => rfl
            | some q =>
              unfold fieldsI fieldI
              cases parseI v 2147483648 2147483647 <;> rfl
    | cons d r =>
      show _ = none
      cases parseI a 0 255 <;> cases parseI b 0 255 <;> cases parseI c 0 255 <;> cases parseI o 32768 32767 <;> cases parseI v 2147483648 2147483647 <;> first | rfl | exact okP_ne (by simp only [List.length_cons]; omega)
def ldimmW (rest : List (List UInt8)) : Option (List Ins) := match rest with
  | [a, b] => (regW a).bind fun r => (parseI b 0 18446744073709551615).map fun n => [⟨24, r, 0, 0, s32 (n.toNat % 4294967296)⟩, ⟨0, 0, 0, 0, s32 (n.toNat / 4294967296)⟩]
  | _ => none
theorem ldimm_is (rest : List (List UInt8)) : okP (ldimmO (rest.map meanM)) rest.length = ldimmW rest := by
  unfold ldimmO
  match rest with
  | [] => rfl
  | [a] => rfl
  | a :: b :: r =>
    rw [ag_cons0]
    show okP ((longM (meanM b)).bind _) _ = _
    rw [long_mean, dst_mean]
    cases r with
    | nil =>
      show _ = ((regW a).bind fun r => (parseI b 0 18446744073709551615).map fun n => [(⟨24, r, 0, 0, s32 (n.toNat % 4294967296)⟩ : Ins), (⟨0, 0, 0, 0, s32 (n.toNat / 4294967296)⟩ : Ins)])
      cases regW a <;> cases parseI b 0 18446744073709551615 <;> rfl
    | cons d r =>
      show _ = none
      cases regW a <;> cases parseI b 0 18446744073709551615 <;> first | rfl | exact okP_ne (by simp only [List.length_cons]; omega)
end Go.Proofs.YtakcdecljfmckaaGreatDoor

namespace Go.Proofs.YtakcdecljfmckaaGreatDoor

/-- what stands behind a word of code -/
def codeKs (op : Nat) (j : Bool) : List Kd := if j then [.d, .e, .o] else if op / 16 = 8 then [.d] else [.d, .e]
theorem code_is (op : Nat) (j : Bool) (rest : List (List UInt8)) : okP (codeO op j (rest.map meanM)) rest.length = (fieldsI ⟨op, 0, 0, 0, 0⟩ (codeKs op j) rest).map fun i => [i] := by
  unfold codeO codeKs
  match rest with
  | [] => cases j <;> (try (by_cases h : op / 16 = 8)) <;> simp [*, fieldsI] <;> rfl
  | a :: t =>
    rw [ag_cons0, dst_mean]
    cases hr : regW a with
    | none => cases j <;> (try (by_cases h : op / 16 = 8)) <;> simp [*, fieldsI, fieldI] <;> rfl
    | some d =>
      show okP (if _ then _ else _) _ = _
      have e : ((d : Nat) : Int).toNat = d := rfl
      simp only [e]
      cases j with
      | false =>
        by_cases h : op / 16 = 8
        · simp only [h, Bool.not_false, Bool.true_and, beq_self_eq_true, if_true, Bool.false_eq_true, if_false]
          simp only [fieldsI, fieldI, hr]
          cases t with
          | nil => rfl
          | cons b t => exact okP_ne (by simp only [List.length_cons]; omega)
        · have hb : (op / 16 == 8) = false := by simpa using h
          rw [if_neg h]
          simp only [hb, Bool.not_false, Bool.true_and, Bool.false_eq_true, if_false]
          cases t with
          | nil =>
            show none = _
            simp only [fieldsI, fieldI, hr, Option.map_some, Option.bind_some, Option.map_none]
          | cons b t =>
            show okP ((eitherO op d (meanM b)).bind fun i => some ([i], 2)) _ = _
            rw [either_mean]
            have e1 : fieldsI ⟨op, 0, 0, 0, 0⟩ [.d, .e] (a :: b :: t) = (fieldI ⟨op, d, 0, 0, 0⟩ .e b).bind fun j => fieldsI j [] t := by
              show ((regW a).map _).bind _ = _
              rw [hr]; rfl
            rw [e1]
            cases fieldI ⟨op, d, 0, 0, 0⟩ .e b with
            | none => rfl
            | some i =>
              cases t with
              | nil => rfl
              | cons c t => exact okP_ne (by simp only [List.length_cons]; omega)
      | true =>
        simp only [Bool.not_true, Bool.false_and, Bool.false_eq_true, if_false, if_true]
        cases t with
        | nil =>
          show none = _
          simp only [fieldsI, fieldI, hr, Option.map_some, Option.bind_some, Option.map_none]
        | cons b t =>
          show okP ((eitherO op d (meanM b)).bind fun i => (ag shortG _ 2).bind fun o => some ([{ i with off := o }], 3)) _ = _
          rw [either_mean]
          have e1 : fieldsI ⟨op, 0, 0, 0, 0⟩ [.d, .e, .o] (a :: b :: t) = (fieldI ⟨op, d, 0, 0, 0⟩ .e b).bind fun j => fieldsI j [.o] t := by
            show ((regW a).map _).bind _ = _
            rw [hr]; rfl
          rw [e1]
          cases fieldI ⟨op, d, 0, 0, 0⟩ .e b with
          | none => rfl
          | some i =>
            cases t with
            | nil => rfl
            | cons c t =>
              rw [ag_cons2, short_mean]
              show okP ((parseI c 32768 32767).bind fun o => some ([{ i with off := o }], 3)) _ = Option.map _ (((parseI c 32768 32767).map fun x => { i with off := x }).bind fun j => fieldsI j [] t)
              cases parseI c 32768 32767 with
              | none => rfl
              | some o =>
                cases t with
                | nil => rfl
                | cons c2 t => exact okP_ne (by simp only [List.length_cons]; omega)
end Go.Proofs.YtakcdecljfmckaaGreatDoor
