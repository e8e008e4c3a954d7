/- A hash under lays and deletes: what firewalllaw08.MapsHash asks of it, as laws. -/
import Derived.Test.YtlinnhaodkiolaaHashP
namespace Go.Proofs.Ytlinnhaodkiolaa
open Go.RowKit

def HashI (many : Nat) (S : List Tab) (m : List Reg) (K : List Nat) (V : List (List UInt8)) : Prop :=
  ∃ L D, HInv many L D ∧ S = hS many L ∧ m = hM D ∧ K = L.map (·.1) ∧ V = L.map (fun x => hVal D x.2)

theorem map_erase {α β : Type} (f : α → β) : ∀ (l : List α) (j : Nat), (l.map f).eraseIdx j = (l.eraseIdx j).map f
  | [], _ => by simp
  | x :: l, 0 => by simp
  | x :: l, j + 1 => by simp [map_erase f l j]

theorem hhas (many : Nat) (L : Held) (c : Nat) : mhas (hS many L) 1 (leBytes 2 c) = some (hTab many L) :=
  mhas_of (S := hS many L) (k := 1) (t := hTab many L) rfl (by rw [leBytes_length]; rfl)

theorem hplace (many : Nat) (L : Held) (p : Nat) : mplace 1 p (hTab many L) = 1114112 + 3 * (p : Int) := by
  unfold mplace mbase
  show (1048576 : Int) + 1 * 65536 + (p : Int) * 3 = _
  omega

theorem HashI.start (many : Nat) (h1 : 1 ≤ many) (h16 : many ≤ 16) : HashI many ((hashL many).map Tab.new) (mregs (hashL many)) [] [] := by
  refine ⟨[], List.replicate (3 * many) 0, ⟨h1, h16, by simp, by simp, by simp, fun x hx => by cases hx⟩, ?_, ?_, rfl, rfl⟩
  · have : hKs many [] = List.replicate many [] := by
      unfold hKs
      rw [List.eq_replicate_iff]
      refine ⟨by simp, fun k hk => ?_⟩
      obtain ⟨p, _, rfl⟩ := List.mem_map.1 hk
      rfl
    simp only [hashL, List.map_cons, List.map_nil, hS, hTab, this]
    rfl
  · simp only [hashL, mregs, mregsFrom, hM, MapD.reg]
    have : ((3 : Int) * (many : Int)).toNat = 3 * many := by omega
    rw [this]
    rfl

theorem HashI.lens {many : Nat} {S : List Tab} {m : List Reg} {K : List Nat} {V : List (List UInt8)} (h : HashI many S m K V) : V.length = K.length ∧ K.Nodup ∧ (∀ c ∈ K, c < 20) ∧ K.length ≤ many := by
  obtain ⟨L, D, hi, rfl, rfl, rfl, rfl⟩ := h
  refine ⟨by simp, hi.keys, fun c hc => ?_, by simpa using hcount hi⟩
  obtain ⟨x, hx, rfl⟩ := List.mem_map.1 hc
  exact (hi.low x hx).1

theorem HashI.out {many : Nat} {S : List Tab} {m : List Reg} {K : List Nat} {V : List (List UInt8)} (h : HashI many S m K V) {c : Nat} (hc : c < 20) (hn : c ∉ K) : mlookup S 1 (leBytes 2 c) = 0 := by
  obtain ⟨L, D, hi, rfl, rfl, rfl, rfl⟩ := h
  unfold mlookup
  rw [hhas]
  simp only [hfind_out hi hc hn]

theorem HashI.at {many : Nat} {L : Held} {D : List UInt8} (hi : HInv many L D) {x : Nat × Nat} (hx : x ∈ L) : mlookup (hS many L) 1 (leBytes 2 x.1) = 1114112 + 3 * (x.2 : Int) := by
  unfold mlookup
  rw [hhas]
  simp only [hfind_in hi hx]
  exact hplace many L x.2

theorem HashI.into {many : Nat} {S : List Tab} {m : List Reg} {K : List Nat} {V : List (List UInt8)} (h : HashI many S m K V) {j c : Nat} (hj : K[j]? = some c) :
    ∃ (p : Nat) (v : List UInt8), p < 16 ∧ mlookup S 1 (leBytes 2 c) = 1114112 + 3 * (p : Int) ∧ V[j]? = some v ∧ mtext m (1114112 + 3 * (p : Int)) 3 = (v, 0) := by
  obtain ⟨L, D, hi, rfl, rfl, rfl, rfl⟩ := h
  rw [List.getElem?_map] at hj
  obtain ⟨x, hx, rfl⟩ := Option.map_eq_some_iff.1 hj
  have hm := List.mem_of_getElem? hx
  have hl := (hi.low x hm).2
  have := hi.most
  exact ⟨x.2, hVal D x.2, by omega, HashI.at hi hm, by rw [List.getElem?_map, hx]; rfl, hM_text hi.one hi.most hi.len hl⟩

theorem HashI.inj {many : Nat} {S : List Tab} {m : List Reg} {K : List Nat} {V : List (List UInt8)} (h : HashI many S m K V) {c d : Nat} (hc : c ∈ K) (hd : d ∈ K) (he : mlookup S 1 (leBytes 2 c) = mlookup S 1 (leBytes 2 d)) : c = d := by
  obtain ⟨L, D, hi, rfl, rfl, rfl, rfl⟩ := h
  obtain ⟨x, hx, rfl⟩ := List.mem_map.1 hc
  obtain ⟨y, hy, rfl⟩ := List.mem_map.1 hd
  rw [HashI.at hi hx, HashI.at hi hy] at he
  have e1 := hKey_mem hi.places hx
  have e2 := hKey_mem hi.places hy
  have : x.2 = y.2 := by omega
  rw [this] at e1
  rw [e1] at e2
  have a := (hi.low x hx).1
  have b := (hi.low y hy).1
  exact two_inj (by omega) (by omega) e2

theorem HashI.ents {many : Nat} {S : List Tab} {m : List Reg} {K : List Nat} {V : List (List UInt8)} (h : HashI many S m K V) : (mentries S m 1).length = K.length := by
  obtain ⟨L, D, hi, rfl, rfl, rfl, rfl⟩ := h
  have e : mentries (hS many L) (hM D) 1 = mentriesTo (hM D) 1 (hTab many L) (hTab many L).ks.length := rfl
  rw [e]
  have hlen : (hTab many L).ks.length = many := hKs_length many L
  rw [hlen]
  have key : ∀ l : List Nat, (∀ p ∈ l, p < many) → (l.filterMap fun p => match (hTab many L).ks[p]? with | some k => if k = [] then none else some (k, (mtext (hM D) (mplace 1 p (hTab many L)) (hTab many L).d.value).1) | none => none).length = (l.filter fun p => decide (p ∈ L.map (·.2))).length := by
    intro l
    induction l with
    | nil => intro _; rfl
    | cons p l ih =>
      intro hl
      have hp := hl p (by simp)
      have ih' := ih fun q hq => hl q (by simp [hq])
      have hg : (hTab many L).ks[p]? = some (hKey L p) := by
        show (hKs many L)[p]? = _
        rw [hKs_get, if_pos hp]
      rw [List.filterMap_cons, List.filter_cons, hg]
      rcases hKey_cases hi.places p with ⟨x, hx, rfl, e2⟩ | ⟨hq, e2⟩
      · have hin : x.2 ∈ L.map (·.2) := List.mem_map_of_mem hx
        simp only [e2, two_ne, if_false, hin, decide_true, if_true, List.length_cons, ih']
      · simp only [e2, if_true, hq, decide_false, ih']
        simp
  refine (show (mentriesTo (hM D) 1 (hTab many L) many).length = _ from key (List.range many) (fun p hp => by simpa using hp)).trans ?_
  have a := nodup_len ((List.range many).filter fun p => decide (p ∈ L.map (·.2))) (L.map (·.2)) (List.nodup_range.filter _) (fun x hx => by simpa using (List.mem_filter.1 hx).2)
  have b := nodup_len (L.map (·.2)) ((List.range many).filter fun p => decide (p ∈ L.map (·.2))) hi.places (fun x hx => by
    rw [List.mem_filter]
    obtain ⟨y, hy, rfl⟩ := List.mem_map.1 hx
    have := (hi.low y hy).2
    exact ⟨by simpa using this, by simpa using hx⟩)
  simp only [List.length_map] at a b ⊢
  omega

theorem HashI.del_out {many : Nat} {S : List Tab} {m : List Reg} {K : List Nat} {V : List (List UInt8)} (h : HashI many S m K V) {c : Nat} (hc : c < 20) (hn : c ∉ K) : mdelete S 1 (leBytes 2 c) = (S, -2) := by
  obtain ⟨L, D, hi, rfl, rfl, rfl, rfl⟩ := h
  unfold mdelete
  rw [hhas]
  have hk : ¬ (hTab many L).d.kind = 1 := by show ¬ (2 : Int) = 1; decide
  simp only [hk, if_false, hfind_out hi hc hn]

theorem HashI.del_in {many : Nat} {S : List Tab} {m : List Reg} {K : List Nat} {V : List (List UInt8)} (h : HashI many S m K V) {j c : Nat} (hj : K[j]? = some c) :
    ∃ S', mdelete S 1 (leBytes 2 c) = (S', 0) ∧ HashI many S' m (K.eraseIdx j) (V.eraseIdx j) := by
  obtain ⟨L, D, hi, rfl, rfl, rfl, rfl⟩ := h
  rw [List.getElem?_map] at hj
  obtain ⟨x, hx, rfl⟩ := Option.map_eq_some_iff.1 hj
  have hm := List.mem_of_getElem? hx
  have hl := (hi.low x hm)
  have hk : ¬ (hTab many L).d.kind = 1 := by show ¬ (2 : Int) = 1; decide
  have hsub : (L.eraseIdx j).Sublist L := List.eraseIdx_sublist L j
  have hp' : ((L.eraseIdx j).map (·.2)).Nodup := (hsub.map _).nodup hi.places
  have hgone : x.2 ∉ (L.eraseIdx j).map (·.2) := by
    intro he
    obtain ⟨y, hy, e⟩ := List.mem_map.1 he
    obtain ⟨i, hi1, hi2⟩ := List.mem_eraseIdx_iff_getElem?.1 hy
    obtain ⟨a, ha⟩ := List.getElem?_eq_some_iff.1 hi2
    obtain ⟨b, hb⟩ := List.getElem?_eq_some_iff.1 hx
    have := (List.getElem_inj (i := i) (j := j) (h₀ := by simpa using a) (h₁ := by simpa using b) hi.places).1 (by simp [ha, hb, e])
    exact hi1 this
  refine ⟨hS many (L.eraseIdx j), ?_, L.eraseIdx j, D, ⟨hi.one, hi.most, hi.len, (hsub.map _).nodup hi.keys, hp', fun y hy => hi.low y (hsub.subset hy)⟩, rfl, rfl, ?_, ?_⟩
  · unfold mdelete
    rw [hhas]
    simp only [hk, if_false, hfind_in hi hm]
    have : (hTab many L).lay x.2 [] = hTab many (L.eraseIdx j) := by
      unfold Tab.lay hTab
      simp only [Tab.mk.injEq, true_and]
      apply List.ext_getElem?
      intro q
      rw [List.getElem?_set, hKs_length, hKs_get, hKs_get]
      by_cases hq : x.2 = q
      · subst hq
        rw [if_pos rfl, if_pos hl.2, if_pos hl.2, hKey_none hgone]
      · rw [if_neg hq]
        by_cases hqm : q < many
        · rw [if_pos hqm, if_pos hqm]
          congr 1
          refine hKey_same hi.places hp' fun y hy => ⟨fun hyL => ?_, fun h => hsub.subset h⟩
          obtain ⟨i, hi1⟩ := List.mem_iff_getElem?.1 hyL
          refine List.mem_eraseIdx_iff_getElem?.2 ⟨i, fun e => ?_, hi1⟩
          subst e
          rw [hi1] at hx
          obtain rfl := Option.some.inj hx
          exact hq hy
        · rw [if_neg hqm, if_neg hqm]
    rw [this]
    rfl
  · exact map_erase _ _ _
  · exact map_erase _ _ _

theorem HashI.upd_in {many : Nat} {S : List Tab} {m : List Reg} {K : List Nat} {V : List (List UInt8)} (h : HashI many S m K V) {j c : Nat} (hj : K[j]? = some c) (v : List UInt8) (hv : v.length = 3) :
    ∃ m', mupdate S m 1 (leBytes 2 c) v = ((S, m'), 0) ∧ HashI many S m' K (V.set j v) := by
  obtain ⟨L, D, hi, rfl, rfl, rfl, rfl⟩ := h
  rw [List.getElem?_map] at hj
  obtain ⟨x, hx, rfl⟩ := Option.map_eq_some_iff.1 hj
  have hm := List.mem_of_getElem? hx
  have hl := (hi.low x hm)
  have hv3 : (v.length : Int) = (hTab many L).d.value := by rw [hv]; rfl
  refine ⟨_, ?_, L, D.take (3 * x.2) ++ v ++ D.drop (3 * x.2 + 3), ⟨hi.one, hi.most, hput_len hi.len hl.2 v hv, hi.keys, hi.places, hi.low⟩, rfl, rfl, rfl, ?_⟩
  · unfold mupdate
    rw [hhas]
    simp only [hv3, if_true, hfind_in hi hm]
    have e := hplace many L x.2
    rw [show ((1 : Int).toNat) = 1 by rfl, e, hM_put hi.one hi.most hi.len hl.2 v hv]
  · apply List.ext_getElem?
    intro i
    rw [List.getElem?_set, List.getElem?_map, List.getElem?_map, List.length_map]
    obtain ⟨jl, jx⟩ := List.getElem?_eq_some_iff.1 hx
    by_cases hij : j = i
    · subst hij
      rw [if_pos rfl, if_pos jl, hx]
      simp only [Option.map_some]
      rw [hput_same hi.len hl.2 v hv]
    · rw [if_neg hij]
      cases hy : L[i]? with
      | none => rfl
      | some y =>
        simp only [Option.map_some]
        have hym := List.mem_of_getElem? hy
        obtain ⟨a, ha⟩ := List.getElem?_eq_some_iff.1 hy
        rw [hput_else hi.len hl.2 (hi.low y hym).2 (fun e => ?_) v hv]
        have := (List.getElem_inj (i := j) (j := i) (h₀ := by simpa using jl) (h₁ := by simpa using a) hi.places).1 (by simp [ha, jx, e])
        exact hij this

theorem HashI.upd_full {many : Nat} {S : List Tab} {m : List Reg} {K : List Nat} {V : List (List UInt8)} (h : HashI many S m K V) {c : Nat} (hc : c < 20) (hn : c ∉ K) (v : List UInt8) (hv : v.length = 3) (hf : ¬ K.length < many) :
    mupdate S m 1 (leBytes 2 c) v = ((S, m), -7) := by
  obtain ⟨L, D, hi, rfl, rfl, rfl, rfl⟩ := h
  have hv3 : (v.length : Int) = (hTab many L).d.value := by rw [hv]; rfl
  have hk : ¬ (hTab many L).d.kind = 1 := by show ¬ (2 : Int) = 1; decide
  unfold mupdate
  rw [hhas]
  simp only [hv3, if_true, hfind_out hi hc hn, hk, if_false, hfree_none hi (by simpa using hf)]

theorem HashI.upd_new {many : Nat} {S : List Tab} {m : List Reg} {K : List Nat} {V : List (List UInt8)} (h : HashI many S m K V) {c : Nat} (hc : c < 20) (hn : c ∉ K) (v : List UInt8) (hv : v.length = 3) (hf : K.length < many) :
    ∃ S' m', mupdate S m 1 (leBytes 2 c) v = ((S', m'), 0) ∧ HashI many S' m' (K ++ [c]) (V ++ [v]) := by
  obtain ⟨L, D, hi, rfl, rfl, rfl, rfl⟩ := h
  have hv3 : (v.length : Int) = (hTab many L).d.value := by rw [hv]; rfl
  have hk : ¬ (hTab many L).d.kind = 1 := by show ¬ (2 : Int) = 1; decide
  obtain ⟨p, hp, hpm, hpn⟩ := hfree_some hi (by simpa using hf)
  have hpl : ((L ++ [(c, p)]).map (·.2)).Nodup := by
    rw [List.map_append, List.nodup_append]
    refine ⟨hi.places, by simp, fun a ha b hb => ?_⟩
    simp at hb
    subst hb
    exact fun e => hpn (e ▸ ha)
  refine ⟨hS many (L ++ [(c, p)]), hM (D.take (3 * p) ++ v ++ D.drop (3 * p + 3)), ?_, L ++ [(c, p)], D.take (3 * p) ++ v ++ D.drop (3 * p + 3), ⟨hi.one, hi.most, hput_len hi.len hpm v hv, ?_, hpl, ?_⟩, rfl, rfl, by simp, ?_⟩
  · unfold mupdate
    rw [hhas]
    simp only [hv3, if_true, hfind_out hi hc hn, hk, if_false, hp]
    have e := hplace many L p
    have e2 : (hTab many L).lay p (leBytes 2 c) = hTab many (L ++ [(c, p)]) := by
      unfold Tab.lay hTab
      simp only [Tab.mk.injEq, true_and]
      apply List.ext_getElem?
      intro q
      rw [List.getElem?_set, hKs_length, hKs_get, hKs_get]
      by_cases hq : p = q
      · subst hq
        rw [if_pos rfl, if_pos hpm, if_pos hpm]
        congr 1
        exact (hKey_mem hpl (x := (c, p)) (by simp)).symm
      · rw [if_neg hq]
        by_cases hqm : q < many
        · rw [if_pos hqm, if_pos hqm]
          congr 1
          refine hKey_same hi.places hpl fun y hy => ⟨fun h => by simp [h], fun h => ?_⟩
          rcases List.mem_append.1 h with h | h
          · exact h
          · simp at h
            subst h
            exact absurd hy hq
        · rw [if_neg hqm, if_neg hqm]
    rw [show ((1 : Int).toNat) = 1 by rfl, e, hM_put hi.one hi.most hi.len hpm v hv, e2]
    rfl
  · rw [List.map_append, List.nodup_append]
    refine ⟨hi.keys, by simp, fun a ha b hb => ?_⟩
    simp at hb
    subst hb
    exact fun e => hn (e ▸ ha)
  · intro x hx
    rcases List.mem_append.1 hx with h | h
    · exact hi.low x h
    · simp at h
      subst h
      exact ⟨hc, hpm⟩
  · rw [List.map_append]
    congr 1
    · apply List.map_congr_left
      intro x hx
      exact (hput_else hi.len hpm (hi.low x hx).2 (fun e => hpn (e ▸ List.mem_map_of_mem hx)) v hv).symm
    · simp only [List.map_cons, List.map_nil, List.cons.injEq, and_true]
      exact (hput_same hi.len hpm v hv).symm

end Go.Proofs.Ytlinnhaodkiolaa
