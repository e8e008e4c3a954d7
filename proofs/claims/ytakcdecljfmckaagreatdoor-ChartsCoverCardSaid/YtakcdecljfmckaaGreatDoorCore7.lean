/- The nearest one of each block, plain: each change keeps that all that lies on all ways is told. A program's blocks, plain. -/
import Derived.Test.YtakcdecljfmckaaGreatDoorCore6
import Derived.Test.YtakcdecljfmckaaGreatDoorCore4
set_option linter.all false
set_option linter.unusedVariables false
set_option linter.unusedSimpArgs false
namespace Go.Proofs.YtakcdecljfmckaaGreatDoor

/-- a node leads to another one by nodes of a kind -/
inductive Via (nx : Nat → List Nat) (P : Nat → Prop) (u : Nat) : Nat → Prop
  | one {v : Nat} : v ∈ nx u → P v → Via nx P u v
  | more {v w : Nat} : Via nx P u v → w ∈ nx v → P w → Via nx P u w
theorem Via.mono {nx : Nat → List Nat} {P Q : Nat → Prop} {u v : Nat} (h : Via nx P u v) (hm : ∀ k, P k → Q k) : Via nx Q u v := by
  induction h with
  | one h1 h2 => exact .one h1 (hm _ h2)
  | more _ h1 h2 ih => exact .more ih h1 (hm _ h2)
theorem Via.trans {nx : Nat → List Nat} {P : Nat → Prop} {u v w : Nat} (h1 : Via nx P u v) (h2 : Via nx P v w) : Via nx P u w := by
  induction h2 with
  | one h h' => exact .more h1 h h'
  | more _ h h' ih => exact .more ih h h'
theorem LedTo.via {nx : Nat → List Nat} {x u v : Nat} (h : LedTo nx (· = x) u) (hv : Via nx (fun k => k ≠ x) u v) : LedTo nx (· = x) v := by
  induction hv with
  | one h1 h2 => exact .step h h1 h2
  | more _ h1 h2 ih => exact .step ih h1 h2
/-- all ways to v go through x -/
def Cuts (nx : Nat → List Nat) (x v : Nat) : Prop := ¬ LedTo nx (· = x) v
theorem Cuts.zero {nx : Nat → List Nat} {x : Nat} (h : Cuts nx x 0) : x = 0 := by
  refine Classical.byContradiction fun hne => h (.start fun e => hne e.symm)
theorem Cuts.back {nx : Nat → List Nat} {x u v : Nat} (h : Cuts nx x v) (hv : Via nx (fun k => k ≠ x) u v) : Cuts nx x u := fun hl => h (hl.via hv)

structure Nears (nx : Nat → List Nat) (N : Nat) (pl : Nat → Nat) (d : Nat → Int) : Prop extends Told N pl d where
  pl0 : pl 0 = 0
  via : ∀ v y : Nat, v < N → v ≠ 0 → d v = (y : Int) → Via nx (fun k => pl y < pl k) y v
  cuts : ∀ v x : Nat, v < N → 0 ≤ d v → x ≠ v → Cuts nx x v → Anc (cut0 d) x v

theorem cut0_ne {d : Nat → Int} {v : Nat} (h : v ≠ 0) : cut0 d v = d v := if_neg h
theorem Anc.cut_ne {d : Nat → Int} {x v : Nat} (h : Anc (cut0 d) x v) : v ≠ 0 := by
  rintro rfl
  have := h.has
  simp [cut0] at this
/-- what is told ahead of a node lies ahead of it in the order -/
theorem Told.anc {N : Nat} {pl : Nat → Nat} {d : Nat → Int} (h : Told N pl d) {x v : Nat} (hv : v < N) (ha : Anc (cut0 d) x v) : x < N ∧ pl x < pl v := by
  induction ha with
  | @one v he =>
    have h0 : v ≠ 0 := (Anc.one he).cut_ne
    rw [cut0_ne h0] at he
    rcases h.set v hv h0 with h1 | ⟨y, h1, h2, h3, -⟩
    · omega
    · have : x = y := by omega
      subst this
      exact ⟨h2, h3⟩
  | @more v u he ha ih =>
    have h0 : v ≠ 0 := (Anc.more he ha).cut_ne
    rw [cut0_ne h0] at he
    rcases h.set v hv h0 with h1 | ⟨y, h1, h2, h3, -⟩
    · omega
    · have : u = y := by omega
      subst this
      have := ih h2
      exact ⟨this.1, by omega⟩
theorem Told.ancS {N : Nat} {pl : Nat → Nat} {d : Nat → Int} (h : Told N pl d) {x v : Nat} (hv : v < N) (ha : AncS d x v) : x < N ∧ pl x ≤ pl v := by
  rcases ha with rfl | ha
  · exact ⟨hv, Nat.le_refl _⟩
  · have := h.anc hv ha
    exact ⟨this.1, by omega⟩
/-- what lies ahead of a node that stands ahead of n is told as it was -/
theorem Told.keep {N : Nat} {pl : Nat → Nat} {d : Nat → Int} (h : Told N pl d) {n : Nat} {r : Int} {x v : Nat} (hv : v < N) (hlt : pl v < pl n) (ha : Anc (cut0 d) x v) : Anc (cut0 (setAt d n r)) x v := by
  induction ha with
  | @one v he =>
    have h0 : v ≠ 0 := (Anc.one he).cut_ne
    refine .one ?_
    rw [cut0_ne h0] at he ⊢
    unfold setAt
    rw [if_neg (by rintro rfl; omega)]
    exact he
  | @more v u he ha ih =>
    have h0 : v ≠ 0 := (Anc.more he ha).cut_ne
    have hu := h.anc hv (.one he)
    refine .more ?_ (ih hu.1 (by omega))
    rw [cut0_ne h0] at he ⊢
    unfold setAt
    rw [if_neg (by rintro rfl; omega)]
    exact he
theorem Nears.anc_via {nx : Nat → List Nat} {N : Nat} {pl : Nat → Nat} {d : Nat → Int} (h : Nears nx N pl d) {x v : Nat} (hv : v < N) (ha : Anc (cut0 d) x v) : Via nx (fun k => pl x < pl k) x v := by
  induction ha with
  | @one v he =>
    have h0 : v ≠ 0 := (Anc.one he).cut_ne
    rw [cut0_ne h0] at he
    exact h.via v x hv h0 he
  | @more v u he ha ih =>
    have h0 : v ≠ 0 := (Anc.more he ha).cut_ne
    have hu := h.toTold.anc hv (.one he)
    have hx := h.toTold.anc hu.1 ha
    rw [cut0_ne h0] at he
    exact (ih hu.1).trans ((h.via v u hv h0 he).mono fun k hk => by omega)
/-- a change -/
theorem Nears.upd {nx : Nat → List Nat} {N : Nat} {pl : Nat → Nat} {d : Nat → Int} (h : Nears nx N pl d) {n r : Nat} (hn : n < N) (h0 : n ≠ 0) (hr : r < N) (hp : pl r < pl n) (hs : 0 ≤ d r)
    (hvia : Via nx (fun k => pl r < pl k) r n) (hc : ∀ x, x ≠ n → Cuts nx x n → AncS d x r) : Nears nx N pl (setAt d n r) := by
  refine ⟨h.toTold.upd hn h0 hr hp hs, h.pl0, fun v y hv hv0 he => ?_, ?_⟩
  · by_cases e : v = n
    · subst e
      have : r = y := by unfold setAt at he; rw [if_pos rfl] at he; omega
      exact this ▸ hvia
    · have e2 : setAt d n r v = d v := if_neg e
      rw [e2] at he
      exact h.via v y hv hv0 he
  · have key : ∀ m v x, pl v ≤ m → v < N → 0 ≤ setAt d n r v → x ≠ v → Cuts nx x v → Anc (cut0 (setAt d n r)) x v := by
      intro m
      induction m with
      | zero =>
        intro v x hm hv _ hne hcut
        have : v = 0 := h.inj v 0 hv h.pos (by rw [h.pl0]; omega)
        subst this
        exact absurd hcut.zero hne
      | succ m ih =>
        intro v x hm hv hge hne hcut
        by_cases hv0 : v = 0
        · subst hv0
          exact absurd hcut.zero hne
        by_cases e : v = n
        · subst e
          have hd : cut0 (setAt d v r) v = (r : Int) := by rw [cut0_ne hv0]; exact if_pos rfl
          rcases hc x hne hcut with rfl | h1
          · exact .one hd
          · exact .more hd (h.toTold.keep hr hp h1)
        · have e2 : setAt d n r v = d v := if_neg e
          rw [e2] at hge
          have ha := h.cuts v x hv hge hne hcut
          rcases h.set v hv hv0 with h1 | ⟨u, h1, h2, h3, h4⟩
          · omega
          have hd : cut0 (setAt d n r) v = (u : Int) := by rw [cut0_ne hv0, e2]; exact h1
          rcases ha.split (by rw [cut0_ne hv0]; exact h1) with rfl | h5
          · exact .one hd
          · have h6 := h.toTold.anc h2 h5
            refine .more hd (ih u x (by omega) h2 ?_ (by rintro rfl; omega) (hcut.back ((h.via v u hv hv0 h1).mono fun k hk => by rintro rfl; omega)))
            unfold setAt
            split <;> omega
    exact fun v x hv hge hne hcut => key _ v x (Nat.le_refl _) hv hge hne hcut
/-- the first time -/
theorem Nears.first {nx : Nat → List Nat} {N : Nat} {pl : Nat → Nat} {d : Nat → Int} (h : Nears nx N pl d) {n i : Nat} (hn : n < N) (h0 : n ≠ 0) (hi : i < N) (hp : pl i < pl n) (hs : 0 ≤ d i) (he : n ∈ nx i) : Nears nx N pl (setAt d n i) := by
  refine h.upd hn h0 hi hp hs (.one he hp) fun x hne hcut => ?_
  have hci : Cuts nx x i := hcut.back (.one he fun e => hne e.symm)
  by_cases e : x = i
  · exact .inl e
  · exact .inr (h.cuts i x hi hs e hci)
/-- later ones -/
theorem Nears.again {nx : Nat → List Nat} {N : Nat} {pl : Nat → Nat} {d : Nat → Int} (h : Nears nx N pl d) {n i r m : Nat} (hn : n < N) (h0 : n ≠ 0) (hi : i < N) (hs : 0 ≤ d i) (he : n ∈ nx i) (hm : d n = (m : Int))
    (h2 : AncS d r m) (hall : ∀ x, AncS d x i → AncS d x m → AncS d x r) : Nears nx N pl (setAt d n r) := by
  rcases h.set n hn h0 with h1 | ⟨y, h1, hy, hpy, hsy⟩
  · omega
  have : y = m := by omega
  subst this
  have hrp := h.toTold.ancS hy h2
  have hvm := h.via n y hn h0 hm
  have hsr : 0 ≤ d r := by
    rcases h2 with rfl | h2
    · exact hsy
    · -- an ancestor is told
      have : ∀ {x v : Nat}, v < N → Anc (cut0 d) x v → 0 ≤ d x := by
        intro x v hv ha
        induction ha with
        | @one v he =>
          have h0 : v ≠ 0 := (Anc.one he).cut_ne
          rw [cut0_ne h0] at he
          rcases h.set v hv h0 with h1 | ⟨z, h1, h2, h3, h4⟩
          · omega
          · have : x = z := by omega
            exact this ▸ h4
        | @more v u he ha ih => exact ih (h.toTold.anc hv (.one he)).1
      exact this hy h2
  refine h.upd hn h0 hrp.1 (by omega) hsr ?_ fun x hne hcut => ?_
  · rcases h2 with rfl | h2
    · exact hvm
    · exact (h.anc_via hy h2).trans (hvm.mono fun k hk => by omega)
  · refine hall x ?_ ?_
    · have hci : Cuts nx x i := hcut.back (.one he fun e => hne e.symm)
      by_cases e : x = i
      · exact .inl e
      · exact .inr (h.cuts i x hi hs e hci)
    · have ha := h.cuts n x hn (by omega) hne hcut
      rcases ha.split (by rw [cut0_ne h0]; exact hm) with rfl | h5
      · exact .inl rfl
      · exact .inr h5
theorem Nears.start {nx : Nat → List Nat} {N : Nat} {pl : Nat → Nat} (hN : 0 < N) (h0 : pl 0 = 0) (hinj : ∀ u v, u < N → v < N → pl u = pl v → u = v) (hlow : ∀ v, v < N → pl v < N) : Nears nx N pl (fun v => if v = 0 then 0 else -1) := by
  refine ⟨⟨rfl, hN, fun v _ hv0 => .inl (if_neg hv0), hinj, hlow⟩, h0, fun v y _ hv0 he => ?_, fun v x _ hge hne hcut => ?_⟩
  · rw [if_neg hv0] at he; omega
  · by_cases e : v = 0
    · subst e; exact absurd hcut.zero hne
    · simp only [if_neg e] at hge; omega
/-- two nodes that meet: what is held on the way -/
structure Meets (N : Nat) (d : Nat → Int) (i m x y : Nat) : Prop where
  xN : x < N
  yN : y < N
  xs : 0 ≤ d x
  ys : 0 ≤ d y
  xi : AncS d x i
  ym : AncS d y m
  all : ∀ z, AncS d z i → AncS d z m → AncS d z x ∧ AncS d z y
theorem Meets.start {N : Nat} {d : Nat → Int} {i m : Nat} (hi : i < N) (hm : m < N) (si : 0 ≤ d i) (sm : 0 ≤ d m) : Meets N d i m i m :=
  ⟨hi, hm, si, sm, .inl rfl, .inl rfl, fun _ h1 h2 => ⟨h1, h2⟩⟩
theorem Meets.left {nx : Nat → List Nat} {N : Nat} {pl : Nat → Nat} {d : Nat → Int} (h : Nears nx N pl d) {i m x y : Nat} (hm : Meets N d i m x y) (hlt : pl y < pl x) : ∃ u : Nat, d x = (u : Int) ∧ pl u < pl x ∧ Meets N d i m u y := by
  have h0 : x ≠ 0 := by rintro rfl; have := h.pl0; omega
  obtain ⟨u, h1, h2, h3, h4, h5⟩ := h.toTold.up hm.xN h0 hm.xs
  refine ⟨u, h1, h3, h2, hm.yN, h4, hm.ys, h5.trans hm.xi, hm.ym, fun z z1 z2 => ?_⟩
  obtain ⟨z3, z4⟩ := hm.all z z1 z2
  refine ⟨?_, z4⟩
  have z5 := h.toTold.ancS hm.yN z4
  rcases z3 with rfl | z3
  · omega
  · rcases z3.split (by rw [cut0_ne h0]; exact h1) with rfl | z6
    · exact .inl rfl
    · exact .inr z6
theorem Meets.right {nx : Nat → List Nat} {N : Nat} {pl : Nat → Nat} {d : Nat → Int} (h : Nears nx N pl d) {i m x y : Nat} (hm : Meets N d i m x y) (hlt : pl x < pl y) : ∃ u : Nat, d y = (u : Int) ∧ pl u < pl y ∧ Meets N d i m x u := by
  have h0 : y ≠ 0 := by rintro rfl; have := h.pl0; omega
  obtain ⟨u, h1, h2, h3, h4, h5⟩ := h.toTold.up hm.yN h0 hm.ys
  refine ⟨u, h1, h3, hm.xN, h2, hm.xs, h4, hm.xi, h5.trans hm.ym, fun z z1 z2 => ?_⟩
  obtain ⟨z3, z4⟩ := hm.all z z1 z2
  refine ⟨z3, ?_⟩
  have z5 := h.toTold.ancS hm.xN z3
  rcases z4 with rfl | z4
  · omega
  · rcases z4.split (by rw [cut0_ne h0]; exact h1) with rfl | z6
    · exact .inl rfl
    · exact .inr z6
/-- an edge at which nothing is to be done any more -/
def Calm (d : Nat → Int) (i n : Nat) : Prop := n ≠ 0 → ∃ m : Nat, d n = (m : Int) ∧ AncS d m i
/-- what is told at the end -/
structure Doms (nx : Nat → List Nat) (N : Nat) (d : Nat → Int) : Prop where
  root : d 0 = -1
  up : ∀ v, v < N → v ≠ 0 → ∃ y : Nat, d v = (y : Int) ∧ y < N ∧ y ≠ v
  cut : ∀ v x, v < N → Anc d x v → x < N ∧ x ≠ v ∧ Cuts nx x v
  all : ∀ v x, v < N → x ≠ v → Cuts nx x v → Anc d x v
theorem Nears.end {nx : Nat → List Nat} {N : Nat} {pl : Nat → Nat} {d : Nat → Int} (h : Nears nx N pl d) (hall : ∀ v, v < N → LedTo nx (fun _ => False) v) (hin : ∀ u v, u < N → v ∈ nx u → v < N)
    (hcalm : ∀ i n, i < N → n ∈ nx i → Calm d i n) : Doms nx N (cut0 d) := by
  have hset : ∀ v, v < N → v ≠ 0 → 0 ≤ d v := by
    intro v hv h0
    cases hall v hv with
    | start => exact absurd rfl h0
    | @step u _ hu hv' _ =>
      have hu' : ∀ k, LedTo nx (fun _ => False) k → k < N := by
        intro k hk
        induction hk with
        | start _ => exact h.pos
        | step _ h1 _ ih => exact hin _ _ ih h1
      obtain ⟨m, hm, -⟩ := hcalm u v (hu' u hu) hv' h0
      omega
  have hled : ∀ k, LedTo nx (fun _ => False) k → k < N := by
    intro k hk
    induction hk with
    | start _ => exact h.pos
    | step _ h1 _ ih => exact hin _ _ ih h1
  refine ⟨by simp [cut0], fun v hv h0 => ?_, fun v x hv ha => ?_, fun v x hv hne hcut => ?_⟩
  · obtain ⟨y, h1, h2, h3, -, -⟩ := h.toTold.up hv h0 (hset v hv h0)
    exact ⟨y, by rw [cut0_ne h0]; exact h1, h2, by rintro rfl; omega⟩
  · have hx := h.toTold.anc hv ha
    refine ⟨hx.1, by rintro rfl; omega, fun hl => ?_⟩
    refine anc_cut (nx := nx) (d := cut0 d) (by simp [cut0]) (fun u v hu he hv0 => ?_) hl ha
    obtain ⟨m, hm, hs⟩ := hcalm u v (hled u hu) he hv0
    exact ⟨m, by rw [cut0_ne hv0]; exact hm, hs⟩
  · by_cases h0 : v = 0
    · subst h0
      exact absurd hcut.zero hne
    · exact h.cuts v x hv (hset v hv h0) hne hcut
end Go.Proofs.YtakcdecljfmckaaGreatDoor

namespace Go.Proofs.YtakcdecljfmckaaGreatDoor

/-! ### the slots at which instructions begin -/
def behM (l : List Ins) (pc : Nat) : Nat := pc + sizeM (insAt l pc)
theorem behM_pos (l : List Ins) (pc : Nat) : pc < behM l pc ∧ behM l pc ≤ pc + 2 := by unfold behM sizeM; split <;> omega
theorem firstsM_mem {l : List Ins} : ∀ {fuel a p : Nat}, p ∈ firstsM l fuel a → a ≤ p ∧ p < l.length
  | 0, _, _, h => absurd h (by simp [firstsM])
  | fuel + 1, a, p, h => by
    rw [firstsM] at h
    split at h
    · rename_i ha
      rcases List.mem_cons.1 h with rfl | h
      · exact ⟨Nat.le_refl _, ha⟩
      · have := firstsM_mem h
        have h2 := behM_pos l a
        unfold behM at h2
        omega
    · exact absurd h (by simp)
theorem firstsM_next {l : List Ins} : ∀ {fuel a p : Nat}, l.length ≤ a + fuel → p ∈ firstsM l fuel a → behM l p < l.length → behM l p ∈ firstsM l fuel a
  | 0, _, _, _, h, _ => absurd h (by simp [firstsM])
  | fuel + 1, a, p, hf, h, hb => by
    rw [firstsM] at h ⊢
    split at h
    · rename_i ha
      rw [if_pos ha]
      have h2 := behM_pos l a
      rcases List.mem_cons.1 h with rfl | h
      · refine List.mem_cons_of_mem _ ?_
        have hp : 0 < fuel := by unfold behM at *; omega
        obtain ⟨f, rfl⟩ : ∃ f, fuel = f + 1 := ⟨fuel - 1, by omega⟩
        rw [firstsM, if_pos (by exact hb)]
        exact List.mem_cons_self
      · exact List.mem_cons_of_mem _ (firstsM_next (by unfold behM at *; omega) h hb)
    · exact absurd h (by simp)
theorem firstsM_sep {l : List Ins} : ∀ {fuel a p q : Nat}, p ∈ firstsM l fuel a → q ∈ firstsM l fuel a → p < q → behM l p ≤ q
  | 0, _, _, _, h, _, _ => absurd h (by simp [firstsM])
  | fuel + 1, a, p, q, hp, hq, hlt => by
    rw [firstsM] at hp hq
    split at hp
    · rename_i ha
      rw [if_pos ha] at hq
      rcases List.mem_cons.1 hq with rfl | hq
      · rcases List.mem_cons.1 hp with rfl | hp
        · omega
        · have := firstsM_mem hp
          have h2 := behM_pos l q
          unfold behM at h2
          omega
      · rcases List.mem_cons.1 hp with rfl | hp
        · exact (firstsM_mem hq).1
        · exact firstsM_sep hp hq hlt
    · exact absurd hp (by simp)
theorem starts_lt {l : List Ins} {p : Nat} (h : p ∈ starts l) : p < l.length := (firstsM_mem h).2
theorem starts_zero {l : List Ins} (h : 0 < l.length) : 0 ∈ starts l := by
  unfold starts
  obtain ⟨n, hn⟩ : ∃ n, l.length = n + 1 := ⟨l.length - 1, by omega⟩
  rw [hn, firstsM, if_pos h]
  exact List.mem_cons_self
theorem starts_next {l : List Ins} {p : Nat} (h : p ∈ starts l) (hb : behM l p < l.length) : behM l p ∈ starts l := firstsM_next (by omega) h hb
theorem starts_sep {l : List Ins} {p q : Nat} (h : p ∈ starts l) (hq : q ∈ starts l) (hlt : p < q) : behM l p ≤ q := firstsM_sep h hq hlt

/-! ### cutting -/
/-- a block, and its last instruction -/
structure Cb where (fr to la : Nat)
deriving DecidableEq
def cutStep (l : List Ins) (F : Nat → Bool) (B : List Cb) (pc : Nat) : List Cb :=
  if F pc then B ++ [⟨pc, behM l pc, pc⟩] else match B.getLast? with
    | some c => B.dropLast ++ [⟨c.fr, behM l pc, pc⟩]
    | none => []
/-- the blocks lie one behind the other -/
def Tiles : Nat → List Cb → Nat → Prop
  | a, [], e => a = e
  | a, c :: r, e => c.fr = a ∧ c.fr < c.to ∧ Tiles c.to r e
theorem Tiles.snoc {e : Nat} {c : Cb} : ∀ {B : List Cb} {a : Nat}, Tiles a (B ++ [c]) e ↔ ∃ m, Tiles a B m ∧ c.fr = m ∧ c.fr < c.to ∧ c.to = e
  | [], a => by
    simp only [List.nil_append, Tiles]
    constructor
    · rintro ⟨h1, h2, h3⟩; exact ⟨a, rfl, h1, h2, h3⟩
    · rintro ⟨m, rfl, h1, h2, h3⟩; exact ⟨h1, h2, h3⟩
  | b :: B, a => by
    simp only [List.cons_append, Tiles, Tiles.snoc (B := B)]
    constructor
    · rintro ⟨h1, h2, m, h3, h4⟩; exact ⟨m, ⟨h1, h2, h3⟩, h4⟩
    · rintro ⟨m, ⟨h1, h2, h3⟩, h4⟩; exact ⟨h1, h2, m, h3, h4⟩
/-- what is cut so far -/
structure CutOk (l : List Ins) (F : Nat → Bool) (done : List Nat) (B : List Cb) (e : Nat) : Prop where
  tiles : Tiles 0 B e
  none : B = [] → done = []
  sub : ∀ p ∈ done, p ∈ starts l ∧ p < e
  la : ∀ c ∈ B, c.fr ≤ c.la ∧ behM l c.la = c.to ∧ c.la ∈ done ∧ c.fr ∈ done ∧ F c.fr = true
  mid : ∀ c ∈ B, ∀ p ∈ done, c.fr < p → p < c.to → F p = false
theorem CutOk.start (l : List Ins) (F : Nat → Bool) : CutOk l F [] [] 0 := ⟨rfl, fun _ => rfl, fun _ h => absurd h (by simp), fun _ h => absurd h (by simp), fun _ h => absurd h (by simp)⟩
theorem Tiles.le {e : Nat} : ∀ {B : List Cb} {a : Nat}, Tiles a B e → a ≤ e ∧ ∀ c ∈ B, a ≤ c.fr ∧ c.to ≤ e
  | [], a, h => ⟨Nat.le_of_eq h, fun _ h => absurd h (by simp)⟩
  | b :: B, a, h => by
    obtain ⟨h1, h2, h3⟩ := h
    have := Tiles.le h3
    refine ⟨by omega, fun c hc => ?_⟩
    rcases List.mem_cons.1 hc with rfl | hc
    · omega
    · have := this.2 c hc; omega
theorem CutOk.step {l : List Ins} {F : Nat → Bool} {done : List Nat} {B : List Cb} {pc : Nat} (h : CutOk l F done B pc) (hs : pc ∈ starts l) (hF : B = [] → F pc = true) : CutOk l F (done ++ [pc]) (cutStep l F B pc) (behM l pc) := by
  have hb := behM_pos l pc
  have hsub : ∀ p ∈ done ++ [pc], p ∈ starts l ∧ p < behM l pc := fun p hp => by
    rcases List.mem_append.1 hp with hp | hp
    · have := h.sub p hp; exact ⟨this.1, by omega⟩
    · rw [List.mem_singleton.1 hp]; exact ⟨hs, by omega⟩
  unfold cutStep
  by_cases hf : F pc = true
  · rw [if_pos hf]
    refine ⟨Tiles.snoc.2 ⟨pc, h.tiles, rfl, by show pc < behM l pc; omega, rfl⟩, fun e => absurd e (by simp), hsub, fun c hc => ?_, fun c hc p hp h1 h2 => ?_⟩
    · rcases List.mem_append.1 hc with hc | hc
      · obtain ⟨a1, a2, a3, a4, a5⟩ := h.la c hc
        exact ⟨a1, a2, List.mem_append_left _ a3, List.mem_append_left _ a4, a5⟩
      · rw [List.mem_singleton.1 hc]
        exact ⟨Nat.le_refl _, rfl, by simp, by simp, hf⟩
    · rcases List.mem_append.1 hc with hc | hc
      · have hto := (h.tiles.le.2 c hc).2
        rcases List.mem_append.1 hp with hp | hp
        · exact h.mid c hc p hp h1 h2
        · rw [List.mem_singleton.1 hp] at h2; omega
      · rw [List.mem_singleton.1 hc] at h1 h2
        simp only at h1 h2
        rcases List.mem_append.1 hp with hp | hp
        · have := (h.sub p hp).2; omega
        · rw [List.mem_singleton.1 hp] at h1; omega
  · rw [if_neg hf]
    have hf' : F pc = false := by cases e : F pc with
      | true => exact absurd e hf
      | false => rfl
    have hne : B ≠ [] := fun e => hf (hF e)
    obtain ⟨B', c, rfl⟩ : ∃ B' c, B = B' ++ [c] := ⟨B.dropLast, B.getLast hne, (List.dropLast_concat_getLast hne).symm⟩
    simp only [List.getLast?_append, List.getLast?_singleton, List.dropLast_concat, Option.some_or]
    obtain ⟨m, t1, t2, t3, t4⟩ := Tiles.snoc.1 h.tiles
    refine ⟨Tiles.snoc.2 ⟨m, t1, t2, ?_, rfl⟩, fun e => absurd e (by simp), hsub, fun d hd => ?_, fun d hd p hp h1 h2 => ?_⟩
    · show c.fr < behM l pc
      omega
    · rcases List.mem_append.1 hd with hd | hd
      · obtain ⟨a1, a2, a3, a4, a5⟩ := h.la d (List.mem_append_left _ hd)
        exact ⟨a1, a2, List.mem_append_left _ a3, List.mem_append_left _ a4, a5⟩
      · rw [List.mem_singleton.1 hd]
        obtain ⟨a1, a2, a3, a4, a5⟩ := h.la c (by simp)
        refine ⟨?_, rfl, by simp, List.mem_append_left _ a4, a5⟩
        show c.fr ≤ pc
        omega
    · rcases List.mem_append.1 hd with hd | hd
      · have hto := (t1.le.2 d hd).2
        rcases List.mem_append.1 hp with hp | hp
        · exact h.mid d (List.mem_append_left _ hd) p hp h1 h2
        · rw [List.mem_singleton.1 hp] at h2; omega
      · rw [List.mem_singleton.1 hd] at h1 h2
        simp only at h1 h2
        rcases List.mem_append.1 hp with hp | hp
        · exact h.mid c (by simp) p hp h1 (by have := (h.sub p hp).2; omega)
        · rw [List.mem_singleton.1 hp]; exact hf'
def cutM (l : List Ins) (F : Nat → Bool) (done : List Nat) : List Cb := done.foldl (cutStep l F) []
theorem cutM_snoc (l : List Ins) (F : Nat → Bool) (done : List Nat) (pc : Nat) : cutM l F (done ++ [pc]) = cutStep l F (cutM l F done) pc := by simp [cutM]
/-- all that is cut -/
theorem cut_all {l : List Ins} {F : Nat → Bool} (h0 : F 0 = true) : ∀ {fuel pc : Nat} {done : List Nat}, l.length ≤ pc + fuel → starts l = done ++ firstsM l fuel pc → CutOk l F done (cutM l F done) pc → (done = [] → pc = 0) → ∃ e, l.length ≤ e ∧ CutOk l F (starts l) (cutM l F (starts l)) e
  | 0, pc, done, hf, hs, h, _ => by
    rw [firstsM, List.append_nil] at hs
    exact ⟨pc, by omega, hs ▸ h⟩
  | fuel + 1, pc, done, hf, hs, h, hz => by
    by_cases hlt : pc < l.length
    · rw [firstsM, if_pos hlt] at hs
      have hpc : pc ∈ starts l := by rw [hs]; simp
      have h2 := h.step hpc (fun e => by rw [hz (h.none e)]; exact h0)
      rw [← cutM_snoc] at h2
      exact cut_all h0 (fuel := fuel) (pc := behM l pc) (done := done ++ [pc]) (by have := behM_pos l pc; omega) (by rw [hs]; simp [behM]) h2 (fun e => absurd e (by simp))
    · have e : starts l = done := by rw [hs, firstsM, if_neg hlt, List.append_nil]
      exact ⟨pc, by omega, e ▸ h⟩
/-! ### which block -/
def atM (B : List Cb) (pc : Int) : Int := match B.findIdx? (fun c => decide ((c.fr : Int) ≤ pc) && decide (pc < (c.to : Int))) with
  | some k => (k : Int)
  | none => -1
theorem Tiles.find {e : Nat} : ∀ {B : List Cb} {a : Nat}, Tiles a B e → ∀ {k : Nat} {c : Cb}, B[k]? = some c → ∀ {pc : Nat}, c.fr ≤ pc → pc < c.to → B.findIdx? (fun c => decide ((c.fr : Int) ≤ (pc : Int)) && decide ((pc : Int) < (c.to : Int))) = some k
  | [], _, _, _, _, hk, _, _, _ => absurd hk (by simp)
  | b :: B, a, h, 0, c, hk, pc, h1, h2 => by
    simp only [List.getElem?_cons_zero, Option.some.injEq] at hk
    subst hk
    rw [List.findIdx?_cons, if_pos (by simp; omega)]
  | b :: B, a, h, k + 1, c, hk, pc, h1, h2 => by
    simp only [List.getElem?_cons_succ] at hk
    have hc := h.2.2.le.2 c (List.mem_of_getElem? hk)
    rw [List.findIdx?_cons, if_neg (by simp; omega), h.2.2.find hk h1 h2]
    rfl
theorem Tiles.at {B : List Cb} {a e : Nat} (h : Tiles a B e) {k : Nat} {c : Cb} (hk : B[k]? = some c) {pc : Nat} (h1 : c.fr ≤ pc) (h2 : pc < c.to) : atM B pc = k := by
  unfold atM
  rw [h.find hk h1 h2]
theorem Tiles.cover {e : Nat} : ∀ {B : List Cb} {a : Nat}, Tiles a B e → ∀ {pc : Nat}, a ≤ pc → pc < e → ∃ (k : Nat) (c : Cb), B[k]? = some c ∧ c.fr ≤ pc ∧ pc < c.to
  | [], a, h, pc, h1, h2 => by have : a = e := h; omega
  | b :: B, a, h, pc, h1, h2 => by
    by_cases hlt : pc < b.to
    · exact ⟨0, b, rfl, by have := h.1; omega, hlt⟩
    · obtain ⟨k, c, hk, hc⟩ := h.2.2.cover (pc := pc) (by omega) h2
      exact ⟨k + 1, c, hk, hc⟩
theorem Tiles.order {e : Nat} : ∀ {B : List Cb} {a : Nat}, Tiles a B e → ∀ {i j : Nat} {b c : Cb}, B[i]? = some b → B[j]? = some c → i < j → b.to ≤ c.fr
  | [], _, _, _, _, _, _, h, _, _ => absurd h (by simp)
  | x :: B, a, h, i, j + 1, b, c, hi, hj, hlt => by
    simp only [List.getElem?_cons_succ] at hj
    cases i with
    | zero =>
      simp only [List.getElem?_cons_zero, Option.some.injEq] at hi
      subst hi
      exact (h.2.2.le.2 c (List.mem_of_getElem? hj)).1
    | succ i =>
      simp only [List.getElem?_cons_succ] at hi
      exact h.2.2.order hi hj (by omega)
/-! ### fronts -/
def leavesM (i : Ins) : Bool := jumpB i.op && i.op != 133
def frontsM (l : List Ins) (done : List Nat) : List Nat := 0 :: done.flatMap fun pc => if leavesM (insAt l pc) then behM l pc :: nextM l pc else []
def frontB (l : List Ins) (pc : Nat) : Bool := (frontsM l (starts l)).contains pc
/-! ### what comes behind a block -/
structure Blk where (fr to : Nat) (next : List Nat)
deriving DecidableEq
def addNew (acc : List Nat) (n : Nat) : List Nat := if acc.contains n then acc else acc ++ [n]
def nextsM (l : List Ins) (B : List Cb) (la : Nat) : List Nat := ((nextM l la).map fun to : Nat => (atM B (to : Int)).toNat).foldl addNew []
def cutsM (l : List Ins) : List Cb := cutM l (frontB l) (starts l)
def blocksM (l : List Ins) : List Blk := (cutsM l).map fun c => ⟨c.fr, c.to, nextsM l (cutsM l) c.la⟩
def nxM (B : List Blk) (i : Nat) : List Nat := (B.getD i ⟨0, 0, []⟩).next
end Go.Proofs.YtakcdecljfmckaaGreatDoor
