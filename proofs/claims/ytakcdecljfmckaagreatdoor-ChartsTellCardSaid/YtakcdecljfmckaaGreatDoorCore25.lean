/- A region that draws its order, and may die in the midst: each operation is shown once, in the state that all of them leave. -/
import Derived.Test.YtakcdecljfmckaaGreatDoorCore12
import Derived.OrdersHeld
import Derived.RegionTactic
import Derived.Deep.RegionHeld
set_option linter.all false
set_option linter.unusedVariables false
set_option linter.unusedSimpArgs false
namespace Go.Proofs.YtakcdecljfmckaaGreatDoor
section
variable {P : Program} {ops : Array Oper} {Q : Exit → Act → World → Prop}

/-- operation j's own slot -/
def dstOf (ops : Array Oper) (j : Nat) : Option Tmp := (ops[j]?).bind (·.dst)
/-- what the rule asks of an operation's text -/
def okOp (ops : Array Oper) (k : Nat) : Bool :=
  match ops[k]? with
  | none => false
  | some o => o.guard.isNone &&
    (match o.dst with
     | none => false
     | some d => (List.range ops.size).all fun j => j == k || dstOf ops j != some d) &&
    (o.op.operands.all fun x => match x with
      | .tmp s => ((List.range ops.size).all fun j => dstOf ops j != some s) || o.after.any fun e => Region.binds .any e && dstOf ops e.on == some s
      | _ => true) &&
    o.after.all fun e => !Region.binds .any e || decide (e.on < k)
def okOps (ops : Array Oper) : Bool := Region.noSelect ops && (List.range ops.size).all (okOp ops)

/-- midway: what has come up is as it will be at last; g: what the one operation that makes memory has yielded -/
structure Midway (ops : Array Oper) (kB : Nat) (D : List Nat) (A : Option Value → Act) (S : Option Value → World → Prop) (L : Nat → Prop) (g : Option Value) (listed : Array Bool) (a : Act) (w : World) : Prop where
  world : S g w
  defers : a.defers = (A g).defers
  size : a.tmps.size = (A g).tmps.size
  lsize : listed.size = ops.size
  slots : ∀ s, (∀ j, dstOf ops j = some s → listed.getD j false = true) → a.tmps[s]? = (A g).tmps[s]?
  lives : ∀ j, listed.getD j false = true → L j
  made : listed.getD kB false = g.isSome
  after : ∀ j ∈ D, listed.getD j false = true → listed.getD kB false = true

def left (ops : Array Oper) (listed : Array Bool) : Nat := ((List.range ops.size).filter fun i => !listed.getD i false).length
theorem left_step {listed : Array Bool} {i : Nat} (hi : i < ops.size) (hl : listed.size = ops.size) (h : listed.getD i false = false) : left ops (listed.setIfInBounds i true) + 1 ≤ left ops listed := by
  unfold left
  have h1 : ∀ l : List Nat, l.Nodup → ((l.filter fun k => !(listed.setIfInBounds i true).getD k false).length + (if i ∈ l then 1 else 0) = (l.filter fun k => !listed.getD k false).length) := by
    intro l
    induction l with
    | nil => intro _; simp
    | cons x l ih =>
      intro hn
      obtain ⟨hx, hn⟩ := List.nodup_cons.1 hn
      have ih := ih hn
      by_cases hxi : x = i
      · subst hxi
        rw [if_neg hx] at ih
        have e1 : (listed.setIfInBounds x true).getD x false = true := by simp [hl, hi]
        simp only [List.filter_cons, e1, h, Bool.not_true, Bool.false_eq_true, if_false, Bool.not_false, if_true, List.length_cons, List.mem_cons, true_or]
        omega
      · have e1 : (listed.setIfInBounds i true).getD x false = listed.getD x false := getD_set_ne false (Ne.symm hxi)
        have e2 : (i ∈ x :: l) = (i ∈ l) := by simp [Ne.symm hxi]
        simp only [List.filter_cons, e1, e2]
        cases hc : listed.getD x false
        · simp only [Bool.not_false, if_true, List.length_cons]; omega
        · simp only [Bool.not_true, Bool.false_eq_true, if_false]; omega
  have := h1 (List.range ops.size) List.nodup_range
  rw [if_pos (List.mem_range.2 hi)] at this
  omega
theorem left_zero {listed : Array Bool} (h : left ops listed = 0) : ∀ i, i < ops.size → listed.getD i false = true := by
  intro i hi
  unfold left at h
  have := List.eq_nil_of_length_eq_zero h
  have h2 := List.filter_eq_nil_iff.1 this i (List.mem_range.2 hi)
  simpa using h2
theorem okOp_of {k : Nat} (h : okOps ops = true) (hk : k < ops.size) : okOp ops k = true := by
  unfold okOps at h
  simp only [Bool.and_eq_true, List.all_eq_true, List.mem_range] at h
  exact h.2 k hk
theorem okOp_after {k : Nat} {o : Oper} (h : okOp ops k = true) (ho : ops[k]? = some o) : ∀ e ∈ o.after, Region.binds .any e = true → e.on < k := by
  unfold okOp at h
  simp only [ho, Bool.and_eq_true] at h
  intro e he hb
  have := Array.all_eq_true_iff_forall_mem.1 h.2 e he
  simpa [hb] using this
theorem getD_set_self {listed : Array Bool} {i : Nat} (h : i < listed.size) : (listed.setIfInBounds i true).getD i false = true := by simp [h]
/-- nothing may come up: all have come up -/
theorem all_of_ready (h : okOps ops = true) {listed : Array Bool} (hl : listed.size = ops.size) (hr : Region.ready .any ops listed = []) : ∀ k, k < ops.size → listed.getD k false = true := by
  intro k
  induction k using Nat.strongRecOn with
  | ind k ih =>
    intro hk
    cases hc : listed.getD k false with
    | true => rfl
    | false =>
      obtain ⟨o, ho⟩ : ∃ o, ops[k]? = some o := ⟨_, Array.getElem?_eq_getElem hk⟩
      have : k ∈ Region.ready .any ops listed := mem_ready.2 ⟨by
        have e : k < listed.size := by omega
        simp only [Array.getD_eq_getD_getElem?, Array.getElem?_eq_getElem e, Option.getD_some] at hc ⊢
        exact hc, o, ho, fun e he hb => ih e.on (okOp_after (okOp_of h hk) ho e he hb) (by have := okOp_after (okOp_of h hk) ho e he hb; omega)⟩
      rw [hr] at this
      cases this

/-- what the rule asks of those behind the one that makes memory -/
def okBehind (ops : Array Oper) (kB : Nat) (D : List Nat) : Bool := decide (kB < ops.size) && !D.contains kB && D.all fun k => match ops[k]? with
  | none => false
  | some o => o.after.any fun e => Region.binds .any e && e.on == kB
theorem dst_lt {j s : Nat} (hj : dstOf ops j = some s) : j < ops.size := by
  rcases Nat.lt_or_ge j ops.size with h | h
  · exact h
  · unfold dstOf at hj; rw [Array.getElem?_eq_none h] at hj; cases hj
theorem wpAny_final (hok : okOps ops = true) (kB : Nat) (D : List Nat) (hB : okBehind ops kB D = true) (A : Option Value → Act) (S : Option Value → World → Prop) (L : Nat → Prop)
    (hsz : ∀ g, (A g).tmps.size = (A none).tmps.size) (hdf : ∀ g, (A g).defers = (A none).defers)
    (hAA : ∀ v s, (∀ j, j = kB ∨ j ∈ D → dstOf ops j ≠ some s) → (A (some v)).tmps[s]? = (A none).tmps[s]?)
    (hAB : ∀ v s, dstOf ops kB = some s → s < (A none).tmps.size ∧ (A (some v)).tmps[s]? = some v)
    (hop : ∀ (i : Nat) (o : Oper), ops[i]? = some o → i ≠ kB → ∀ g W, S g W → (i ∈ D → g.isSome = true) → (∀ e ∈ o.after, Region.binds .any e = true → L e.on) → Oper.wp P o (A g) W (fun a' w' => a' = A g ∧ S g w' ∧ L i) Q)
    (hopB : ∀ (o : Oper), ops[kB]? = some o → ∀ W, S none W → (∀ e ∈ o.after, Region.binds .any e = true → L e.on) → Oper.wp P o (A none) W (fun a' w' => ∃ v, a' = (A none).put o.dst v ∧ S (some v) w' ∧ L kB) Q)
    (hpan : ∀ c a' w g, a'.defers = (A none).defers → Q (.panic c) (A g) w → Q (.panic c) a' w)
    (hfin : ∀ v W, S (some v) W → (∀ i, i < ops.size → L i) → Q .normal (A (some v)) W) :
    ∀ (fuel : Nat) (g : Option Value) (listed : Array Bool) (a : Act) (w : World), left ops listed ≤ fuel → Midway ops kB D A S L g listed a w → wpAny P .any ops Q fuel listed a w := by
  unfold okBehind at hB
  simp only [Bool.and_eq_true, decide_eq_true_eq, List.all_eq_true] at hB
  obtain ⟨⟨hBs, hBD⟩, hBA⟩ := hB
  have hBD2 : kB ∉ D := by simpa using hBD
  have hend : ∀ (g : Option Value) (listed : Array Bool) (a : Act) (w : World), Midway ops kB D A S L g listed a w → (∀ k, k < ops.size → listed.getD k false = true) → Q .normal a w := by
    intro g listed a w M hall
    have ha : a = A g := by
      have e1 : a.tmps = (A g).tmps := Array.ext_getElem? fun s => M.slots s fun j hj => hall j (dst_lt hj)
      have e2 := M.defers
      cases a; cases hg : A g
      rw [hg] at e1 e2
      simp only at e1 e2
      rw [e1, e2]
    have hm := M.made
    rw [hall kB hBs] at hm
    cases g with
    | none => cases hm
    | some v =>
      rw [ha]
      exact hfin v w M.world fun i hi => M.lives i (hall i hi)
  intro fuel
  induction fuel with
  | zero =>
    intro g listed a w hf M
    have hall := left_zero (Nat.le_zero.1 hf)
    refine ⟨?_, hend g listed a w M hall⟩
    unfold Region.ready
    refine List.filter_eq_nil_iff.2 fun i hi => ?_
    have hi2 := List.mem_range.1 hi
    have e : i < listed.size := by rw [M.lsize]; exact hi2
    have := hall i hi2
    simp [e] at this ⊢
    simp [this]
  | succ fuel ih =>
    intro g listed a w hf M
    refine ⟨fun hr => hend g listed a w M (all_of_ready hok M.lsize hr), fun i hi => ?_⟩
    obtain ⟨hun, o, ho, hall⟩ := mem_ready.1 hi
    have hio : i < ops.size := by
      rcases Nat.lt_or_ge i ops.size with h | h
      · exact h
      · rw [Array.getElem?_eq_none h] at ho; cases ho
    have hil : i < listed.size := by rw [M.lsize]; exact hio
    have hunf : listed.getD i false = false := by simp [hil] at hun ⊢; exact hun
    have hk := okOp_of hok hio
    unfold okOp at hk
    simp only [ho, Bool.and_eq_true] at hk
    obtain ⟨⟨⟨hg, hdst⟩, hopd⟩, _⟩ := hk
    obtain ⟨d, hd⟩ : ∃ d, o.dst = some d := by
      cases hd : o.dst with
      | none => rw [hd] at hdst; cases hdst
      | some d => exact ⟨d, rfl⟩
    have hgn : o.guard = none := by simpa using hg
    have hcong : execOp a.eval o = execOp (A g).eval o := by
      have hns : Region.noSelect ops = true := by unfold okOps at hok; simp only [Bool.and_eq_true] at hok; exact hok.1
      refine execOp_congr o (fun cs b => Region.noSelect_spec hns i o cs b ho) fun x hx => ?_
      cases x with
      | tmp s =>
        have hx2 := (Array.all_eq_true_iff_forall_mem.1 hopd) _ hx
        have : a.tmps[s]? = (A g).tmps[s]? := by
          refine M.slots s fun j hj => ?_
          rw [Bool.or_eq_true, List.all_eq_true] at hx2
          have hjo := dst_lt hj
          rcases hx2 with h | hx3
          · have := h j (List.mem_range.2 hjo)
            simp [hj] at this
          · obtain ⟨e, he, hbe⟩ : ∃ e ∈ o.after, (Region.binds .any e && dstOf ops e.on == some s) = true := by
              rw [← Array.any_toList, List.any_eq_true] at hx3
              obtain ⟨e, he, hbe⟩ := hx3
              exact ⟨e, Array.mem_toList_iff.1 he, hbe⟩
            simp only [Bool.and_eq_true, beq_iff_eq] at hbe
            obtain ⟨hb, hed⟩ := hbe
            have hle := hall e he hb
            by_cases hje : j = e.on
            · rw [hje]; exact hle
            · exfalso
              have hkj := okOp_of hok hjo
              obtain ⟨oj, hoj⟩ : ∃ oj, ops[j]? = some oj := ⟨_, Array.getElem?_eq_getElem hjo⟩
              have hoj2 : oj.dst = some s := by unfold dstOf at hj; rw [hoj] at hj; exact hj
              unfold okOp at hkj
              simp only [hoj, Bool.and_eq_true, hoj2] at hkj
              have := (List.all_eq_true.1 hkj.1.1.2) e.on (List.mem_range.2 (dst_lt hed))
              simp [Ne.symm hje, hed] at this
        show a.tmps.getD s undef = (A g).tmps.getD s undef
        rw [Array.getD_eq_getD_getElem?, Array.getD_eq_getD_getElem?, this]
      | const v => rfl
      | global g => rfl
      | func f => rfl
    have hdo : dstOf ops i = some d := by unfold dstOf; rw [ho]; exact hd
    have hw : Region.wanted o (yielded ops a.tmps) = true := by unfold Region.wanted; rw [hgn]
    have hleft : left ops (listed.setIfInBounds i true) ≤ fuel := by have := left_step (ops := ops) hio M.lsize hunf; omega
    unfold wpOp
    simp only [ho]
    rw [if_pos hw]
    refine .inl ?_
    unfold Oper.wp
    rw [hcong]
    by_cases hik : i = kB
    · have hgnone : g = none := by
        have := M.made
        rw [← hik, hunf] at this
        cases g with
        | none => rfl
        | some v => cases this
      subst hgnone
      have hstep := hopB o (hik ▸ ho) w M.world fun e he hb => M.lives _ (hall e he hb)
      have next : ∀ u w', (∃ v, (A none).put o.dst u = (A none).put o.dst v ∧ S (some v) w' ∧ L kB) → wpAny P .any ops Q fuel (listed.setIfInBounds i true) (a.put o.dst u) w' := by
        rintro u w' ⟨v, hA, hS, hL⟩
        refine ih (some v) _ _ _ hleft ?_
        rw [hd] at hA ⊢
        have hA2 : (A none).tmps.setIfInBounds d u = (A none).tmps.setIfInBounds d v := congrArg Act.tmps hA
        have hdk : dstOf ops kB = some d := hik ▸ hdo
        obtain ⟨hds, hdv⟩ := hAB v d hdk
        have huv : u = v := by
          have := congrArg (fun t => t[d]?) hA2
          simp only [Array.getElem?_setIfInBounds, if_pos rfl, if_pos hds] at this
          exact Option.some.inj this
        refine ⟨hS, M.defers.trans (hdf _).symm, ?_, ?_, ?_, ?_, ?_, ?_⟩
        · show (a.tmps.setIfInBounds d u).size = _
          rw [Array.size_setIfInBounds, M.size, hsz (some v)]
        · rw [Array.size_setIfInBounds]; exact M.lsize
        · intro s hs
          show (a.tmps.setIfInBounds d u)[s]? = _
          by_cases hsd : d = s
          · subst hsd
            rw [hdv, Array.getElem?_setIfInBounds, if_pos rfl, if_pos (by rw [M.size]; exact hds), huv]
          · rw [Array.getElem?_setIfInBounds_ne hsd]
            have hold : ∀ j, dstOf ops j = some s → listed.getD j false = true := by
              intro j hj
              have := hs j hj
              have hji : i ≠ j := by
                intro e
                rw [← e, hdo] at hj
                exact hsd (Option.some.inj hj)
              rwa [getD_set_ne false hji] at this
            rw [M.slots s hold, hAA v s]
            intro j hj hjs
            rcases hj with rfl | hj
            · rw [hdk] at hjs
              exact hsd (Option.some.inj hjs)
            · have := M.after j hj (hold j hjs)
              rw [← hik, hunf] at this
              cases this
        · intro j hj
          by_cases hji : i = j
          · rw [← hji, hik]; exact hL
          · rw [getD_set_ne false hji] at hj
            exact M.lives j hj
        · rw [← hik, getD_set_self hil]; rfl
        · intro j hj _
          rw [← hik]; exact getD_set_self hil
      unfold Oper.wp at hstep
      generalize (execOp (A none).eval o).run P w = r at hstep
      cases r with
      | ok n w' =>
        cases n <;> simp only [Oper.upon] at hstep ⊢
        case value u => exact next u w' hstep
        case skip => exact next _ w' hstep
        case defer dd =>
          exfalso
          obtain ⟨v, h, _⟩ := hstep
          have := congrArg (fun a : Act => a.defers.length) h
          rw [hd] at this
          simp [Act.put] at this
        case enter f args =>
          refine Calls.mono hstep fun e w'' he => ?_
          cases e with
          | returned u => exact next u w'' he
          | panicked c => exact hpan c a w'' none M.defers he
          | outgrown => exact he
        case row row args => exact Rows.mono hstep fun u w'' he => next u w'' he
      | halt x w' =>
        cases x <;> simp only [Oper.upon] at hstep ⊢
        case panic u => exact hpan _ a w' none M.defers hstep
    · have hDg : i ∈ D → g.isSome = true := by
        intro hiD
        rw [← M.made]
        have := hBA i hiD
        rw [ho] at this
        simp only [← Array.any_toList, List.any_eq_true, Bool.and_eq_true, beq_iff_eq] at this
        obtain ⟨e, he, hb, hek⟩ := this
        rw [← hek]
        exact hall e (Array.mem_toList_iff.1 he) hb
      have hstep := hop i o ho hik g w M.world hDg fun e he hb => M.lives _ (hall e he hb)
      -- what follows
      have next : ∀ v w', (A g).put o.dst v = A g → S g w' → L i → wpAny P .any ops Q fuel (listed.setIfInBounds i true) (a.put o.dst v) w' := by
        intro v w' hA hS hL
        refine ih g _ _ _ hleft ?_
        rw [hd] at hA ⊢
        have hA2 : (A g).tmps.setIfInBounds d v = (A g).tmps := congrArg Act.tmps hA
        refine ⟨hS, M.defers, ?_, ?_, ?_, ?_, ?_, ?_⟩
        · show (a.tmps.setIfInBounds d v).size = _
          rw [Array.size_setIfInBounds]; exact M.size
        · rw [Array.size_setIfInBounds]; exact M.lsize
        · intro s hs
          show (a.tmps.setIfInBounds d v)[s]? = _
          by_cases hsd : d = s
          · subst hsd
            rw [← hA2, Array.getElem?_setIfInBounds, Array.getElem?_setIfInBounds, M.size, if_pos rfl, if_pos rfl]
          · rw [Array.getElem?_setIfInBounds_ne hsd]
            refine M.slots s fun j hj => ?_
            have := hs j hj
            have hji : i ≠ j := by
              intro e
              rw [← e, hdo] at hj
              exact hsd (Option.some.inj hj)
            rwa [getD_set_ne false hji] at this
        · intro j hj
          by_cases hji : i = j
          · rw [← hji]; exact hL
          · rw [getD_set_ne false hji] at hj
            exact M.lives j hj
        · rw [getD_set_ne false hik]; exact M.made
        · intro j hj hjl
          rw [getD_set_ne false hik]
          by_cases hji : i = j
          · rw [M.made]; exact hDg (hji ▸ hj)
          · rw [getD_set_ne false hji] at hjl
            exact M.after j hj hjl
      unfold Oper.wp at hstep
      generalize (execOp (A g).eval o).run P w = r at hstep
      cases r with
      | ok n w' =>
        cases n <;> simp only [Oper.upon] at hstep ⊢
        case value u => exact next u w' hstep.1 hstep.2.1 hstep.2.2
        case skip => exact next _ w' hstep.1 hstep.2.1 hstep.2.2
        case defer dd =>
          exfalso
          have := congrArg (fun a : Act => a.defers.length) hstep.1
          rw [hd] at this
          simp [Act.put] at this
        case enter f args =>
          refine Calls.mono hstep fun e w'' he => ?_
          cases e with
          | returned u => exact next u w'' he.1 he.2.1 he.2.2
          | panicked c => exact hpan c a w'' g (M.defers.trans (hdf g)) he
          | outgrown => exact he
        case row row args => exact Rows.mono hstep fun u w'' he => next u w'' he.1 he.2.1 he.2.2
      | halt x w' =>
        cases x <;> simp only [Oper.upon] at hstep ⊢
        case panic u => exact hpan _ a w' g (M.defers.trans (hdf g)) hstep

/-- a region that draws: each operation is shown in the state that all of them leave -/
theorem wp_region_final {id : Nat} {a : Act} {w : World} (kB : Nat) (D : List Nat) (A : Option Value → Act) (S : Option Value → World → Prop) (L : Nat → Prop) (hm : P.follows .mixedOrders = true) (hok : okOps ops = true)
    (hB : okBehind ops kB D = true) (hsz : ∀ g, (A g).tmps.size = (A none).tmps.size) (hdf : ∀ g, (A g).defers = (A none).defers)
    (hAA : ∀ v s, (∀ j, j = kB ∨ j ∈ D → dstOf ops j ≠ some s) → (A (some v)).tmps[s]? = (A none).tmps[s]?)
    (hAB : ∀ v s, dstOf ops kB = some s → s < (A none).tmps.size ∧ (A (some v)).tmps[s]? = some v)
    (hS : S none w.drew) (hd : a.defers = (A none).defers) (hs : a.tmps.size = (A none).tmps.size) (hb : ∀ s, (∀ j, dstOf ops j ≠ some s) → a.tmps[s]? = (A none).tmps[s]?)
    (hop : ∀ (i : Nat) (o : Oper), ops[i]? = some o → i ≠ kB → ∀ g W, S g W → (i ∈ D → g.isSome = true) → (∀ e ∈ o.after, Region.binds .any e = true → L e.on) → Oper.wp P o (A g) W (fun a' w' => a' = A g ∧ S g w' ∧ L i) Q)
    (hopB : ∀ (o : Oper), ops[kB]? = some o → ∀ W, S none W → (∀ e ∈ o.after, Region.binds .any e = true → L e.on) → Oper.wp P o (A none) W (fun a' w' => ∃ v, a' = (A none).put o.dst v ∧ S (some v) w' ∧ L kB) Q)
    (hpan : ∀ c a' w g, a'.defers = (A none).defers → Q (.panic c) (A g) w → Q (.panic c) a' w)
    (hfin : ∀ v W, S (some v) W → (∀ i, i < ops.size → L i) → Q .normal (A (some v)) W) : (Code.region id ops true).wp P Q a w := by
  have hno : ∀ j, ((Array.replicate ops.size false).getD j false) = true → False := by
    intro j hj
    simp [Array.getD_eq_getD_getElem?, Array.getElem?_replicate] at hj
    split at hj <;> simp at hj
  refine wp_region_any hm (wpAny_final hok kB D hB A S L hsz hdf hAA hAB hop hopB hpan hfin _ none _ _ _ ?_ ⟨hS, hd, hs, by simp, fun s h => hb s fun j hj => (hno j (h j hj)).elim, fun j hj => (hno j hj).elim, ?_, fun j _ hj => (hno j hj).elim⟩)
  · unfold left
    refine Nat.le_trans (List.length_filter_le _ _) ?_
    simp
  · cases h : (Array.replicate ops.size false).getD kB false with
    | true => exact (hno kB h).elim
    | false => rfl

/-! ### with the state given by the slots that the region fills -/
def puts (l : List (Tmp × Value)) (a : Act) : Act := l.foldl (fun a p => a.put (some p.1) p.2) a
theorem puts_size (l : List (Tmp × Value)) : ∀ a : Act, (puts l a).tmps.size = a.tmps.size := by
  induction l with
  | nil => intro a; rfl
  | cons p l ih => intro a; show (puts l (a.put (some p.1) p.2)).tmps.size = _; rw [ih]; exact Array.size_setIfInBounds
theorem puts_defers (l : List (Tmp × Value)) : ∀ a : Act, (puts l a).defers = a.defers := by
  induction l with
  | nil => intro a; rfl
  | cons p l ih => intro a; show (puts l (a.put (some p.1) p.2)).defers = _; rw [ih]; rfl
theorem puts_other (l : List (Tmp × Value)) (s : Nat) (h : ∀ p ∈ l, p.1 ≠ s) : ∀ a : Act, (puts l a).tmps[s]? = a.tmps[s]? := by
  induction l with
  | nil => intro a; rfl
  | cons p l ih =>
    intro a
    show (puts l (a.put (some p.1) p.2)).tmps[s]? = _
    rw [ih (fun q hq => h q (List.mem_cons_of_mem _ hq))]
    exact Array.getElem?_setIfInBounds_ne (h p List.mem_cons_self)
/-- the state that all leave: v is what was made -/
def st (pre : List (Tmp × Value)) (dB dC : Tmp) (a : Act) (v : Value) : Act := ((puts pre a).put (some dB) v).put (some dC) v
def okPuts (ops : Array Oper) (sl : List Tmp) (dB dC : Tmp) (kB kC : Nat) : Bool :=
  okOps ops && okBehind ops kB [kC] && dstOf ops kB == some dB && dstOf ops kC == some dC && dB != dC && sl.all fun d => d != dB && d != dC && (List.range ops.size).any fun j => dstOf ops j == some d
/-- what an operation does in that state -/
def Does (P : Program) (Q : Exit → Act → World → Prop) (o : Oper) (A : Act) (W : World) (l : Prop) : Prop := Oper.wp P o A W (fun a' w' => a' = A ∧ Fr No W w' ∧ l) Q
/-- what slots hold -/
def Vals (A : Act) : List (Tmp × Value) → Prop
  | [] => True
  | p :: l => A.tmps[p.1]? = some p.2 ∧ Vals A l
theorem vals_of {A : Act} : ∀ {l : List (Tmp × Value)}, (∀ p ∈ l, A.tmps[p.1]? = some p.2) → Vals A l
  | [], _ => trivial
  | p :: _, h => ⟨h p List.mem_cons_self, vals_of fun q hq => h q (List.mem_cons_of_mem _ hq)⟩
theorem of_vals {A : Act} : ∀ {l : List (Tmp × Value)}, Vals A l → ∀ p ∈ l, A.tmps[p.1]? = some p.2
  | p :: l, h, q, hq => by
    rcases List.mem_cons.1 hq with rfl | hq
    · exact h.1
    · exact of_vals h.2 q hq
theorem puts_own : ∀ (l : List (Tmp × Value)), (l.map (·.1)).Nodup → ∀ a : Act, (∀ p ∈ l, p.1 < a.tmps.size) → ∀ p ∈ l, (puts l a).tmps[p.1]? = some p.2
  | q :: l, hn, a, hl, p, hp => by
    obtain ⟨hq, hn⟩ := List.nodup_cons.1 hn
    show (puts l (a.put (some q.1) q.2)).tmps[p.1]? = some p.2
    rcases List.mem_cons.1 hp with rfl | hp
    · rw [puts_other l p.1 (fun r hr e => hq (by show p.1 ∈ l.map (·.1); rw [← e]; exact List.mem_map_of_mem hr))]
      show (a.tmps.setIfInBounds p.1 p.2)[p.1]? = _
      rw [Array.getElem?_setIfInBounds, if_pos rfl, if_pos (hl p List.mem_cons_self)]
    · exact puts_own l hn _ (fun r hr => by
        show r.1 < (a.tmps.setIfInBounds q.1 q.2).size
        rw [Array.size_setIfInBounds]; exact hl r (List.mem_cons_of_mem _ hr)) p hp
/-- the slots that are filled, and those that are read, besides -/
def okSlots (n : Nat) (sl bl : List Tmp) (dB dC : Tmp) : Bool := decide (sl.Nodup) && sl.all (fun d => decide (d < n)) && bl.all (fun d => d != dB && d != dC && !sl.contains d) && decide (dB < n) && decide (dC < n)
theorem wp_region_puts {id : Nat} {a : Act} {w : World} (n : Nat) (base pre : List (Tmp × Value)) (dB dC : Tmp) (kB kC : Nat) (B : Value → World → Prop) (L : Nat → Prop) (hm : P.follows .mixedOrders = true)
    (hok : okPuts ops (pre.map (·.1)) dB dC kB kC = true) (hn : a.tmps.size = n) (hsl2 : okSlots n (pre.map (·.1)) (base.map (·.1)) dB dC = true) (hbase : Vals a base) (hdf0 : a.defers = []) (hBf : ∀ v W W', B v W → Fr No W W' → B v W')
    (hop : ∀ (A : Act) (v : Value), A.defers = [] → Vals A base → Vals A pre → A.tmps[dB]? = some v → A.tmps[dC]? = some v → ∀ (i : Nat) (o : Oper), ops[i]? = some o → i ≠ kB → ∀ W, Fr No w W → (∀ e ∈ o.after, Region.binds .any e = true → L e.on) → Does P Q o A W (L i))
    (hopB : ∀ (A : Act), Vals A base → Vals A pre → ∀ (o : Oper), ops[kB]? = some o → ∀ W, Fr No w W → (∀ e ∈ o.after, Region.binds .any e = true → L e.on) → ∃ v W', (execOp A.eval o).run P W = .ok (.value v) W' ∧ Fr No W W' ∧ B v W' ∧ L kB)
    (hpan : ∀ c (a1 a2 : Act) w, a1.defers = [] → a2.defers = [] → Q (.panic c) a1 w → Q (.panic c) a2 w)
    (hfin : ∀ (A : Act) (v : Value) W, A.defers = [] → A.tmps.size = n → Vals A base → Vals A pre → A.tmps[dB]? = some v → A.tmps[dC]? = some v → Fr No w W → B v W → (∀ i, i < ops.size → L i) → Q .normal A W) : (Code.region id ops true).wp P Q a w := by
  unfold okPuts at hok
  unfold okSlots at hsl2
  simp only [Bool.and_eq_true, beq_iff_eq, bne_iff_ne, List.all_eq_true, List.mem_map, forall_exists_index, and_imp, forall_apply_eq_imp_iff₂, decide_eq_true_eq] at hok hsl2
  obtain ⟨⟨⟨⟨⟨ho, hbe⟩, hkB⟩, hkC⟩, hne⟩, hsl⟩ := hok
  obtain ⟨⟨⟨⟨hnd, hsn⟩, hbl⟩, hlt⟩, hltC⟩ := hsl2
  have hsz : ∀ v, (st pre dB dC a v).tmps.size = a.tmps.size := fun v => by
    show (Array.setIfInBounds (Array.setIfInBounds (puts pre a).tmps dB v) dC v).size = _
    rw [Array.size_setIfInBounds, Array.size_setIfInBounds, puts_size]
  have hdf : ∀ v, (st pre dB dC a v).defers = a.defers := fun v => puts_defers pre a
  have hoth : ∀ v s, s ≠ dB → s ≠ dC → (st pre dB dC a v).tmps[s]? = (puts pre a).tmps[s]? := fun v s h1 h2 => by
    show (Array.setIfInBounds (Array.setIfInBounds (puts pre a).tmps dB v) dC v)[s]? = _
    rw [Array.getElem?_setIfInBounds_ne (Ne.symm h2), Array.getElem?_setIfInBounds_ne (Ne.symm h1)]
  have hBv : ∀ v, (st pre dB dC a v).tmps[dB]? = some v := fun v => by
    show (Array.setIfInBounds (Array.setIfInBounds (puts pre a).tmps dB v) dC v)[dB]? = _
    rw [Array.getElem?_setIfInBounds_ne (Ne.symm hne), Array.getElem?_setIfInBounds, if_pos rfl, if_pos (by rw [puts_size, hn]; exact hlt)]
  have hCv : ∀ v, (st pre dB dC a v).tmps[dC]? = some v := fun v => by
    show (Array.setIfInBounds (Array.setIfInBounds (puts pre a).tmps dB v) dC v)[dC]? = _
    rw [Array.getElem?_setIfInBounds, if_pos rfl, if_pos (by rw [Array.size_setIfInBounds, puts_size, hn]; exact hltC)]
  have hpv : ∀ v, Vals (st pre dB dC a v) pre := fun v => vals_of fun p hp => by
    rw [hoth v p.1 (hsl p hp).1.1 (hsl p hp).1.2]
    exact puts_own pre hnd a (fun q hq => by rw [hn]; exact hsn q hq) p hp
  have hbv : ∀ v, Vals (st pre dB dC a v) base := fun v => vals_of fun p hp => by
    have hb := hbl p hp
    rw [hoth v p.1 hb.1.1 hb.1.2, puts_other pre p.1 (fun q hq e => by
      have h2 := hb.2
      simp only [Bool.not_eq_true', List.contains_eq_mem, decide_eq_false_iff_not] at h2
      exact h2 (e ▸ List.mem_map_of_mem hq))]
    exact of_vals hbase p hp
  have hfr : ∀ {W W' : World}, Fr No w W → Fr No W W' → Fr No w W' := fun h k => h.trans k
  refine wp_region_final kB [kC] (fun g => st pre dB dC a (g.getD undef)) (fun g W => Fr No w W ∧ ∀ v, g = some v → B v W) L hm ho hbe (fun g => (hsz _).trans (hsz _).symm) (fun g => (hdf _).trans (hdf _).symm) ?_ ?_ ⟨(Fr.refl _ _).drew, fun v h => by cases h⟩ (hdf _).symm (hsz _).symm ?_ ?_ ?_ ?_ ?_
  · intro v s h
    have h1 : s ≠ dB := fun e => h kB (.inl rfl) (e ▸ hkB)
    have h2 : s ≠ dC := fun e => h kC (.inr (by simp)) (e ▸ hkC)
    exact (hoth v s h1 h2).trans (hoth undef s h1 h2).symm
  · intro v s h
    rw [hkB] at h
    obtain rfl := Option.some.inj h
    exact ⟨by rw [hsz, hn]; exact hlt, hBv v⟩
  · intro s h
    have h1 : s ≠ dB := fun e => h kB (e ▸ hkB)
    have h2 : s ≠ dC := fun e => h kC (e ▸ hkC)
    refine ((hoth undef s h1 h2).trans (puts_other pre s (fun p hp e => ?_) a)).symm
    have h3 := (hsl p hp).2
    rw [List.any_eq_true] at h3
    obtain ⟨j, _, hj⟩ := h3
    exact h j (e ▸ (beq_iff_eq.1 hj))
  · rintro i o hio hik g W ⟨hW, hg⟩ _ hl
    refine Oper.wp_mono ?_ (hop _ (g.getD undef) ((hdf _).trans hdf0) (hbv _) (hpv _) (hBv _) (hCv _) i o hio hik W hW hl)
    rintro a' w' ⟨h1, h2, h3⟩
    exact ⟨h1, ⟨hfr hW h2, fun v hv => hBf v W w' (hg v hv) h2⟩, h3⟩
  · rintro o hio W ⟨hW, _⟩ hl
    obtain ⟨v, W', hrun, h2, h3, h4⟩ := hopB _ (hbv undef) (hpv undef) o hio W hW hl
    unfold Oper.wp
    show Oper.upon P o _ _ Q ((execOp (st pre dB dC a undef).eval o).run P W)
    rw [hrun]
    refine ⟨v, rfl, ⟨hfr hW h2, fun u hu => ?_⟩, h4⟩
    obtain rfl := Option.some.inj hu
    exact h3
  · intro c a' w' g hd h
    exact hpan c _ a' w' ((hdf _).trans hdf0) (hd.trans ((hdf _).trans hdf0)) h
  · rintro v W ⟨hW, hg⟩ hall
    exact hfin _ v W ((hdf _).trans hdf0) ((hsz _).trans hn) (hbv _) (hpv _) (hBv _) (hCv _) hW (hg v rfl) hall
end
end Go.Proofs.YtakcdecljfmckaaGreatDoor
