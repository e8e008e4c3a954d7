/- The listed variables of package lines and of Go's library: what a row's condition gives; a world that meets it. A world that meets the listed variables; the wrap of a row that lists them. A program as an argument, opened. -/
import Derived.Test.YtakcdecljfmckaaGreatDoorCore15
import Derived.ProofKit
import Derived.LaidMore
import Derived.OpenShut
import Derived.Stop.Joined
import Derived.Stop.LaidErr
import Derived.Lay
import Derived.PinnedBridge
import Derived.Lib.LaidU8T
import Derived.Lib.LaidTab
import Derived.Shelf.Vars
import Derived.HandedShaped
import Derived.Test.YtakcdecljfmckaaGreatDoorCore14
import Derived.Test.YtakcdecljfmckaaGreatDoorCore11
import Derived.Test.YtakcdecljfmckaaGreatDoorCore6
import Derived.Deep.Slices
set_option linter.all false
set_option linter.unusedVariables false
set_option linter.unusedSimpArgs false
namespace Go.Proofs.YtakcdecljfmckaaGreatDoor
open Go.ChangeShapes Go.WideShapes Go.ChangeAt Go.WideMaps Go.WideElems Go.RowKit

def laidL : List (String × DataW Unit) := [("math/bits.deBruijn32tab", Rows.laid_math_bits_deBruijn32tab), ("math/bits.deBruijn64tab", Rows.laid_math_bits_deBruijn64tab), ("internal/strconv.uint64pow10", Rows.laid_internal_strconv_uint64pow10), ("unicode/utf8.acceptRanges", Rows.laid_unicode_utf8_acceptRanges), ("strconv.ErrRange", Rows.laid_strconv_ErrRange), ("strconv.ErrSyntax", Rows.laid_strconv_ErrSyntax),
  ("firewall/lines.ariths", Rows.laid_firewall_lines_ariths), ("firewall/lines.jumps", Rows.laid_firewall_lines_jumps), ("firewall/lines.sizes", Rows.laid_firewall_lines_sizes), ("unicode/utf8.first", Rows.laid_unicode_utf8_first)]

section
variable {H : Type} {enc : TypeId × Value → H} {P : Program} {w : World} {base : Nat} {sp : Nat → Bool} {held : Bool}
theorem strs_of_agg {fuel n : Nat} {t e : TypeId} {cs : List Value} {L : List (List UInt8)} {p : List MemPlace} (ht : P.underlying t = some (.array n e)) (he : P.underlying e = some .string) (hce : P.cellsOf e = 1)
    (h : DataW.trod enc P w base sp held fuel t cs = some (.agg (L.map fun s => .lit (.string s)), p)) : ∀ (j : Nat) (u : Value), (strs L)[j]? = some u → cs[j]? = some u := by
  obtain ⟨xs, m, _, ex, hl0, hl, hel⟩ := DataW.trod_array ht h
  simp only [Prod.mk.injEq, DataW.agg.injEq] at ex
  intro j u hj
  have hjL : j < L.length := by
    have := (List.getElem?_eq_some_iff.1 hj).1
    simpa [strs] using this
  have hxl : xs.length = L.length := by
    have := congrArg List.length ex.1
    simpa using this.symm
  have hE := hel j (by omega)
  rw [hce, Nat.mul_one, List.getElem?_eq_getElem (by omega)] at hE
  obtain ⟨s, e1, e2, _⟩ := DataW.trod_string he hE
  have e3 : (xs.map (·.1))[j]? = (L.map fun s => (DataW.lit (.string s) : DataW H))[j]? := by rw [ex.1]
  rw [List.getElem?_map, List.getElem?_map, List.getElem?_eq_getElem (by omega : j < xs.length), List.getElem?_eq_getElem hjL, e2] at e3
  simp only [Option.map_some, Option.some.injEq, DataW.lit.injEq, Lit.string.injEq] at e3
  have hu : u = .string s := by
    simp only [strs, List.getElem?_map, List.getElem?_eq_getElem hjL, Option.map_some, Option.some.injEq] at hj
    rw [← hj, ← e3]
    rfl
  have h0 : ((cs.drop j).take 1)[0]? = some (.string s) := by rw [e1]; rfl
  rw [hu]
  simpa using h0
theorem u8L_read {m : Nat} {e : TypeId} (he : P.underlying e = some (.int .u8)) (hce : P.cellsOf e = 1) : ∀ (n : Nat) (cs : List Value) (xs : List (DataW Unit × List MemPlace)), cs.length = n → xs.length = n →
    (∀ (i : Nat), i < n → DataW.trod (fun _ => ()) P w base sp held m e ((cs.drop (i * P.cellsOf e)).take (P.cellsOf e)) = xs[i]?) → u8L cs = some (xs.map (·.1)) ∧ xs.flatMap (·.2) = []
  | 0, cs, xs, hc, hx, _ => by
    have h1 := List.eq_nil_of_length_eq_zero hc
    have h2 := List.eq_nil_of_length_eq_zero hx
    subst h1 h2
    exact ⟨rfl, rfl⟩
  | n + 1, [], _, hc, _, _ => by simp at hc
  | n + 1, _ :: _, [], _, hx, _ => by simp at hx
  | n + 1, c :: cs, x :: xs, hc, hx, h => by
    have h0 := h 0 (by omega)
    rw [hce] at h0
    obtain ⟨z, e1, e2, _⟩ := DataW.trod_int he (show DataW.trod (fun _ => ()) P w base sp held m e [c] = some x from h0)
    cases e1
    subst e2
    obtain ⟨i1, i2⟩ := u8L_read he hce n cs xs (by simpa using hc) (by simpa using hx) (fun i hi => by
      have := h (i + 1) (by omega)
      rw [hce] at this ⊢
      simpa using this)
    exact ⟨by simp [u8L, i1], by simp [i2]⟩
end
theorem arr3_of {W : World} {base m : Nat} {sp : Nat → Bool} {held : Bool} {v : Value} {z : DataW Unit × List MemPlace} (h : elemAt (fun _ => ()) Tryz.prog W base sp held m 158 v = some z) : arr3 v = some z := by
  unfold elemAt at h
  split at h
  · rename_i hf
    obtain ⟨xs, k, _, ex, hl0, hl, hel⟩ := DataW.trod_array Tryz.underlying158 h
    have c3 : Tryz.prog.cellsOf 158 = 3 := by kernel_rfl
    have c1 : Tryz.prog.cellsOf 5 = 1 := by kernel_rfl
    rw [c3] at hl0
    obtain ⟨i1, i2⟩ := u8L_read Tryz.underlying5 c1 3 v.cells.toList xs hl0 hl hel
    have hv : ∃ ys, v = .agg ys := by
      cases v with
      | agg ys => exact ⟨ys, rfl⟩
      | _ => exfalso; revert hf; unfold Value.formed; simp [Tryz.underlying158]
    obtain ⟨ys, rfl⟩ := hv
    show (u8L ys.toList).map _ = _
    have : u8L ys.toList = some (xs.map (·.1)) := i1
    rw [this, ex, i2]
    rfl
  · cases h

theorem reads_strs {W : World} {n : String} {g t e k : Nat} {L : List (List UInt8)} (h : Lib.VarReads Tryz.prog W n (.agg (L.map fun s => .lit (.string s)))) (hg : Tryz.prog.globalNamed n = some g) (ht : (Tryz.prog.globals[g]?).map (·.type) = some t) (hu : Tryz.prog.underlying t = some (.array k e)) (he : Tryz.prog.underlying e = some .string) (hce : Tryz.prog.cellsOf e = 1) : CellsAt W g 0 (strs L) := by
  obtain ⟨g0, t0, cs, fuel, p, hg0, ht0, hv, hd⟩ := h
  obtain rfl := Option.some.inj (hg.symm.trans hg0)
  obtain rfl := Option.some.inj (ht.symm.trans ht0)
  intro j u hj
  have := strs_of_agg hu he hce hd j u hj
  rw [Nat.zero_add, World.var?_cell hg hv j, ← Array.getElem?_toList]
  exact this
theorem typ_err (u : TypeId) (h : Tryz.prog.typeName? 3 u = some "*errors.errorString") : u = 216 := by
  have e : "*" ++ "errors.errorString" = "*errors.errorString" := by decide
  exact typeName_ptr_named (nm := "errors.errorString") (by rw [e]; kernel_rfl) (by kernel_rfl) (by decide) u (by rw [e]; exact h)

theorem at_reads {W : World} (h : laidMet Tryz.prog laidL W) (i : Nat) {n : String} {d : DataW Unit} (e : laidL[i]? = some (n, d)) : Lib.VarReads Tryz.prog W n d := Lib.laidMet.reads h (List.mem_of_getElem? e)
theorem at_back {W : World} (h : laidMet Tryz.prog laidL W) (i : Nat) {n : String} {d : DataW Unit} (e : laidL.reverse[i]? = some (n, d)) : Lib.VarReads Tryz.prog W n d := Lib.laidMet.reads h (List.mem_reverse.1 (List.mem_of_getElem? e))
theorem cell0 {W : World} {n : String} {g : Nat} {cs : Array Value} {v : Value} (hg : Tryz.prog.globalNamed n = some g) (hv : W.var? Tryz.prog n = some cs) (hc : cs.toList = [v]) : W.cell? ⟨g, 0, none⟩ = some v := by
  have := World.var?_cell hg hv 0
  rw [this, ← Array.getElem?_toList, hc]
  rfl

set_option maxRecDepth 100000 in
theorem lt_of_laid {W : World} (h0 : laidMetH Tryz.prog laidL W) (hs : W.ShapedOpen Tryz.prog) : LT W := by
  rw [MakeChecks.laidMetH_plain _ _ _ (by kernel_rfl)] at h0
  constructor
  · exact reads_strs (n := "firewall/lines.jumps") (L := jumpN) (at_back h0 2 (by kernel_rfl)) (by kernel_rfl) (by kernel_rfl) Tryz.underlying184 Tryz.underlying9 (by kernel_rfl)
  · exact reads_strs (n := "firewall/lines.ariths") (L := arithN) (at_back h0 3 (by kernel_rfl)) (by kernel_rfl) (by kernel_rfl) Tryz.underlying183 Tryz.underlying9 (by kernel_rfl)
  · exact Lib.tabIs_of_head (g := 6) (by kernel_rfl) (by kernel_rfl) Tryz.underlying205 Tryz.underlying60 (by kernel_rfl) (by kernel_rfl) (Go.laidMet.tail (Go.laidMet.tail h0))
  · exact Go.Proofs.cell_of_shapedOpen_int (zero := #[.int .i64 0]) (t := 3) hs (of_decide_eq_true (by kernel_rfl)) (by kernel_rfl) rfl (by kernel_rfl) (by kernel_rfl) Tryz.underlying3
  · obtain ⟨a, s, hv, _⟩ := laid_sentinel (g := 7) (tp := 216) (Go.laidMet.tail (Go.laidMet.tail (Go.laidMet.tail (Go.laidMet.tail (Go.laidMet.tail h0))))) (by kernel_rfl) (by kernel_rfl) (Tryz.underlying124) typ_err Tryz.underlying216 Tryz.underlying218 rfl rfl Tryz.underlying9 (by kernel_rfl) (by kernel_rfl)
    exact ⟨_, _, hv⟩
  · obtain ⟨a, s, hv, _⟩ := laid_sentinel (g := 8) (tp := 216) (Go.laidMet.tail (Go.laidMet.tail (Go.laidMet.tail (Go.laidMet.tail h0)))) (by kernel_rfl) (by kernel_rfl) (Tryz.underlying124) typ_err Tryz.underlying216 Tryz.underlying218 rfl rfl Tryz.underlying9 (by kernel_rfl) (by kernel_rfl)
    exact ⟨_, _, hv⟩
  · exact utf8Tabs_of_readsT (U8Types.of196 Tryz.laysValid) ⟨by kernel_rfl, by kernel_rfl, by kernel_rfl, by kernel_rfl, by kernel_rfl, by kernel_rfl, by kernel_rfl⟩ (Pinned.utf8First_eq ▸ at_back h0 0 (n := "unicode/utf8.first") (d := Pinned.utf8First) (by kernel_rfl)) (at_reads h0 3 (n := "unicode/utf8.acceptRanges") (d := Lib.acceptData) (by kernel_rfl))
  · obtain ⟨g0, t0, cs, fuel, p, hg0, ht0, hv, hd⟩ := at_back h0 1 (n := "firewall/lines.sizes") (d := lsizeD) (by kernel_rfl)
    obtain rfl := Option.some.inj ((show Tryz.prog.globalNamed "firewall/lines.sizes" = some 2 by kernel_rfl).symm.trans hg0)
    obtain rfl := Option.some.inj ((show (Tryz.prog.globals[2]?).map (·.type) = some 179 by kernel_rfl).symm.trans ht0)
    rcases Go.WideElems.open_map Tryz.underlying179 hd with ⟨_, hx⟩ | ⟨bm, es, clock, m, rfl, hcs, hb, _, F, hx⟩
    · simp [lsizeD] at hx
    simp only [Prod.mk.injEq] at hx
    refine ⟨bm, es.size, cell0 (n := "firewall/lines.sizes") (by kernel_rfl) hv hcs, ?_⟩
    have := World.ownsMap_of_fit hb F (fun x _ z hz => arr3_of hz)
    rw [← hx.1] at this
    exact this
end Go.Proofs.YtakcdecljfmckaaGreatDoor

namespace Go.Proofs.YtakcdecljfmckaaGreatDoor
open Go.ChangeShapes Go.WideShapes Go.ChangeAt Go.WideMaps Go.WideElems Go.RowKit

def greatL : List (String × DataW Unit) := [("unicode/utf8.first", Rows.laid_unicode_utf8_first)]
/-- the world: what the door lays, and the great table -/
noncomputable def witW (os : Os) : World := (World.doorLaid Tryz.prog 400 os).layVars Tryz.prog greatL
theorem witW_os (os : Os) : (witW os).os = os := World.layVars_os _ _ _
/-- the blocks of the listed variables: more where package insns is reached -/
def witB : List Nat := (List.range (19
  )).filter (· != 0)

set_option maxRecDepth 100000 in
theorem wit_met (os : Os) (args : Array Value) : laidMetH Tryz.prog laidL ((witW os).forCall (fun _ _ => 0) ⟨#[], args, []⟩).memory := by
  rw [MakeChecks.laidMetH_plain _ _ _ (by kernel_rfl)]
  have e1 : (laidL.filter fun x => ["unicode/utf8.first"].contains x.1) = greatL := by kernel_rfl
  refine laidMet_layVars (w0 := World.doorLaid Tryz.prog 400 os) ["unicode/utf8.first"] witB ?_ ?_ ?_ ?_
  · rw [e1]; rfl
  · rw [e1]; kernel_rfl
  · rw [e1]; kernel_rfl
  · exact LaidIn.of_run witB 8 (by kernel_rfl) (by kernel_rfl) (by kernel_rfl) (by kernel_rfl)

/-- the plain wrap for a row that lists variables, the world's shape handed on too -/
theorem returns_listed {H : Type} {enc : TypeId × Value → H} {a : Assume} {C : Checked} {os : Os} {f : FuncId} {fn : Func} {s : ChangeSpec} {conds : List PathCond} {apart fresh handsOn again : Bool} {X : World → Array Value → Prop}
    (hX : ∀ (w w' : World) (args : Array Value), w.heap = w'.heap → X w args → X w' args)
    (own : ownKnob C.prog.godebug = none) (started : os.Started) (noInit : C.prog.inits.idxOf? f = none) (hfn : C.prog.funcs[f]? = some fn)
    (witness : ∃ (w : World) (tape : Tape) (i : Input), w.os = os ∧ (w.forCall tape i).Shaped C.prog ∧ i.vars = [] ∧ Input.okWide C.prog (w.forCall tape i) .any w.heap.size f i ∧
      ((s.pre enc C.prog fn conds apart (w.forCall tape i).memory i.args ∧ X (w.forCall tape i).memory i.args) ∧ sizedMet enc C.prog fn (OpenSpec.ofChange s) apart (w.forCall tape i).memory i.args) ∧ a.holds C.prog (lone (Frame.enter C.prog f i.args .normal) [] (w.forCall tape i)))
    (contract : ∀ (W : World) (base : Nat) (args : Array Value) (ds gs : List (DataW H)) (before : List MemPlace),
      (∀ (j : Nat) t v, fn.params[j]? = some t → args[j]? = some v → Value.okWide C.prog W .any base t v) →
      DataW.Whole enc C.prog fn.params.toList s.vars apart W args.toList ds gs before → X W args → W.ShapedOpen C.prog →
      Calls C.prog f args W fun e W' => ∃ v, e = .returned v ∧ s.post enc C.prog fn apart fresh handsOn again W args v W') :
    ReturnsInHanded a C os f .any (fun w args => (s.pre enc C.prog fn conds apart w args ∧ X w args) ∧ sizedMet enc C.prog fn (OpenSpec.ofChange s) apart w args) (s.post enc C.prog fn apart fresh handsOn again) :=
  returnsInHanded_of_calls own started noInit witness fun w tape i _ hsh _ hok hpre _ => by
    obtain ⟨_, _, _, fn', hfn', _, _, _, _, hval⟩ := hok
    obtain rfl : fn' = fn := Option.some.inj (hfn'.symm.trans hfn)
    obtain ⟨⟨⟨ds, gs, before, hw, _⟩, hx⟩, _⟩ := hpre
    refine (contract (w.forCall tape i) w.heap.size i.args ds gs before hval (DataW.Whole.of_heap (w' := w.forCall tape i) (by rfl) hw) (hX _ _ _ (by rfl) hx) hsh).mono fun e W' ⟨v, he, hp⟩ => ?_
    subst he
    exact ChangeSpec.post_blind hp
end Go.Proofs.YtakcdecljfmckaaGreatDoor

namespace Go.Proofs.YtakcdecljfmckaaGreatDoor
open Go.ChangeShapes Go.WideShapes Go.ChangeAt Go.RowKit Go.Deep

theorem Tryz.cells_ins : Tryz.prog.cellsOf 51 = 5 := by kernel_rfl
theorem Tryz.cells_i8 : Tryz.prog.cellsOf 5 = 1 := by kernel_rfl
theorem Tryz.cells_i16 : Tryz.prog.cellsOf 49 = 1 := by kernel_rfl
theorem Tryz.cells_i32 : Tryz.prog.cellsOf 21 = 1 := by kernel_rfl

theorem open_ins {H : Type} {enc : TypeId × Value → H} {base : Nat} {spare : Nat → Bool} {held : Bool} {w : World} {v : Value} {d : DataW H} {p : List MemPlace}
    (hv1 : v.cells.toList = [v]) (h : DataW.Trod enc Tryz.prog w base spare held 22 v d p) :
    ∃ l : List Ins, InsAt w v l ∧ SrcAt w v l.length (iflat l) ∧ (∀ i ∈ l, i.ok) ∧ l.length ≤ maxLen := by
  obtain ⟨fuel, hf⟩ := h
  rw [hv1] at hf
  rcases open_slice Tryz.underlying22 hf with ⟨h0, _⟩ | ⟨a, len, cap, m, n, D, Pl, h0, hb, hl, hm, hmm, hx, hi⟩
  · simp at h0
    subst h0
    exact ⟨[], .inl ⟨rfl, _, _, rfl⟩, .inl ⟨rfl, rfl, rfl⟩, by simp, by simp⟩
  · simp at h0
    subst h0
    have hlm : len ≤ m := by rw [hmm]; split <;> omega
    obtain ⟨l, h1, h2, h3⟩ := rows_open (w := w) (a := a) 5 Ins.cells Ins.ok (fun x => rfl) len (fun i hil => by
      obtain ⟨cs', hc, ht⟩ := hi i (by omega)
      rw [Tryz.cells_ins] at hc
      obtain ⟨_, hcl, hat⟩ := World.cells?_some hc
      obtain ⟨c0, c1, c2, c3, c4, rfl⟩ : ∃ a b c d e, cs' = [a, b, c, d, e] := by
        match cs', hcl with
        | [a, b, c, d, e], _ => exact ⟨a, b, c, d, e, rfl⟩
      obtain ⟨xs, m', _, hx', hl', hn', hall⟩ := DataW.trod_struct Tryz.underlying51 ht
      have h0 := hall 0 _ rfl
      have h1 := hall 1 _ rfl
      have h2 := hall 2 _ rfl
      have h3 := hall 3 _ rfl
      have h4 := hall 4 _ rfl
      simp only [List.getElem_toArray, List.getElem_cons_zero, List.getElem_cons_succ, Tryz.cells_i8, Tryz.cells_i16, Tryz.cells_i32, Value.cells, List.drop_zero, List.take_succ_cons, List.take_zero, List.drop_succ_cons] at h0 h1 h2 h3 h4
      have hn5 : xs.length = 5 := hn'
      have e0 : xs[0]? = some xs[0] := List.getElem?_eq_getElem (by omega)
      have e1 : xs[1]? = some xs[1] := List.getElem?_eq_getElem (by omega)
      have e2 : xs[2]? = some xs[2] := List.getElem?_eq_getElem (by omega)
      have e3 : xs[3]? = some xs[3] := List.getElem?_eq_getElem (by omega)
      have e4 : xs[4]? = some xs[4] := List.getElem?_eq_getElem (by omega)
      rw [e0] at h0
      rw [e1] at h1
      rw [e2] at h2
      rw [e3] at h3
      rw [e4] at h4
      obtain ⟨x0, ea, _, wa⟩ := DataW.trod_int Tryz.underlying5 h0
      obtain ⟨x1, eb, _, wb⟩ := DataW.trod_int Tryz.underlying5 h1
      obtain ⟨x2, ec, _, wc⟩ := DataW.trod_int Tryz.underlying5 h2
      obtain ⟨x3, ed, _, wd⟩ := DataW.trod_int Tryz.underlying49 h3
      obtain ⟨x4, ee, _, we⟩ := DataW.trod_int Tryz.underlying21 h4
      have ba := bounds_u8 wa
      have bb := bounds_u8 wb
      have bc := bounds_u8 wc
      have bd := bounds_i16 wd
      have be := bounds_i32 we
      simp at ea eb ec ed ee
      subst ea eb ec ed ee
      obtain ⟨x0, rfl⟩ := Int.eq_ofNat_of_zero_le (show 0 ≤ x0 by omega)
      obtain ⟨x1, rfl⟩ := Int.eq_ofNat_of_zero_le (show 0 ≤ x1 by omega)
      obtain ⟨x2, rfl⟩ := Int.eq_ofNat_of_zero_le (show 0 ≤ x2 by omega)
      refine ⟨⟨x0, x1, x2, x3, x4⟩, ⟨by show x0 < _; omega, by show x1 < _; omega, by show x2 < _; omega, ⟨by show _ ≤ x3; omega, by show x3 < _; omega⟩, ⟨by show _ ≤ x4; omega, by show x4 < _; omega⟩⟩, fun c u hcu => ?_⟩
      have hcc := hat c (by have := (List.getElem?_eq_some_iff.1 hcu).1; simpa [Ins.cells] using this)
      rw [Deep.add_add] at hcc
      rw [hcc, ← hcu]
      rfl)
    rcases Nat.eq_zero_or_pos len with h0 | h0
    · subst h0
      have : l = [] := List.eq_nil_of_length_eq_zero h1
      subst this
      exact ⟨[], .inl ⟨rfl, _, _, rfl⟩, .inr ⟨_, _, rfl, fun j u hj => by simp [iflat] at hj⟩, by simp, by simp⟩
    · have h00 : (iflat l)[0]? = some (l[0].cells[0]'(by simp [Ins.cells])) := by
        have := iflat_get l 0 0 (by omega) (by omega)
        simpa using this
      obtain ⟨b, off, spot⟩ := a
      have hspot : spot = none := by simpa [Addr.add] using World.cell?_spot (h3 0 _ h00)
      subst hspot
      exact ⟨l, .inr ⟨b, off, cap, by rw [h1], fun j u hj => by rw [← addr_add]; exact h3 j u hj⟩, .inr ⟨_, _, by rw [h1], fun j u hj => h3 j u hj⟩, h2, by rw [h1]; omega⟩
end Go.Proofs.YtakcdecljfmckaaGreatDoor
