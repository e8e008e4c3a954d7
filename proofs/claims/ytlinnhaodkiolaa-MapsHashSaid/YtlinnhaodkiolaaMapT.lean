/- strings.Repeat of a byte 0; maps: Regions at any maps. -/
import Derived.Test.YtlinnhaodkiolaaMapS
import Derived.Test.YtlinnhaodkiolaaShelfB
namespace Go.Proofs.Ytlinnhaodkiolaa
open Go.RowKit

theorem Try.repeatExtra : Builder.Extra Try.prog Try.lays105_ren where
  sizeBuilder := by kernel_rfl
  liesBuilder := by kernel_rfl
  t5 := Try.lays105.t5
  a5 := Try.lays105.a5
  z5 := Try.lays105.z5
  v5 := Try.lays105.v5
  infoByte := by kernel_rfl
  cellsByte := by kernel_rfl
  sizeByte := by kernel_rfl
  neB5 := by decide

theorem repeatL_zero (c : Nat) : Lib.repeatL [(0 : UInt8)] c = List.replicate c 0 := by
  induction c with
  | zero => rfl
  | succ c ih => simp [Lib.repeatL, ih, List.replicate_succ]

theorem repeat_any (c : Nat) (w : World) (hc : c ≤ 1000000) : Calls Try.prog 39 #[.string ⟨#[0]⟩, .int .i64 c] w fun e w' => e = .returned (.string ⟨(List.replicate c (0 : UInt8)).toArray⟩) ∧ Fr No w w' := by
  have h : Calls Try.prog 39 #[.string ⟨#[0]⟩, .int .i64 c] w fun e w' => e = .returned (.string ⟨(Lib.repeatL (⟨#[0]⟩ : ByteArray).data.toList c).toArray⟩) ∧ Below w.heap.size w w' := Any.strings_Repeat Try.lays105 Try.repeatExtra ⟨#[0]⟩ c w (by omega) (by show 1 * c ≤ _; omega)
  refine h.mono fun e w' ⟨he, hf⟩ => ⟨?_, Fr.of_below hf⟩
  rw [he]
  have e1 : (⟨#[0]⟩ : ByteArray).data.toList = [(0 : UInt8)] := rfl
  rw [e1, repeatL_zero]

theorem mregs_typed {l : List MapD} (h : mayL l = true) : ∀ r ∈ mregs l, r.typed := fun r hr => by
  obtain ⟨h4, hm⟩ := (mayL_iff l).1 h
  obtain ⟨i, hi, rfl⟩ := List.getElem_of_mem hr
  have hl : i < l.length := by rw [mregs_length] at hi; exact hi
  have hg := mregs_get l i
  rw [List.getElem?_eq_getElem hi, List.getElem?_eq_getElem hl] at hg
  rw [Option.some.inj hg]
  exact Reg.typed_of _ _ (hm _ (List.getElem_mem hl)) (by omega)

def mregsOf (l : List MapD) : List Reg := if mayL l = true then mregs l else []

theorem Gath.regs {w w' : World} {rs : List Reg} {v : Value} (h : Gath w 88 3 rs.length (aflat rs) v w') (ht : ∀ r ∈ rs, r.typed) : RegsAt w' v rs := by
  rcases h.cells with ⟨h0, _, a, c, rfl⟩ | ⟨g, cap, rfl, hc, _⟩
  · exact ⟨ht, .inl ⟨List.eq_nil_of_length_eq_zero h0, _, _, rfl⟩⟩
  · exact ⟨ht, .inr ⟨g, 0, cap, rfl, hc⟩⟩

set_option maxHeartbeats 400000 in
theorem mregions_zero (a : Option Addr) (c : Nat) (w : World) (hcall : Calls Try.prog 33 #[.slice a 0 c] w fun e w' => e = .returned (.bool true) ∧ Fr No w w') :
    Calls Try.prog 22 #[.slice a 0 c] w fun e w' => e = .returned (.slice none 0 0) ∧ Fr No w w' := by
  have H := Lib.hid hcall
  clear hcall
  go_enter Try.func22, Try.ntmps22
  go_wp2_with (go_at_call 33; (with_reducible refine (H.out).mono ?_); rintro e w' ⟨rfl, hf⟩)
  refine wp_loop_rounds 1 ?_
  rw [rounds_succ]
  go_wp2_with fail
  go_ret
  exact ⟨rfl, hf⟩

theorem mregions_any (v : Value) (l : List MapD) (w : World) (h : MapsIn w v l) (hm : l.length ≤ 1000000) :
    Calls Try.prog 22 #[v] w fun e w' => ∃ u, e = .returned u ∧ RegsAt w' u (mregsOf l) ∧ Fr No w w' := by
  have hmay := may_any v l w h hm
  unfold mregsOf
  cases hq : mayL l with
  | false =>
    rw [hq] at hmay
    exact (mregions_no v w hmay).mono fun e w' ⟨he, hf⟩ => ⟨_, he, ⟨by simp, .inl ⟨rfl, _, _, rfl⟩⟩, hf⟩
  | true =>
    rw [hq] at hmay
    rw [if_pos rfl]
    obtain ⟨h4, hall⟩ := (mayL_iff l).1 hq
    rcases h with ⟨rfl, a, c, rfl⟩ | ⟨g, off, cap, rfl, hc⟩
    · exact (mregions_zero a c w hmay).mono fun e w' ⟨he, hf⟩ => ⟨_, he, ⟨by simp [mregs, mregsFrom], .inl ⟨rfl, _, _, rfl⟩⟩, hf⟩
    · refine (mregions_walk g off l.length cap l w rfl h4 hc hall hmay (fun c W hc => repeat_any c W (by omega))).mono ?_
      rintro e w' ⟨u, rfl, hG⟩
      have hG' := hG.out
      rw [← mregs_length l] at hG'
      exact ⟨u, rfl, hG'.regs (mregs_typed hq), hG'.fr⟩

end Go.Proofs.Ytlinnhaodkiolaa
