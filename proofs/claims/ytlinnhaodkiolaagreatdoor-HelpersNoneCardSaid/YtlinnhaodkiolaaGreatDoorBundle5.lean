/- maps: Delete. append onto a row of the call's own, of whatever source (nil, or none of its elements, too): what it comes to, in a region that draws its order and in one that does not. A slice that a call gathers, element by element. No condition. maps: Entries. maps: Entries at any maps. maps: may these be maps? memory.New: its comparison, and the sort. -/
import Derived.Test.YtlinnhaodkiolaaGreatDoorBundle4
import Derived.Test.YtlinnhaodkiolaaGreatDoorBundle1
import Derived.Deep.AppendLies
import Derived.Laws.OwnMore
import Derived.Laws.AppendOwnNone
import Derived.RegionTactic
import Derived.Test.YtlinnhaodkiolaaGreatDoorBundle3
import Derived.Test.YtlinnhaodkiolaaGreatDoorShelf
import Derived.Deep.RegionHeld3
namespace Go.Proofs.YtlinnhaodkiolaaGreatDoor
open Go.RowKit

set_option maxHeartbeats 400000 in
theorem delete_bad (p : Value) (i : Int) (K : ByteArray) (w : World) (hh : Calls Tryz.prog 28 #[p, .int .i64 i, .string K] w fun e w' => e = .returned (.bool false) ∧ w = w') :
    Calls Tryz.prog 17 #[p, .int .i64 i, .string K] w fun e w' => e = .returned (.int .i64 (-22)) ∧ w = w' := by
  have HH := Lib.hid hh
  clear hh
  go_enter Tryz.func17, Tryz.ntmps17
  go_wp2_with (go_at_call 28; (with_reducible refine (HH.out).mono ?_); rintro e w' ⟨rfl, rfl⟩)
  go_ret
  exact ⟨rfl, rfl⟩

theorem assert_arr (m : Int) (w : World) : (Instr.typeAssert (.iface 126 (.int .i64 m)) 78 82 true).run Tryz.prog w = .ok (.tuple #[.slice none 0 0, .bool false]) w := by kernel_rfl
theorem assert_hash (a : Option Addr) (n c : Nat) (w : World) : (Instr.typeAssert (.iface 82 (.slice a n c)) 78 82 true).run Tryz.prog w = .ok (.tuple #[.slice a n c, .bool true]) w := by kernel_rfl

set_option maxHeartbeats 400000 in
theorem delete_arr (b i n ct gt : Nat) (m : Int) (K : ByteArray) (w : World) (hi : i < n) (h2 : w.cell? ⟨b, 2, none⟩ = some (.slice (some ⟨gt, 0, none⟩) n ct)) (hc : w.cell? ⟨gt, i, none⟩ = some (.iface 126 (.int .i64 m)))
    (hh : Calls Tryz.prog 28 #[.pointer (some ⟨b, 0, none⟩), .int .i64 i, .string K] w fun e w' => e = .returned (.bool true) ∧ w = w') :
    Calls Tryz.prog 17 #[.pointer (some ⟨b, 0, none⟩), .int .i64 i, .string K] w fun e w' => e = .returned (.int .i64 (-22)) ∧ w = w' := by
  have b1 : (0 : Int) ≤ (i : Int) := by omega
  have b2 : (i : Int) < (n : Int) := by omega
  have hA := assert_arr m
  have HH := Lib.hid hh
  clear hh
  go_enter Tryz.func17, Tryz.ntmps17
  go_wp2_with (go_at_call 28; (with_reducible refine (HH.out).mono ?_); rintro e w' ⟨rfl, rfl⟩)
  go_ret
  exact ⟨rfl, rfl⟩

set_option maxHeartbeats 400000 in
theorem delete_off (b i n ct gt : Nat) (a : Option Addr) (hn hc2 : Nat) (K : ByteArray) (w : World) (hi : i < n) (h2 : w.cell? ⟨b, 2, none⟩ = some (.slice (some ⟨gt, 0, none⟩) n ct)) (hc : w.cell? ⟨gt, i, none⟩ = some (.iface 82 (.slice a hn hc2)))
    (hh : Calls Tryz.prog 28 #[.pointer (some ⟨b, 0, none⟩), .int .i64 i, .string K] w fun e w' => e = .returned (.bool true) ∧ w = w')
    (hf : Calls Tryz.prog 30 #[.slice a hn hc2, .string K] w fun e w' => e = .returned (.int .i64 (-1)) ∧ w = w') :
    Calls Tryz.prog 17 #[.pointer (some ⟨b, 0, none⟩), .int .i64 i, .string K] w fun e w' => e = .returned (.int .i64 (-2)) ∧ w = w' := by
  have b1 : (0 : Int) ≤ (i : Int) := by omega
  have b2 : (i : Int) < (n : Int) := by omega
  have hA := assert_hash a hn hc2
  have HH := Lib.hid hh
  have HF := Lib.hid hf
  clear hh hf
  go_enter Tryz.func17, Tryz.ntmps17
  go_wp2_with (first | (go_at_call 28; (with_reducible refine (HH.out).mono ?_); rintro e w' ⟨rfl, rfl⟩) | (go_at_call 30; (with_reducible refine (HF.out).mono ?_); rintro e w' ⟨rfl, rfl⟩))
  go_ret
  exact ⟨rfl, rfl⟩

set_option maxHeartbeats 400000 in
theorem delete_hit (b i n ct gt h p hn hc2 : Nat) (old : Value) (K : ByteArray) (w : World) (hi : i < n) (hp : p < hn) (h2 : w.cell? ⟨b, 2, none⟩ = some (.slice (some ⟨gt, 0, none⟩) n ct)) (hc : w.cell? ⟨gt, i, none⟩ = some (.iface 82 (.slice (some ⟨h, 0, none⟩) hn hc2)))
    (hold : w.cell? ⟨h, p, none⟩ = some old) (hfree : w.frozen? ⟨h, p, none⟩ = false)
    (hh : Calls Tryz.prog 28 #[.pointer (some ⟨b, 0, none⟩), .int .i64 i, .string K] w fun e w' => e = .returned (.bool true) ∧ w = w')
    (hf : Calls Tryz.prog 30 #[.slice (some ⟨h, 0, none⟩) hn hc2, .string K] w fun e w' => e = .returned (.int .i64 p) ∧ w = w') :
    Calls Tryz.prog 17 #[.pointer (some ⟨b, 0, none⟩), .int .i64 i, .string K] w fun e w' => e = .returned (.int .i64 0) ∧ w' = w.setCell ⟨h, p, none⟩ (.string ⟨#[]⟩) := by
  have b1 : (0 : Int) ≤ (i : Int) := by omega
  have b2 : (i : Int) < (n : Int) := by omega
  have b3 : (0 : Int) ≤ (p : Int) := by omega
  have b4 : (p : Int) < (hn : Int) := by omega
  have hA := assert_hash (some ⟨h, 0, none⟩) hn hc2
  have HH := Lib.hid hh
  have HF := Lib.hid hf
  clear hh hf
  go_enter Tryz.func17, Tryz.ntmps17
  go_wp2_with (first | (go_at_call 28; (with_reducible refine (HH.out).mono ?_); rintro e w' ⟨rfl, rfl⟩) | (go_at_call 30; (with_reducible refine (HF.out).mono ?_); rintro e w' ⟨rfl, rfl⟩))
  go_ret
  exact ⟨rfl, rfl⟩

theorem delete_any {A H : Nat → Prop} {w : World} {b mb : Nat} {S : List Tab} (h : MapsAt w b mb S A H) (i : Int) (key : List UInt8) :
    Calls Tryz.prog 17 #[.pointer (some ⟨b, 0, none⟩), .int .i64 i, .string ⟨key.toArray⟩] w fun e w' =>
      e = .returned (.int .i64 (mdelete S i key).2) ∧ Fr H w w' ∧ MapsAt w' b mb (mdelete S i key).1 A H := by
  have hh := has_any h i key
  have hmaps := h
  have same : Fr H w w ∧ MapsAt w b mb S A H := ⟨Fr.refl _ _, h⟩
  obtain ⟨l, hS, h⟩ := h
  unfold mdelete
  cases hmh : mhas S i key with
  | none =>
    rw [hmh] at hh
    exact (delete_bad _ i _ w hh).mono fun e w' ⟨he, hw⟩ => ⟨he, hw ▸ same⟩
  | some t =>
    rw [hmh] at hh
    obtain ⟨k, rfl, hk, hkl⟩ := mhas_some hmh
    have hk0 := hk
    rw [← hS, List.getElem?_map] at hk
    obtain ⟨x, hx, rfl⟩ := Option.map_eq_some_iff.1 hk
    have hxm := List.mem_of_getElem? hx
    have ok := h.ok x hxm
    obtain ⟨gl, cl, gt, ct, c1, c2, hi, _, _, d0, d1, d2, d3, d4⟩ := h.at hx
    rcases ok.kinds with h1 | h2
    · simp only [h1, if_true]
      unfold HTab.cell at d4
      rw [if_pos h1] at d4
      exact (delete_arr b k l.length ct gt _ _ w hi c2 d4 hh).mono fun e w' ⟨he, hw⟩ => ⟨he, hw ▸ same⟩
    · have hn1 : ¬ x.t.d.kind = 1 := by omega
      simp only [if_neg hn1, Int.toNat_natCast]
      unfold HTab.cell at d4
      rw [if_neg hn1] at d4
      obtain ⟨here, hH⟩ := h.here x hxm h2
      have hf := hfind_any here (by have := ok.bounds; omega) key
      cases hfi : x.t.find key with
      | none =>
        rw [hfi] at hf
        exact (delete_off b k l.length ct gt _ _ _ _ w hi c2 d4 hh hf).mono fun e w' ⟨he, hw⟩ => ⟨he, hw ▸ same⟩
      | some p =>
        rw [hfi] at hf
        obtain ⟨hp, hpk⟩ := find_some hfi
        have c := here.keys p (.string ⟨key.toArray⟩) (by rw [strs_get, hpk]; rfl)
        have o := here.opened p hp
        rw [Nat.zero_add] at c o
        obtain ⟨g1, g2⟩ := h.lay hx h2 hp (key := []) (.inl rfl)
        have hSt : (l.set k (x.lay p [])).map (·.t) = S.set k (x.t.lay p []) := by rw [List.map_set, hS]; rfl
        exact (delete_hit b k l.length ct gt x.h p _ _ _ _ w hi hp c2 d4 c o hh hf).mono fun e w' ⟨he, hw⟩ => ⟨he, by rw [hw]; exact ⟨g2, _, hSt, g1⟩⟩

end Go.Proofs.YtlinnhaodkiolaaGreatDoor

namespace Go.Proofs.YtlinnhaodkiolaaGreatDoor
open Go.RowKit

/-- a slice's value, and the cells of its m elements -/
def SrcAt (w : World) (u : Value) (m : Nat) (news : List Value) : Prop := (m = 0 ∧ news = [] ∧ u = .slice none 0 0) ∨ ∃ ad c, u = .slice (some ad) m c ∧ ∀ j v, news[j]? = some v → w.cell? (ad.add j) = some v

theorem SrcAt.fr {S : Nat → Prop} {w w' : World} {u : Value} {m : Nat} {news : List Value} (h : SrcAt w u m news) (hf : Fr S w w') (hn : ∀ k, u.ownBlock = some k → ¬ S k) : SrcAt w' u m news := by
  rcases h with h | ⟨ad, c, rfl, h⟩
  · exact .inl h
  · refine .inr ⟨ad, c, rfl, fun j v hj => hf.cell (h j v hj) ?_⟩
    have := hn ad.block rfl
    have e : (ad.add j).block = ad.block := by unfold Addr.add; split <;> rfl
    rw [e]; exact this

/-- a slice's own block -/
def OwnOf (v : Value) : Nat → Prop := fun k => v.ownBlock = some k
theorem OwnOf.ge {w : World} {base n size : Nat} {e : TypeId} {v : Value} {xs : List Value} (h : w.ownsRow base e size v n xs) {k : Nat} (hk : OwnOf v k) : base ≤ k := by
  rcases h.2 with ⟨rfl, _⟩ | ⟨g, cap, cur, rfl, hb, _⟩
  · simp [OwnOf, Value.ownBlock] at hk
  · simp [OwnOf, Value.ownBlock] at hk; omega

theorem grown_fr {w w' : World} {v : Value} (h : w.grownBy w' v.ownBlock) : Fr (OwnOf v) w w' :=
  ⟨h.os, h.tape, h.output, h.size, fun k hk hs => h.block k hk (fun he => hs he.symm)⟩

theorem run_append_src {P : Program} {w : World} (t ty : TypeId) (base : Nat) (e : TypeId) (i : TypeInfo) (z : Value) (size bytes : Nat) (ht : P.underlying t = some (.slice e)) (hi : P.info? e = some i) (hz : i.zero = some z)
    (hsize : i.size = size) (hby : i.bytes = bytes) (hzs : z.cells.size = size) (hsz : 0 < size)
    (v : Value) (n : Nat) (xs : List Value) (hown : w.ownsRow base e size v n xs) (u : Value) (m : Nat) (news : List Value) (hu : SrcAt w u m news) (hl : news.length = m * size) (h1 : ∀ u ∈ news, u.oneCell' = true)
    (h63 : n + m ≤ maxLen) (hbytes : (n + m) * bytes ≤ 140737488355328) (hbase : base ≤ w.heap.size) :
    ∃ v' w', (Builtin.append_ #[t, t] ty #[v, u]).run P w = .ok v' w' ∧ w'.ownsRow base e size v' (n + m) (xs ++ news) ∧ Fr (OwnOf v) w w' := by
  rcases hu with ⟨rfl, rfl, rfl⟩ | ⟨ad, c, rfl, hnews⟩
  · exact ⟨v, w, run_append_owned_none (P := P) (w := w) base t ty e i size ht hi v n xs hown, by simpa using hown, Fr.refl _ _⟩
  · obtain ⟨v', w', hr, h2, h3, _⟩ := run_append_own (P := P) w base t ty e i z size bytes ht hi hz hsize hby hzs hsz v n xs hown ad m c news hl hnews h1 h63 hbytes hbase
    exact ⟨v', w', hr, h2, grown_fr h3⟩

theorem wp_append_src {P : Program} {w : World} {o : Oper} {a : Act} {K : Act → World → Prop} {Q : Exit → Act → World → Prop} (s x : Operand) (t : TypeId)
    (ho : o.op = .call { callee := .builtin .append, args := #[s, x], argTypes := #[t, t] })
    (base : Nat) (e : TypeId) (i : TypeInfo) (z : Value) (size bytes : Nat) (ht : P.underlying t = some (.slice e)) (hi : P.info? e = some i) (hz : i.zero = some z)
    (hsize : i.size = size) (hby : i.bytes = bytes) (hzs : z.cells.size = size) (hsz : 0 < size)
    (v : Value) (n : Nat) (xs : List Value) (hs : a.eval s = v) (hown : w.ownsRow base e size v n xs) (u : Value) (m : Nat) (news : List Value) (hx : a.eval x = u) (hu : SrcAt w u m news) (hl : news.length = m * size) (h1 : ∀ u ∈ news, u.oneCell' = true)
    (h63 : n + m ≤ maxLen) (hbytes : (n + m) * bytes ≤ 140737488355328) (hbase : base ≤ w.heap.size)
    (h : ∀ v' w', w'.ownsRow base e size v' (n + m) (xs ++ news) → Fr (OwnOf v) w w' → K (a.put o.dst v') w') : o.wp P a w K Q := by
  obtain ⟨v', w', hr, h2, h3⟩ := run_append_src (P := P) t o.type base e i z size bytes ht hi hz hsize hby hzs hsz v n xs hown u m news hu hl h1 h63 hbytes hbase
  unfold Oper.wp execOp
  simp only [ho, resolve, invoke, builtin, Sem.run_bind, Sem.run_pure, Result.andThen_ok, List.map_toArray, List.map_cons, List.map_nil, hs, hx, hr]
  exact h v' w' h2 h3

theorem wpList_append_src {P : Program} {w : World} {ops : Array Oper} {rest : List Oper} {o : Oper} {a : Act} {Q : Exit → Act → World → Prop} (hgd : o.guard = none) (s x : Operand) (t : TypeId)
    (ho : o.op = .call { callee := .builtin .append, args := #[s, x], argTypes := #[t, t] })
    (base : Nat) (e : TypeId) (i : TypeInfo) (z : Value) (size bytes : Nat) (ht : P.underlying t = some (.slice e)) (hi : P.info? e = some i) (hz : i.zero = some z)
    (hsize : i.size = size) (hby : i.bytes = bytes) (hzs : z.cells.size = size) (hsz : 0 < size)
    (v : Value) (n : Nat) (xs : List Value) (hs : a.eval s = v) (hown : w.ownsRow base e size v n xs) (u : Value) (m : Nat) (news : List Value) (hx : a.eval x = u) (hu : SrcAt w u m news) (hl : news.length = m * size) (h1 : ∀ u ∈ news, u.oneCell' = true)
    (h63 : n + m ≤ maxLen) (hbytes : (n + m) * bytes ≤ 140737488355328) (hbase : base ≤ w.heap.size)
    (h : ∀ v' w', w'.ownsRow base e size v' (n + m) (xs ++ news) → Fr (OwnOf v) w w' → wpList P ops Q rest (a.put o.dst v') w') : wpList P ops Q (o :: rest) a w :=
  wpList_plain hgd fun _ hK => wp_append_src s x t ho base e i z size bytes ht hi hz hsize hby hzs hsz v n xs hs hown u m news hx hu hl h1 h63 hbytes hbase fun v' w' h2 h3 => hK _ _ (h v' w' h2 h3)

theorem step_append_src {P : Program} {w : World} {ops : Array Oper} {o : Oper} {a : Act} {K : Act → World → Prop} {Q : Exit → Act → World → Prop} {E : Prop} (hgd : o.guard = none) (s x : Operand) (t : TypeId)
    (ho : o.op = .call { callee := .builtin .append, args := #[s, x], argTypes := #[t, t] })
    (base : Nat) (e : TypeId) (i : TypeInfo) (z : Value) (size bytes : Nat) (ht : P.underlying t = some (.slice e)) (hi : P.info? e = some i) (hz : i.zero = some z)
    (hsize : i.size = size) (hby : i.bytes = bytes) (hzs : z.cells.size = size) (hsz : 0 < size)
    (v : Value) (n : Nat) (xs : List Value) (hs : a.eval s = v) (hown : w.ownsRow base e size v n xs) (u : Value) (m : Nat) (news : List Value) (hx : a.eval x = u) (hu : SrcAt w u m news) (hl : news.length = m * size) (h1 : ∀ u ∈ news, u.oneCell' = true)
    (h63 : n + m ≤ maxLen) (hbytes : (n + m) * bytes ≤ 140737488355328) (hbase : base ≤ w.heap.size)
    (h : ∀ v' w', w'.ownsRow base e size v' (n + m) (xs ++ news) → Fr (OwnOf v) w w' → K (a.put o.dst v') w') :
    if Region.wanted o (yielded ops a.tmps) = true then Oper.wp P o a w K Q else E := by
  have hw : Region.wanted o (yielded ops a.tmps) = true := by simp [Region.wanted, hgd]
  rw [if_pos hw]
  exact wp_append_src s x t ho base e i z size bytes ht hi hz hsize hby hzs hsz v n xs hs hown u m news hx hu hl h1 h63 hbytes hbase h

end Go.Proofs.YtlinnhaodkiolaaGreatDoor

namespace Go.Proofs.YtlinnhaodkiolaaGreatDoor
open Go.RowKit

theorem ownsRow_fr {S : Nat → Prop} {w w' : World} {base size n : Nat} {e : TypeId} {v : Value} {xs : List Value} (h : w.ownsRow base e size v n xs) (hf : Fr S w w') (hn : ∀ k, v.ownBlock = some k → ¬ S k) : w'.ownsRow base e size v n xs := by
  refine ⟨h.1, ?_⟩
  rcases h.2 with h2 | ⟨g, cap, cur, hv, hb, hg, h3⟩
  · exact .inl h2
  · refine .inr ⟨g, cap, cur, hv, hb, ?_, h3⟩
    have hlt : g < w.heap.size := by
      rcases Nat.lt_or_ge g w.heap.size with h | h
      · exact h
      · rw [Array.getElem?_eq_none h] at hg; cases hg
    rw [hf.block g hlt (hn g (by rw [hv]; rfl))]
    exact hg

/-- n elements are gathered, whose cells are xs -/
structure Gath (w : World) (t : TypeId) (size n : Nat) (xs : List Value) (v : Value) (wr : World) : Prop where
  fr : Fr No w wr
  own : wr.ownsRow w.heap.size t size v n xs

theorem Gath.start (w : World) (t : TypeId) (size : Nat) : Gath w t size 0 [] (.slice none 0 0) w := ⟨Fr.refl _ _, World.ownsRow_nil _ _ _ _⟩
theorem Gath.start' {w wr : World} (hf : Fr No w wr) (t : TypeId) (size : Nat) : Gath w t size 0 [] (.slice none 0 0) wr := ⟨hf, World.ownsRow_nil _ _ _ _⟩

theorem Gath.to {w wr w' : World} {t : TypeId} {size n : Nat} {xs : List Value} {v : Value} (h : Gath w t size n xs v wr) (hf : Fr No wr w') : Gath w t size n xs v w' :=
  ⟨h.fr.trans hf, ownsRow_fr h.own hf (fun _ _ => id)⟩

/-- behind an append -/
theorem Gath.step {w wr w' : World} {t : TypeId} {size n : Nat} {xs news : List Value} {v v' : Value} (h : Gath w t size n xs v wr) (ho : w'.ownsRow w.heap.size t size v' (n + 1) (xs ++ news)) (hf : Fr (OwnOf v) wr w') : Gath w t size (n + 1) (xs ++ news) v' w' :=
  ⟨((h.fr.any.trans (hf.mono fun k _ hk => OwnOf.ge h.own hk)) : Fr (From w) w w').ours, ho⟩

/-- a slice that holds cells, or is empty -/
theorem Gath.cells {w w' : World} {t : TypeId} {size n : Nat} {xs : List Value} {v : Value} (h : Gath w t size n xs v w') : (n = 0 ∧ xs = [] ∧ ∃ a c, v = .slice a 0 c) ∨ ∃ g cap, v = .slice (some ⟨g, 0, none⟩) n cap ∧ CellsAt w' g 0 xs ∧ w.heap.size ≤ g := by
  rcases h.own.2 with ⟨rfl, h0⟩ | ⟨g, cap, cur, hv, hb, hg, _, _, _, hx⟩
  · refine .inl ⟨h0, ?_, _, _, rfl⟩
    have := h.own.1
    rw [h0, Nat.zero_mul] at this
    exact List.eq_nil_of_length_eq_zero this
  · refine .inr ⟨g, cap, hv, fun j u hj => ?_, hb⟩
    rw [Nat.zero_add, cell_of_row w' g j cur t _ hg]
    rw [← hx, List.getElem?_take] at hj
    split at hj
    · simpa using hj
    · cases hj

/-- for an arm at a region's step: is the operation this append? (then 'rfl' closes the first goal; else the arm fails at once) -/
theorem guard_append {P : Program} {w : World} {ops : Array Oper} {o : Oper} {a : Act} {K : Act → World → Prop} {Q : Exit → Act → World → Prop} {E : Prop} (s x : Operand) (t : TypeId)
    (_ho : o.op = .call { callee := .builtin .append, args := #[s, x], argTypes := #[t, t] }) (h : if Region.wanted o (yielded ops a.tmps) = true then Oper.wp P o a w K Q else E) :
    if Region.wanted o (yielded ops a.tmps) = true then Oper.wp P o a w K Q else E := h

/-- a struct that was built lies in a block of its own -/
theorem src_new (w : World) (cs : List Value) (t : TypeId) : SrcAt (w.alloc (.cells cs.toArray t)) (.slice (some ⟨w.heap.size, 0, none⟩) 1 1) 1 cs := by
  refine .inr ⟨_, _, rfl, ?_⟩
  exact World.news_of_block (cs := cs.toArray) (by simpa using heap_alloc_new w (.cells cs.toArray t))

end Go.Proofs.YtlinnhaodkiolaaGreatDoor

namespace Go.Proofs.YtlinnhaodkiolaaGreatDoor
open Go.RowKit

theorem Tryz.info_entry : (Tryz.prog.info? 108).map (fun i => (i.zero, i.size, i.bytes)) = some (some (.agg #[.string ⟨#[]⟩, .string ⟨#[]⟩]), 2, 32) := by kernel_rfl

def eflat (l : List (ByteArray × ByteArray)) : List Value := l.flatMap fun x => [.string x.1, .string x.2]
theorem eflat_length (l : List (ByteArray × ByteArray)) : (eflat l).length = l.length * 2 := by
  induction l with
  | nil => rfl
  | cons x l ih => simp only [eflat, List.flatMap_cons, List.length_append, List.length_cons, List.length_nil] at *; omega

/-- what the first k places tell -/
def toldTo (ok : Nat → Bool) (K V : Nat → ByteArray) (k : Nat) : List (ByteArray × ByteArray) := (List.range k).filterMap fun p => if ok p then some (K p, V p) else none

theorem toldTo_succ (ok : Nat → Bool) (K V : Nat → ByteArray) (k : Nat) : toldTo ok K V (k + 1) = toldTo ok K V k ++ (if ok k then [(K k, V k)] else []) := by
  unfold toldTo
  rw [List.range_succ, List.filterMap_append]
  congr 1
  cases h : ok k <;> simp [h]

theorem toldTo_le (ok : Nat → Bool) (K V : Nat → ByteArray) (k : Nat) : (toldTo ok K V k).length ≤ k := by
  have := List.length_filterMap_le (fun p => if ok p then some (K p, V p) else none) (List.range k)
  simpa [toldTo] using this

structure EInv (w : World) (L : List (ByteArray × ByteArray)) (v : Value) (wr : World) : Prop where
  g : Gath w 108 2 L.length (eflat L) v wr

theorem EInv.step {w wr w' : World} {L : List (ByteArray × ByteArray)} {v v' : Value} (h : EInv w L v wr) (K V : ByteArray) (ho : w'.ownsRow w.heap.size 108 2 v' (L.length + 1) (eflat L ++ [.string K, .string V])) (hf : Fr (OwnOf v) wr w') : EInv w (L ++ [(K, V)]) v' w' := by
  refine ⟨?_⟩
  have h2 := h.g.step ho hf
  rw [List.length_append]
  have e : eflat (L ++ [(K, V)]) = eflat L ++ [.string K, .string V] := by simp [eflat]
  rw [e]
  exact h2









end Go.Proofs.YtlinnhaodkiolaaGreatDoor

namespace Go.Proofs.YtlinnhaodkiolaaGreatDoor
open Go.RowKit

def bpair (x : List UInt8 × List UInt8) : ByteArray × ByteArray := (⟨x.1.toArray⟩, ⟨x.2.toArray⟩)

/-- entries stand at a slice's value -/
def EntsAt (w : World) (v : Value) (l : List (List UInt8 × List UInt8)) : Prop :=
  (l = [] ∧ ∃ a c, v = .slice a 0 c) ∨ ∃ g off cap, v = .slice (some ⟨g, off, none⟩) l.length cap ∧ CellsAt w g off (eflat (l.map bpair))

theorem EntsAt.fr {w w' : World} {v : Value} {l : List (List UInt8 × List UInt8)} (h : EntsAt w v l) (hf : Fr No w w') : EntsAt w' v l := by
  rcases h with h | ⟨g, off, cap, rfl, hc⟩
  · exact .inl h
  · exact .inr ⟨g, off, cap, rfl, hf.cells hc id⟩

theorem EntsAt.form {w : World} {v : Value} {l : List (List UInt8 × List UInt8)} (h : EntsAt w v l) : ∃ a c, v = .slice a l.length c := by
  rcases h with ⟨rfl, a, c, rfl⟩ | ⟨g, off, cap, rfl, hc⟩
  · exact ⟨a, c, rfl⟩
  · exact ⟨_, _, rfl⟩

theorem EInv.ents {w w' : World} {l : List (List UInt8 × List UInt8)} {v : Value} (h : EInv w (l.map bpair) v w') : EntsAt w' v l ∧ Fr No w w' := by
  refine ⟨?_, h.g.fr⟩
  rcases h.g.cells with ⟨h0, _, a, c, rfl⟩ | ⟨g, cap, rfl, hc, _⟩
  · rw [List.length_map] at h0
    exact .inl ⟨List.eq_nil_of_length_eq_zero h0, a, c, rfl⟩
  · exact .inr ⟨g, 0, cap, by simp, hc⟩

theorem filterMap_like {α β : Type} (f g : α → Option β) : ∀ (l : List α), (∀ x ∈ l, f x = g x) → l.filterMap f = l.filterMap g
  | [], _ => rfl
  | x :: l, h => by
    rw [List.filterMap_cons, List.filterMap_cons, h x (by simp), filterMap_like f g l (fun y hy => h y (by simp [hy]))]

theorem told_entries (m : List Reg) (i : Nat) (t : Tab) (n : Nat) (hn : n ≤ t.ks.length) :
    toldTo (fun p => decide (t.ks.getD p [] ≠ [])) (fun p => ⟨(t.ks.getD p []).toArray⟩) (fun p => ⟨(mtext m (mplace i p t) t.d.value).1.toArray⟩) n = (mentriesTo m i t n).map bpair := by
  unfold toldTo mentriesTo
  rw [List.map_filterMap]
  refine filterMap_like _ _ _ fun p hp => ?_
  have hp' : p < t.ks.length := by have := List.mem_range.1 hp; omega
  have hg : t.ks[p]? = some t.ks[p] := List.getElem?_eq_getElem hp'
  simp only [List.getD_eq_getElem?_getD, hg, Option.getD_some]
  by_cases hk : t.ks[p] = [] <;> simp [hk, bpair]





end Go.Proofs.YtlinnhaodkiolaaGreatDoor

namespace Go.Proofs.YtlinnhaodkiolaaGreatDoor
open Go.RowKit

set_option maxHeartbeats 400000 in
theorem may1_k1v1 (kind key value max : Int) (w : World) (h1 : kind = 1) (h2 : key = 4) (g1 : value < 1) :
    Calls Tryz.prog 67 #[.agg #[.int .i64 kind, .int .i64 key, .int .i64 value, .int .i64 max]] w fun e w' => e = .returned (.bool true) ∧ Fr No w w' := by
  have q1 : (kind == 1) = true := by simpa using h1
  have q2 : (key == 4) = true := by simpa using h2
  have r1 : decide (value < 1) = true := by simpa using g1
  go_enter Tryz.func67, Tryz.ntmps67
  go_wp2_with fail
  go_ret
  exact ⟨rfl, (Fr.refl _ _).alloc _⟩

set_option maxHeartbeats 400000 in
theorem may1_k1v2 (kind key value max : Int) (w : World) (h1 : kind = 1) (h2 : key = 4) (g1 : 1 ≤ value) (g2 : 64 < value) :
    Calls Tryz.prog 67 #[.agg #[.int .i64 kind, .int .i64 key, .int .i64 value, .int .i64 max]] w fun e w' => e = .returned (.bool true) ∧ Fr No w w' := by
  have q1 : (kind == 1) = true := by simpa using h1
  have q2 : (key == 4) = true := by simpa using h2
  have r1 : decide (value < 1) = false := by simp; omega
  have r2 : decide (64 < value) = true := by simpa using g2
  go_enter Tryz.func67, Tryz.ntmps67
  go_wp2_with fail
  go_ret
  exact ⟨rfl, (Fr.refl _ _).alloc _⟩

set_option maxHeartbeats 400000 in
theorem may1_k1v3 (kind key value max : Int) (w : World) (h1 : kind = 1) (h2 : key = 4) (g1 : 1 ≤ value) (g2 : value ≤ 64) (g3 : max < 1) :
    Calls Tryz.prog 67 #[.agg #[.int .i64 kind, .int .i64 key, .int .i64 value, .int .i64 max]] w fun e w' => e = .returned (.bool true) ∧ Fr No w w' := by
  have q1 : (kind == 1) = true := by simpa using h1
  have q2 : (key == 4) = true := by simpa using h2
  have r1 : decide (value < 1) = false := by simp; omega
  have r2 : decide (64 < value) = false := by simp; omega
  have r3 : decide (max < 1) = true := by simpa using g3
  go_enter Tryz.func67, Tryz.ntmps67
  go_wp2_with fail
  go_ret
  exact ⟨rfl, (Fr.refl _ _).alloc _⟩

set_option maxHeartbeats 400000 in
theorem may1_k1v4 (kind key value max : Int) (w : World) (h1 : kind = 1) (h2 : key = 4) (g1 : 1 ≤ value) (g2 : value ≤ 64) (g3 : 1 ≤ max) (g4 : 16 < max) :
    Calls Tryz.prog 67 #[.agg #[.int .i64 kind, .int .i64 key, .int .i64 value, .int .i64 max]] w fun e w' => e = .returned (.bool true) ∧ Fr No w w' := by
  have q1 : (kind == 1) = true := by simpa using h1
  have q2 : (key == 4) = true := by simpa using h2
  have r1 : decide (value < 1) = false := by simp; omega
  have r2 : decide (64 < value) = false := by simp; omega
  have r3 : decide (max < 1) = false := by simp; omega
  have r4 : decide (16 < max) = true := by simpa using g4
  go_enter Tryz.func67, Tryz.ntmps67
  go_wp2_with fail
  go_ret
  exact ⟨rfl, (Fr.refl _ _).alloc _⟩

set_option maxHeartbeats 400000 in
theorem may1_k1v5 (kind key value max : Int) (w : World) (h1 : kind = 1) (h2 : key = 4) (g1 : 1 ≤ value) (g2 : value ≤ 64) (g3 : 1 ≤ max) (g4 : max ≤ 16) :
    Calls Tryz.prog 67 #[.agg #[.int .i64 kind, .int .i64 key, .int .i64 value, .int .i64 max]] w fun e w' => e = .returned (.bool false) ∧ Fr No w w' := by
  have q1 : (kind == 1) = true := by simpa using h1
  have q2 : (key == 4) = true := by simpa using h2
  have r1 : decide (value < 1) = false := by simp; omega
  have r2 : decide (64 < value) = false := by simp; omega
  have r3 : decide (max < 1) = false := by simp; omega
  have r4 : decide (16 < max) = false := by simp; omega
  go_enter Tryz.func67, Tryz.ntmps67
  go_wp2_with fail
  go_ret
  exact ⟨rfl, (Fr.refl _ _).alloc _⟩

set_option maxHeartbeats 400000 in
theorem may1_k2 (kind key value max : Int) (w : World) (h1 : kind = 1) (h2 : ¬ key = 4) :
    Calls Tryz.prog 67 #[.agg #[.int .i64 kind, .int .i64 key, .int .i64 value, .int .i64 max]] w fun e w' => e = .returned (.bool true) ∧ Fr No w w' := by
  have q1 : (kind == 1) = true := by simpa using h1
  have q2 : (key == 4) = false := by simpa using h2
  have q3 : (kind == 2) = false := by simp; omega
  go_enter Tryz.func67, Tryz.ntmps67
  go_wp2_with fail
  go_ret
  exact ⟨rfl, (Fr.refl _ _).alloc _⟩

set_option maxHeartbeats 400000 in
theorem may1_k3 (kind key value max : Int) (w : World) (h1 : ¬ kind = 1) (h3 : ¬ kind = 2) :
    Calls Tryz.prog 67 #[.agg #[.int .i64 kind, .int .i64 key, .int .i64 value, .int .i64 max]] w fun e w' => e = .returned (.bool true) ∧ Fr No w w' := by
  have q1 : (kind == 1) = false := by simpa using h1
  have q3 : (kind == 2) = false := by simpa using h3
  go_enter Tryz.func67, Tryz.ntmps67
  go_wp2_with fail
  go_ret
  exact ⟨rfl, (Fr.refl _ _).alloc _⟩

set_option maxHeartbeats 400000 in
theorem may1_k4 (kind key value max : Int) (w : World) (h3 : kind = 2) (h4 : key < 1) :
    Calls Tryz.prog 67 #[.agg #[.int .i64 kind, .int .i64 key, .int .i64 value, .int .i64 max]] w fun e w' => e = .returned (.bool true) ∧ Fr No w w' := by
  have q1 : (kind == 1) = false := by simp; omega
  have q3 : (kind == 2) = true := by simpa using h3
  have q4 : decide (1 ≤ key) = false := by simp; omega
  go_enter Tryz.func67, Tryz.ntmps67
  go_wp2_with fail
  go_ret
  exact ⟨rfl, (Fr.refl _ _).alloc _⟩

set_option maxHeartbeats 400000 in
theorem may1_k5 (kind key value max : Int) (w : World) (h3 : kind = 2) (h4 : 1 ≤ key) (h5 : 8 < key) :
    Calls Tryz.prog 67 #[.agg #[.int .i64 kind, .int .i64 key, .int .i64 value, .int .i64 max]] w fun e w' => e = .returned (.bool true) ∧ Fr No w w' := by
  have q1 : (kind == 1) = false := by simp; omega
  have q3 : (kind == 2) = true := by simpa using h3
  have q4 : decide (1 ≤ key) = true := by simpa using h4
  have q5 : decide (key ≤ 8) = false := by simp; omega
  go_enter Tryz.func67, Tryz.ntmps67
  go_wp2_with fail
  go_ret
  exact ⟨rfl, (Fr.refl _ _).alloc _⟩

set_option maxHeartbeats 400000 in
theorem may1_k6v1 (kind key value max : Int) (w : World) (h3 : kind = 2) (h4 : 1 ≤ key) (h5 : key ≤ 8) (g1 : value < 1) :
    Calls Tryz.prog 67 #[.agg #[.int .i64 kind, .int .i64 key, .int .i64 value, .int .i64 max]] w fun e w' => e = .returned (.bool true) ∧ Fr No w w' := by
  have q1 : (kind == 1) = false := by simp; omega
  have q3 : (kind == 2) = true := by simpa using h3
  have q4 : decide (1 ≤ key) = true := by simpa using h4
  have q5 : decide (key ≤ 8) = true := by simpa using h5
  have r1 : decide (value < 1) = true := by simpa using g1
  go_enter Tryz.func67, Tryz.ntmps67
  go_wp2_with fail
  go_ret
  exact ⟨rfl, (Fr.refl _ _).alloc _⟩

set_option maxHeartbeats 400000 in
theorem may1_k6v2 (kind key value max : Int) (w : World) (h3 : kind = 2) (h4 : 1 ≤ key) (h5 : key ≤ 8) (g1 : 1 ≤ value) (g2 : 64 < value) :
    Calls Tryz.prog 67 #[.agg #[.int .i64 kind, .int .i64 key, .int .i64 value, .int .i64 max]] w fun e w' => e = .returned (.bool true) ∧ Fr No w w' := by
  have q1 : (kind == 1) = false := by simp; omega
  have q3 : (kind == 2) = true := by simpa using h3
  have q4 : decide (1 ≤ key) = true := by simpa using h4
  have q5 : decide (key ≤ 8) = true := by simpa using h5
  have r1 : decide (value < 1) = false := by simp; omega
  have r2 : decide (64 < value) = true := by simpa using g2
  go_enter Tryz.func67, Tryz.ntmps67
  go_wp2_with fail
  go_ret
  exact ⟨rfl, (Fr.refl _ _).alloc _⟩

set_option maxHeartbeats 400000 in
theorem may1_k6v3 (kind key value max : Int) (w : World) (h3 : kind = 2) (h4 : 1 ≤ key) (h5 : key ≤ 8) (g1 : 1 ≤ value) (g2 : value ≤ 64) (g3 : max < 1) :
    Calls Tryz.prog 67 #[.agg #[.int .i64 kind, .int .i64 key, .int .i64 value, .int .i64 max]] w fun e w' => e = .returned (.bool true) ∧ Fr No w w' := by
  have q1 : (kind == 1) = false := by simp; omega
  have q3 : (kind == 2) = true := by simpa using h3
  have q4 : decide (1 ≤ key) = true := by simpa using h4
  have q5 : decide (key ≤ 8) = true := by simpa using h5
  have r1 : decide (value < 1) = false := by simp; omega
  have r2 : decide (64 < value) = false := by simp; omega
  have r3 : decide (max < 1) = true := by simpa using g3
  go_enter Tryz.func67, Tryz.ntmps67
  go_wp2_with fail
  go_ret
  exact ⟨rfl, (Fr.refl _ _).alloc _⟩

set_option maxHeartbeats 400000 in
theorem may1_k6v4 (kind key value max : Int) (w : World) (h3 : kind = 2) (h4 : 1 ≤ key) (h5 : key ≤ 8) (g1 : 1 ≤ value) (g2 : value ≤ 64) (g3 : 1 ≤ max) (g4 : 16 < max) :
    Calls Tryz.prog 67 #[.agg #[.int .i64 kind, .int .i64 key, .int .i64 value, .int .i64 max]] w fun e w' => e = .returned (.bool true) ∧ Fr No w w' := by
  have q1 : (kind == 1) = false := by simp; omega
  have q3 : (kind == 2) = true := by simpa using h3
  have q4 : decide (1 ≤ key) = true := by simpa using h4
  have q5 : decide (key ≤ 8) = true := by simpa using h5
  have r1 : decide (value < 1) = false := by simp; omega
  have r2 : decide (64 < value) = false := by simp; omega
  have r3 : decide (max < 1) = false := by simp; omega
  have r4 : decide (16 < max) = true := by simpa using g4
  go_enter Tryz.func67, Tryz.ntmps67
  go_wp2_with fail
  go_ret
  exact ⟨rfl, (Fr.refl _ _).alloc _⟩

set_option maxHeartbeats 400000 in
theorem may1_k6v5 (kind key value max : Int) (w : World) (h3 : kind = 2) (h4 : 1 ≤ key) (h5 : key ≤ 8) (g1 : 1 ≤ value) (g2 : value ≤ 64) (g3 : 1 ≤ max) (g4 : max ≤ 16) :
    Calls Tryz.prog 67 #[.agg #[.int .i64 kind, .int .i64 key, .int .i64 value, .int .i64 max]] w fun e w' => e = .returned (.bool false) ∧ Fr No w w' := by
  have q1 : (kind == 1) = false := by simp; omega
  have q3 : (kind == 2) = true := by simpa using h3
  have q4 : decide (1 ≤ key) = true := by simpa using h4
  have q5 : decide (key ≤ 8) = true := by simpa using h5
  have r1 : decide (value < 1) = false := by simp; omega
  have r2 : decide (64 < value) = false := by simp; omega
  have r3 : decide (max < 1) = false := by simp; omega
  have r4 : decide (16 < max) = false := by simp; omega
  go_enter Tryz.func67, Tryz.ntmps67
  go_wp2_with fail
  go_ret
  exact ⟨rfl, (Fr.refl _ _).alloc _⟩

theorem may1_any (x : MapD) (w : World) :
    Calls Tryz.prog 67 #[.agg #[.int .i64 x.kind, .int .i64 x.key, .int .i64 x.value, .int .i64 x.max]] w fun e w' => e = .returned (.bool (!x.may)) ∧ Fr No w w' := by
  have yes : x.may = true → (!x.may) = false := fun h => by rw [h]; rfl
  have no : ¬ (x.may = true) → (!x.may) = true := fun h => by simpa using h
  have iff := MapD.may_iff x
  have tail : ∀ (P : (Bool → Prop)), ((x.kind = 1 ∧ x.key = 4) ∨ (x.kind = 2 ∧ 1 ≤ x.key ∧ x.key ≤ 8)) →
      (x.value < 1 → P true) → (1 ≤ x.value → 64 < x.value → P true) → (1 ≤ x.value → x.value ≤ 64 → x.max < 1 → P true) → (1 ≤ x.value → x.value ≤ 64 → 1 ≤ x.max → 16 < x.max → P true) → (1 ≤ x.value → x.value ≤ 64 → 1 ≤ x.max → x.max ≤ 16 → P false) → P (!x.may) := by
    intro P hk a b c d e
    by_cases g1 : x.value < 1
    · rw [no (by rw [iff]; omega)]; exact a g1
    by_cases g2 : 64 < x.value
    · rw [no (by rw [iff]; omega)]; exact b (by omega) g2
    by_cases g3 : x.max < 1
    · rw [no (by rw [iff]; omega)]; exact c (by omega) (by omega) g3
    by_cases g4 : 16 < x.max
    · rw [no (by rw [iff]; omega)]; exact d (by omega) (by omega) (by omega) g4
    · rw [yes (by rw [iff]; omega)]; exact e (by omega) (by omega) (by omega) (by omega)
  by_cases h1 : x.kind = 1
  · by_cases h2 : x.key = 4
    · exact tail (fun r => Calls Tryz.prog 67 #[.agg #[.int .i64 x.kind, .int .i64 x.key, .int .i64 x.value, .int .i64 x.max]] w fun e w' => e = .returned (.bool r) ∧ Fr No w w') (.inl ⟨h1, h2⟩)
        (may1_k1v1 _ _ _ _ w h1 h2) (may1_k1v2 _ _ _ _ w h1 h2) (may1_k1v3 _ _ _ _ w h1 h2) (may1_k1v4 _ _ _ _ w h1 h2) (may1_k1v5 _ _ _ _ w h1 h2)
    · rw [no (by rw [iff]; omega)]
      exact may1_k2 _ _ _ _ w h1 h2
  · by_cases h3 : x.kind = 2
    · by_cases h4 : x.key < 1
      · rw [no (by rw [iff]; omega)]
        exact may1_k4 _ _ _ _ w h3 h4
      · by_cases h5 : 8 < x.key
        · rw [no (by rw [iff]; omega)]
          exact may1_k5 _ _ _ _ w h3 (by omega) h5
        · exact tail (fun r => Calls Tryz.prog 67 #[.agg #[.int .i64 x.kind, .int .i64 x.key, .int .i64 x.value, .int .i64 x.max]] w fun e w' => e = .returned (.bool r) ∧ Fr No w w') (.inr ⟨h3, by omega, by omega⟩)
            (may1_k6v1 _ _ _ _ w h3 (by omega) (by omega)) (may1_k6v2 _ _ _ _ w h3 (by omega) (by omega)) (may1_k6v3 _ _ _ _ w h3 (by omega) (by omega)) (may1_k6v4 _ _ _ _ w h3 (by omega) (by omega)) (may1_k6v5 _ _ _ _ w h3 (by omega) (by omega))
    · rw [no (by rw [iff]; omega)]
      exact may1_k3 _ _ _ _ w h1 h3

end Go.Proofs.YtlinnhaodkiolaaGreatDoor

namespace Go.Proofs.YtlinnhaodkiolaaGreatDoor
open Go.RowKit Go.Shelf Go.Lib Go.Sort

set_option maxHeartbeats 400000 in
theorem isnan_u64 (x : Int) (w : World) : Calls Tryz.prog 70 #[.int .u64 x] w fun e w' => e = .returned (.bool false) ∧ w = w' := by
  have h : (x != x) = false := by simp
  go_enter Tryz.func70, Tryz.ntmps70
  go_wp2
  go_ret
  exact ⟨rfl, rfl⟩

def cmp3 (x y : Int) : Int := if x < y then -1 else if y < x then 1 else 0

set_option maxHeartbeats 400000 in
theorem compare_u64 (x y : Int) (w : World) : Calls Tryz.prog 58 #[.int .u64 x, .int .u64 y] w fun e w' => e = .returned (.int .i64 (cmp3 x y)) ∧ w = w' := by
  by_cases h1 : x < y
  · have e : cmp3 x y = -1 := by simp [cmp3, h1]
    rw [e]
    clear e
    go_enter Tryz.func58, Tryz.ntmps58
    go_wp2_with (go_at_call 70; refine (isnan_u64 _ _).mono ?_; rintro e w' ⟨rfl, rfl⟩)
    go_ret
    exact ⟨rfl, rfl⟩
  · by_cases h2 : y < x
    · have e : cmp3 x y = 1 := by simp [cmp3, h1, h2]
      rw [e]
      clear e
      go_enter Tryz.func58, Tryz.ntmps58
      go_wp2_with (go_at_call 70; refine (isnan_u64 _ _).mono ?_; rintro e w' ⟨rfl, rfl⟩)
      go_ret
      exact ⟨rfl, rfl⟩
    · have e : cmp3 x y = 0 := by simp [cmp3, h1, h2]
      rw [e]
      clear e
      go_enter Tryz.func58, Tryz.ntmps58
      go_wp2_with (go_at_call 70; refine (isnan_u64 _ _).mono ?_; rintro e w' ⟨rfl, rfl⟩)
      go_ret
      exact ⟨rfl, rfl⟩


set_option maxHeartbeats 400000 in
theorem new1_any (x y : HReg) (W : World) : Calls Tryz.prog 57 #[.agg #[.int .u64 x.r.base, .slice (some ⟨x.g, 0, none⟩) x.r.data.length x.cap, .bool x.r.free], .agg #[.int .u64 y.r.base, .slice (some ⟨y.g, 0, none⟩) y.r.data.length y.cap, .bool y.r.free]] W
    fun e w' => e = .returned (.int .i64 (cmp3 x.r.base y.r.base)) ∧ ∃ q os', w' = grow (W.drewN q) os' := by
  have hcon := fun W' => compare_u64 x.r.base y.r.base W'
  generalize cmp3 x.r.base y.r.base = r at hcon ⊢
  have HC := Lib.hid hcon
  clear hcon
  go_enter Tryz.func57, Tryz.ntmps57
  go_wp2_with (go_at_call 58; refine (HC.out _).mono ?_; rintro e w' ⟨rfl, rfl⟩)
  go_ret
  exact ⟨rfl, 0, _, by rw [alloc_eq_grow, alloc_eq_grow, grow_grow]; rfl⟩

theorem cmpLays_reg (blk off size : Nat) (w : World) : CmpLays Tryz.prog 57 #[] HReg.cells 3 (fun x y => cmp3 x.r.base y.r.base) blk off size w :=
  fun _ _ _ _ x y => new1_any x y _

theorem hlen_reg (n : Nat) (W : World) (h : n ≤ 12) : Calls Tryz.prog 69 #[.int .u64 n] W fun e w' => (∃ l : Int, e = .returned (.int .i64 l)) ∧ w' = W :=
  (Any.bits_Len Tryz.lays125 n W (by omega) (by omega)).mono fun _ _ ⟨he, hw⟩ => ⟨⟨_, he⟩, hw⟩

theorem lt_cmp3 (x y : HReg) : ltOf (fun x y : HReg => cmp3 x.r.base y.r.base) x y = decide (x.r.base < y.r.base) := by
  unfold ltOf cmp3
  by_cases h1 : x.r.base < y.r.base
  · simp [h1]
  · by_cases h2 : y.r.base < x.r.base <;> simp [h1, h2]

theorem swo_reg : SWO (ltOf fun x y : HReg => cmp3 x.r.base y.r.base) where
  irrefl x := by rw [lt_cmp3]; simp
  trans x y z h1 h2 := by rw [lt_cmp3] at *; simp at *; omega
  ntrans x y z h1 h2 := by rw [lt_cmp3] at *; simp at *; omega

theorem Tryz.isAgg_reg (w : World) : (isAgg 90).run Tryz.prog w = .ok true w := by kernel_rfl
theorem Tryz.size_reg (w : World) : (Go.sizeOf 90).run Tryz.prog w = .ok 3 w := by kernel_rfl

theorem sort_regs (bl cap : Nat) (d : Array HReg) (w : World) (hH : HoldsK HReg.cells 3 w bl 0 d) (hblk : bl < w.heap.size) (h12 : d.size ≤ 12) :
    Calls Tryz.prog 56 #[.slice (some ⟨bl, 0, none⟩) d.size cap, .func (.func 57) #[] #[]] w
      fun e w' => e = .returned (.tuple #[]) ∧ ∃ d' n os, PermIn 0 d.size d d' ∧ SortedIn (ltOf fun x y : HReg => cmp3 x.r.base y.r.base) 0 d.size d' ∧ w' = sortWorldK HReg.cells 3 w bl 0 n d' os := by
  have eg : ∀ args w, (callFunc 57 args).run Tryz.prog w = .ok (.enter 57 args) w := enters_of Tryz.func57 (by kernel_rfl) rfl
  exact AnyQ.slices_SortFunc_small_sorted Tryz.sortReg 3 Tryz.isAgg_reg Tryz.size_reg HReg.cells (fun _ => rfl) (fun x v hv => by simp [HReg.cells] at hv; rcases hv with rfl | rfl | rfl <;> rfl) (fun x y => cmp3 x.r.base y.r.base) 57 #[] swo_reg bl 0 cap d w eg (cmpLays_reg bl 0 d.size w) hH hblk h12 hlen_reg

end Go.Proofs.YtlinnhaodkiolaaGreatDoor
