/- firewallref08: New. firewallref07: Copy. -/
import Derived.Test.YtlinnhaodkiolaaGreatBundle17
namespace Go.Proofs.YtlinnhaodkiolaaGreat
open Go.RowKit

theorem run_app_at {P : Program} {w : World} (t ty : TypeId) (base : Nat) (e : TypeId) (i : TypeInfo) (z : Value) (size bytes : Nat) (ht : P.underlying t = some (.slice e)) (hi : P.info? e = some i) (hz : i.zero = some z)
    (hsize : i.size = size) (hby : i.bytes = bytes) (hzs : z.cells.size = size) (hsz : 0 < size)
    (v : Value) (n : Nat) (xs : List Value) (hown : w.ownsRow base e size v n xs) (u : Value) (m : Nat) (news : List Value) (hu : SrcAt w u m news) (hl : news.length = m * size) (h1 : ∀ u ∈ news, u.oneCell' = true)
    (h63 : n + m ≤ maxLen) (hbytes : (n + m) * bytes ≤ 140737488355328) (hbase : base ≤ w.heap.size) :
    ∃ v' w', (Builtin.append_ #[t, t] ty #[v, u]).run P w = .ok v' w' ∧ w'.ownsRow base e size v' (n + m) (xs ++ news) ∧ Fr (OwnOf v) w w' ∧ (v'.ownBlock = v.ownBlock ∨ v'.ownBlock = some w.heap.size) := by
  rcases hu with ⟨rfl, rfl, rfl⟩ | ⟨ad, c, rfl, hnews⟩
  · exact ⟨v, w, run_append_owned_none (P := P) (w := w) base t ty e i size ht hi v n xs hown, by simpa using hown, Fr.refl _ _, .inl rfl⟩
  · obtain ⟨v', w', hr, h2, h3, _, h5⟩ := run_append_own_at (P := P) w base t ty e i z size bytes ht hi hz hsize hby hzs hsz v n xs hown ad m c news hl hnews h1 h63 hbytes hbase
    exact ⟨v', w', hr, h2, grown_fr h3, h5⟩

theorem wpList_app_at {P : Program} {w : World} {ops : Array Oper} {rest : List Oper} {o : Oper} {a : Act} {Q : Exit → Act → World → Prop} (hgd : o.guard = none) (s x : Operand) (t : TypeId)
    (ho : o.op = .call { callee := .builtin .append, args := #[s, x], argTypes := #[t, t] })
    (base : Nat) (e : TypeId) (i : TypeInfo) (z : Value) (size bytes : Nat) (ht : P.underlying t = some (.slice e)) (hi : P.info? e = some i) (hz : i.zero = some z)
    (hsize : i.size = size) (hby : i.bytes = bytes) (hzs : z.cells.size = size) (hsz : 0 < size)
    (v : Value) (n : Nat) (xs : List Value) (hs : a.eval s = v) (hown : w.ownsRow base e size v n xs) (u : Value) (m : Nat) (news : List Value) (hx : a.eval x = u) (hu : SrcAt w u m news) (hl : news.length = m * size) (h1 : ∀ u ∈ news, u.oneCell' = true)
    (h63 : n + m ≤ maxLen) (hbytes : (n + m) * bytes ≤ 140737488355328) (hbase : base ≤ w.heap.size)
    (h : ∀ v' w', w'.ownsRow base e size v' (n + m) (xs ++ news) → Fr (OwnOf v) w w' → (v'.ownBlock = v.ownBlock ∨ v'.ownBlock = some w.heap.size) → wpList P ops Q rest (a.put o.dst v') w') : wpList P ops Q (o :: rest) a w :=
  wpList_plain hgd fun _ hK => by
    obtain ⟨v', w', hr, h2, h3, h4⟩ := run_app_at (P := P) t o.type base e i z size bytes ht hi hz hsize hby hzs hsz v n xs hown u m news hu hl h1 h63 hbytes hbase
    unfold Oper.wp execOp
    simp only [ho, resolve, invoke, builtin, Sem.run_bind, Sem.run_pure, Result.andThen_ok, List.map_toArray, List.map_cons, List.map_nil, hs, hx, hr]
    exact hK _ _ (h v' w' h2 h3 h4)

theorem step_app_at {P : Program} {w : World} {ops : Array Oper} {o : Oper} {a : Act} {K : Act → World → Prop} {Q : Exit → Act → World → Prop} {E : Prop} (hgd : o.guard = none) (s x : Operand) (t : TypeId)
    (ho : o.op = .call { callee := .builtin .append, args := #[s, x], argTypes := #[t, t] })
    (base : Nat) (e : TypeId) (i : TypeInfo) (z : Value) (size bytes : Nat) (ht : P.underlying t = some (.slice e)) (hi : P.info? e = some i) (hz : i.zero = some z)
    (hsize : i.size = size) (hby : i.bytes = bytes) (hzs : z.cells.size = size) (hsz : 0 < size)
    (v : Value) (n : Nat) (xs : List Value) (hs : a.eval s = v) (hown : w.ownsRow base e size v n xs) (u : Value) (m : Nat) (news : List Value) (hx : a.eval x = u) (hu : SrcAt w u m news) (hl : news.length = m * size) (h1 : ∀ u ∈ news, u.oneCell' = true)
    (h63 : n + m ≤ maxLen) (hbytes : (n + m) * bytes ≤ 140737488355328) (hbase : base ≤ w.heap.size)
    (h : ∀ v' w', w'.ownsRow base e size v' (n + m) (xs ++ news) → Fr (OwnOf v) w w' → (v'.ownBlock = v.ownBlock ∨ v'.ownBlock = some w.heap.size) → K (a.put o.dst v') w') :
    if Region.wanted o (yielded ops a.tmps) = true then Oper.wp P o a w K Q else E := by
  have hw : Region.wanted o (yielded ops a.tmps) = true := by simp [Region.wanted, hgd]
  rw [if_pos hw]
  obtain ⟨v', w', hr, h2, h3, h4⟩ := run_app_at (P := P) t o.type base e i z size bytes ht hi hz hsize hby hzs hsz v n xs hown u m news hu hl h1 h63 hbytes hbase
  unfold Oper.wp execOp
  simp only [ho, resolve, invoke, builtin, Sem.run_bind, Sem.run_pure, Result.andThen_ok, List.map_toArray, List.map_cons, List.map_nil, hs, hx, hr]
  exact h v' w' h2 h3 h4

theorem Tryz.info_rmap : (Tryz.prog.info? 62).map (fun i => (i.zero, i.size, i.bytes)) = some (some (.agg #[.int .i64 0, .int .i64 0, .int .i64 0, .int .i64 0]), 4, 32) := by kernel_rfl

theorem make_strs (n : Nat) (hn : n ≤ 1000000) (w : World) : (Instr.makeSlice 88 (.int .i64 n) (.int .i64 n)).run Tryz.prog w = .ok (.slice (some ⟨w.heap.size, 0, none⟩) n n) (w.alloc (.cells (strs (List.replicate n [])).toArray 9)) := by
  obtain ⟨i0, hi, hz0, hz1, hz2⟩ := info_parts Tryz.info_str
  have h := run_make (P := Tryz.prog) w 88 9 i0 (.string ⟨#[]⟩) Tryz.underlying88 hi hz0 .i64 .i64 n n (by omega) (by omega) (by rw [hz2]; omega) (by omega)
  rw [h, hz1]
  clear h hn
  simp only [Int.toNat_natCast, Nat.mul_one]
  have e : ∀ A B : Array Value, A = B → (Result.ok (Value.slice (some ⟨w.heap.size, 0, none⟩) n n) (w.alloc (.cells A 9)) : Result Value) = .ok (.slice (some ⟨w.heap.size, 0, none⟩) n n) (w.alloc (.cells B 9)) := fun A B h => by rw [h]
  refine e _ _ ?_
  apply Array.ext'
  simp [madeCells, strs, Value.cells, Nat.mod_one]
  apply List.ext_getElem?
  intro j
  simp only [List.getElem?_replicate]
  by_cases hj : j < n <;> simp [hj]

/-- the first p keys of an array are laid -/
structure KeyI (w1 : World) (mx p : Nat) (W : World) : Prop where
  fr : Fr No w1 W
  lt : w1.heap.size < W.heap.size
  cells : CellsAt W w1.heap.size 0 (strs (arrKeys p ++ List.replicate (mx - p) []))
  opened : Open W w1.heap.size 0 mx

theorem KeyI.start (w1 : World) (mx : Nat) (_ : 1 ≤ mx) : KeyI w1 mx 0 (w1.alloc (.cells (strs (List.replicate mx [])).toArray 9)) := by
  have hc : CellsAt (w1.alloc (.cells (strs (List.replicate mx [])).toArray 9)) w1.heap.size 0 (strs (List.replicate mx [])) := CellsAt.new w1 _ _
  refine ⟨(Fr.refl _ _).alloc _, by simp, by simpa [arrKeys] using hc, fun j hj => ?_⟩
  have := heap_alloc_new w1 (.cells (strs (List.replicate mx [])).toArray 9)
  unfold World.frozen?
  dsimp only
  rw [this]
  simp

theorem KeyI.step {w1 W W2 : World} {mx p : Nat} (h : KeyI w1 mx p W) (hp : p < mx) (hf : Fr No W W2) : KeyI w1 mx (p + 1) (W2.setCell ⟨w1.heap.size, p, none⟩ (.string ⟨(leBytes 4 p).toArray⟩)) := by
  have hc := hf.cells h.cells id
  have e : (strs (arrKeys p ++ List.replicate (mx - p) [])).set p (.string ⟨(leBytes 4 p).toArray⟩) = strs (arrKeys (p + 1) ++ List.replicate (mx - (p + 1)) []) := by
    unfold strs
    rw [← List.map_set (f := fun k : List UInt8 => Value.string ⟨k.toArray⟩) (a := leBytes 4 p)]
    congr 1
    have hl : (arrKeys p).length = p := by simp [arrKeys]
    rw [List.set_append_right _ _ (by omega), hl, Nat.sub_self]
    obtain ⟨q, hq⟩ : ∃ q, mx - p = q + 1 := ⟨mx - p - 1, by omega⟩
    rw [hq, List.replicate_succ, List.set_cons_zero, show mx - (p + 1) = q by omega]
    have : arrKeys (p + 1) = arrKeys p ++ [leBytes 4 p] := by simp [arrKeys, List.range_succ]
    rw [this, List.append_assoc]
    rfl
  refine ⟨(h.fr.trans hf).setCell (.inl (Nat.le_refl _)) _, by have := Nat.lt_of_lt_of_le h.lt hf.size; simpa [World.setCell] using this, ?_, fun j hj => ?_⟩
  · rw [← e]
    exact hc.setOne p _ (by rw [strs_length]; simp [arrKeys]; omega)
  · rw [World.frozen?_setCell]
    exact (hf.opened h.lt h.opened id) j hj

set_option maxHeartbeats 400000 in
theorem rnew_bad (lv mp : Value) (w : World) (hmay : Calls Tryz.prog 30 #[lv] w fun e w' => e = .returned (.bool false) ∧ Fr No w w') :
    Calls Tryz.prog 12 #[lv, mp] w fun e w' => e = .returned (.tuple #[.pointer none, .int .i64 2]) ∧ Fr No w w' := by
  have H := Lib.hid hmay
  clear hmay
  go_enter Tryz.func12, Tryz.ntmps12
  go_wp2_with (go_at_call 30; (with_reducible refine (H.out).mono ?_); rintro e w' ⟨rfl, hf⟩)
  go_ret2
  exact ⟨rfl, hf⟩

theorem own_slice {w : World} {base size n : Nat} {e : TypeId} {v : Value} {xs : List Value} (h : w.ownsRow base e size v n xs) : ∃ a c, v = .slice a n c := by
  rcases h.2 with ⟨rfl, h0⟩ | ⟨g, cap, cur, rfl, _⟩
  · exact ⟨_, _, by rw [h0]⟩
  · exact ⟨_, _, rfl⟩

theorem RNewI.start {w w1 : World} {mb n : Nat} {v1 : Value} {ds : List MapD} (hf : Fr No w w1) (own : w1.ownsRow w.heap.size 62 4 v1 n (mflat ds)) (hn : ds.length = n) :
    RNewI w w1.heap.size mb v1 ds (ds.map Tab.new) 0 [] (.slice none 0 0) (w1.alloc (.cells #[v1, .slice none 0 0, .pointer (some ⟨mb, 0, none⟩)] 93)) := by
  refine ⟨hf.alloc _, hf.size, by rw [World.cell?_alloc_new]; rfl, by rw [World.cell?_alloc_new]; rfl, by rw [World.cell?_alloc_new]; rfl, ?_, ?_, rfl, World.ownsRow_nil _ _ _ _, (fun x hx => by cases hx), (fun x hx => by cases hx), List.Pairwise.nil, (fun g hg => by simp [Value.ownBlock] at hg), fun he => ?_⟩
  · have := heap_alloc_new w1 (.cells #[v1, .slice none 0 0, .pointer (some ⟨mb, 0, none⟩)] 93)
    unfold World.frozen?
    dsimp only
    rw [this]
    simp
  · refine MapsIn.fr ?_ ((Fr.refl No w1).alloc _)
    rcases Nat.eq_zero_or_pos n with h0 | h0
    · subst h0
      obtain rfl := List.eq_nil_of_length_eq_zero hn
      rcases own.2 with ⟨rfl, _⟩ | ⟨g, cap, cur, rfl, _⟩
      · exact .inl ⟨rfl, _, _, rfl⟩
      · exact .inl ⟨rfl, _, _, rfl⟩
    · obtain ⟨g, cap, rfl, _, hc⟩ := cells_of_owns own h0
      exact .inr ⟨g, 0, cap, by rw [hn], hc⟩
  · have := (own.lt _ he).2
    omega

theorem RHeads {w1 : World} {base n : Nat} {e : TypeId} {size : Nat} {v1 : Value} {xs : List Value} (own : w1.ownsRow base e size v1 n xs) : Heads v1 := by
  intro a m c he
  rcases own.2 with ⟨rfl, _⟩ | ⟨g, cap, cur, rfl, _⟩
  · cases he
  · injection he with e1 e2 e3
    cases e1
    rfl

/-- the keys of the map k are made: onto x.Keys with them -/
theorem RNewI.more {w wr W : World} {b mb k mx : Nat} {lv v : Value} {ds : List MapD} {tabs : List HTab} {d : MapD} (h : RNewI w b mb lv ds (ds.map Tab.new) k tabs v wr) (hd : ds[k]? = some d) (hmay : d.may = true) (hmx : d.max = mx)
    (hW : Fr No wr W) (hlt : wr.heap.size < W.heap.size) (hc : CellsAt W wr.heap.size 0 (strs (Tab.new d).ks)) (ho : Open W wr.heap.size 0 mx) (o : Obj) (v' : Value) (w8 : World)
    (own : w8.ownsRow w.heap.size 88 1 v' (k + 1) (tabs.map HTab.row ++ [.slice (some ⟨wr.heap.size, 0, none⟩) mx mx])) (hf : Fr (OwnOf v) (W.alloc o) w8) (hat : v'.ownBlock = v.ownBlock ∨ v'.ownBlock = some (W.alloc o).heap.size) :
    ∃ tabs' v2, RNewI w b mb lv ds (ds.map Tab.new) (k + 1) tabs' v2 (w8.setCell ⟨b, 1, none⟩ v') := by
  have hbd := (MapD.may_iff d).1 hmay
  have hksl : (Tab.new d).ks.length = mx := by
    have := (Tab.new_ok hmay).len
    have e : (Tab.new d).d = d := rfl
    rw [e] at this
    omega
  have hh : HTab.here W ⟨Tab.new d, wr.heap.size, mx⟩ := ⟨hc, by rw [hksl]; exact ho, by rw [hksl]; exact Nat.le_refl _⟩
  refine ⟨_, _, h.step (x := ⟨Tab.new d, wr.heap.size, mx⟩) (by rw [List.getElem?_map, hd]; rfl) (Tab.new_ok hmay) (by obtain ⟨hk, _⟩ := List.getElem?_eq_some_iff.1 hd; omega) (hW.alloc o) ⟨hh.fr ((Fr.refl No W).alloc o) id (by rw [hksl]; omega), Nat.le_refl _, by simp; omega⟩ ?_ hf (fun g hg => ?_)⟩
  · have e : HTab.row ⟨Tab.new d, wr.heap.size, mx⟩ = .slice (some ⟨wr.heap.size, 0, none⟩) mx mx := by unfold HTab.row; rw [hksl]
    rw [e]; exact own
  · rcases hat with h1 | h1
    · exact .inl (h1 ▸ hg)
    · rw [h1] at hg
      have := Option.some.inj hg
      exact .inr (by omega)

set_option maxRecDepth 100000 in
set_option maxHeartbeats 4000000 in
theorem rnew_walk (ad : Option Addr) (n cap mb : Nat) (ds : List MapD) (w : World) (hn : ds.length = n) (h4 : n ≤ 4) (hin : MapsIn w (.slice ad n cap) ds) (hall : ∀ x ∈ ds, x.may = true)
    (hsrc : ∀ W, Fr No w W → SrcAt W (.slice ad n cap) n (mflat ds))
    (hmay : Calls Tryz.prog 30 #[.slice ad n cap] w fun e w' => e = .returned (.bool true) ∧ Fr No w w')
    (hhold : ∀ W, Fr No w W → Calls Tryz.prog 41 #[.slice ad n cap, .pointer (some ⟨mb, 0, none⟩)] W fun e w' => e = .returned (.bool true) ∧ Fr No W w') :
    Calls Tryz.prog 12 #[.slice ad n cap, .pointer (some ⟨mb, 0, none⟩)] w fun e w' => ∃ b, e = .returned (.tuple #[.pointer (some ⟨b, 0, none⟩), .int .i64 0]) ∧ Hid (RMadeMaps w b mb (ds.map Tab.new) (fun _ => False) w' ∧ Fr No w w') := by
  have HMAY := Lib.hid hmay
  have HHOLD := Lib.hid hhold
  have HIN := Lib.hid hin
  have HALL := Lib.hid hall
  have HSRC := Lib.hid hsrc
  have HN := Lib.hid hn
  obtain ⟨i0, hi0, hz0, hz1, hz2⟩ := info_parts Tryz.info_rmap
  obtain ⟨j0, hj0, hy0, hy1, hy2⟩ := info_parts Tryz.info_strs
  have HONE := Lib.hid (mflat_one ds)
  have HFL : Hid ((mflat ds).length = n * 4) := Lib.hid (by rw [mflat_length, hn])
  clear hmay hhold hin hall hsrc hn
  go_enter Tryz.func12, Tryz.ntmps12
  go_wp2_with fail
  refine (HMAY.out).mono ?_
  rintro e w1 ⟨rfl, hf1⟩
  have HF1 := Lib.hid hf1
  clear hf1
  go_wp2_with fail
  refine (HHOLD.out w1 HF1.out).mono ?_
  rintro e w2 ⟨rfl, hf2⟩
  have HF2 := Lib.hid (HF1.out.trans hf2)
  have HSZ2 : Hid (w.heap.size ≤ w2.heap.size) := HF2.out.size
  clear hf2 HMAY HHOLD HF1
  go_wp2_with (at_builtin; refine wpList_app_at rfl (.const (.slice none 0 0)) (.tmp 19) 22 rfl w.heap.size 62 i0 _ 4 32 Tryz.underlying22 hi0 hz0 hz1 hz2 rfl (by decide) (.slice none 0 0) 0 [] rfl (World.ownsRow_nil _ _ _ _) (.slice ad n cap) n (mflat ds) rfl (HSRC.out _ HF2.out) HFL.out HONE.out (by unfold maxLen; omega) (by omega) HSZ2.out ?_; intro v1 w3 own3 fr3 at3; clear at3; rw [Nat.zero_add, List.nil_append] at own3; obtain ⟨la, lc, rfl⟩ := own_slice own3; have HO3 := Lib.hid own3; have HR3 := Lib.hid fr3; clear own3 fr3)
  have own3 := HO3.out
  have fr3 := HR3.out
  have HF3 : Hid (Fr No w w3) := ((HF2.out.any.trans (fr3.mono fun k _ hk => by simp [OwnOf, Value.ownBlock] at hk)) : Fr (From w) w w3).ours
  have own3' := own3
  have HS := Lib.hid (RNewI.start (mb := mb) HF3.out own3' HN.out)
  have HHD := Lib.hid (RHeads own3')
  have HLO := Lib.hid (fun g (hg : (Value.slice la n lc).ownBlock = some g) => own3'.lt g hg)
  clear own3 own3' fr3 HO3 HR3 HSRC HF2 HSZ2
  have HZ3 : Hid (w3.heap.size ≤ w3.heap.size) := Nat.le_refl _
  go_loopw [7, 8, 9] (fun s7 _ _ wr => ∃ k : Nat, k ≤ n ∧ s7 = .int .i64 k ∧ Hid (∃ tabs v, RNewI w w3.heap.size mb (.slice la n lc) ds (ds.map Tab.new) k tabs v wr)) (fun s7 _ _ _ => n - (intOf s7).toNat)
  case atStart => exact ⟨0, Nat.zero_le _, rfl, _, _, HS.out⟩
  case round =>
    obtain ⟨k, hk, rfl, HI⟩ := hrel
    clear HS
    obtain ⟨tabs, v, hi⟩ := HI.out
    by_cases hlt : k < n
    · obtain ⟨d, hd⟩ : ∃ d, ds[k]? = some d := ⟨ds[k]'(by rw [HN.out]; exact hlt), List.getElem?_eq_getElem _⟩
      have hdm := HALL.out d (List.mem_of_getElem? hd)
      have hbd := (MapD.may_iff d).1 hdm
      obtain ⟨mx, hmx⟩ : ∃ mx : Nat, d.max = mx := ⟨d.max.toNat, by omega⟩
      have hmx1 : 1 ≤ mx := by omega
      have hmx16 : mx ≤ 16 := by omega
      have hcs := HIN.out
      obtain ⟨g, off, rfl, hcells⟩ : ∃ g off, ad = some ⟨g, off, none⟩ ∧ CellsAt w g off (mflat ds) := by
        rcases hcs with ⟨rfl, _⟩ | ⟨g, off, cap', he, hc⟩
        · simp at hd
        · injection he with e1 e2 e3
          exact ⟨g, off, e1, hc⟩
      have HKC : Hid (∀ W, Fr No w W → W.cell? ⟨g, off + k * 4, none⟩ = some (.int .i64 d.kind) ∧ W.cell? ⟨g, off + k * 4 + 3, none⟩ = some (.int .i64 mx)) := fun W hW => by
        obtain ⟨k0, k1, k2, k3⟩ := map_cells (hW.cells hcells id) hd
        exact ⟨k0, by rw [k3, hmx]⟩
      have HMORE : Hid (∀ (W : World) (o : Obj) (v' : Value) (w8 : World), Fr No wr W → wr.heap.size < W.heap.size → CellsAt W wr.heap.size 0 (strs (Tab.new d).ks) → Open W wr.heap.size 0 mx → w8.ownsRow w.heap.size 88 1 v' (k + 1) (tabs.map HTab.row ++ [.slice (some ⟨wr.heap.size, 0, none⟩) mx mx]) → Fr (OwnOf v) (W.alloc o) w8 → (v'.ownBlock = v.ownBlock ∨ v'.ownBlock = some (W.alloc o).heap.size) →
          ∃ tabs' v2, RNewI w w3.heap.size mb (.slice la n lc) ds (ds.map Tab.new) (k + 1) tabs' v2 (w8.setCell ⟨w3.heap.size, 1, none⟩ v')) := fun W o v' w8 h1 h2 h3 h4 h5 h6 h7 => hi.more hd hdm hmx h1 h2 h3 h4 o v' w8 h5 h6 h7
      have HX : Hid (∀ W, Fr No wr W → W.cell? ⟨w3.heap.size, 1, none⟩ = some v ∧ (∀ o, (W.alloc o).ownsRow w.heap.size 88 1 v k (tabs.map HTab.row)) ∧ w.heap.size ≤ W.heap.size ∧ (∀ (o : Obj) w8, Fr (OwnOf v) (W.alloc o) w8 → w8.cell? ⟨w3.heap.size, 1, none⟩ = some v ∧ w8.frozen? ⟨w3.heap.size, 1, none⟩ = false)) := fun W hW => by
        have hs := hi.to hW
        refine ⟨hs.c1, fun o => hs.own.alloc o, Nat.le_trans hi.fr.size hW.size, fun o w8 hf8 => ?_⟩
        have hnb : ¬ OwnOf v w3.heap.size := fun hb => (hi.ne _ hb).1 rfl
        have hs2 := hi.to (hW.alloc o)
        exact ⟨hf8.cell hs2.c1 hnb, by rw [hf8.frozen hs2.c1 hnb]; exact hs2.free⟩
      have HFW := Lib.hid hi.fr
      obtain ⟨q0, q3⟩ := HKC.out wr hi.fr
      have hmk := fun W => make_strs mx (by omega) W
      have c1 : (0 : Int) ≤ (k : Int) := by omega
      have c2 : (k : Int) < (n : Int) := by omega
      have HD0 := Lib.hid hd
      have HHB : Hid (∀ (p : Nat) W, p < 16 → Calls Tryz.prog 42 #[.int .u64 p, .int .i64 4] W fun e w' => e = .returned (.string ⟨(leBytes 4 p).toArray⟩) ∧ Fr No W w') := fun p W hp => (refbytes_any p 4 W (by omega) (by omega)).mono fun e w' ⟨he, hf⟩ => ⟨he, Fr.of_below hf⟩
      have HKS := Lib.hid (KeyI.start wr mx hmx1)
      have hkind : d.kind = 1 ∨ d.kind = 2 := by omega
      have HKN : Hid ((Tab.new d).ks = if d.kind = 1 then arrKeys mx else List.replicate mx []) := Lib.hid (by
        show (if d.kind = 1 then arrKeys d.max.toNat else List.replicate d.max.toNat []) = _
        rw [hmx, Int.toNat_natCast])
      generalize htc : tabs.map HTab.row = tc at *
      clear htc hd hdm hbd hmx hcs hcells hi HI HIN HALL
      rcases hkind with hk1 | hk2
      · have HKN1 : Hid ((Tab.new d).ks = arrKeys mx) := Lib.hid (by rw [HKN.out, if_pos hk1])
        rw [hk1] at q0 HKC
        clear HKN hk1
        go_wp2_with fail
        obtain ⟨wo, rfl⟩ : ∃ wo : World, wo = wr := ⟨_, rfl⟩
        go_loopw [9] (fun s9 wx => ∃ p : Nat, p ≤ mx ∧ s9 = .int .i64 p ∧ Hid (KeyI wo mx p wx)) (fun s9 _ => mx - (intOf s9).toNat)
        case atStart => exact ⟨0, Nat.zero_le _, rfl, HKS.out⟩
        case round =>
          clear HKS
          obtain ⟨p, hp, rfl, HKI⟩ := hrel
          obtain ⟨r0, r3⟩ := HKC.out wr (HFW.out.trans HKI.out.fr)
          by_cases hlp : p < mx
          · have f1 : IntKind.u64.wrap (p : Int) = p := u64_nat p (by omega)
            have HB1 : Hid (∀ W, Calls Tryz.prog 42 #[.int .u64 p, .int .i64 4] W fun e w' => e = .returned (.string ⟨(leBytes 4 p).toArray⟩) ∧ Fr No W w') := fun W => HHB.out p W (by omega)
            have HST : Hid (∀ W2, Fr No wr W2 → KeyI wo mx (p + 1) (W2.setCell ⟨wo.heap.size, p, none⟩ (.string ⟨(leBytes 4 p).toArray⟩)) ∧ (∃ old, W2.cell? ⟨wo.heap.size, p, none⟩ = some old) ∧ W2.frozen? ⟨wo.heap.size, p, none⟩ = false) := fun W2 hW2 => by
              refine ⟨HKI.out.step hlp hW2, ?_, ?_⟩
              · have hc := (hW2.cells HKI.out.cells id) p
                obtain ⟨x, hx⟩ : ∃ x, (strs (arrKeys p ++ List.replicate (mx - p) []))[p]? = some x := ⟨_, List.getElem?_eq_getElem (by rw [strs_length]; simp [arrKeys]; omega)⟩
                have := hc x hx
                rw [Nat.zero_add] at this
                exact ⟨x, this⟩
              · have := (hW2.opened HKI.out.lt HKI.out.opened id) p hlp
                rwa [Nat.zero_add] at this
            generalize (⟨(leBytes 4 p).toArray⟩ : ByteArray) = BK at HB1 HST
            have d1 : (0 : Int) ≤ (p : Int) := by omega
            have d2 : (p : Int) < (mx : Int) := by omega
            go_wp2_with (go_at_call 42; (with_reducible refine (HB1.out _).mono ?_); rintro e w5 ⟨rfl, hf5⟩; obtain ⟨hK5, ⟨old5, ho5⟩, hz5⟩ := HST.out w5 hf5; have HK5 := Lib.hid hK5; clear hf5 hK5)
            go_roundw
            case rel => exact ⟨p + 1, by omega, by go_num, HK5⟩
            case measure => simp [intOf] <;> omega
          · obtain rfl : p = mx := by omega
            obtain ⟨x1, x2, x3, x4⟩ := HX.out wr HKI.out.fr
            have HX2 := Lib.hid x2
            have HX4 := Lib.hid x4
            have HCK : Hid (CellsAt wr wo.heap.size 0 (strs (Tab.new d).ks)) := Lib.hid (by
              have := HKI.out.cells
              rw [Nat.sub_self] at this
              rw [HKN1.out]
              simpa using this)
            clear x2 x4 HHB HKC
            go_wp2_with (at_builtin; refine wpList_app_at rfl (.tmp 60) (.tmp 62) 91 rfl w.heap.size 88 j0 _ 1 24 Tryz.underlying91 hj0 hy0 hy1 hy2 rfl (by decide) v k tc rfl (HX2.out _) _ 1 [.slice (some ⟨wo.heap.size, 0, none⟩) p p] rfl (src_new wr [.slice (some ⟨wo.heap.size, 0, none⟩) p p] 88) rfl (by simp [Value.oneCell']) (by unfold maxLen; omega) (by omega) (by simp; omega) ?_; intro v' w8 own8 fr8 at8; obtain ⟨ra, rc, rfl⟩ := own_slice own8; obtain ⟨z1, z2⟩ := HX4.out _ w8 fr8; have HE := Lib.hid (HMORE.out wr _ _ w8 HKI.out.fr HKI.out.lt HCK.out HKI.out.opened own8 fr8 at8); clear own8 fr8 at8)
            go_roundw
            case rel => exact ⟨k + 1, by omega, by go_num, HE.out⟩
            case measure => simp [intOf] <;> omega
      · have HKN1 : Hid ((Tab.new d).ks = List.replicate mx []) := Lib.hid (by rw [HKN.out, if_neg (by omega)])
        rw [hk2] at q0 HKC
        have hmx0 : decide (0 < mx) = true := by simp; omega
        obtain ⟨p0, _⟩ := HKC.out (wr.alloc (.cells (strs (List.replicate mx [])).toArray 9)) (HFW.out.alloc _)
        obtain ⟨x1, x2, x3, x4⟩ := HX.out (wr.alloc (.cells (strs (List.replicate mx [])).toArray 9)) ((Fr.refl _ _).alloc _)
        have HX2 := Lib.hid x2
        have HX4 := Lib.hid x4
        have HCK : Hid (CellsAt (wr.alloc (.cells (strs (List.replicate mx [])).toArray 9)) wr.heap.size 0 (strs (Tab.new d).ks)) := Lib.hid (by
          have := HKS.out.cells
          rw [HKN1.out]
          simpa [arrKeys] using this)
        have HSR : Hid (SrcAt ((wr.alloc (.cells (strs (List.replicate mx [])).toArray 9)).alloc (.cells #[.slice (some ⟨wr.heap.size, 0, none⟩) mx mx] 88)) (.slice (some ⟨wr.heap.size + 1, 0, none⟩) 1 1) 1 [.slice (some ⟨wr.heap.size, 0, none⟩) mx mx]) := Lib.hid (by
          have h := src_new (wr.alloc (.cells (strs (List.replicate mx [])).toArray 9)) [.slice (some ⟨wr.heap.size, 0, none⟩) mx mx] 88
          rw [show (wr.alloc (.cells (strs (List.replicate mx [])).toArray 9)).heap.size = wr.heap.size + 1 by simp] at h
          exact h)
        clear HKN hk2 x2 x4 HHB HKC HX
        go_wp2_with fail
        refine wp_loop_rounds 1 ?_
        rw [rounds_succ]
        go_wp2_with (at_builtin; refine wpList_app_at rfl (.tmp 60) (.tmp 62) 91 rfl w.heap.size 88 j0 _ 1 24 Tryz.underlying91 hj0 hy0 hy1 hy2 rfl (by decide) v k tc rfl (HX2.out _) _ 1 [.slice (some ⟨wr.heap.size, 0, none⟩) mx mx] rfl HSR.out rfl (by simp [Value.oneCell']) (by unfold maxLen; omega) (by omega) ((HFW.out.alloc _).alloc _).size ?_; intro v' w8 own8 fr8 at8; obtain ⟨ra, rc, rfl⟩ := own_slice own8; obtain ⟨z1, z2⟩ := HX4.out _ w8 fr8; have HE := Lib.hid (HMORE.out _ _ _ w8 HKS.out.fr HKS.out.lt HCK.out HKS.out.opened own8 fr8 at8); clear own8 fr8 at8)
        go_roundw
        case rel => exact ⟨k + 1, by omega, by go_num, HE.out⟩
        case measure => simp [intOf] <;> omega
    · obtain rfl : k = n := by omega
      have HDN : Hid (RMadeMaps w w3.heap.size mb (ds.map Tab.new) (fun _ => False) wr ∧ Fr No w wr) := Lib.hid (by
        have hi2 : RNewI w w3.heap.size mb (.slice la k lc) ds (ds.map Tab.new) ds.length tabs v wr := by rw [HN.out]; exact hi
        refine ⟨hi2.done (R := fun _ => False) (by rw [List.map_map]; simp [Function.comp_def, Tab.new]) (by rw [HN.out]; exact h4) (fun g hg => .inl ⟨(HLO.out g hg).1, ?_⟩) HHD.out, hi.fr⟩
        have := (HLO.out g hg).2
        have := hi.lt
        omega)
      clear hi HI
      go_wp2_with fail
      go_ret2
      exact ⟨_, rfl, HDN⟩

/-- what New comes to, over maps' own memory -/
theorem rnew_any (lv : Value) (ds : List MapD) (mb : Nat) (T : Nat → Prop) (w : World) (hin : MapsIn w lv ds) (hsrc : ∀ W, Fr No w W → SrcAt W lv ds.length (mflat ds)) (hmay : mayL ds = true) (hm : RefAt w mb (mregs ds) T) :
    Calls Tryz.prog 12 #[lv, .pointer (some ⟨mb, 0, none⟩)] w fun e w' => ∃ b, e = .returned (.tuple #[.pointer (some ⟨b, 0, none⟩), .int .i64 0]) ∧ Hid (RMadeMaps w b mb (ds.map Tab.new) (fun _ => False) w' ∧ Fr No w w') := by
  obtain ⟨h4, hall⟩ := (mayL_iff ds).1 hmay
  have h1 := refmay_any lv ds w hin
  rw [hmay] at h1
  have h2 := fun W (hW : Fr No w W) => rholds_own lv ds mb T W (hin.fr hW) (by omega) hmay (hm.fr hW (fun _ _ => id))
  obtain ⟨a, c, rfl⟩ := hin.form
  exact rnew_walk a ds.length c mb ds w rfl h4 hin hall hsrc h1 h2

theorem rnew_no (lv mp : Value) (ds : List MapD) (w : World) (hin : MapsIn w lv ds) (hmay : mayL ds = false) :
    Calls Tryz.prog 12 #[lv, mp] w fun e w' => e = .returned (.tuple #[.pointer none, .int .i64 2]) ∧ Fr No w w' := by
  have h1 := refmay_any lv ds w hin
  rw [hmay] at h1
  exact rnew_bad lv mp w h1

end Go.Proofs.YtlinnhaodkiolaaGreat

namespace Go.Proofs.YtlinnhaodkiolaaGreat
open Go.RowKit

theorem raflat_one (l : List Reg) : ∀ u ∈ aflat l, u.oneCell' = true := fun v hv => by
  obtain ⟨x, _, hx⟩ := List.mem_flatMap.1 hv
  simp [Reg.cells] at hx
  rcases hx with rfl | rfl | rfl <;> simp [Value.oneCell']

set_option maxHeartbeats 400000 in
theorem refcopy_zero (b : Nat) (w : World) (hc : w.cell? ⟨b, 0, none⟩ = some (.slice none 0 0)) :
    Calls Tryz.prog 23 #[.pointer (some ⟨b, 0, none⟩)] w fun e w' => e = .returned (.pointer (some ⟨w.heap.size, 0, none⟩)) ∧ w' = w.alloc (.cells #[.slice none 0 0] 58) := by
  go_enter Tryz.func23, Tryz.ntmps23
  go_wp2_with fail
  go_ret
  exact ⟨rfl, rfl⟩

/-- what Copy of n regions leaves -/
def RCopyP (w : World) (n : Nat) (xs : List Value) (e : Ending) (w' : World) : Prop :=
  ∃ v' w1, w1.ownsRow w.heap.size 69 3 v' n xs ∧ Fr No w w1 ∧ e = .returned (.pointer (some ⟨w1.heap.size, 0, none⟩)) ∧ w' = w1.alloc (.cells #[v'] 58)

set_option maxHeartbeats 400000 in
theorem refcopy_walk (b n : Nat) (v : Value) (xs : List Value) (w : World) (hc : w.cell? ⟨b, 0, none⟩ = some v) (hs : SrcAt w v n xs) (hl : xs.length = n * 3) (h1 : ∀ u ∈ xs, u.oneCell' = true) (hn : n ≤ 1000000) :
    Calls Tryz.prog 23 #[.pointer (some ⟨b, 0, none⟩)] w (RCopyP w n xs) := by
  obtain ⟨i0, hi0, hz0, hz1, hz2⟩ := info_parts Tryz.info_areg
  have HS := Lib.hid hs
  have HL := Lib.hid hl
  have H1 := Lib.hid h1
  clear hs hl h1
  go_enter Tryz.func23, Tryz.ntmps23
  go_wp2_with (at_builtin; refine wpList_append_src rfl (.const (.slice none 0 0)) (.tmp 6) 26 rfl w.heap.size 69 i0 _ 3 32 Tryz.underlying26 hi0 hz0 hz1 hz2 rfl (by decide) (.slice none 0 0) 0 [] rfl (World.ownsRow_nil _ _ _ _) v n xs rfl HS.out HL.out H1.out (by unfold maxLen; omega) (by omega) (Nat.le_refl _) ?_; intro v' w1 own1 fr1; rw [Nat.zero_add, List.nil_append] at own1; obtain ⟨ra, rc, rfl⟩ := own_slice own1; have HO := Lib.hid own1; have HF := Lib.hid fr1; clear own1 fr1)
  go_ret
  exact ⟨_, w1, HO.out, HF.out.mono (fun k _ hk => by simp [OwnOf, Value.ownBlock] at hk), rfl, rfl⟩

theorem refcopy_any {S : Nat → Prop} {w : World} {b : Nat} {m : List Reg} (h : RefAt w b m S) (hm : m.length ≤ 1000000) :
    Calls Tryz.prog 23 #[.pointer (some ⟨b, 0, none⟩)] w fun e w' => ∃ b', e = .returned (.pointer (some ⟨b', 0, none⟩)) ∧ Fr No w w' ∧ RefAt w' b' m (Made w w') := by
  obtain ⟨v, hc, ⟨rfl, rfl⟩ | ⟨g, cap, rfl, hcap, h0, hc2, ho, hne, hS⟩⟩ := h.list
  · refine (refcopy_zero b w hc).mono ?_
    rintro e w' ⟨rfl, rfl⟩
    refine ⟨_, rfl, (Fr.refl _ _).alloc _, ⟨h.wf, ⟨_, by rw [World.cell?_alloc_new]; rfl, .inl ⟨rfl, rfl⟩⟩, ?_, Nat.le_refl _, by simp⟩⟩
    have := heap_alloc_new w (.cells #[.slice none 0 0] 58)
    unfold World.frozen?
    dsimp only
    rw [this]
    simp
  · refine (refcopy_walk b m.length _ (aflat m) w hc (.inr ⟨_, _, rfl, fun j v hj => ?_⟩) (aflat_length _) (raflat_one _) hm).mono ?_
    · have := hc2 j v hj
      rw [Nat.zero_add] at this
      rw [show (⟨g, 0, none⟩ : Addr).add j = ⟨g, j, none⟩ by unfold Addr.add; split <;> simp_all]
      exact this
    · rintro e w' ⟨v', w1, own, hf, rfl, rfl⟩
      rcases own.2 with ⟨rfl, hz⟩ | ⟨g', cap', cur, rfl, hb, hg, hcc, _, _, hx⟩
      · omega
      · obtain ⟨g2, cap2, hv2, _, hcells⟩ := cells_of_owns own h0
        injection hv2 with e1 e2 e3
        have e4 := Option.some.inj e1
        injection e4 with e5 _ _
        subst e5 e3
        have hlt := own.lt g' rfl
        refine ⟨_, rfl, hf.alloc _, ⟨h.wf, ⟨_, by rw [World.cell?_alloc_new]; rfl, .inr ⟨g', cap', rfl, hcc, h0, ((Fr.refl No w1).alloc _).cells hcells id, fun j hj => ?_, by omega, ⟨hlt.1, by simp; omega⟩⟩⟩, ?_, ⟨hf.size, by simp⟩⟩⟩
        · have := ((Fr.refl No w1).alloc (.cells #[.slice (some ⟨g', 0, none⟩) m.length cap'] 58)).opened hlt.2 (off := 0) (n := m.length * 3) (fun j _ => by rw [Nat.zero_add]; exact own.frozenAt j) id
          exact this j hj
        · have := heap_alloc_new w1 (.cells #[.slice (some ⟨g', 0, none⟩) m.length cap'] 58)
          unfold World.frozen?
          dsimp only
          rw [this]
          simp

end Go.Proofs.YtlinnhaodkiolaaGreat
