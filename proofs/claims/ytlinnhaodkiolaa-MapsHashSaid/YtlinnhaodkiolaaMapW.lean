/- maps: what New and Copy hold while they gather the tables. No condition. -/
import Derived.Test.YtlinnhaodkiolaaMapV
namespace Go.Proofs.Ytlinnhaodkiolaa
open Go.RowKit

theorem Try.info_str : (Try.prog.info? 9).map (fun i => (i.zero, i.size, i.bytes)) = some (some (.string ⟨#[]⟩), 1, 16) := by kernel_rfl
theorem Try.info_table : (Try.prog.info? 77).map (fun i => (i.zero, i.size, i.bytes)) = some (some .nilIface, 1, 16) := by kernel_rfl

theorem make_hash (n : Nat) (hn : n ≤ 1000000) (w : World) : (Instr.makeSlice 74 (.int .i64 n) (.int .i64 n)).run Try.prog w = .ok (.slice (some ⟨w.heap.size, 0, none⟩) n n) (w.alloc (.cells (strs (List.replicate n [])).toArray 9)) := by
  obtain ⟨i0, hi, hz0, hz1, hz2⟩ := info_parts Try.info_str
  have h := run_make (P := Try.prog) w 74 9 i0 (.string ⟨#[]⟩) Try.underlying74 hi hz0 .i64 .i64 n n (by omega) (by omega) (by rw [hz2]; omega) (by omega)
  rw [h, hz1]
  clear h hn
  simp only [Int.toNat_natCast, Nat.mul_one]
  have e : ∀ A B : Array Value, A = B → (Result.ok (Value.slice (some ⟨w.heap.size, 0, none⟩) n n) (w.alloc (.cells A 9)) : Result Value) = .ok (.slice (some ⟨w.heap.size, 0, none⟩) n n) (w.alloc (.cells B 9)) := fun A B h => by rw [h]
  refine e _ _ ?_
  apply Array.ext'
  simp [madeCells, strs, Value.cells, Nat.mod_one]
  apply List.ext_getElem?
  intro j
  simp only [List.getElem?_replicate]
  by_cases hj : j < n <;> simp [hj]

theorem MapsIn.to {S : Nat → Prop} {w w' : World} {v : Value} {l : List MapD} (h : MapsIn w v l) (hf : Fr S w w') (hn : ∀ k, v.ownBlock = some k → ¬ S k) : MapsIn w' v l := by
  rcases h with h | ⟨g, off, cap, rfl, hc⟩
  · exact .inl h
  · exact .inr ⟨g, off, cap, rfl, hf.cells hc (hn _ rfl)⟩

/-- a slice that begins a block -/
def Heads (v : Value) : Prop := ∀ a n c, v = .slice (some a) n c → a = ⟨a.block, 0, none⟩

/-- k tables are gathered -/
structure NewI (w : World) (b mb : Nat) (lv : Value) (ds : List MapD) (ts : List Tab) (k : Nat) (tabs : List HTab) (v : Value) (wr : World) : Prop where
  fr : Fr No w wr
  lo : w.heap.size ≤ b
  c0 : wr.cell? ⟨b, 0, none⟩ = some (.bool true)
  c1 : wr.cell? ⟨b, 1, none⟩ = some lv
  c2 : wr.cell? ⟨b, 2, none⟩ = some v
  c3 : wr.cell? ⟨b, 3, none⟩ = some (.pointer (some ⟨mb, 0, none⟩))
  free : wr.frozen? ⟨b, 2, none⟩ = false
  maps : MapsIn wr lv ds
  eqt : tabs.map (·.t) = ts.take k
  own : wr.ownsRow w.heap.size 77 1 v k (tabs.map HTab.cell)
  ok : ∀ x ∈ tabs, x.t.ok
  here : ∀ x ∈ tabs, x.t.d.kind = 2 → x.here wr ∧ w.heap.size ≤ x.h ∧ x.h ≠ b ∧ lv.ownBlock ≠ some x.h
  apart : tabs.Pairwise fun x y => x.t.d.kind = 2 → y.t.d.kind = 2 → x.h ≠ y.h
  ne : ∀ g, v.ownBlock = some g → g ≠ b ∧ (∀ x ∈ tabs, x.t.d.kind = 2 → g ≠ x.h) ∧ lv.ownBlock ≠ some g
  nel : lv.ownBlock ≠ some b

theorem NewI.lt {w wr : World} {b mb k : Nat} {lv v : Value} {ds : List MapD} {ts : List Tab} {tabs : List HTab} (h : NewI w b mb lv ds ts k tabs v wr) : b < wr.heap.size := World.block_lt_of_cell? wr _ h.c0

theorem NewI.to {w wr W : World} {b mb k : Nat} {lv v : Value} {ds : List MapD} {ts : List Tab} {tabs : List HTab} (h : NewI w b mb lv ds ts k tabs v wr) (hf : Fr No wr W) : NewI w b mb lv ds ts k tabs v W where
  fr := h.fr.trans hf
  lo := h.lo
  c0 := hf.cell h.c0 id
  c1 := hf.cell h.c1 id
  c2 := hf.cell h.c2 id
  c3 := hf.cell h.c3 id
  free := by rw [hf.frozen h.c2 id]; exact h.free
  maps := h.maps.fr hf
  eqt := h.eqt
  own := ownsRow_fr h.own hf (fun _ _ => id)
  ok := h.ok
  here := fun x hx h2 => ⟨(h.here x hx h2).1.fr hf id (by have := (h.ok x hx).bounds; omega), (h.here x hx h2).2⟩
  apart := h.apart
  ne := h.ne
  nel := h.nel

theorem MapsIn.lt {w : World} {v : Value} {l : List MapD} (h : MapsIn w v l) (h0 : 0 < l.length) {g : Nat} (hg : v.ownBlock = some g) : g < w.heap.size := by
  rcases h with ⟨rfl, _⟩ | ⟨g', off, cap, rfl, hc⟩
  · simp at h0
  · simp [Value.ownBlock] at hg
    subst hg
    exact World.block_lt_of_cell? w _ (hc (0 * 4 + 0) _ (mflat_get l 0 0 h0 (by omega)))

/-- one table more -/
theorem NewI.step {w wr W w1 : World} {b mb k g cap : Nat} {lv v : Value} {ds : List MapD} {ts : List Tab} {tabs : List HTab} (h : NewI w b mb lv ds ts k tabs v wr) (x : HTab) (hx : ts[k]? = some x.t) (hok : x.t.ok) (h0 : 0 < ds.length) (hW : Fr No wr W)
    (hh : x.t.d.kind = 2 → x.here W ∧ wr.heap.size ≤ x.h ∧ x.h < W.heap.size) (own : w1.ownsRow w.heap.size 77 1 (.slice (some ⟨g, 0, none⟩) (k + 1) cap) (k + 1) (tabs.map HTab.cell ++ [x.cell])) (hf : Fr (OwnOf v) W w1)
    (hg : v.ownBlock = some g ∨ W.heap.size ≤ g) :
    NewI w b mb lv ds ts (k + 1) (tabs ++ [x]) (.slice (some ⟨g, 0, none⟩) (k + 1) cap) (w1.setCell ⟨b, 2, none⟩ (.slice (some ⟨g, 0, none⟩) (k + 1) cap)) := by
  have hs := h.to hW
  have hbW := hs.lt
  have hsz := hW.size
  have hblt := h.lt
  have hvb : ∀ q, OwnOf v q → q ≠ b := fun q hq => (h.ne q hq).1
  have hgb : g ≠ b := by
    rcases hg with hg | hg
    · exact (h.ne g hg).1
    · omega
  have hlvlt : ∀ q, lv.ownBlock = some q → q < wr.heap.size := fun q hq => h.maps.lt h0 hq
  have hgl : lv.ownBlock ≠ some g := by
    rcases hg with hg | hg
    · exact (h.ne g hg).2.2
    · intro e; have := hlvlt g e; omega
  have hS : Fr (fun q => OwnOf v q ∨ q = b) W (w1.setCell ⟨b, 2, none⟩ (.slice (some ⟨g, 0, none⟩) (k + 1) cap)) := (hf.mono (fun _ _ hk => .inl hk) : Fr (fun q => OwnOf v q ∨ q = b) W w1).setCell (p := ⟨b, 2, none⟩) (.inr (.inr rfl)) _
  have hnb : ¬ OwnOf v b := fun hb => hvb b hb rfl
  have hhere : ∀ y : HTab, y.here W → y.t.ok → y.h ≠ b → (¬ OwnOf v y.h) → y.here (w1.setCell ⟨b, 2, none⟩ (.slice (some ⟨g, 0, none⟩) (k + 1) cap)) := fun y hy hyo h1 h2 =>
    hy.fr hS (fun hq => hq.elim h2 h1) (by have := hyo.bounds; omega)
  have hltb : ∀ y ∈ tabs, y.t.d.kind = 2 → y.h < wr.heap.size := fun y hy h2 => (h.here y hy h2).1.lt (by have := (h.ok y hy).bounds; omega)
  have hxv : x.t.d.kind = 2 → ¬ OwnOf v x.h := fun h2 hq => by
    have := (h.own.lt x.h hq).2
    have := (hh h2).2.1
    omega
  refine ⟨?_, h.lo, ?_, ?_, ?_, ?_, ?_, ?_, ?_, ?_, ?_, ?_, ?_, ?_, h.nel⟩
  · have a1 : Fr (From w) w w1 := (h.fr.trans hW).any.trans (hf.mono fun q _ hq => by have := (h.own.lt q hq).1; exact this)
    exact (a1.setCell (p := ⟨b, 2, none⟩) (.inl h.lo) _).ours
  · rw [World.cell?_setCell_other _ _ _ _ (by simp)]
    exact hf.cell hs.c0 hnb
  · rw [World.cell?_setCell_other _ _ _ _ (by simp)]
    exact hf.cell hs.c1 hnb
  · have := hf.cell hs.c2 hnb
    exact World.cell?_setCell_same _ _ _ (by rw [this])
  · rw [World.cell?_setCell_other _ _ _ _ (by simp)]
    exact hf.cell hs.c3 hnb
  · rw [World.frozen?_setCell, hf.frozen hs.c2 hnb]
    exact hs.free
  · exact hs.maps.to hS (fun q hq hor => hor.elim (fun ho => (h.ne q ho).2.2 hq) (fun e => h.nel (e ▸ hq)))
  · rw [List.map_append, h.eqt, List.take_add_one, hx]; rfl
  · rw [List.map_append]
    refine ownsRow_fr own ((Fr.refl (fun q => q = b) w1).setCell (p := ⟨b, 2, none⟩) (.inr rfl) _) (fun q hq e => ?_)
    simp [Value.ownBlock] at hq
    exact hgb (hq.trans e)
  · intro y hy
    rcases List.mem_append.1 hy with hy | hy
    · exact h.ok y hy
    · rw [List.mem_singleton.1 hy]; exact hok
  · intro y hy h2
    rcases List.mem_append.1 hy with hy | hy
    · obtain ⟨a1, a2, a3, a4⟩ := hs.here y hy h2
      exact ⟨hhere y a1 (h.ok y hy) a3 (fun hq => (h.ne _ hq).2.1 y hy h2 rfl), a2, a3, a4⟩
    · obtain rfl := List.mem_singleton.1 hy
      obtain ⟨a1, a2, a3⟩ := hh h2
      have := h.fr.size
      exact ⟨hhere y a1 hok (by omega) (hxv h2), by omega, by omega, fun e => by have := hlvlt _ e; omega⟩
  · rw [List.pairwise_append]
    refine ⟨h.apart, by simp, fun y hy z hz hy2 hz2 => ?_⟩
    obtain rfl := List.mem_singleton.1 hz
    have := hltb y hy hy2
    have := (hh hz2).2.1
    omega
  · intro q hq
    simp [Value.ownBlock] at hq
    subst hq
    refine ⟨hgb, fun y hy h2 => ?_, hgl⟩
    rcases List.mem_append.1 hy with hy | hy
    · rcases hg with hg | hg
      · exact (h.ne g hg).2.1 y hy h2
      · have := hltb y hy h2; omega
    · obtain rfl := List.mem_singleton.1 hy
      rcases hg with hg | hg
      · exact fun e => hxv h2 (e ▸ hg)
      · have := (hh h2).2.2; omega

/-- what maps of its own, made since w, a call hands back -/
def MadeMaps (w : World) (b mb : Nat) (S : List Tab) (R : Nat → Prop) (w' : World) : Prop :=
  ∃ A H, MapsAt w' b mb S A H ∧ (∀ k, A k → (w.heap.size ≤ k ∧ k < w'.heap.size) ∨ R k) ∧ (∀ k, H k → w.heap.size ≤ k ∧ k < w'.heap.size)

theorem NewI.done {w wr : World} {b mb : Nat} {lv v : Value} {ds : List MapD} {ts : List Tab} {tabs : List HTab} {R : Nat → Prop} (h : NewI w b mb lv ds ts ds.length tabs v wr) (hts : ts.map (·.d) = ds) (h4 : ds.length ≤ 4) (hl : ∀ g, lv.ownBlock = some g → (w.heap.size ≤ g ∧ g < wr.heap.size) ∨ R g)
    (hR : ∀ k, R k → k < w.heap.size) (hlh : Heads lv) : MadeMaps w b mb ts R wr := by
  have hb := h.lt
  have hlen : ts.length = ds.length := by rw [← hts]; simp
  have htabs : tabs.map (·.t) = ts := by rw [h.eqt, List.take_of_length_le (by omega)]
  have htl : tabs.length = ds.length := by rw [← hlen, ← htabs]; simp
  have hmaps : tabs.map (fun x => x.t.d) = ds := by rw [← hts, ← htabs, List.map_map]; rfl
  refine ⟨fun k => k = b ∨ lv.ownBlock = some k ∨ v.ownBlock = some k, fun k => ∃ x ∈ tabs, x.t.d.kind = 2 ∧ k = x.h, ⟨tabs, htabs, h.c0, h.c3, ⟨lv, v, h.c1, h.c2, ?_⟩, h.ok, fun x hx h2 => ⟨(h.here x hx h2).1, x, hx, h2, rfl⟩, h.apart, .inl rfl, by omega, ?_⟩, ?_, ?_⟩
  · have hm := h.maps
    rcases Nat.eq_zero_or_pos ds.length with h0 | h0
    · have hd := List.eq_nil_of_length_eq_zero h0
      have ht0 : tabs = [] := List.eq_nil_of_length_eq_zero (by omega)
      obtain ⟨a, c, hv⟩ := hm.form
      rw [h0] at hv
      have ho := h.own
      rw [h0] at ho
      rcases ho.2 with ⟨rfl, _⟩ | ⟨g, cap, cur, rfl, _⟩
      · exact .inl ⟨ht0, a, c, _, _, hv, rfl⟩
      · exact .inl ⟨ht0, a, c, _, _, hv, rfl⟩
    · obtain ⟨gt, ct, hv, _, hcells⟩ := cells_of_owns h.own h0
      rcases hm with ⟨hd, _⟩ | ⟨gl, off, cl, hlv, hc⟩
      · rw [hd] at h0; simp at h0
      · have := hlh _ _ _ hlv
        simp at this
        subst this
        exact .inr ⟨gl, cl, gt, ct, by rw [hlv, htl], by rw [hv, htl], by rw [hmaps]; exact hc, hcells, .inr (.inl (by rw [hlv]; rfl)), .inr (.inr (by rw [hv]; rfl))⟩
  · rintro k hk ⟨x, hx, h2, rfl⟩
    rcases hk with hk | hk | hk
    · exact (h.here x hx h2).2.2.1 hk
    · exact (h.here x hx h2).2.2.2 hk
    · exact (h.ne _ hk).2.1 x hx h2 rfl
  · rintro k (rfl | hk | hk)
    · exact .inl ⟨h.lo, hb⟩
    · exact hl k hk
    · exact .inl (h.own.lt k hk)
  · rintro k ⟨x, hx, h2, rfl⟩
    exact ⟨(h.here x hx h2).2.1, (h.here x hx h2).1.lt (by have := (h.ok x hx).bounds; omega)⟩

end Go.Proofs.Ytlinnhaodkiolaa
