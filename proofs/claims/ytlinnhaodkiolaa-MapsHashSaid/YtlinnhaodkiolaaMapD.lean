/- Maps without the program: what they are, the keys at their places, the values in a memory. No condition. -/
import Derived.Test.YtlinnhaodkiolaaMem5
namespace Go.Proofs.Ytlinnhaodkiolaa
open Go.RowKit

structure MapD where
  kind : Int
  key : Int
  value : Int
  max : Int

def MapD.keyOk (x : MapD) : Bool := (x.kind == 1 && x.key == 4) || (x.kind == 2 && decide (1 ≤ x.key) && decide (x.key ≤ 8))
def MapD.may (x : MapD) : Bool := x.keyOk && decide (1 ≤ x.value) && decide (x.value ≤ 64) && decide (1 ≤ x.max) && decide (x.max ≤ 16)
def mayL (l : List MapD) : Bool := decide (l.length ≤ 4) && l.all MapD.may

theorem MapD.may_iff (x : MapD) : x.may = true ↔ ((x.kind = 1 ∧ x.key = 4) ∨ (x.kind = 2 ∧ 1 ≤ x.key ∧ x.key ≤ 8)) ∧ 1 ≤ x.value ∧ x.value ≤ 64 ∧ 1 ≤ x.max ∧ x.max ≤ 16 := by
  unfold MapD.may MapD.keyOk
  simp only [Bool.and_eq_true, Bool.or_eq_true, beq_iff_eq, decide_eq_true_eq]
  constructor
  · rintro ⟨⟨⟨⟨h, a⟩, b⟩, c⟩, d⟩
    exact ⟨by omega, a, b, c, d⟩
  · rintro ⟨h, a, b, c, d⟩
    exact ⟨⟨⟨⟨by omega, a⟩, b⟩, c⟩, d⟩

theorem mayL_iff (l : List MapD) : mayL l = true ↔ l.length ≤ 4 ∧ ∀ x ∈ l, x.may = true := by
  unfold mayL; simp

def MapD.cells (x : MapD) : List Value := [.int .i64 x.kind, .int .i64 x.key, .int .i64 x.value, .int .i64 x.max]
def mflat (l : List MapD) : List Value := l.flatMap MapD.cells

theorem mflat_length (l : List MapD) : (mflat l).length = l.length * 4 := by
  induction l with
  | nil => rfl
  | cons x l ih => simp only [mflat, List.flatMap_cons, List.length_append, MapD.cells, List.length_cons, List.length_nil] at *; omega

theorem mflat_get (l : List MapD) (i c : Nat) (hi : i < l.length) (hc : c < 4) : (mflat l)[i * 4 + c]? = some (l[i].cells[c]'(by simpa [MapD.cells] using hc)) := by
  induction l generalizing i with
  | nil => simp at hi
  | cons x l ih =>
    simp only [mflat, List.flatMap_cons]
    cases i with
    | zero =>
      rw [List.getElem?_append_left (by simp [MapD.cells]; omega)]
      simp only [Nat.zero_mul, Nat.zero_add, List.getElem_cons_zero]
      exact List.getElem?_eq_getElem _
    | succ i =>
      rw [List.getElem?_append_right (by simp [MapD.cells]; omega)]
      have := ih i (by simpa using hi)
      simp only [mflat] at this
      rw [show (i + 1) * 4 + c - x.cells.length = i * 4 + c by simp [MapD.cells]; omega, this]
      simp

theorem mflat_one (l : List MapD) : ∀ u ∈ mflat l, u.oneCell' = true := fun v hv => by
  obtain ⟨x, _, hx⟩ := List.mem_flatMap.1 hv
  simp [MapD.cells] at hx
  rcases hx with rfl | rfl | rfl | rfl <;> simp [Value.oneCell']

/-- the cells of the map i -/
theorem map_cells {w : World} {g off : Nat} {l : List MapD} (h : CellsAt w g off (mflat l)) {k : Nat} {x : MapD} (hr : l[k]? = some x) :
    w.cell? ⟨g, off + k * 4, none⟩ = some (.int .i64 x.kind) ∧ w.cell? ⟨g, off + k * 4 + 1, none⟩ = some (.int .i64 x.key) ∧ w.cell? ⟨g, off + k * 4 + 2, none⟩ = some (.int .i64 x.value) ∧ w.cell? ⟨g, off + k * 4 + 3, none⟩ = some (.int .i64 x.max) := by
  obtain ⟨hk, hx⟩ := List.getElem?_eq_some_iff.1 hr
  have c0 := h (k * 4 + 0) _ (mflat_get l k 0 hk (by omega))
  have c1 := h (k * 4 + 1) _ (mflat_get l k 1 hk (by omega))
  have c2 := h (k * 4 + 2) _ (mflat_get l k 2 hk (by omega))
  have c3 := h (k * 4 + 3) _ (mflat_get l k 3 hk (by omega))
  rw [hx] at c0 c1 c2 c3
  exact ⟨c0, c1, c2, c3⟩

def mbase (i : Nat) : Int := 1048576 + (i : Int) * 65536

/-- a map's region, empty -/
def MapD.reg (x : MapD) (i : Nat) : Reg := ⟨mbase i, List.replicate (x.value * x.max).toNat 0, true⟩
def mregsFrom : Nat → List MapD → List Reg
  | _, [] => []
  | i, x :: l => x.reg i :: mregsFrom (i + 1) l
def mregs (l : List MapD) : List Reg := mregsFrom 0 l

theorem mregsFrom_length : ∀ (l : List MapD) (i : Nat), (mregsFrom i l).length = l.length
  | [], _ => rfl
  | _ :: l, i => by simp [mregsFrom, mregsFrom_length l]
theorem mregsFrom_get : ∀ (l : List MapD) (i k : Nat), (mregsFrom i l)[k]? = (l[k]?).map (fun x => x.reg (i + k))
  | [], _, _ => by simp [mregsFrom]
  | x :: l, i, 0 => by simp [mregsFrom]
  | x :: l, i, k + 1 => by
    simp only [mregsFrom, List.getElem?_cons_succ, mregsFrom_get l (i + 1) k]
    rw [show i + 1 + k = i + (k + 1) by omega]
theorem mregs_length (l : List MapD) : (mregs l).length = l.length := mregsFrom_length l 0
theorem mregs_get (l : List MapD) (k : Nat) : (mregs l)[k]? = (l[k]?).map (fun x => x.reg k) := by
  unfold mregs; rw [mregsFrom_get, Nat.zero_add]

/-- a map, and the keys at its places (of none the empty one) -/
structure Tab where
  d : MapD
  ks : List (List UInt8)

def arrKeys (n : Nat) : List (List UInt8) := (List.range n).map (leBytes 4)

structure Tab.ok (t : Tab) : Prop where
  may : t.d.may = true
  len : (t.ks.length : Int) = t.d.max
  arr : t.d.kind = 1 → t.ks = arrKeys t.ks.length
  hash : t.d.kind = 2 → ∀ k ∈ t.ks, k = [] ∨ (k.length : Int) = t.d.key

theorem Tab.ok.kinds {t : Tab} (h : t.ok) : t.d.kind = 1 ∨ t.d.kind = 2 := by
  have := (MapD.may_iff _).1 h.may
  omega
theorem Tab.ok.key1 {t : Tab} (h : t.ok) (h1 : t.d.kind = 1) : t.d.key = 4 := by
  have := (MapD.may_iff _).1 h.may
  omega
theorem Tab.ok.bounds {t : Tab} (h : t.ok) : 1 ≤ t.d.key ∧ t.d.key ≤ 8 ∧ 1 ≤ t.d.value ∧ t.d.value ≤ 64 ∧ 1 ≤ t.d.max ∧ t.d.max ≤ 16 ∧ 1 ≤ t.ks.length ∧ t.ks.length ≤ 16 := by
  have := (MapD.may_iff _).1 h.may
  have := h.len
  omega

def Tab.find (t : Tab) (key : List UInt8) : Option Nat := t.ks.findIdx? (· == key)
def Tab.lay (t : Tab) (p : Nat) (key : List UInt8) : Tab := ⟨t.d, t.ks.set p key⟩
def Tab.new (d : MapD) : Tab := ⟨d, if d.kind = 1 then arrKeys d.max.toNat else List.replicate d.max.toNat []⟩

theorem find_some {t : Tab} {key : List UInt8} {p : Nat} (h : t.find key = some p) : p < t.ks.length ∧ t.ks[p]? = some key := by
  unfold Tab.find at h
  rw [List.findIdx?_eq_some_iff_getElem] at h
  obtain ⟨h1, h2, _⟩ := h
  exact ⟨h1, by rw [List.getElem?_eq_getElem h1]; simpa using h2⟩
theorem find_none {t : Tab} {key : List UInt8} : t.find key = none ↔ ∀ k ∈ t.ks, k ≠ key := by
  unfold Tab.find
  rw [List.findIdx?_eq_none_iff]
  simp

theorem arr_inj {a b : Nat} (ha : a < 4294967296) (hb : b < 4294967296) (h : leBytes 4 a = leBytes 4 b) : a = b := by
  have h1 := leNum_leBytes 4 a
  have h2 := leNum_leBytes 4 b
  rw [h, h2] at h1
  omega

/-- of an array the key's number is its place -/
theorem find_arr {t : Tab} (ht : t.ok) (h1 : t.d.kind = 1) (key : List UInt8) (hk : key.length = 4) : t.find key = if leNum key < t.ks.length then some (leNum key) else none := by
  have hb := ht.bounds
  have hka := ht.arr h1
  have hval : leBytes 4 (leNum key) = key := by have := leBytes_leNum key; rwa [hk] at this
  have hlt : leNum key < 4294967296 := by have := leNum_lt key; rw [hk] at this; simpa using this
  have hget : ∀ j (hj : j < t.ks.length), t.ks[j] = leBytes 4 j := fun j hj => by
    have : t.ks[j]? = (arrKeys t.ks.length)[j]? := by rw [← hka]
    rw [List.getElem?_eq_getElem hj] at this
    simp [arrKeys, hj] at this
    exact this
  by_cases h : leNum key < t.ks.length
  · rw [if_pos h]
    unfold Tab.find
    rw [List.findIdx?_eq_some_iff_getElem]
    refine ⟨h, ?_, fun j hj => ?_⟩
    · rw [hget _ h, hval]; simp
    · rw [hget _ (by omega)]
      intro he
      simp at he
      have := arr_inj (a := j) (b := leNum key) (by omega) hlt (he.trans hval.symm)
      omega
  · rw [if_neg h]
    rw [find_none]
    intro k hkm he
    obtain ⟨j, hj, rfl⟩ := List.getElem_of_mem hkm
    rw [hget j hj] at he
    have := arr_inj (a := j) (b := leNum key) (by omega) hlt (he.trans hval.symm)
    omega

theorem Tab.new_ok {d : MapD} (h : d.may = true) : (Tab.new d).ok := by
  have hm := (MapD.may_iff _).1 h
  refine ⟨h, ?_, ?_, ?_⟩
  · unfold Tab.new
    split <;> simp [arrKeys] <;> omega
  · intro h1
    have h1 : d.kind = 1 := h1
    simp [Tab.new, h1, arrKeys]
  · intro h2 k hk
    have h2 : d.kind = 2 := h2
    simp [Tab.new, h2] at hk
    exact .inl hk.2

theorem Tab.lay_ok {t : Tab} (h : t.ok) {p : Nat} {key : List UInt8} (h2 : t.d.kind = 2) (hk : key = [] ∨ (key.length : Int) = t.d.key) : (t.lay p key).ok := by
  refine ⟨h.may, by simpa [Tab.lay] using h.len, fun h1 => ?_, fun _ k hkm => ?_⟩
  · have h1 : t.d.kind = 1 := h1
    omega
  · rcases List.mem_or_eq_of_mem_set hkm with hm | rfl
    · exact h.hash h2 k hm
    · exact hk

/-- a map that is there, and has such keys -/
def mhas (S : List Tab) (i : Int) (key : List UInt8) : Option Tab :=
  if 0 ≤ i then (match S[i.toNat]? with | some t => if (key.length : Int) = t.d.key then some t else none | none => none) else none

theorem mhas_some {S : List Tab} {i : Int} {key : List UInt8} {t : Tab} (h : mhas S i key = some t) : ∃ k : Nat, i = k ∧ S[k]? = some t ∧ (key.length : Int) = t.d.key := by
  unfold mhas at h
  split at h
  · obtain ⟨k, rfl⟩ := Int.eq_ofNat_of_zero_le (show 0 ≤ i by assumption)
    refine ⟨k, rfl, ?_⟩
    rw [Int.toNat_natCast] at h
    split at h
    · split at h
      · obtain rfl := Option.some.inj h
        exact ⟨by assumption, by assumption⟩
      · cases h
    · cases h
  · cases h
theorem mhas_of {S : List Tab} {k : Nat} {key : List UInt8} {t : Tab} (h : S[k]? = some t) (hk : (key.length : Int) = t.d.key) : mhas S k key = some t := by
  unfold mhas
  rw [if_pos (by omega), Int.toNat_natCast, h]
  simp [hk]

def mplace (i p : Nat) (t : Tab) : Int := mbase i + (p : Int) * t.d.value

def mlookup (S : List Tab) (i : Int) (key : List UInt8) : Int :=
  match mhas S i key with
  | none => 0
  | some t => match t.find key with
    | none => 0
    | some p => mplace i.toNat p t

def mupdate (S : List Tab) (m : List Reg) (i : Int) (key val : List UInt8) : (List Tab × List Reg) × Int :=
  match mhas S i key with
  | none => ((S, m), -22)
  | some t => if (val.length : Int) = t.d.value then
      match t.find key with
      | some p => ((S, mput m (mplace i.toNat p t) val), 0)
      | none => if t.d.kind = 1 then ((S, m), -2) else
        match t.find [] with
        | none => ((S, m), -7)
        | some p => ((S.set i.toNat (t.lay p key), mput m (mplace i.toNat p t) val), 0)
    else ((S, m), -22)

def mdelete (S : List Tab) (i : Int) (key : List UInt8) : List Tab × Int :=
  match mhas S i key with
  | none => (S, -22)
  | some t => if t.d.kind = 1 then (S, -22) else
    match t.find key with
    | none => (S, -2)
    | some p => (S.set i.toNat (t.lay p []), 0)

/-- the entries of the first n places -/
def mentriesTo (m : List Reg) (i : Nat) (t : Tab) (n : Nat) : List (List UInt8 × List UInt8) :=
  (List.range n).filterMap fun p => match t.ks[p]? with
    | some k => if k = [] then none else some (k, (mtext m (mplace i p t) t.d.value).1)
    | none => none

def mentries (S : List Tab) (m : List Reg) (i : Int) : List (List UInt8 × List UInt8) :=
  if 0 ≤ i then (match S[i.toNat]? with | some t => mentriesTo m i.toNat t t.ks.length | none => []) else []

/-! ### the memory under them -/

theorem spot_of {m : List Reg} (h : WF m) {j : Nat} {r : Reg} (hr : m[j]? = some r) {addr n : Int} (h1 : 1 ≤ n) (hh : r.has addr n = true) : spot m addr n = some j := by
  obtain ⟨hj, hje⟩ := List.getElem?_eq_some_iff.1 hr
  unfold spot
  rw [List.findIdx?_eq_some_iff_getElem]
  refine ⟨hj, by rw [hje]; exact hh, fun t ht he => ?_⟩
  have hp := List.pairwise_iff_getElem.1 h.apart t j (by omega) hj ht
  rw [hje] at hp
  have a := (Reg.has_iff _ _ _).1 hh
  have b := (Reg.has_iff _ _ _).1 he
  unfold Reg.len at hp
  omega

theorem put_nil (r : Reg) (addr : Int) : r.put addr [] = r := by
  unfold Reg.put
  simp

theorem mput_nil (m : List Reg) (addr : Int) : mput m addr [] = m := by
  unfold mput
  split
  · rfl
  · rename_i i _
    apply List.ext_getElem?
    intro j
    rw [List.getElem?_modify]
    split
    · subst_vars
      cases hm : m[j]? <;> simp [put_nil]
    · cases hm : m[j]? <;> simp

theorem mput_at {m : List Reg} (h : WF m) {j : Nat} {r : Reg} (hr : m[j]? = some r) {addr : Int} {bs : List UInt8} (h0 : r.base ≤ addr) (h1 : addr + bs.length ≤ r.base + (r.data.length : Int)) : mput m addr bs = m.modify j (·.put addr bs) := by
  cases bs with
  | nil =>
    rw [mput_nil]
    apply List.ext_getElem?
    intro t
    rw [List.getElem?_modify]
    split
    · subst_vars
      cases hm : m[t]? <;> simp [put_nil]
    · cases hm : m[t]? <;> simp
  | cons b bs =>
    unfold mput
    rw [spot_of h hr (by simp; omega) ((Reg.has_iff _ _ _).2 ⟨h0, h1⟩)]

theorem put_length (r : Reg) (addr : Int) (bs : List UInt8) (h0 : r.base ≤ addr) (h1 : addr + bs.length ≤ r.base + (r.data.length : Int)) : (r.put addr bs).data.length = r.data.length := by
  unfold Reg.put
  simp
  omega

theorem WF.mput {m : List Reg} (h : WF m) {j : Nat} {r : Reg} (hr : m[j]? = some r) {addr : Int} {bs : List UInt8} (h0 : r.base ≤ addr) (h1 : addr + bs.length ≤ r.base + (r.data.length : Int)) : WF (mput m addr bs) := by
  rw [mput_at h hr h0 h1]
  refine h.same (by simp) (fun i hi hi' => ?_)
  rw [List.getElem_modify]
  obtain ⟨hj, hje⟩ := List.getElem?_eq_some_iff.1 hr
  split
  · subst_vars
    exact ⟨rfl, put_length _ _ _ h0 h1⟩
  · exact ⟨rfl, rfl⟩

theorem mput_get {m : List Reg} (h : WF m) {j : Nat} {r : Reg} (hr : m[j]? = some r) {addr : Int} {bs : List UInt8} (h0 : r.base ≤ addr) (h1 : addr + bs.length ≤ r.base + (r.data.length : Int)) (i : Nat) : (mput m addr bs)[i]? = if i = j then some (r.put addr bs) else m[i]? := by
  rw [mput_at h hr h0 h1, List.getElem?_modify]
  by_cases hij : i = j
  · subst hij
    simp [hr]
  · rw [if_neg hij]
    have hji : ¬ j = i := fun e => hij e.symm
    cases hm : m[i]? <;> simp [hji]

theorem put_snoc (r : Reg) (addr : Int) (bs : List UInt8) (b : UInt8) (h0 : r.base ≤ addr) (h1 : addr + bs.length + 1 ≤ r.base + (r.data.length : Int)) : (r.put addr bs).put (addr + bs.length) [b] = r.put addr (bs ++ [b]) := by
  obtain ⟨f, hf⟩ : ∃ f : Nat, (addr - r.base).toNat = f := ⟨_, rfl⟩
  have hf2 : f + bs.length + 1 ≤ r.data.length := by omega
  have e : (addr + bs.length - r.base).toNat = f + bs.length := by omega
  unfold Reg.put
  simp only [hf, e]
  congr 1
  have l1 : (r.data.take f).length = f := by simp; omega
  have l2 : (r.data.take f ++ bs).length = f + bs.length := by simp [l1]
  rw [List.take_append_of_le_length (by rw [l2]; exact Nat.le_refl _), List.take_of_length_le (by rw [l2]; exact Nat.le_refl _)]
  simp only [List.length_append, List.length_cons, List.length_nil]
  rw [List.drop_append, l2, List.drop_of_length_le (by rw [l2]; omega), List.nil_append, List.drop_drop]
  rw [show f + bs.length + (f + bs.length + (0 + 1) - (f + bs.length)) = f + (bs.length + (0 + 1)) by omega]
  simp [List.append_assoc]

theorem leBytes_one (b : UInt8) : leBytes 1 b.toNat = [b] := by
  simp [leBytes]

/-- one byte more -/
theorem mput_step {m : List Reg} (h : WF m) {j : Nat} {r : Reg} (hr : m[j]? = some r) (hfree : r.free = true) {addr : Int} {bs : List UInt8} {k : Nat} {b : UInt8} (hb : bs[k]? = some b) (h0 : r.base ≤ addr) (h1 : addr + bs.length ≤ r.base + (r.data.length : Int)) :
    mwrite (mput m addr (bs.take k)) (addr + k) 1 b.toNat = (mput m addr (bs.take (k + 1)), 0) := by
  obtain ⟨hk, hbe⟩ := List.getElem?_eq_some_iff.1 hb
  have hlen : (bs.take k).length = k := by simp; omega
  have g1 : addr + (bs.take k).length ≤ r.base + (r.data.length : Int) := by rw [hlen]; omega
  have hw := h.mput hr h0 g1
  have hget := mput_get h hr h0 g1
  have hr2 : (mput m addr (bs.take k))[j]? = some (r.put addr (bs.take k)) := by rw [hget]; simp
  have hl2 := put_length r addr (bs.take k) h0 g1
  have hb2 : (r.put addr (bs.take k)).base = r.base := rfl
  have hs := spot_of hw hr2 (addr := addr + k) (n := 1) (by omega) ((Reg.has_iff _ _ _).2 (by rw [hl2, hb2]; omega))
  unfold mwrite
  rw [if_pos (by rfl), hs]
  simp only [hr2]
  have hfr : (r.put addr (bs.take k)).free = true := hfree
  simp only [Option.map_some, Option.getD_some, hfr, if_true]
  have e1 : leBytes (1 : Int).toNat b.toNat = [b] := leBytes_one b
  rw [e1]
  congr 1
  have hw2 : mput (mput m addr (bs.take k)) (addr + k) [b] = _ := mput_at hw hr2 (by rw [hb2]; omega) (by rw [hl2, hb2]; simp; omega)
  rw [hw2]
  have hsn := put_snoc r addr (bs.take k) b h0 (by rw [hlen]; omega)
  rw [hlen] at hsn
  have htk : bs.take (k + 1) = bs.take k ++ [b] := by rw [List.take_succ_eq_append_getElem hk, hbe]
  rw [htk]
  apply List.ext_getElem?
  intro i
  rw [List.getElem?_modify, hget, mput_get h hr h0 (by rw [← htk]; simp; omega)]
  by_cases hij : i = j
  · subst hij
    simp [hsn]
  · rw [if_neg hij, if_neg hij]
    have hji : ¬ j = i := fun e => hij e.symm
    cases hm : m[i]? <;> simp [hji]

/-- the regions of maps are in a memory -/
def HoldsM (S : List Tab) (m : List Reg) : Prop := ∀ i t, S[i]? = some t → ∃ (j : Nat) (r : Reg), m[j]? = some r ∧ r.base = mbase i ∧ (r.data.length : Int) = t.d.value * t.d.max ∧ r.free = true

theorem HoldsM.mput {S : List Tab} {m : List Reg} (h : HoldsM S m) (hw : WF m) {j : Nat} {r : Reg} (hr : m[j]? = some r) {addr : Int} {bs : List UInt8} (h0 : r.base ≤ addr) (h1 : addr + bs.length ≤ r.base + (r.data.length : Int)) : HoldsM S (mput m addr bs) := by
  intro i t hi
  obtain ⟨j2, r2, a, b, c, d⟩ := h i t hi
  by_cases e : j2 = j
  · subst e
    rw [hr] at a
    obtain rfl := Option.some.inj a
    exact ⟨j2, r.put addr bs, by rw [mput_get hw hr h0 h1, if_pos rfl], b, by rw [put_length _ _ _ h0 h1]; exact c, d⟩
  · exact ⟨j2, r2, by rw [mput_get hw hr h0 h1, if_neg e]; exact a, b, c, d⟩

theorem HoldsM.set {S : List Tab} {m : List Reg} (h : HoldsM S m) {i : Nat} {t t' : Tab} (hi : S[i]? = some t) (hd : t'.d = t.d) : HoldsM (S.set i t') m := by
  intro k u hu
  rw [List.getElem?_set] at hu
  split at hu
  · subst_vars
    split at hu
    · obtain rfl := Option.some.inj hu
      rw [hd]
      exact h _ t hi
    · cases hu
  · exact h k u hu

/-- where a place's value lies, in its region -/
theorem HoldsM.place {S : List Tab} {m : List Reg} (h : HoldsM S m) {i p : Nat} {t : Tab} (hi : S[i]? = some t) (hok : t.ok) (hp : p < t.ks.length) :
    ∃ (j : Nat) (r : Reg), m[j]? = some r ∧ r.base ≤ mplace i p t ∧ mplace i p t + t.d.value ≤ r.base + (r.data.length : Int) ∧ r.free = true ∧ r.base = mbase i ∧ (r.data.length : Int) = t.d.value * t.d.max := by
  obtain ⟨j, r, a, b, c, d⟩ := h i t hi
  have hb := hok.bounds
  have hl := hok.len
  have e0 : 0 ≤ (p : Int) * t.d.value := Int.mul_nonneg (by omega) (by omega)
  have e1 : ((p : Int) + 1) * t.d.value ≤ t.d.max * t.d.value := Int.mul_le_mul_of_nonneg_right (by omega) (by omega)
  rw [Int.add_mul, Int.one_mul, Int.mul_comm t.d.max] at e1
  refine ⟨j, r, a, ?_, ?_, d, b, c⟩ <;> (unfold mplace; rw [b]; omega)

theorem mplace_bounds {i p : Nat} {t : Tab} (hok : t.ok) (hp : p < t.ks.length) (hi : i < 4) : 1048576 ≤ mplace i p t ∧ mplace i p t + t.d.value ≤ 1048576 + (i : Int) * 65536 + 1024 ∧ 0 ≤ (p : Int) * t.d.value ∧ (p : Int) * t.d.value ≤ 1024 := by
  have hb := hok.bounds
  have hl := hok.len
  have e0 : 0 ≤ (p : Int) * t.d.value := Int.mul_nonneg (by omega) (by omega)
  have e1 : ((p : Int) + 1) * t.d.value ≤ t.d.max * t.d.value := Int.mul_le_mul_of_nonneg_right (by omega) (by omega)
  rw [Int.add_mul, Int.one_mul] at e1
  have e2 : t.d.max * t.d.value ≤ 16 * 64 := Int.mul_le_mul (by omega) (by omega) (by omega) (by omega)
  unfold mplace mbase
  omega

end Go.Proofs.Ytlinnhaodkiolaa
