/- charts.near: its rows, and the way to its label. -/
import Derived.Test.YtakcdecljfmckaaGreatDoorCore20
import Derived.WalkMore
import Derived.Test.YtakcdecljfmckaaGreatDoorCore7
set_option linter.all false
set_option linter.unusedVariables false
set_option linter.unusedSimpArgs false
namespace Go.Proofs.YtakcdecljfmckaaGreatDoor
open Go.RowKit

theorem make_ints (n : Nat) (hn : n ≤ 1000000) (w : World) : (Instr.makeSlice 31 (.int .i64 n) (.int .i64 n)).run Tryz.prog w = .ok (.slice (some ⟨w.heap.size, 0, none⟩) n n) (w.alloc (.cells (List.replicate n (.int .i64 0)).toArray 3)) := by
  obtain ⟨i0, hi, hz0, hz1, hz2⟩ := info_parts Tryz.infoCh_int
  have h := run_make (P := Tryz.prog) w 31 3 i0 (.int .i64 0) Tryz.underlying31 hi hz0 .i64 .i64 n n (by omega) (by omega) (by rw [hz2]; omega) (by omega)
  rw [h, hz1]
  clear h hn
  simp only [Int.toNat_natCast, Nat.mul_one]
  have e : ∀ A B : Array Value, A = B → (Result.ok (Value.slice (some ⟨w.heap.size, 0, none⟩) n n) (w.alloc (.cells A 3)) : Result Value) = .ok (.slice (some ⟨w.heap.size, 0, none⟩) n n) (w.alloc (.cells B 3)) := fun A B h => by rw [h]
  refine e _ _ ?_
  apply Array.ext'
  simp [madeCells, Value.cells, Nat.mod_one]
  apply List.ext_getElem?
  intro j
  simp only [List.getElem?_replicate]
  by_cases hj : j < n <;> simp [hj]
theorem ZF.new (w : World) (n : Nat) (t : TypeId) : ZF (w.alloc (.cells (Array.replicate n (.int .i64 0)) t)) w.heap.size n (fun _ => 0) := fun k hk => by
  have eR : (Array.replicate n (Value.int .i64 0)) = (List.replicate n (Value.int .i64 0)).toArray := by simp
  rw [eR]
  have := CellsAt.new w (List.replicate n (.int .i64 0)) t k (.int .i64 0) (by rw [List.getElem?_replicate, if_pos hk])
  rw [Nat.zero_add] at this
  exact ⟨this, World.frozen?_alloc_new _ _ _ _⟩
/-- places told so far -/
def placeF (T : List Nat) (k v : Nat) : Int := if plM T v < k then (plM T v : Int) else 0
theorem placeF_step {T : List Nat} (hd : T.Nodup) {k n : Nat} (h : T[k]? = some n) {v : Nat} (hv : v ∈ T) : setAt (placeF T k) n (k : Int) v = placeF T (k + 1) v := by
  have e := plM_at hd h
  unfold setAt placeF
  by_cases hvn : v = n
  · subst hvn
    rw [if_pos rfl, if_pos (by omega), e]
  · rw [if_neg hvn]
    have hne : plM T v ≠ k := fun h2 => by
      have h3 : T[T.idxOf v]? = some v := by
        have := List.idxOf_lt_length_of_mem hv
        rw [List.getElem?_eq_getElem this, List.getElem_idxOf]
      have h4 : T.idxOf v = k := h2
      rw [h4, h] at h3
      exact hvn (Option.some.inj h3).symm
    by_cases h2 : plM T v < k
    · rw [if_pos h2, if_pos (by omega)]
    · rw [if_neg h2, if_neg (by omega)]
def downF (k v : Nat) : Int := if v < k then -1 else 0
theorem downF_step (k v : Nat) : setAt (downF k) k (-1) v = downF (k + 1) v := by
  unfold setAt downF
  by_cases h : v = k
  · rw [if_pos h, if_pos (by omega)]
  · rw [if_neg h]
    by_cases h2 : v < k
    · rw [if_pos h2, if_pos (by omega)]
    · rw [if_neg h2, if_neg (by omega)]
/-- what the cells say -/
def dOf (w : World) (g v : Nat) : Int := match w.cell? ⟨g, v, none⟩ with
  | some (.int _ x) => x
  | _ => 0
theorem ZF.dOf {w : World} {g n : Nat} {f : Nat → Int} (h : ZF w g n f) {v : Nat} (hv : v < n) : dOf w g v = f v := by
  unfold Proofs.YtakcdecljfmckaaGreatDoor.dOf
  rw [(h v hv).1]
theorem farAll_congr {N : Nat} {pl : Nat → Nat} {d d' : Nat → Int} (h : ∀ v, v < N → d v = d' v) : farAll N pl d = farAll N pl d' := by
  unfold farAll
  congr 1
  refine List.map_congr_left fun v hv => ?_
  unfold farN
  rw [h v (List.mem_range.1 hv)]
/-- what near finds at its label -/
structure NS (w0 : World) (bs : List Blk) (T : List Nat) (go bp bd gp gd : Nat) (Wd : World) (d : Nat → Int) (W : World) : Prop where
  near : Nears (nxM bs) bs.length (plM T) d
  fr : Fr (Isb gd) Wd W
  row : ZF W gd bs.length d
/-- what stays -/
structure NT (w0 : World) (bs : List Blk) (T : List Nat) (go bp bd gp gd : Nat) (Wd : World) : Prop where
  turn : Turn (nxM bs) bs.length T
  fr : Fr No w0 Wd
  rowT : CellsAt Wd go 0 (i64s T)
  c1 : Wd.cell? ⟨bp, 0, none⟩ = some (.slice (some ⟨gp, 0, none⟩) bs.length bs.length)
  c2 : Wd.cell? ⟨bd, 0, none⟩ = some (.slice (some ⟨gd, 0, none⟩) bs.length bs.length)
  p1 : ZF Wd gp bs.length (fun v => (plM T v : Int))
  ne : go ≠ gd ∧ bp ≠ gd ∧ bd ≠ gd ∧ gp ≠ gd ∧ w0.heap.size ≤ gd
theorem NT.old {w0 : World} {bs : List Blk} {T : List Nat} {go bp bd gp gd : Nat} {Wd W : World} (h : NT w0 bs T go bp bd gp gd Wd) (hf : Fr (Isb gd) Wd W) : Fr No w0 W :=
  ((h.fr.any.trans (hf.mono fun k _ hk => by rw [show k = gd from hk]; exact h.ne.2.2.2.2)) : Fr (From w0) w0 W).ours
theorem NT.mt {w0 : World} {bs : List Blk} {T : List Nat} {go bp bd gp gd : Nat} {Wd W : World} {d : Nat → Int} (h : NT w0 bs T go bp bd gp gd Wd) (hs : NS w0 bs T go bp bd gp gd Wd d W) : MT W bs.length (plM T) d bp bd gp gd :=
  ⟨hs.fr.cell h.c1 (fun e => h.ne.2.1 e), hs.fr.cell h.c2 (fun e => h.ne.2.2.1 e), h.p1.frS hs.fr (fun e => h.ne.2.2.2.1 e), hs.row⟩

/-- what holds at the label -/
def NearJ (w0 : World) (bs : List Blk) (gb cb N n : Nat) (a : Act) (W : World) : Prop :=
  ∃ (T : List Nat) (go co bp bd gp gd : Nat) (Wd : World) (d : Nat → Int), NT w0 bs T go bp bd gp gd Wd ∧ NS w0 bs T go bp bd gp gd Wd d W ∧ n = farAll bs.length (plM T) d ∧ ∃ (u1 u5 u6 u8 u10 u11 u12 u13 u14 u15 u16 u17 u18 u19 u20 u21 u22 u23 u24 u25 u26 u27 u28 u29 u30 u31 u32 u33 u34 u35 u36 u37 u38 u39 u40 u41 u42 u43 u44 u45 u46 u47 u48 u49 u50 u51 u52 u53 u54 u55 u56 u57 u58 u59 u60 u61 u62 u63 u64 u65 u66 u67 u68 u69 u70 u71 u72 u73 u74 u75 u76 u77 u78 u79 u80 u81 u82 u83 u84 u85 u86 u87 u88 u89 u90 u91 u92 u93 u94 : Value), a = { tmps := #[.slice (some ⟨gb, 0, none⟩) N cb, u1, .slice none 0 0, .slice (some ⟨go, 0, none⟩) N co, .pointer (some ⟨bp, 0, none⟩), u5, u6, .pointer (some ⟨bd, 0, none⟩), u8, .func (.func 66) #[] #[.pointer (some ⟨bp, 0, none⟩), .pointer (some ⟨bd, 0, none⟩)], u10, u11, u12, u13, u14, u15, u16, u17, u18, u19, u20, u21, u22, u23, u24, u25, u26, u27, u28, u29, u30, u31, u32, u33, u34, u35, u36, u37, u38, u39, u40, u41, u42, u43, u44, u45, u46, u47, u48, u49, u50, u51, u52, u53, u54, u55, u56, u57, u58, u59, u60, u61, u62, u63, u64, u65, u66, u67, u68, u69, u70, u71, u72, u73, u74, u75, u76, u77, u78, u79, u80, u81, u82, u83, u84, u85, u86, u87, u88, u89, u90, u91, u92, u93, u94], defers := [] }
/-- what near tells -/
def NearTo (bs : List Blk) (w : World) (e : Ending) (w' : World) : Prop := ∃ (d : Nat → Int) (g cap : Nat), e = .returned (.slice (some ⟨g, 0, none⟩) bs.length cap) ∧ Doms (nxM bs) bs.length d ∧ ZF w' g bs.length d ∧ Fr No w w'

set_option maxRecDepth 100000 in
set_option maxHeartbeats 4000000 in
theorem near_any (bs : List Blk) (bv : Value) (w : World) (hv : BlksAt w bv bs) (hpos : 0 < bs.length) (hlen : bs.length ≤ 1000) (hnx : ∀ k n, n ∈ nxM bs k → n < bs.length) (hn2 : ∀ k, (nxM bs k).length ≤ 2) (hall : ∀ v, v < bs.length → LedTo (nxM bs) (fun _ => False) v) :
    Calls Tryz.prog 30 #[bv] w (NearTo bs w) := by
  have HOR := Lib.hid (order_any bs bv w hv hpos hlen hnx hn2 hall)
  unfold OrderTo at HOR
  obtain ⟨gb, cb, rfl, hbk⟩ := hv
  have HBK := Lib.hid hbk
  have HALL := Lib.hid hall
  have HNX := Lib.hid hnx
  have HN2 := Lib.hid hn2
  obtain ⟨N, hN⟩ : ∃ N, bs.length = N := ⟨_, rfl⟩
  have HN := Lib.hid hN
  rw [hN] at hlen hpos HOR ⊢
  have HPOS := Lib.hid hpos
  have HLEN := Lib.hid hlen
  have hmk := fun W => make_ints N (by omega) W
  clear hbk hall hnx hn2 hN
  go_enter Tryz.func30, Tryz.ntmps30
  go_wp2_with fail
  refine wp_scope_falls 0 (NearJ w bs gb cb N) rfl ?pass ?first
  case pass =>
    rintro n a W ⟨T, go, co, bp, bd, gp, gd, Wd, d, hT, hS, hn, u1, u5, u6, u8, u10, u11, u12, u13, u14, u15, u16, u17, u18, u19, u20, u21, u22, u23, u24, u25, u26, u27, u28, u29, u30, u31, u32, u33, u34, u35, u36, u37, u38, u39, u40, u41, u42, u43, u44, u45, u46, u47, u48, u49, u50, u51, u52, u53, u54, u55, u56, u57, u58, u59, u60, u61, u62, u63, u64, u65, u66, u67, u68, u69, u70, u71, u72, u73, u74, u75, u76, u77, u78, u79, u80, u81, u82, u83, u84, u85, u86, u87, u88, u89, u90, u91, u92, u93, u94, rfl⟩
    have HNT := Lib.hid hT
    have HS0 := Lib.hid hS
    have HNF := Lib.hid hn
    clear hT hS hn HOR hmk
    go_wp2_with fail
    go_loopw [49] (fun ix wr => ∃ k : Nat, ix = .int .i64 k ∧ k ≤ N ∧ Hid (NS w bs T go bp bd gp gd Wd d wr) ∧ Hid (∀ (j x : Nat), j < k → T[j]? = some x → ∀ y ∈ nxM bs x, Calm d x y)) (fun ix _ => N - (intOf ix).toNat)
    case atStart => exact ⟨0, rfl, Nat.zero_le _, HS0.out, fun j x h => absurd h (Nat.not_lt_zero _)⟩
    case round =>
      obtain ⟨k, rfl, hk, HS, HCA⟩ := hrel
      by_cases hlt : k < N
      · obtain ⟨i, hi⟩ : ∃ i, T[k]? = some i := ⟨T[k]'(by rw [HNT.out.turn.len, HN.out]; exact hlt), List.getElem?_eq_getElem _⟩
        have HI := Lib.hid hi
        have hiN : i < N := by have := HNT.out.turn.lt i (List.mem_of_getElem? hi); rw [HN.out] at this; exact this
        have HIN := Lib.hid hiN
        have k0 : wr.cell? ⟨go, k, none⟩ = some (.int .i64 (i : Int)) := HS.out.fr.cell (i64_cell HNT.out.rowT hi) (fun e => HNT.out.ne.1 e)
        obtain ⟨b, hb⟩ : ∃ b, bs[i]? = some b := ⟨bs[i]'(by rw [HN.out]; exact hiN), List.getElem?_eq_getElem _⟩
        obtain ⟨m0, m1, nv, m2, m3⟩ := HBK.out i b hb
        have HBN : Hid (nxM bs i = b.next) := by unfold nxM; rw [List.getD_eq_getElem?_getD, hb]; exact Lib.hid rfl
        have k2 : wr.cell? ⟨gb, i * 3 + 2, none⟩ = some nv := (HNT.out.old HS.out.fr).cell m2 id
        obtain ⟨an, cn, rfl⟩ := m3.form
        have HNV := Lib.hid m3
        obtain ⟨L0, hL0⟩ : ∃ L0, b.next = L0 := ⟨_, rfl⟩
        rw [hL0] at HNV k2 HBN
        have HNL : Hid (L0.length ≤ 2) := by rw [← HBN.out]; exact Lib.hid (HN2.out i)
        obtain ⟨m, hm⟩ : ∃ m, L0.length = m := ⟨_, rfl⟩
        rw [hm] at k2 HNL
        have HM := Lib.hid hm
        have hm2 : m ≤ 2 := HNL.out
        have HKN := Lib.hid hlt
        have r1 : (i : Int) < (N : Int) := by omega
        have r0 : (0 : Int) ≤ (i : Int) := by omega
        have HDI : Hid (0 ≤ d i) := by
          refine Lib.hid (HNT.out.turn.told HS.out.near (by rw [HN.out]; exact hiN) (fun u hu hlt y hy => ?_))
          obtain ⟨j, hj⟩ : ∃ j, T[j]? = some u := ⟨T.idxOf u, by have := List.idxOf_lt_length_of_mem (HNT.out.turn.all u hu); rw [List.getElem?_eq_getElem this, List.getElem_idxOf]⟩
          have e1 := plM_at HNT.out.turn.nodup hj
          have e2 := plM_at HNT.out.turn.nodup hi
          exact HCA.out j u (by omega) hj y hy
        clear m0 m1 m2 m3 hL0 hm hb hi hiN
        go_wp2_with fail
        clear k0 k2
        go_loopw [59] (fun ix wr => ∃ k2 : Nat, ix = .int .i64 k2 ∧ k2 ≤ m ∧ Hid (NS w bs T go bp bd gp gd Wd d wr) ∧ Hid (∀ (j y : Nat), j < k2 → L0[j]? = some y → Calm d i y)) (fun ix _ => m - (intOf ix).toNat)
        case atStart => exact ⟨0, rfl, Nat.zero_le _, HS.out, fun j x h => absurd h (Nat.not_lt_zero _)⟩
        case round =>
          obtain ⟨k2, rfl, hk2, HS2, HC2⟩ := hrel
          by_cases hlt2 : k2 < m
          · obtain ⟨x, hx⟩ : ∃ x, L0[k2]? = some x := ⟨L0[k2]'(by rw [HM.out]; exact hlt2), List.getElem?_eq_getElem _⟩
            have HX := Lib.hid hx
            have hnat := HNV.out
            rcases hnat with ⟨h1, _⟩ | ⟨g2, c2, h2, hc2⟩
            · rw [h1] at hx; simp at hx
            injection h2 with h2 _ h4
            subst h2 h4
            have k0 : wr.cell? ⟨g2, k2, none⟩ = some (.int .i64 (x : Int)) := (HNT.out.old HS2.out.fr).cell (i64_cell hc2 hx) id
            have HXN : Hid (x ∈ nxM bs i) := by rw [HBN.out]; exact List.mem_of_getElem? hx
            have HXL : Hid (x < N) := by have := HNX.out i x HXN.out; rw [HN.out] at this; exact this
            have MTT := HNT.out.mt HS2.out
            rw [HN.out] at MTT
            have HMT := Lib.hid MTT
            have c7 := MTT.c2
            have d0 : wr.cell? ⟨gd, x, none⟩ = some (.int .i64 (d x)) := (MTT.d1 x HXL.out).1
            have d1 : wr.frozen? ⟨gd, x, none⟩ = false := (MTT.d1 x HXL.out).2
            have s1 : (x : Int) < (N : Int) := by have := HXL.out; omega
            have s0 : (0 : Int) ≤ (x : Int) := by omega
            have HK2 := Lib.hid hlt2
            clear hx hc2 MTT hlt2
            have HSTEP : Hid (Calm d i x → ∀ (j y : Nat), j < k2 + 1 → L0[j]? = some y → Calm d i y) := fun hc j y hj hy => by
              by_cases e : j = k2
              · subst e
                rw [HX.out] at hy
                obtain rfl := Option.some.inj hy
                exact hc
              · exact HC2.out j y (by omega) hy
            by_cases hx0 : x = 0
            · have HC0 : Hid (Calm d i x) := fun h => absurd hx0 h
              have q0 : ((x : Int) == 0) = true := by rw [beq_iff_eq]; omega
              clear hx0
              generalize d x = dx at d0
              go_wp2_with fail
              go_roundw
              case rel => exact ⟨k2 + 1, by go_num, by have := HK2.out; omega, HS2.out, HSTEP.out HC0.out⟩
              case measure => (have := HK2.out; simp [intOf] <;> omega)
            have q0 : ((x : Int) == 0) = false := by rw [beq_eq_false_iff_ne]; omega
            have HX0 := Lib.hid hx0
            rcases HS2.out.near.set x (by rw [HN.out]; exact HXL.out) hx0 with hd1 | ⟨y, hdy, hyN, hpy, hsy⟩
            · -- not told yet
              rw [hd1] at d0
              have HD1 := Lib.hid hd1
              have HPL : Hid (plM T i < plM T x) := by
                rcases Nat.lt_trichotomy (plM T i) (plM T x) with h | h | h
                · exact Lib.hid h
                · exfalso
                  have := HNT.out.turn.inj (by rw [HN.out]; exact HIN.out) (by rw [HN.out]; exact HXL.out) h
                  subst this
                  have h5 := HDI.out
                  omega
                · exfalso
                  have h5 := HNT.out.turn.told HS2.out.near (i := x) (by rw [HN.out]; exact HXL.out) (fun u hu hlt y hy => by
                    obtain ⟨j, hj⟩ : ∃ j, T[j]? = some u := ⟨T.idxOf u, by have := List.idxOf_lt_length_of_mem (HNT.out.turn.all u hu); rw [List.getElem?_eq_getElem this, List.getElem_idxOf]⟩
                    have e1 := plM_at HNT.out.turn.nodup hj
                    have e2 := plM_at HNT.out.turn.nodup HI.out
                    exact HCA.out j u (by omega) hj y hy)
                  omega
              have HNEW : Hid (Nears (nxM bs) bs.length (plM T) (setAt d x (i : Int))) := HS2.out.near.first (by rw [HN.out]; exact HXL.out) hx0 (by rw [HN.out]; exact HIN.out) HPL.out HDI.out HXN.out
              have HMU : Hid (farAll bs.length (plM T) (setAt d x (i : Int)) < n) := by
                rw [HNF.out]
                refine HS2.out.near.nearer (by rw [HN.out]; exact HXL.out) (by rw [HN.out]; exact HIN.out) ?_
                unfold farN
                rw [hd1, if_pos (by omega)]
                exact HNT.out.turn.low (by rw [HN.out]; exact HIN.out)
              have q1 : ((i : Int) != -1) = true := by rw [bne_iff_ne]; omega
              have HSN : Hid (NS w bs T go bp bd gp gd Wd (setAt d x (i : Int)) (wr.setCell ⟨gd, x, none⟩ (.int .i64 (i : Int)))) := ⟨HNEW.out, HS2.out.fr.setB _ _, by rw [HN.out]; exact HMT.out.d1.set HXL.out (i : Int)⟩
              clear hd1 hx0
              have c9 : (wr.setCell ⟨gd, x, none⟩ (.int .i64 (i : Int))).cell? ⟨bd, 0, none⟩ = some (.slice (some ⟨gd, 0, none⟩) N N) := by rw [World.cell?_setCell_other _ _ _ _ (by intro hc; injection hc with hc _ _; exact HNT.out.ne.2.2.1 hc.symm)]; exact c7
              have d9 : (wr.setCell ⟨gd, x, none⟩ (.int .i64 (i : Int))).cell? ⟨gd, x, none⟩ = some (.int .i64 (i : Int)) := World.cell?_setCell_same _ _ _ d0
              go_wp2_with fail
              refine wp_goto ?_
              exact ⟨rfl, _, HMU.out, ⟨T, go, co, bp, bd, gp, gd, Wd, _, HNT.out, HSN.out, rfl, _, _, _, _, _, _, _, _, _, _, _, _, _, _, _, _, _, _, _, _, _, _, _, _, _, _, _, _, _, _, _, _, _, _, _, _, _, _, _, _, _, _, _, _, _, _, _, _, _, _, _, _, _, _, _, _, _, _, _, _, _, _, _, _, _, _, _, _, _, _, _, _, _, _, _, _, _, _, _, _, _, _, _, _, _, _, _, _, _, rfl⟩⟩
            · rw [hdy] at d0
              have HDY := Lib.hid hdy
              have q2 : ¬ (y : Int) < 0 := by omega
              have HME : Hid (∀ W, Fr No wr W → Calls Tryz.prog 66 #[.int .i64 (i : Int), .int .i64 (y : Int), .pointer (some ⟨bp, 0, none⟩), .pointer (some ⟨bd, 0, none⟩)] W (MeetTo N d i y W)) := fun W hf =>
                meet_any (nxM bs) N (plM T) d bp bd gp gd i y W (by have h := HS2.out.near; rw [HN.out] at h; exact h) HLEN.out HIN.out (by rw [← HN.out]; exact hyN) HDI.out hsy (HMT.out.fr hf)
              have HYN : Hid (y < N ∧ plM T y < plM T x) := ⟨by rw [← HN.out]; exact hyN, hpy⟩
              clear hdy hyN hpy hsy hx0
              go_wp2_with fail
              go_region_with (go_at_call 66; (refine (HME.out _ (by first | exact Fr.refl _ _ | exact (Fr.refl _ _).drewN _ | exact (Fr.refl _ _).drew)).mono ?_); rintro e w5 ⟨r, rfl, hr, hf5⟩; have hf6 : Fr No wr w5 := Fr.trans (by first | exact Fr.refl _ _ | exact (Fr.refl _ _).drewN _ | exact (Fr.refl _ _).drew) hf5; have M5 := HMT.out.fr hf6; have c7 := M5.c2; have d5 := (M5.d1 x HXL.out).1; have d6 := (M5.d1 x HXL.out).2)
              all_goals have c9 : (w5.setCell ⟨gd, x, none⟩ (.int .i64 (r : Int))).cell? ⟨bd, 0, none⟩ = some (.slice (some ⟨gd, 0, none⟩) N N) := by rw [World.cell?_setCell_other _ _ _ _ (by intro hc; injection hc with hc _ _; exact HNT.out.ne.2.2.1 hc.symm)]; exact c7
              all_goals have d9 : (w5.setCell ⟨gd, x, none⟩ (.int .i64 (r : Int))).cell? ⟨gd, x, none⟩ = some (.int .i64 (r : Int)) := World.cell?_setCell_same _ _ _ d5
              all_goals have HR := Lib.hid hr
              all_goals have HZ5 : Hid (ZF (w5.setCell ⟨gd, x, none⟩ (.int .i64 (r : Int))) gd N (setAt d x (r : Int))) := M5.d1.set HXL.out (r : Int)
              all_goals have HF5 : Hid (Fr (Isb gd) Wd (w5.setCell ⟨gd, x, none⟩ (.int .i64 (r : Int)))) := (HS2.out.fr.trans hf6.any).setB _ _
              all_goals clear M5 hr hf5 hf6 d5 d6 c7
              all_goals by_cases hry : r = y
              all_goals first
                | (have q3 : ((r : Int) != (y : Int)) = false := (by rw [bne_eq_false_iff_eq]; omega)
                   have HSN : Hid (NS w bs T go bp bd gp gd Wd d (w5.setCell ⟨gd, x, none⟩ (.int .i64 (r : Int)))) := ⟨HS2.out.near, HF5.out, (by rw [HN.out]; refine HZ5.out.congr (fun p hp => ?_); unfold setAt; by_cases e : p = x; (· rw [if_pos e, e, HDY.out, hry]); (· rw [if_neg e]))⟩
                   have HCX : Hid (Calm d i x) := fun _ => ⟨y, HDY.out, hry ▸ HR.out.xi⟩
                   clear hry
                   go_wp2_with fail
                   go_roundw
                   case rel => exact ⟨k2 + 1, by go_num, by have := HK2.out; omega, HSN.out, HSTEP.out HCX.out⟩
                   case measure => (have := HK2.out; simp [intOf] <;> omega))
                | (have q3 : ((r : Int) != (y : Int)) = true := (by rw [bne_iff_ne]; omega)
                   have HNEW : Hid (Nears (nxM bs) bs.length (plM T) (setAt d x (r : Int))) := HS2.out.near.again (by rw [HN.out]; exact HXL.out) HX0.out (by rw [HN.out]; exact HIN.out) HDI.out HXN.out HDY.out HR.out.ym (fun z h1 h2 => (HR.out.all z h1 h2).1)
                   have HMU : Hid (farAll bs.length (plM T) (setAt d x (r : Int)) < n) := (by
                     rw [HNF.out]
                     refine HS2.out.near.nearer (by rw [HN.out]; exact HXL.out) (by rw [HN.out]; exact HR.out.xN) ?_
                     unfold farN
                     rw [HDY.out, if_neg (by omega), Int.toNat_natCast]
                     rcases HR.out.ym with h | h
                     · exact absurd h hry
                     · exact (HS2.out.near.toTold.anc (by rw [HN.out]; exact HYN.out.1) h).2)
                   have HSN : Hid (NS w bs T go bp bd gp gd Wd (setAt d x (r : Int)) (w5.setCell ⟨gd, x, none⟩ (.int .i64 (r : Int)))) := ⟨HNEW.out, HF5.out, (by rw [HN.out]; exact HZ5.out)⟩
                   clear hry
                   go_wp2_with fail
                   refine wp_goto ?_
                   exact ⟨rfl, _, HMU.out, ⟨T, go, co, bp, bd, gp, gd, Wd, _, HNT.out, HSN.out, rfl, _, _, _, _, _, _, _, _, _, _, _, _, _, _, _, _, _, _, _, _, _, _, _, _, _, _, _, _, _, _, _, _, _, _, _, _, _, _, _, _, _, _, _, _, _, _, _, _, _, _, _, _, _, _, _, _, _, _, _, _, _, _, _, _, _, _, _, _, _, _, _, _, _, _, _, _, _, _, _, _, _, _, _, _, _, _, _, _, _, rfl⟩⟩)
          · obtain rfl : k2 = m := by omega
            have HEND : Hid (∀ (j x : Nat), j < k + 1 → T[j]? = some x → ∀ y ∈ nxM bs x, Calm d x y) := fun j x hj hx y hy => by
              by_cases e : j = k
              · subst e
                rw [HI.out] at hx
                obtain rfl := Option.some.inj hx
                rw [HBN.out] at hy
                obtain ⟨z, hz, rfl⟩ := List.getElem_of_mem hy
                exact HC2.out z _ (by rw [← HM.out]; exact hz) (List.getElem?_eq_getElem hz)
              · exact HCA.out j x (by omega) hx y hy
            clear hlt2
            go_wp2_with fail
            go_roundw
            case rel => exact ⟨k + 1, by go_num, by have := HKN.out; omega, HS2.out, HEND⟩
            case measure => (have := HKN.out; simp [intOf] <;> omega)
      · obtain rfl : k = N := by omega
        have MTT := HNT.out.mt HS.out
        rw [HN.out] at MTT
        have c7 := MTT.c2
        have hk0 : 0 < k := HPOS.out
        have d0 : wr.cell? ⟨gd, 0, none⟩ = some (.int .i64 (d 0)) := (MTT.d1 0 hk0).1
        have d1 : wr.frozen? ⟨gd, 0, none⟩ = false := (MTT.d1 0 hk0).2
        have s1 : (0 : Int) < (k : Int) := by omega
        have HFIN : Hid (NearTo bs w (.returned (.slice (some ⟨gd, 0, none⟩) k k)) (wr.setCell ⟨gd, 0, none⟩ (.int .i64 (-1)))) := by
          refine ⟨cut0 d, gd, k, by rw [HN.out], ?_, ?_, HNT.out.old (HS.out.fr.setB _ _)⟩
          · refine HS.out.near.end HALL.out (fun u v hu hv => HNX.out u v hv) (fun i n hi hn => ?_)
            obtain ⟨j, hj⟩ : ∃ j, T[j]? = some i := ⟨T.idxOf i, by have := List.idxOf_lt_length_of_mem (HNT.out.turn.all i hi); rw [List.getElem?_eq_getElem this, List.getElem_idxOf]⟩
            have hjl := (List.getElem?_eq_some_iff.1 hj).1
            rw [HNT.out.turn.len, HN.out] at hjl
            exact HCA.out j i hjl hj n hn
          · rw [HN.out]
            exact (MTT.d1.set hk0 (-1)).congr (fun p hp => rfl)
        generalize d 0 = dx at d0
        have c9 : (wr.setCell ⟨gd, 0, none⟩ (.int .i64 (-1))).cell? ⟨bd, 0, none⟩ = some (.slice (some ⟨gd, 0, none⟩) k k) := by rw [World.cell?_setCell_other _ _ _ _ (by intro hc; injection hc with hc _ _; exact HNT.out.ne.2.2.1 hc.symm)]; exact c7
        clear MTT hlt
        go_wp2_with fail
        first
          | (go_ret; exact HFIN.out)
          | (simp only [Exit.jump]; go_ret; exact HFIN.out)
  case first =>
    intro hpass
    go_wp2_with (go_at_call 65; (with_reducible refine (HOR.out).mono ?_); rintro e w1 ⟨T, go, co, rfl, hT, hcT, hf1⟩; have HT := Lib.hid hT; have HCT := Lib.hid hcT; have HF1 := Lib.hid hf1; clear hT hcT hf1)
    have e1 : ∀ (w : World) o, (w.alloc o).heap.size = w.heap.size + 1 := fun w o => Array.size_push _
    have HP0 : Hid (ZF ((w1.alloc (.cells (Array.replicate N (.int .i64 0)) 3)).alloc (.cells #[.slice (some ⟨w1.heap.size, 0, none⟩) N N] 31)) w1.heap.size N (fun _ => 0)) := (ZF.new w1 N 3).fr ((Fr.refl _ _).alloc _)
    have HC0 : Hid (((w1.alloc (.cells (Array.replicate N (.int .i64 0)) 3)).alloc (.cells #[.slice (some ⟨w1.heap.size, 0, none⟩) N N] 31)).cell? ⟨w1.heap.size + 1, 0, none⟩ = some (.slice (some ⟨w1.heap.size, 0, none⟩) N N)) := by
      have := CellsAt.new (w1.alloc (.cells (Array.replicate N (.int .i64 0)) 3)) [.slice (some ⟨w1.heap.size, 0, none⟩) N N] 31 0 _ rfl
      rw [e1] at this
      exact this
    have HF2 : Hid (Fr No w1 ((w1.alloc (.cells (Array.replicate N (.int .i64 0)) 3)).alloc (.cells #[.slice (some ⟨w1.heap.size, 0, none⟩) N N] 31))) := ((Fr.refl _ _).alloc _).alloc _
    have HGO : Hid (go < w1.heap.size) := World.block_lt_of_cell? w1 _ (HCT.out 0 _ (i64s_get (List.getElem?_eq_getElem (by rw [HT.out.len]; exact HPOS.out))))
    have HWZ : Hid (w.heap.size ≤ w1.heap.size) := HF1.out.size
    generalize (w1.alloc (.cells (Array.replicate N (.int .i64 0)) 3)).alloc (.cells #[.slice (some ⟨w1.heap.size, 0, none⟩) N N] 31) = W2 at *
    obtain ⟨bp, hbp⟩ : ∃ bp, w1.heap.size + 1 = bp := ⟨_, rfl⟩
    obtain ⟨gp, hgp⟩ : ∃ gp, w1.heap.size = gp := ⟨_, rfl⟩
    have HNE : Hid (bp ≠ gp ∧ go ≠ gp ∧ w.heap.size ≤ gp) := by have := HGO.out; have := HWZ.out; exact Lib.hid (by omega)
    rw [hbp] at HC0 ⊢
    rw [hgp] at HC0 HP0 ⊢
    have HWL := Lib.hid hgp
    clear hbp hgp
    have hl1 : N ≤ 1000 := HLEN.out
    go_loopw [22] (fun ix wr => ∃ k : Nat, ix = .int .i64 k ∧ k ≤ N ∧ Hid (ZF wr gp N (placeF T k)) ∧ Hid (Fr (Isb gp) W2 wr)) (fun ix _ => N - (intOf ix).toNat)
    case atStart => exact ⟨0, rfl, Nat.zero_le _, HP0.out.congr (fun p _ => by unfold placeF; rw [if_neg (by omega)]), Fr.refl _ _⟩
    case round =>
      obtain ⟨k, rfl, hk, HZ, HF⟩ := hrel
      have c4 : wr.cell? ⟨bp, 0, none⟩ = some (.slice (some ⟨gp, 0, none⟩) N N) := HF.out.cell HC0.out (fun e => HNE.out.1 e)
      by_cases hlt : k < N
      · obtain ⟨x, hx⟩ : ∃ x, T[k]? = some x := ⟨T[k]'(by rw [HT.out.len]; exact hlt), List.getElem?_eq_getElem _⟩
        have k0 : wr.cell? ⟨go, k, none⟩ = some (.int .i64 (x : Int)) := HF.out.cell (HF2.out.cell (i64_cell HCT.out hx) id) (fun e => HNE.out.2.1 e)
        have hxN : x < N := HT.out.lt x (List.mem_of_getElem? hx)
        have HX := Lib.hid hx
        have HXN := Lib.hid hxN
        obtain ⟨y0, y1⟩ := HZ.out x hxN
        have r1 : (k : Int) < (N : Int) := by omega
        have r2 : (0 : Int) ≤ (k : Int) := by omega
        have r3 : (x : Int) < (N : Int) := by omega
        have r4 : (0 : Int) ≤ (x : Int) := by omega
        generalize placeF T k x = yy at y0
        clear hx hxN
        go_wp2_with fail
        go_roundw
        case rel => exact ⟨k + 1, by go_num, by omega, (HZ.out.set HXN.out (k : Int)).congr (fun p hp => placeF_step HT.out.nodup HX.out (HT.out.all p hp)), HF.out.setB _ _⟩
        case measure => simp [intOf] <;> omega
      · obtain rfl : k = N := by omega
        have HZP : Hid (ZF wr gp k (fun v => (plM T v : Int))) := HZ.out.congr (fun p hp => by unfold placeF; rw [if_pos (HT.out.low hp)])
        have HFP : Hid (Fr No w wr) := ((((HF1.out.trans HF2.out).any.trans (HF.out.mono fun j _ hj => by rw [show j = gp from hj]; exact HNE.out.2.2))) : Fr (From w) w wr).ours
        have HCP := Lib.hid c4
        have HTP : Hid (CellsAt wr go 0 (i64s T)) := HF.out.cells (HF2.out.cells HCT.out id) (fun e => HNE.out.2.1 e)
        have HLP : Hid (go < wr.heap.size ∧ bp < wr.heap.size ∧ gp < wr.heap.size) := ⟨World.block_lt_of_cell? wr _ (HTP.out 0 _ (i64s_get (List.getElem?_eq_getElem (by rw [HT.out.len]; exact HPOS.out)))), World.block_lt_of_cell? wr _ c4, World.block_lt_of_cell? wr _ (HZP.out 0 HPOS.out).1⟩
        have HW3 : Hid (w.heap.size ≤ wr.heap.size) := HFP.out.size
        clear c4 hlt HZ HF
        go_wp2_with fail
        have HP1 : Hid (ZF ((wr.alloc (.cells (Array.replicate k (.int .i64 0)) 3)).alloc (.cells #[.slice (some ⟨wr.heap.size, 0, none⟩) k k] 31)) wr.heap.size k (fun _ => 0)) := (ZF.new wr k 3).fr ((Fr.refl _ _).alloc _)
        have HC1 : Hid (((wr.alloc (.cells (Array.replicate k (.int .i64 0)) 3)).alloc (.cells #[.slice (some ⟨wr.heap.size, 0, none⟩) k k] 31)).cell? ⟨wr.heap.size + 1, 0, none⟩ = some (.slice (some ⟨wr.heap.size, 0, none⟩) k k)) := by
          have := CellsAt.new (wr.alloc (.cells (Array.replicate k (.int .i64 0)) 3)) [.slice (some ⟨wr.heap.size, 0, none⟩) k k] 31 0 _ rfl
          rw [e1] at this
          exact this
        have HF3 : Hid (Fr No wr ((wr.alloc (.cells (Array.replicate k (.int .i64 0)) 3)).alloc (.cells #[.slice (some ⟨wr.heap.size, 0, none⟩) k k] 31))) := ((Fr.refl _ _).alloc _).alloc _
        generalize (wr.alloc (.cells (Array.replicate k (.int .i64 0)) 3)).alloc (.cells #[.slice (some ⟨wr.heap.size, 0, none⟩) k k] 31) = W4 at *
        obtain ⟨bd, hbd⟩ : ∃ bd, wr.heap.size + 1 = bd := ⟨_, rfl⟩
        obtain ⟨gd, hgd⟩ : ∃ gd, wr.heap.size = gd := ⟨_, rfl⟩
        have HNE2 : Hid (go ≠ gd ∧ bp ≠ gd ∧ bd ≠ gd ∧ gp ≠ gd ∧ w.heap.size ≤ gd) := by have := HLP.out; have := HW3.out; exact Lib.hid (by omega)
        rw [hbd] at HC1 ⊢
        rw [hgd] at HC1 HP1 ⊢
        clear hbd hgd HLP HW3
        have c7 := HC1.out
        go_loopw [37] (fun ix wr => ∃ j : Nat, ix = .int .i64 j ∧ j ≤ k ∧ Hid (ZF wr gd k (downF j)) ∧ Hid (Fr (Isb gd) W4 wr)) (fun ix _ => k - (intOf ix).toNat)
        case atStart => exact ⟨0, rfl, Nat.zero_le _, HP1.out.congr (fun p _ => by unfold downF; rw [if_neg (by omega)]), Fr.refl _ _⟩
        case round =>
          obtain ⟨j, rfl, hj, HZ, HF⟩ := hrel
          have c8 : wr.cell? ⟨bd, 0, none⟩ = some (.slice (some ⟨gd, 0, none⟩) k k) := HF.out.cell HC1.out (fun e => HNE2.out.2.2.1 e)
          by_cases hlt : j < k
          · obtain ⟨y0, y1⟩ := HZ.out j hlt
            have r1 : (j : Int) < (k : Int) := by omega
            have r2 : (0 : Int) ≤ (j : Int) := by omega
            have HJL := Lib.hid hlt
            generalize downF j j = yy at y0
            clear hlt
            go_wp2_with fail
            go_roundw
            case rel => exact ⟨j + 1, by go_num, by have := HJL.out; omega, (HZ.out.set HJL.out (-1)).congr (fun p _ => downF_step j p), HF.out.setB _ _⟩
            case measure => (have := HJL.out; simp [intOf] <;> omega)
          · obtain rfl : j = k := by omega
            have hj0 : 0 < j := HPOS.out
            obtain ⟨y0, y1⟩ := HZ.out 0 hj0
            have r1 : (0 : Int) < (j : Int) := by omega
            generalize downF j 0 = yy at y0
            clear hlt
            go_wp2_with fail
            obtain ⟨W5, hW5⟩ : ∃ W5, W5 = wr.setCell ⟨gd, 0, none⟩ (.int .i64 0) := ⟨_, rfl⟩
            have HZ5 : Hid (ZF W5 gd j (fun v => if v = 0 then 0 else -1)) := by
              rw [hW5]
              refine (HZ.out.set hj0 0).congr (fun p hp => ?_)
              unfold setAt downF
              by_cases e : p = 0
              · rw [if_pos e, if_pos e]
              · rw [if_neg e, if_neg e, if_pos hp]
            have HF5 : Hid (Fr (Isb gd) W4 W5) := by rw [hW5]; exact HF.out.setB _ _
            rw [← hW5]
            clear hW5 y0 y1 c8
            have HNTX : Hid (NT w bs T go bp bd gp gd W5) := by
              have f4 : Fr No w W4 := HFP.out.trans HF3.out
              refine ⟨?_, ((f4.any.trans (HF5.out.mono fun z _ hz => by rw [show z = gd from hz]; exact HNE2.out.2.2.2.2)) : Fr (From w) w W5).ours, HF5.out.cells (HF3.out.cells HTP.out id) (fun e => HNE2.out.1 e), ?_, ?_, ?_, HNE2.out⟩
              · rw [HN.out]; exact HT.out
              · rw [HN.out]; exact HF5.out.cell (HF3.out.cell HCP.out id) (fun e => HNE2.out.2.1 e)
              · rw [HN.out]; exact HF5.out.cell HC1.out (fun e => HNE2.out.2.2.1 e)
              · rw [HN.out]; exact (HZP.out.fr HF3.out).frS HF5.out (fun e => HNE2.out.2.2.2.1 e)
            have HNSX : Hid (NS w bs T go bp bd gp gd W5 (fun v => if v = 0 then 0 else -1) W5) := by
              refine ⟨by have h := HNTX.out.turn.start; exact h, Fr.refl _ _, by rw [HN.out]; exact HZ5.out⟩
            go_step3
            rename_i hK
            refine hK _ _ ?_
            refine hpass _ _ _ ⟨T, go, co, bp, bd, gp, gd, W5, _, HNTX.out, HNSX.out, rfl, _, _, _, _, _, _, _, _, _, _, _, _, _, _, _, _, _, _, _, _, _, _, _, _, _, _, _, _, _, _, _, _, _, _, _, _, _, _, _, _, _, _, _, _, _, _, _, _, _, _, _, _, _, _, _, _, _, _, _, _, _, _, _, _, _, _, _, _, _, _, _, _, _, _, _, _, _, _, _, _, _, _, _, _, _, _, _, _, _, rfl⟩
end Go.Proofs.YtakcdecljfmckaaGreatDoor
