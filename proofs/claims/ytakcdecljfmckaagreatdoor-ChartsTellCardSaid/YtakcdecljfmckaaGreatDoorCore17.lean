/- charts.fronts. Two rows of the call's own, side by side; the rows that charts.cut gathers. -/
import Derived.Test.YtakcdecljfmckaaGreatDoorCore16
set_option linter.all false
set_option linter.unusedVariables false
set_option linter.unusedSimpArgs false
namespace Go.Proofs.YtakcdecljfmckaaGreatDoor
open Go.RowKit

theorem frontsM_snoc (l : List Ins) (done : List Nat) (pc : Nat) : frontsM l (done ++ [pc]) = frontsM l done ++ (if leavesM (insAt l pc) then behM l pc :: nextM l pc else []) := by
  unfold frontsM
  rw [List.flatMap_append]
  simp
theorem Whole.ins_next {l : List Ins} {maps : Int} (h : Whole l maps) {p : Nat} (hp : p ∈ starts l) {v : Value} {w : World} (hv : InsAt w v l) (hok : ∀ i ∈ l, i.ok) :
    Calls Tryz.prog 18 #[v, .int .i64 p] w fun e w' => ∃ v', e = .returned v' ∧ NatsAt w' v' (nextM l p) ∧ (∀ k, v'.ownBlock = some k → w.heap.size ≤ k) ∧ Fr No w w' :=
  next_any l v p w hv hok (by have := h.most; omega) (starts_lt hp) (fun hj => by have := h.to hp hj; exact ⟨this.1, this.2.1⟩) (fun he ha => h.on hp he ha)
theorem MarksAt.late {w W : World} {g n : Nat} {L : List Nat} (h : MarksAt W g n L) (hf : Fr No W w) : MarksAt w g n L := BoolsAt.fr h hf

set_option maxRecDepth 100000 in
set_option maxHeartbeats 4000000 in
theorem fronts_any (l : List Ins) (v : Value) (maps : Int) (w : World) (hv : InsAt w v l) (hok : ∀ i ∈ l, i.ok) (hW : Whole l maps) :
    Calls Tryz.prog 57 #[v] w fun e w' => ∃ g, e = .returned (.slice (some ⟨g, 0, none⟩) (l.length + 1) (l.length + 1)) ∧ w.heap.size ≤ g ∧ g < w'.heap.size ∧ MarksAt w' g (l.length + 1) (frontsM l (starts l)) ∧ Fr No w w' := by
  have hpos := hW.pos
  have hmost := hW.most
  rcases hv with ⟨rfl, _⟩ | ⟨g, off, cap, rfl, hc⟩
  · exact absurd hpos (Nat.not_lt_zero _)
  have HC := Lib.hid hc
  have HOK := Lib.hid hok
  have HWH := Lib.hid hW
  obtain ⟨n, hn⟩ : ∃ n, l.length = n := ⟨_, rfl⟩
  rw [hn] at hpos hmost ⊢
  have HN := Lib.hid hn
  obtain ⟨m, hm⟩ : ∃ m, n + 1 = m := ⟨_, rfl⟩
  have HMN := Lib.hid hm
  have w1 : wrap64 ((n : Int) + 1) = (m : Int) := by rw [IntWalk.wrap64_in _ (by omega)]; omega
  have hmk : ∀ W, (Instr.makeSlice 87 (.int .i64 (m : Int)) (.int .i64 (m : Int))).run Tryz.prog W = .ok (.slice (some ⟨W.heap.size, 0, none⟩) m m) (W.alloc (.cells (Array.replicate m (.bool false)) 4)) := fun W => by have := make_bools m (by omega) W; simpa using this
  have HINS : Hid (∀ W, Fr No w W → InsAt W (.slice (some ⟨g, off, none⟩) n cap) l) := fun W hf => .inr ⟨g, off, cap, by rw [HN.out], hf.cells HC.out id⟩
  have HPOS := Lib.hid hpos
  have HMOST := Lib.hid hmost
  have q0 : (0 : Int) < (m : Int) := by omega
  have q0' : (0 : Nat) < m := by omega
  have hpn : n < m := by omega
  rw [hm]
  clear hc hok hW hn hpos hmost hm
  have eR : (Array.replicate m (Value.bool false)) = (List.replicate m (Value.bool false)).toArray := by simp
  have HF0 : Hid (Fr No w (w.alloc (.cells (Array.replicate m (.bool false)) 4))) := (Fr.refl _ _).alloc _
  have HB0 : Hid (MarksAt (w.alloc (.cells (Array.replicate m (.bool false)) 4)) w.heap.size m []) := by rw [eR]; exact BoolsAt.new w m _
  have HG0 : Hid (w.heap.size < (w.alloc (.cells (Array.replicate m (.bool false)) 4)).heap.size) := by show _ < (w.heap.push _).size; rw [Array.size_push]; exact Lib.hid (Nat.lt_succ_self _)
  have HLO : Hid (∀ W b, w.heap.size ≤ b → Fr No w W → ∀ o x, Fr No w (W.setCell ⟨b, o, none⟩ x)) := fun W b hb hf o x => (hf.any.setCell (p := ⟨b, o, none⟩) (.inr hb) x : Fr (From w) w _).ours
  have c0 : (w.alloc (.cells (Array.replicate m (.bool false)) 4)).cell? ⟨w.heap.size, 0, none⟩ = some (.bool false) := (HB0.out 0 q0').1
  have f0 : (w.alloc (.cells (Array.replicate m (.bool false)) 4)).frozen? ⟨w.heap.size, 0, none⟩ = false := (HB0.out 0 q0').2
  clear eR
  go_enter Tryz.func57, Tryz.ntmps57
  go_upto_region 3 with fail
  have HB1 : Hid (MarksAt ((w.alloc (.cells (Array.replicate m (.bool false)) 4)).setCell ⟨w.heap.size, 0, none⟩ (.bool true)) w.heap.size m [0]) := HB0.out.add q0'
  have HF1 : Hid (Fr No w ((w.alloc (.cells (Array.replicate m (.bool false)) 4)).setCell ⟨w.heap.size, 0, none⟩ (.bool true))) := HLO.out _ _ (Nat.le_refl _) HF0.out _ _
  have HG1 : Hid (w.heap.size < ((w.alloc (.cells (Array.replicate m (.bool false)) 4)).setCell ⟨w.heap.size, 0, none⟩ (.bool true)).heap.size) := by simpa using HG0
  clear w1 hmk c0 f0 HB0 HF0 HG0
  have eW : (w.alloc (.cells (Array.replicate m (.bool false)) 4)).setCell ⟨w.heap.size, 0, none⟩ (.bool true) = w.alloc (.cells ((Array.replicate m (.bool false)).setIfInBounds 0 (.bool true)) 4) := World.setCell_alloc_new _ _ _ _
  rw [eW] at HB1 HF1 HG1
  clear eW
  generalize w.alloc (.cells ((Array.replicate m (.bool false)).setIfInBounds 0 (.bool true)) 4) = W0 at *
  obtain ⟨g0, hg0⟩ : ∃ g0, w.heap.size = g0 := ⟨_, rfl⟩
  have HGE : Hid (w.heap.size ≤ g0) := Nat.le_of_eq hg0
  rw [hg0] at HB1 HG1 ⊢
  clear hg0
  go_wp2_with fail
  go_loopw [4] (fun i wr => ∃ pc fuel : Nat, ∃ done : List Nat, i = .int .i64 pc ∧ pc ≤ n + 1 ∧ Hid (n ≤ pc + fuel) ∧ Hid (starts l = done ++ firstsM l fuel pc) ∧ Hid (MarksAt wr g0 m (frontsM l done)) ∧ Hid (Fr No w wr)) (fun i _ => n + 1 - (intOf i).toNat)
  case atStart => exact ⟨0, n, [], rfl, by omega, Lib.hid (by omega), Lib.hid (by unfold starts; rw [HN.out]; rfl), HB1.out, HF1.out⟩
  case round =>
    obtain ⟨pc, fuel, done, rfl, hpc, HFU, HST, HM, HF⟩ := hrel
    by_cases hlt : pc < n
    · have p1 : (pc : Int) < (n : Int) := by omega
      have p2 : (0 : Int) ≤ (pc : Int) := by omega
      have HLT := Lib.hid hlt
      obtain ⟨f, hf⟩ : ∃ f, fuel = f + 1 := ⟨fuel - 1, by have := HFU.out; omega⟩
      subst hf
      have HST2 : Hid (starts l = (done ++ [pc]) ++ firstsM l f (behM l pc)) := by
        have := HST.out
        rw [firsts_in (by rw [HN.out]; exact hlt)] at this
        rw [this, List.append_assoc]
        exact Lib.hid rfl
      have HPC : Hid (pc ∈ starts l) := by rw [HST2.out]; exact Lib.hid (by simp)
      have HI : Hid ((insAt l pc).ok) := by rw [insAt_ok (by rw [HN.out]; exact hlt)]; exact Lib.hid (HOK.out _ (List.getElem_mem _))
      have HLV : Hid (∀ W, Calls Tryz.prog 78 #[.agg #[.int .u8 (insAt l pc).op, .int .u8 (insAt l pc).dst, .int .u8 (insAt l pc).src, .int .i16 (insAt l pc).off, .int .i32 (insAt l pc).imm]] W fun e w' => e = .returned (.bool (leavesM (insAt l pc))) ∧ Fr No W w') := fun W => cleaves_any _ HI.out.op W
      have HBH : Hid (∀ W, Fr No w W → Calls Tryz.prog 58 #[.slice (some ⟨g, off, none⟩) n cap, .int .i64 pc] W fun e w' => e = .returned (.int .i64 ((behM l pc : Nat) : Int)) ∧ Fr No W w') := fun W hf => cbehind_any l _ pc W (HINS.out _ hf) (by rw [HN.out]; exact hlt) (by rw [HN.out]; have := HMOST.out; omega)
      have HNXT : Hid (∀ W, Fr No w W → Calls Tryz.prog 18 #[.slice (some ⟨g, off, none⟩) n cap, .int .i64 pc] W fun e w' => ∃ v', e = .returned v' ∧ NatsAt w' v' (nextM l pc) ∧ (∀ k, v'.ownBlock = some k → W.heap.size ≤ k) ∧ Fr No W w') := fun W hf => HWH.out.ins_next HPC.out (HINS.out _ hf) HOK.out
      have HBL : Hid (behM l pc < m) := by have h1 := HWH.out.beh HPC.out; rw [HN.out] at h1; have := HMN.out; exact Lib.hid (by omega)
      have HNL : Hid (∀ x ∈ nextM l pc, x < m) := fun x hx => by have h1 := starts_lt (HWH.out.next HPC.out hx); rw [HN.out] at h1; have := HMN.out; omega
      have HN2 := Lib.hid (nextM_len l pc)
      have HSN := Lib.hid (frontsM_snoc l done pc)
      have HBP := Lib.hid (behM_pos l pc)
      obtain ⟨k0, k1, k2, k3, k4⟩ := ins_cells (HF.out.cells HC.out id) (pc := pc) (by rw [HN.out]; exact hlt)
      obtain ⟨b, hb⟩ : ∃ b, behM l pc = b := ⟨_, rfl⟩
      obtain ⟨L, hL⟩ : ∃ L, nextM l pc = L := ⟨_, rfl⟩
      obtain ⟨lv, hlv⟩ : ∃ lv, leavesM (insAt l pc) = lv := ⟨_, rfl⟩
      rw [hb] at HST2 HBH HBL HSN HBP
      rw [hL] at HNXT HNL HN2 HSN
      rw [hlv] at HLV HSN
      clear hb hL hlv hlt HST HPC HI
      generalize (insAt l pc).op = o0 at *
      generalize (insAt l pc).dst = o1 at *
      generalize (insAt l pc).src = o2 at *
      generalize (insAt l pc).off = o3 at *
      generalize (insAt l pc).imm = o4 at *
      have qb : (b : Int) < (m : Int) := by have := HBL.out; omega
      have qb0 : (0 : Int) ≤ (b : Int) := by omega
      cases lv with
      | false =>
        have e0 : Hid (frontsM l (done ++ [pc]) = frontsM l done) := by rw [HSN.out, if_neg (by simp), List.append_nil]; exact Lib.hid rfl
        have HFa : Hid (Fr No w wr) := HF.out
        have HFr : Hid (Fr No wr wr) := Fr.refl _ _
        go_wp2_with (first
          | (go_at_call 78; (with_reducible refine (HLV.out _).mono ?_); rintro e w9 ⟨rfl, hf9⟩; have HFa := Lib.hid (HFa.out.trans hf9); have HFr := Lib.hid (HFr.out.trans hf9))
          | (go_at_call 58; (with_reducible refine (HBH.out _ HFa.out).mono ?_); rintro e w9 ⟨rfl, hf9⟩; have HFa := Lib.hid (HFa.out.trans hf9); have HFr := Lib.hid (HFr.out.trans hf9)))
        go_roundw
        case rel => exact ⟨b, f, done ++ [pc], rfl, by have := HBL.out; have := HMN.out; omega, Lib.hid (by have := HFU.out; have := HBP.out; omega), HST2, by rw [e0.out]; exact HM.out.late HFr.out, HFa.out⟩
        case measure =>
          have := HLT.out
          have := HBP.out
          simp [intOf]
          omega
      | true =>
        have e0 : Hid (frontsM l (done ++ [pc]) = frontsM l done ++ [b] ++ L) := by rw [HSN.out, if_pos rfl]; exact Lib.hid (by simp)
        have HFa : Hid (Fr No w wr) := HF.out
        have HMa : Hid (MarksAt wr g0 m (frontsM l done)) := HM.out
        go_upto_region 8 with (first
          | (go_at_call 78; (with_reducible refine (HLV.out _).mono ?_); rintro e w9 ⟨rfl, hf9⟩; have HFa := Lib.hid (HFa.out.trans hf9); have HMa := Lib.hid (HMa.out.late hf9))
          | (go_at_call 58; (with_reducible refine (HBH.out _ HFa.out).mono ?_); rintro e w9 ⟨rfl, hf9⟩; have HFa := Lib.hid (HFa.out.trans hf9); have HMa := Lib.hid (HMa.out.late hf9); have kb : w9.cell? ⟨g0, b, none⟩ = some (.bool ((frontsM l done).contains b)) := (HMa.out b HBL.out).1; have kf : w9.frozen? ⟨g0, b, none⟩ = false := (HMa.out b HBL.out).2))
        obtain ⟨W1, hW1⟩ : ∃ W1, W1 = w9.setCell ⟨g0, b, none⟩ (.bool true) := ⟨_, rfl⟩
        have HM1 : Hid (MarksAt W1 g0 m (frontsM l done ++ [b])) := by rw [hW1]; exact HMa.out.add HBL.out
        have HFb : Hid (Fr No w W1) := by rw [hW1]; exact HLO.out _ _ HGE.out HFa.out _ _
        rw [← hW1]
        clear hW1 kb kf HMa HFa
        have HGL : Hid (g0 < W1.heap.size) := World.block_lt_of_cell? W1 _ (HM1.out 0 (by have := HMN.out; omega)).1
        go_wp2_with (go_at_call 18; (with_reducible refine (HNXT.out _ HFb.out).mono ?_); rintro e w2 ⟨v', rfl, nat, own, hf2⟩; obtain ⟨a2, q2, rfl⟩ := nat.form; have HNA := Lib.hid nat; have HOW := Lib.hid own; have HF2 := Lib.hid hf2; clear nat own hf2)
        obtain ⟨c, hc⟩ : ∃ c, L.length = c := ⟨_, rfl⟩
        rw [hc]
        rw [hc] at HN2
        have HLC := Lib.hid hc
        have hc2 : c ≤ 2 := HN2.out
        clear hc
        go_loopw [35] (fun i wr => ∃ k : Nat, i = .int .i64 k ∧ k ≤ c ∧ Hid (MarksAt wr g0 m (frontsM l done ++ [b] ++ L.take k)) ∧ Hid (Fr No w wr) ∧ Hid (Fr (Isb g0) w2 wr)) (fun i _ => c - (intOf i).toNat)
        case atStart => exact ⟨0, rfl, Nat.zero_le _, by rw [List.take_zero, List.append_nil]; exact Lib.hid (HM1.out.late HF2.out), HFb.out.trans HF2.out, Fr.refl _ _⟩
        case round =>
          obtain ⟨k, rfl, hk, HMk, HFk, HIk⟩ := hrel
          by_cases hlt : k < c
          · obtain ⟨x, hx⟩ : ∃ x, L[k]? = some x := ⟨L[k]'(by rw [HLC.out]; exact hlt), List.getElem?_eq_getElem _⟩
            have HX := Lib.hid hx
            have hnat := HNA.out
            rcases hnat with ⟨h1, _⟩ | ⟨g2, c2, h2, hc2⟩
            · rw [h1] at hx; simp at hx
            injection h2 with h2 _ h4
            subst h2 h4
            have hg2 : g2 ≠ g0 := by have := HOW.out g2 rfl; have := HGL.out; omega
            have j0 := i64_cell (HIk.out.cells hc2 hg2) hx
            have hxm := HNL.out x (List.mem_of_getElem? hx)
            have HXM := Lib.hid hxm
            have kb : wr.cell? ⟨g0, x, none⟩ = some (.bool ((frontsM l done ++ [b] ++ L.take k).contains x)) := (HMk.out x hxm).1
            have kf : wr.frozen? ⟨g0, x, none⟩ = false := (HMk.out x hxm).2
            have r1 : (x : Int) < (m : Int) := by omega
            have r0 : (0 : Int) ≤ (x : Int) := by omega
            generalize (frontsM l done ++ [b] ++ L.take k).contains x = bb at kb
            clear hx hc2 hg2 hxm
            go_wp2_with fail
            go_roundw
            case rel => exact ⟨k + 1, by go_num, by omega, by have h := HMk.out.add HXM.out; rw [List.append_assoc _ (L.take k)] at h; rw [List.take_add_one, HX.out]; exact Lib.hid h, HLO.out _ _ HGE.out HFk.out _ _, HIk.out.setB _ _⟩
            case measure => simp [intOf] <;> omega
          · obtain rfl : k = c := by omega
            have e1 : L.take k = L := by rw [← HLC.out]; exact List.take_length
            rw [e1] at HMk
            clear e1 hlt
            have HFa := HFk
            have HMa := HMk
            go_wp2_with (go_at_call 58; (with_reducible refine (HBH.out _ HFa.out).mono ?_); rintro e w9 ⟨rfl, hf9⟩; have HFa := Lib.hid (HFa.out.trans hf9); have HMa := Lib.hid (HMa.out.late hf9))
            go_roundw
            case rel => exact ⟨b, f, done ++ [pc], rfl, by have := HBL.out; have := HMN.out; omega, Lib.hid (by have := HFU.out; have := HBP.out; omega), HST2, by rw [e0.out]; exact HMa, HFa.out⟩
            case measure =>
              have := HLT.out
              have := HBP.out
              simp [intOf]
              omega
    · have hge : ¬ (pc : Int) < (n : Int) := by omega
      have HNL := Lib.hid hlt
      clear hlt
      go_wp2_with fail
      go_ret
      have e : starts l = done := by rw [HST.out, firsts_out (by rw [HN.out]; have := HNL.out; omega), List.append_nil]
      exact ⟨g0, rfl, HGE.out, World.block_lt_of_cell? wr _ (HM.out 0 (by have := HMN.out; omega)).1, e ▸ HM.out, HF.out⟩
end Go.Proofs.YtakcdecljfmckaaGreatDoor

namespace Go.Proofs.YtakcdecljfmckaaGreatDoor
open Go.RowKit

/-- an append, and where the new row lies -/
theorem run_append_at2 {P : Program} {w : World} (t ty : TypeId) (base : Nat) (e : TypeId) (i : TypeInfo) (z : Value) (size bytes : Nat) (ht : P.underlying t = some (.slice e)) (hi : P.info? e = some i) (hz : i.zero = some z)
    (hsize : i.size = size) (hby : i.bytes = bytes) (hzs : z.cells.size = size) (hsz : 0 < size)
    (v : Value) (n : Nat) (xs : List Value) (hown : w.ownsRow base e size v n xs) (u : Value) (m : Nat) (news : List Value) (hu : SrcAt w u m news) (hl : news.length = m * size) (h1 : ∀ u ∈ news, u.oneCell' = true)
    (h63 : n + m ≤ maxLen) (hbytes : (n + m) * bytes ≤ 140737488355328) (hbase : base ≤ w.heap.size) :
    ∃ v' w', (Builtin.append_ #[t, t] ty #[v, u]).run P w = .ok v' w' ∧ w'.ownsRow base e size v' (n + m) (xs ++ news) ∧ Fr (OwnOf v) w w' ∧ (v'.ownBlock = v.ownBlock ∨ v'.ownBlock = some w.heap.size) := by
  rcases hu with ⟨rfl, rfl, rfl⟩ | ⟨ad, c, rfl, hnews⟩
  · exact ⟨v, w, run_append_owned_none (P := P) (w := w) base t ty e i size ht hi v n xs hown, by simpa using hown, Fr.refl _ _, .inl rfl⟩
  · obtain ⟨v', w', hr, h2, h3, _, h5⟩ := run_append_own_at (P := P) w base t ty e i z size bytes ht hi hz hsize hby hzs hsz v n xs hown ad m c news hl hnews h1 h63 hbytes hbase
    exact ⟨v', w', hr, h2, grown_fr h3, h5⟩

theorem wpList_append_at2 {P : Program} {w : World} {ops : Array Oper} {rest : List Oper} {o : Oper} {a : Act} {Q : Exit → Act → World → Prop} (hgd : o.guard = none) (s x : Operand) (t : TypeId)
    (ho : o.op = .call { callee := .builtin .append, args := #[s, x], argTypes := #[t, t] })
    (base : Nat) (e : TypeId) (i : TypeInfo) (z : Value) (size bytes : Nat) (ht : P.underlying t = some (.slice e)) (hi : P.info? e = some i) (hz : i.zero = some z)
    (hsize : i.size = size) (hby : i.bytes = bytes) (hzs : z.cells.size = size) (hsz : 0 < size)
    (v : Value) (n : Nat) (xs : List Value) (hs : a.eval s = v) (hown : w.ownsRow base e size v n xs) (u : Value) (m : Nat) (news : List Value) (hx : a.eval x = u) (hu : SrcAt w u m news) (hl : news.length = m * size) (h1 : ∀ u ∈ news, u.oneCell' = true)
    (h63 : n + m ≤ maxLen) (hbytes : (n + m) * bytes ≤ 140737488355328) (hbase : base ≤ w.heap.size)
    (h : ∀ v' w', w'.ownsRow base e size v' (n + m) (xs ++ news) → Fr (OwnOf v) w w' → (v'.ownBlock = v.ownBlock ∨ v'.ownBlock = some w.heap.size) → wpList P ops Q rest (a.put o.dst v') w') : wpList P ops Q (o :: rest) a w :=
  wpList_plain hgd fun _ hK => by
    obtain ⟨v', w', hr, h2, h3, h4⟩ := run_append_at2 (P := P) t o.type base e i z size bytes ht hi hz hsize hby hzs hsz v n xs hown u m news hu hl h1 h63 hbytes hbase
    unfold Oper.wp execOp
    simp only [ho, resolve, invoke, builtin, Sem.run_bind, Sem.run_pure, Result.andThen_ok, List.map_toArray, List.map_cons, List.map_nil, hs, hx, hr]
    exact hK _ _ (h v' w' h2 h3 h4)

/-- two rows of a call's own, in blocks of their own -/
structure Duo (base : Nat) (t1 : TypeId) (s1 : Nat) (v1 : Value) (n1 : Nat) (x1 : List Value) (t2 : TypeId) (s2 : Nat) (v2 : Value) (n2 : Nat) (x2 : List Value) (wr : World) : Prop where
  o1 : wr.ownsRow base t1 s1 v1 n1 x1
  o2 : wr.ownsRow base t2 s2 v2 n2 x2
  ap : ∀ k, v1.ownBlock = some k → v2.ownBlock ≠ some k
theorem Duo.start (base : Nat) (t1 t2 : TypeId) (s1 s2 : Nat) (wr : World) : Duo base t1 s1 (.slice none 0 0) 0 [] t2 s2 (.slice none 0 0) 0 [] wr :=
  ⟨World.ownsRow_nil _ _ _ _, World.ownsRow_nil _ _ _ _, fun k hk => by simp [Value.ownBlock] at hk⟩
theorem Duo.swap {base : Nat} {t1 : TypeId} {s1 : Nat} {v1 : Value} {n1 : Nat} {x1 : List Value} {t2 : TypeId} {s2 : Nat} {v2 : Value} {n2 : Nat} {x2 : List Value} {wr : World} (h : Duo base t1 s1 v1 n1 x1 t2 s2 v2 n2 x2 wr) : Duo base t2 s2 v2 n2 x2 t1 s1 v1 n1 x1 wr :=
  ⟨h.o2, h.o1, fun k hk hk2 => h.ap k hk2 hk⟩
theorem Duo.to {base : Nat} {t1 : TypeId} {s1 : Nat} {v1 : Value} {n1 : Nat} {x1 : List Value} {t2 : TypeId} {s2 : Nat} {v2 : Value} {n2 : Nat} {x2 : List Value} {wr w' : World} (h : Duo base t1 s1 v1 n1 x1 t2 s2 v2 n2 x2 wr) (hf : Fr No wr w') : Duo base t1 s1 v1 n1 x1 t2 s2 v2 n2 x2 w' :=
  ⟨ownsRow_fr h.o1 hf (fun _ _ => id), ownsRow_fr h.o2 hf (fun _ _ => id), h.ap⟩
theorem Duo.left {base : Nat} {t1 : TypeId} {s1 : Nat} {v1 v1' : Value} {n1 n1' : Nat} {x1 x1' : List Value} {t2 : TypeId} {s2 : Nat} {v2 : Value} {n2 : Nat} {x2 : List Value} {wr w' : World} (h : Duo base t1 s1 v1 n1 x1 t2 s2 v2 n2 x2 wr)
    (ho : w'.ownsRow base t1 s1 v1' n1' x1') (hf : Fr (OwnOf v1) wr w') (hat : v1'.ownBlock = v1.ownBlock ∨ v1'.ownBlock = some wr.heap.size) : Duo base t1 s1 v1' n1' x1' t2 s2 v2 n2 x2 w' := by
  refine ⟨ho, ownsRow_fr h.o2 hf (fun k hk ho => h.ap k ho hk), fun k hk hk2 => ?_⟩
  rcases hat with hat | hat
  · exact h.ap k (hat ▸ hk) hk2
  · have := (h.o2.lt k hk2).2
    rw [hat] at hk
    have := Option.some.inj hk
    omega
theorem Duo.frames {base : Nat} {t1 : TypeId} {s1 : Nat} {v1 : Value} {n1 : Nat} {x1 : List Value} {t2 : TypeId} {s2 : Nat} {v2 : Value} {n2 : Nat} {x2 : List Value} {w wr w' : World} (h : Duo base t1 s1 v1 n1 x1 t2 s2 v2 n2 x2 wr) (hb : w.heap.size ≤ base) (hw : Fr No w wr) (hf : Fr (OwnOf v1) wr w') : Fr No w w' :=
  ((hw.any.trans (hf.mono fun k _ hk => Nat.le_trans hb (OwnOf.ge h.o1 hk)) : Fr (From w) w w').ours)
/-- a cell of the left row is written -/
theorem Duo.set {base : Nat} {t1 : TypeId} {s1 : Nat} {g1 c1 n1 : Nat} {x1 : List Value} {t2 : TypeId} {s2 : Nat} {v2 : Value} {n2 : Nat} {x2 : List Value} {wr : World} (h : Duo base t1 s1 (.slice (some ⟨g1, 0, none⟩) n1 c1) n1 x1 t2 s2 v2 n2 x2 wr) {o : Nat} (ho : o < x1.length) (x : Value) :
    Duo base t1 s1 (.slice (some ⟨g1, 0, none⟩) n1 c1) n1 (x1.set o x) t2 s2 v2 n2 x2 (wr.setCell ⟨g1, o, none⟩ x) := by
  refine ⟨ownsRow_set h.o1 ho x, ?_, h.ap⟩
  exact ownsRow_setCell_other h.o2 (fun e => h.ap g1 rfl e) x
/-- blocks that are cut, as cells -/
def bflat (B : List Cb) : List Value := B.flatMap fun c : Cb => [.int .i64 (c.fr : Int), .int .i64 (c.to : Int), .slice none 0 0]
theorem bflat_len (B : List Cb) : (bflat B).length = B.length * 3 := by
  induction B with
  | nil => rfl
  | cons b B ih => simp only [bflat, List.flatMap_cons, List.length_append, List.length_cons, List.length_nil] at *; omega
theorem bflat_snoc (B : List Cb) (c : Cb) : bflat (B ++ [c]) = bflat B ++ [.int .i64 (c.fr : Int), .int .i64 (c.to : Int), .slice none 0 0] := by simp [bflat]
theorem bflat_set (B : List Cb) (c : Cb) (x : Nat) (q : Nat) : (bflat (B ++ [c])).set (B.length * 3 + 1) (.int .i64 (x : Int)) = bflat (B ++ [⟨c.fr, x, q⟩]) := by
  rw [bflat_snoc, bflat_snoc, List.set_append_right _ _ (by rw [bflat_len]; omega), bflat_len]
  have : B.length * 3 + 1 - B.length * 3 = 1 := by omega
  rw [this]
  rfl
theorem i64s_snoc (L : List Nat) (x : Nat) : i64s (L ++ [x]) = i64s L ++ [.int .i64 (x : Int)] := by simp [i64s]
theorem i64s_set (L : List Nat) (a x : Nat) : (i64s (L ++ [a])).set L.length (.int .i64 (x : Int)) = i64s (L ++ [x]) := by
  rw [i64s_snoc, i64s_snoc, List.set_append_right _ _ (by simp)]
  simp
theorem ownsRow_any {w : World} {base size n : Nat} {e : TypeId} {v : Value} {xs : List Value} (h : w.ownsRow base e size v n xs) : ∃ a c, v = .slice a n c := by
  rcases h.2 with ⟨h1, h2⟩ | ⟨g', cap', cur, hv, -⟩
  · exact ⟨none, 0, by rw [h1, h2]⟩
  · exact ⟨_, _, hv⟩
theorem Tryz.infoCh_blk : (Tryz.prog.info? 48).map (fun i => (i.zero, i.size, i.bytes)) = some (some (.agg #[.int .i64 0, .int .i64 0, .slice none 0 0]), 3, 40) := by kernel_rfl
end Go.Proofs.YtakcdecljfmckaaGreatDoor
