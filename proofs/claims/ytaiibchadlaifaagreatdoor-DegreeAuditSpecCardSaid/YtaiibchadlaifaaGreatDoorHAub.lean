/-
  The reference's search of a residual network. Conditions: the edges and the flows read as data, the flows are within the capacities.
-/
import Derived.Test.YtaiibchadlaifaaGreatDoorHAua
set_option linter.unusedVariables false
set_option linter.unusedSimpArgs false

namespace Go.Proofs.YtaiibchadlaifaaGreatDoor
open Go.RowKit Go.Shelf

/-- What the search gives. -/
def SearchR (n s : Nat) (l : List Edge) (F : List Int) (w w' : World) (e : Ending) : Prop :=
  ∃ gm gb bys vis, e = .returned (.tuple #[.slice (some ⟨gm, 0, none⟩) n n, .slice (some ⟨gb, 0, none⟩) n n]) ∧ Reach l F n s bys vis ∧ (∀ v, v ∈ vis → Cl l F vis v (2 * l.length)) ∧ w.heap.size ≤ gm ∧ w.heap.size ≤ gb ∧
    w'.heap[gm]? = some (.cells (bys.map metV).toArray 4 (0, 0)) ∧ w'.heap[gb]? = some (.cells (bys.map (byV l.length)).toArray 3 (0, 0)) ∧ Below w.heap.size w w'

set_option maxRecDepth 100000 in
set_option maxHeartbeats 16000000 in
theorem ref18_search_c (n s : Nat) (l : List Edge) (F : List Int) (A AF : Option Addr) (c cF : Nat) (w : World) (h : Rd kEdge w A l) (hF : Rd kI w AF F) (hn : n ≤ 4096) (hs : s < n) (hll : l.length ≤ 65536) (hlF : F.length = l.length) (hnod : nodesIn n l) (m30 : ∀ e, e ∈ l → 0 ≤ e.m ∧ e.m ≤ 1073741824) (f30 : ∀ x, x ∈ F → 0 ≤ x ∧ x ≤ 1073741824) :
    Calls Tryz.prog 94 #[.int .i64 n, .slice A l.length c, .slice AF l.length cF, .int .i64 s] w fun e w' => SearchR n s l F w w' e := by
  have HL : Hid (Rd kEdge w A l ∧ Rd kI w AF F ∧ nodesIn n l ∧ (∀ e, e ∈ l → 0 ≤ e.m ∧ e.m ≤ 1073741824) ∧ (∀ x, x ∈ F → 0 ≤ x ∧ x ≤ 1073741824)) := ⟨h, hF, hnod, m30, f30⟩
  clear h hF hnod m30 f30
  have hmk1 : ∀ W : World, (Instr.makeSlice 43 (.int .i64 (n : Int)) (.int .i64 (n : Int))).run Tryz.prog W = .ok (.slice (some ⟨W.heap.size, 0, none⟩) n n) (W.alloc (.cells (List.replicate n (Value.bool false)).toArray 4)) := fun W => by
    have := run_make_row' (P := Tryz.prog) 43 4 (.bool false) 1 Tryz.underlying43 bool_info rfl .i64 .i64 n (by omega) (by omega) W
    rw [this]
    congr 3
    apply Array.ext'
    rw [toList_madeCells_one]
  have hmk2 : ∀ W : World, (Instr.makeSlice 34 (.int .i64 (n : Int)) (.int .i64 (n : Int))).run Tryz.prog W = .ok (.slice (some ⟨W.heap.size, 0, none⟩) n n) (W.alloc (.cells (List.replicate n (Value.int .i64 0)).toArray 3)) := fun W => by
    have := run_make_row' (P := Tryz.prog) 34 3 (.int .i64 0) 8 Tryz.underlying34 int_info rfl .i64 .i64 n (by omega) (by omega) W
    rw [this]
    congr 3
    apply Array.ext'
    rw [toList_madeCells_one]
  obtain ⟨CB, hCB⟩ : ∃ CB, CB = List.replicate n (Value.bool false) := ⟨_, rfl⟩
  obtain ⟨CI, hCI⟩ : ∃ CI, CI = List.replicate n (Value.int .i64 0) := ⟨_, rfl⟩
  rw [← hCB] at hmk1
  rw [← hCI] at hmk2
  have hg0 := alloc2_blk0 w (.cells CB.toArray 4) (.cells CI.toArray 3)
  have hg1 := alloc2_blk1 w (.cells CB.toArray 4) (.cells CI.toArray 3)
  have hc0 : ((w.alloc (.cells CB.toArray 4)).alloc (.cells CI.toArray 3)).cell? ⟨w.heap.size, s, none⟩ = some (.bool false) := by rw [blk_cell hg0, hCB]; simp [hs]
  have hf0 := blk_frozen hg0 s
  have hCB' : Hid (CB = List.replicate n (Value.bool false)) := hCB
  have hCI' : Hid (CI = List.replicate n (Value.int .i64 0)) := hCI
  have hb2 := below2 w (.cells CB.toArray 4) (.cells CI.toArray 3)
  have hz2 := alloc2_size w (.cells CB.toArray 4) (.cells CI.toArray 3)
  have hs0 : (0 : Int) ≤ s := by omega
  have hs1 : (s : Int) < n := by omega
  clear hCB hCI
  go_enter Tryz.func94, Tryz.ntmps94
  go_wp2_with fail
  have hst := RSt.start l F hs w
  rw [← hCB'.out, ← hCI'.out] at hst
  clear hmk1 hmk2 hg0 hg1 hc0 hf0 hCB' hCI' hb2 hz2
  generalize ((w.alloc _).alloc _).alloc _ = W3 at *
  generalize w.heap.size + 1 = gb at *
  generalize hgm : w.heap.size = gm at *
  have HST : Hid (RSt l F n s gm gm gb w ((List.replicate n (-1)).set s ((2 * l.length : Nat) : Int)) [s] (.slice (some ⟨gb + 1, 0, none⟩) 1 1) W3) := hst
  clear hst
  go_loopw [12, 13, 14, 15] (fun qv q _ _ wr => ∃ (k : Nat) (bys : List Int) (vis : List Nat), k ≤ vis.length ∧ q = .int .i64 k ∧ Hid (∀ j v, j < k → vis[j]? = some v → Cl l F vis v (2 * l.length)) ∧ Hid (RSt l F n s gm gm gb w bys vis qv wr)) (fun _ q _ _ _ => n - (intOf q).toNat)
  case atStart => exact ⟨0, _, _, Nat.zero_le _, rfl, fun j v hj => by omega, HST⟩
  case round =>
    obtain ⟨k, bys, vis, hk, rfl, HC, HR⟩ := hrel
    obtain ⟨Aq, cq, hqv, _, hrq⟩ := HR.out.que.rd encI_len
    rw [List.length_map] at hqv
    have hvl : vis.length ≤ n := nodup_le HR.out.reach.nod HR.out.reach.lt
    subst hqv
    by_cases hlt : k < vis.length
    · obtain ⟨v, hv⟩ : ∃ v, vis[k]? = some v := ⟨_, List.getElem?_eq_getElem hlt⟩
      obtain ⟨x, bq, oq, hx, rfl, hbq, cq0⟩ := kI_get hrq (k := k) (by simpa using hlt)
      have hxv : x = (v : Int) := by
        have h1 := hx.out
        rw [List.getElem?_map, hv] at h1
        simpa using h1.symm
      subst hxv
      have HV : Hid (vis[k]? = some v) := hv
      have hkn : k < n := by omega
      have hk0 : (0 : Int) ≤ k := by omega
      have hkv : (k : Int) < vis.length := by omega
      clear hx hv hrq
      go_wp2
      go_loopw [12, 15] (fun qv i wi => ∃ (m : Nat) (bys2 : List Int) (vis2 : List Nat), m ≤ l.length ∧ i = .int .i64 m ∧ Hid (vis2[k]? = some v) ∧ Hid (∀ j x, j < k → vis2[j]? = some x → Cl l F vis2 x (2 * l.length)) ∧ Hid (Cl l F vis2 v (2 * m)) ∧ Hid (RSt l F n s gm gm gb w bys2 vis2 qv wi)) (fun _ i _ => l.length - (intOf i).toNat)
      case atStart => exact ⟨0, bys, vis, Nat.zero_le _, rfl, HV, HC, fun r hr => by omega, HR⟩
      case round =>
        clear HR HC HV cq0 hbq hlt hkv hk hvl HST
        obtain ⟨m, bys2, vis2, hm, rfl, HV, HC, HCm, HR⟩ := hrel
        by_cases hml : m < l.length
        · obtain ⟨hE, hFl, hnod, m30, f30⟩ := HL.out
          have hlow : Below w.heap.size w wr := by rw [hgm]; exact HR.out.low
          obtain ⟨x, b, off, hx, hA, hbw, f0w, f1w, f2w⟩ := kEdge_get hE hml
          subst hA
          obtain ⟨y, bF, oF, hy, hAF, hbFw, cFw⟩ := kI_get hFl (k := m) (by omega)
          subst hAF
          have f0 := (hlow.cell (p := ⟨b, off + m * 3, none⟩) hbw).trans f0w
          have f1 := (hlow.cell (p := ⟨b, off + m * 3 + 1, none⟩) hbw).trans f1w
          have f2 := (hlow.cell (p := ⟨b, off + m * 3 + 2, none⟩) hbw).trans f2w
          have cF0 := (hlow.cell (p := ⟨bF, oF + m, none⟩) hbFw).trans cFw
          have hb1 : b ≠ gm := by omega
          have hb2 : b ≠ gb := by have := HR.out.hb; omega
          have hb3 : bF ≠ gm := by omega
          have hb4 : bF ≠ gb := by have := HR.out.hb; omega
          have hbr : b < wr.heap.size := Nat.lt_of_lt_of_le hbw hlow.size
          have hbFr : bF < wr.heap.size := Nat.lt_of_lt_of_le hbFw hlow.size
          have hW0 : Hid (Below w.heap.size w wr ∧ b < w.heap.size ∧ bF < w.heap.size ∧ w.cell? ⟨b, off + m * 3, none⟩ = some (.int .i64 x.f) ∧ w.cell? ⟨b, off + m * 3 + 1, none⟩ = some (.int .i64 x.t) ∧ w.cell? ⟨b, off + m * 3 + 2, none⟩ = some (.int .i64 x.m) ∧ w.cell? ⟨bF, oF + m, none⟩ = some (.int .i64 y)) := ⟨hlow, hbw, hbFw, f0w, f1w, f2w, cFw⟩
          clear f0w f1w f2w cFw hbw hbFw
          have hxn := hnod x (List.mem_of_getElem? hx.out)
          have hxm := m30 x (List.mem_of_getElem? hx.out)
          have hy30 := f30 y (List.mem_of_getElem? hy.out)
          obtain ⟨ce1, ce2, ce3⟩ := cap_even hx.out hy.out
          obtain ⟨co1, co2, co3⟩ := cap_odd hx.out hy.out
          have hlb := HR.out.reach.len
          obtain ⟨xf, xt, xm⟩ := x
          dsimp only at *
          obtain ⟨kf, rfl⟩ : ∃ kf : Nat, xf = kf := ⟨xf.toNat, by omega⟩
          obtain ⟨kt, rfl⟩ : ∃ kt : Nat, xt = kt := ⟨xt.toNat, by omega⟩
          have hkf : kf < n := by omega
          have hkt : kt < n := by omega
          have HO : Hid (capR l F (2 * m + 1) = y ∧ begR l (2 * m + 1) = kt ∧ endR l (2 * m + 1) = kf) := ⟨co1, co2, co3⟩
          have HEv : Hid (capR l F (2 * m) = xm - y ∧ begR l (2 * m) = kf ∧ endR l (2 * m) = kt) := ⟨ce1, ce2, ce3⟩
          have q1 : (0 : Int) ≤ kf := by omega
          have q2 : (kf : Int) < n := by omega
          have q3 : (0 : Int) ≤ kt := by omega
          have q4 : (kt : Int) < n := by omega
          have q5 : (0 : Int) ≤ m := by omega
          have q6 : (m : Int) < l.length := by omega
          obtain ⟨hxm0, hxm1⟩ := hxm
          obtain ⟨hy0, hy1⟩ := hy30
          clear hE hFl hnod m30 f30 hx hy ce1 ce2 ce3 co1 co2 co3 hlow hxn
          go_upto_region 12 with fail
          obtain ⟨z, hz⟩ : ∃ z, bys2[kt]? = some z := ⟨_, List.getElem?_eq_getElem (by omega)⟩
          have HZ : Hid (bys2[kt]? = some z) := hz
          have cmt : wr.cell? ⟨gm, kt, none⟩ = some (.bool (decide (0 ≤ z))) := by rw [blk_cell HR.out.met]; simp [hz, metV]
          have cbt : wr.cell? ⟨gb, kt, none⟩ = some (byV l.length z) := by rw [blk_cell HR.out.byb]; simp [hz]
          clear hz
          go_cut [12, 70] (fun qv s70 wx => qv = u12 ∧ wx = wr.drew ∧ ((s70 = .bool false ∧ Hid (Cl l F vis2 v (2 * m + 1))) ∨ (s70 = .bool true ∧ (kf : Int) = v ∧ y < xm ∧ z < 0)))
          case first =>
            by_cases c1 : (kf : Int) = v
            · by_cases c2 : y < xm
              · by_cases c3 : 0 ≤ z
                · have c3' : decide (0 ≤ z) = true := decide_eq_true c3
                  -- <
                  rw [c3'] at cmt
                  rw [c1] at f0
                  refine wp_region_G 29 (fun w' => w' = wr.drew) (by kernel_rfl) (by kernel_rfl) (by intro d v c a w h; cases d <;> exact h) rfl ?_
                  iterate 29 (
                    first
                      | refine wpG_next rfl (by kernel_rfl) (.inr ⟨by rfl, rfl⟩) ?_
                      | (refine wpG_next (v := ?_) rfl (by kernel_rfl) (.inl ⟨by rfl, ?hy⟩) ?_
                         case hy => (rintro w' rfl; simp only [List.getElem_toArray, List.getElem_cons_succ, List.getElem_cons_zero]; go_simp; try with_reducible rfl))
                    simp only [List.getElem_toArray, List.getElem_cons_succ, List.getElem_cons_zero, Act.put, List.setIfInBounds_toArray, List.set_cons_zero, List.set_cons_succ, Nat.reduceAdd, Nat.reduceSub])
                  refine wpG_done (by kernel_rfl) ?_
                  simp only [List.drop_succ_cons, List.drop_zero]
                  go_wp2_with fail
                  go_meet
                  case rel => exact ⟨rfl, rfl, .inl ⟨rfl, HCm.out.next fun _ _ => ⟨kt, (HR.out.reach.mem hkt HZ.out).2 c3, HEv.out.2.2⟩⟩⟩
                  -- >
                · have c3' : decide (0 ≤ z) = false := decide_eq_false c3
                  -- <
                  rw [c3'] at cmt
                  rw [c1] at f0
                  refine wp_region_G 29 (fun w' => w' = wr.drew) (by kernel_rfl) (by kernel_rfl) (by intro d v c a w h; cases d <;> exact h) rfl ?_
                  iterate 29 (
                    first
                      | refine wpG_next rfl (by kernel_rfl) (.inr ⟨by rfl, rfl⟩) ?_
                      | (refine wpG_next (v := ?_) rfl (by kernel_rfl) (.inl ⟨by rfl, ?hy⟩) ?_
                         case hy => (rintro w' rfl; simp only [List.getElem_toArray, List.getElem_cons_succ, List.getElem_cons_zero]; go_simp; try with_reducible rfl))
                    simp only [List.getElem_toArray, List.getElem_cons_succ, List.getElem_cons_zero, Act.put, List.setIfInBounds_toArray, List.set_cons_zero, List.set_cons_succ, Nat.reduceAdd, Nat.reduceSub])
                  refine wpG_done (by kernel_rfl) ?_
                  simp only [List.drop_succ_cons, List.drop_zero]
                  go_wp2_with fail
                  go_meet
                  case rel => exact ⟨rfl, rfl, .inr ⟨rfl, c1, c2, by omega⟩⟩
                  -- >
              · skip
                -- <
                rw [c1] at f0
                refine wp_region_G 29 (fun w' => w' = wr.drew) (by kernel_rfl) (by kernel_rfl) (by intro d v c a w h; cases d <;> exact h) rfl ?_
                iterate 29 (
                  first
                    | refine wpG_next rfl (by kernel_rfl) (.inr ⟨by rfl, rfl⟩) ?_
                    | (refine wpG_next (v := ?_) rfl (by kernel_rfl) (.inl ⟨by rfl, ?hy⟩) ?_
                       case hy => (rintro w' rfl; simp only [List.getElem_toArray, List.getElem_cons_succ, List.getElem_cons_zero]; go_simp; try with_reducible rfl))
                  simp only [List.getElem_toArray, List.getElem_cons_succ, List.getElem_cons_zero, Act.put, List.setIfInBounds_toArray, List.set_cons_zero, List.set_cons_succ, Nat.reduceAdd, Nat.reduceSub])
                refine wpG_done (by kernel_rfl) ?_
                simp only [List.drop_succ_cons, List.drop_zero]
                go_wp2_with fail
                go_meet
                case rel => exact ⟨rfl, rfl, .inl ⟨rfl, HCm.out.next fun h1 _ => (by have := HEv.out.1; omega)⟩⟩
                -- >
            · have c4 : ((kf : Int) == v) = false := by simpa using c1
              have c5 : decide ((kf : Int) = v) = false := by simpa using c1
              -- <
              refine wp_region_G 29 (fun w' => w' = wr.drew) (by kernel_rfl) (by kernel_rfl) (by intro d v c a w h; cases d <;> exact h) rfl ?_
              iterate 29 (
                first
                  | refine wpG_next rfl (by kernel_rfl) (.inr ⟨by rfl, rfl⟩) ?_
                  | (refine wpG_next (v := ?_) rfl (by kernel_rfl) (.inl ⟨by rfl, ?hy⟩) ?_
                     case hy => (rintro w' rfl; simp only [List.getElem_toArray, List.getElem_cons_succ, List.getElem_cons_zero]; go_simp; try with_reducible rfl))
                simp only [List.getElem_toArray, List.getElem_cons_succ, List.getElem_cons_zero, Act.put, List.setIfInBounds_toArray, List.set_cons_zero, List.set_cons_succ, Nat.reduceAdd, Nat.reduceSub])
              refine wpG_done (by kernel_rfl) ?_
              simp only [List.drop_succ_cons, List.drop_zero]
              go_wp2_with fail
              go_meet
              case rel => exact ⟨rfl, rfl, .inl ⟨rfl, HCm.out.next fun _ h2 => absurd (HEv.out.2.1.symm.trans h2) c1⟩⟩
              -- >
          case rest =>
            obtain ⟨rfl, rfl, hcase⟩ := hcut
            have fmt := blk_frozen HR.out.met kt
            have fbt := blk_frozen HR.out.byb kt
            have hne := HR.out.ne
            have hbz : z < 0 → byV l.length z = .int .i64 0 := fun h => by unfold byV byI; rw [if_pos (by omega)]
            refine ‹∀ (a : Act) (w : World), Code.wp Tryz.prog (Code.cond (.tmp 70) _ _) _ a w → _› _ _ ?_
            go_cut [12] (fun qv wx => ∃ (bys3 : List Int) (vis3 : List Nat), Hid (vis3[k]? = some v) ∧ Hid (∀ j x, j < k → vis3[j]? = some x → Cl l F vis3 x (2 * l.length)) ∧ Hid (Cl l F vis3 v (2 * m + 1)) ∧ Hid (RSt l F n s gm gm gb w bys3 vis3 qv wx))
            case first =>
              rcases hcase with ⟨rfl, HCn⟩ | ⟨rfl, c1, c2, c3⟩
              · go_wp2_with fail
                go_meet
                case rel => exact ⟨bys2, vis2, HV, HC, HCn, HR.out.drew⟩
              · skip
                -- <
                rw [hbz c3] at cbt
                rw [decide_eq_false (by omega)] at cmt
                have hsto := HR.out.stored kt (2 * m)
                rw [show byV l.length ((2 * m : Nat) : Int) = .int .i64 (m + 1) by unfold byV; rw [byI_even hml]] at hsto
                have hown1 := hsto.2.2.1
                have hszs : gm ≤ ((wr.setCell ⟨gm, kt, none⟩ (.bool true)).setCell ⟨gb, kt, none⟩ (.int .i64 ((m : Int) + 1))).heap.size := Nat.le_trans (by omega) hsto.2.2.2.size
                have HOWN : Hid (OwnF encI 1 3 gm ((wr.setCell ⟨gm, kt, none⟩ (.bool true)).setCell ⟨gb, kt, none⟩ (.int .i64 ((m : Int) + 1))) u12 (vis2.map fun v : Nat => (v : Int))) := hown1
                have hvl2 : vis2.length ≤ n := nodup_le HR.out.reach.nod HR.out.reach.lt
                clear hsto hown1
                go_wp2_with (at_builtin; refine wpList_append1_at rfl (.tmp 87) (.tmp 93) 34 rfl 3 (.int .i64 0) 8 Tryz.underlying34 int_info rfl (by decide) encI_len encI_one gm u12 (vis2.map fun v : Nat => (v : Int)) rfl (HOWN.out.below (below1 _ _).drew) _ (kt : Int) rfl ?c2 ?c3 (by decide) ?c4 ?_; rotate_left 3; intro A2 c2 w2 hown2 hg2 hk2)
                case c2 =>
                  intro j u hj
                  have e : ((wr.setCell ⟨gm, kt, none⟩ (.bool true)).setCell ⟨gb, kt, none⟩ (.int .i64 ((m : Int) + 1))).heap.size = wr.heap.size := by simp [World.setCell]
                  have h2 := blk_cell (World.alloc_heap_new ((wr.setCell ⟨gm, kt, none⟩ (.bool true)).setCell ⟨gb, kt, none⟩ (.int .i64 ((m : Int) + 1))) (.cells #[.int .i64 kt] 3)) j
                  rw [e] at h2
                  refine h2.trans ?_
                  simpa [encI] using hj
                case c3 => rw [List.length_map]; omega
                case c4 => show gm ≤ (World.alloc _ _).heap.size; rw [World.size_alloc]; omega
                go_meet
                case rel =>
                  have e1 : byV l.length ((2 * m : Nat) : Int) = .int .i64 (m + 1) := by unfold byV; rw [byI_even hml]
                  refine ⟨bys2.set kt ((2 * m : Nat) : Int), vis2 ++ [kt], snoc_at HV.out, closed_snoc HV.out HC.out, (HCm.out.more).next fun _ _ => ⟨kt, by simp, HEv.out.2.2⟩, ?_⟩
                  exact RSt.pushed HR.out (v := v) hkt (HR.out.out_of hkt HZ.out c3) (List.mem_of_getElem? HV.out) (by omega) (by have := HEv.out.1; omega) HEv.out.2.2 (by rw [HEv.out.2.1]; exact c1) rfl (by rw [e1]; exact (below1 _ _).drew) hg2 (by simpa using hown2) (by rw [List.length_map] at hk2; simpa using hk2)
                -- >
            case rest =>
              clear HR HV HC HCm hcase hbz fmt fbt cmt cbt HZ HEv f0 f1 f2 cF0 hbr hbFr
              obtain ⟨bys3, vis3, HV, HC, HCm, HR⟩ := hcut
              obtain ⟨_, hbw, hbFw, f0w, f1w, f2w, cFw⟩ := hW0.out
              have hlow : Below w.heap.size w wc := by rw [hgm]; exact HR.out.low
              have f0 := (hlow.cell (p := ⟨b, off + m * 3, none⟩) hbw).trans f0w
              have f1 := (hlow.cell (p := ⟨b, off + m * 3 + 1, none⟩) hbw).trans f1w
              have f2 := (hlow.cell (p := ⟨b, off + m * 3 + 2, none⟩) hbw).trans f2w
              have cF0 := (hlow.cell (p := ⟨bF, oF + m, none⟩) hbFw).trans cFw
              have hbr : b < wc.heap.size := Nat.lt_of_lt_of_le hbw hlow.size
              have hbFr : bF < wc.heap.size := Nat.lt_of_lt_of_le hbFw hlow.size
              have hlb := HR.out.reach.len
              obtain ⟨z, hz⟩ : ∃ z, bys3[kf]? = some z := ⟨_, List.getElem?_eq_getElem (by omega)⟩
              have HZ : Hid (bys3[kf]? = some z) := hz
              have cmt : wc.cell? ⟨gm, kf, none⟩ = some (.bool (decide (0 ≤ z))) := by rw [blk_cell HR.out.met]; simp [hz, metV]
              have cbt : wc.cell? ⟨gb, kf, none⟩ = some (byV l.length z) := by rw [blk_cell HR.out.byb]; simp [hz]
              have fmt := blk_frozen HR.out.met kf
              have fbt := blk_frozen HR.out.byb kf
              clear hz f0w f1w f2w cFw hbw hbFw hlow
              by_cases c1 : (kt : Int) = v
              · by_cases c2 : 0 < y
                · by_cases c3 : 0 ≤ z
                  · rw [decide_eq_true c3] at cmt
                    rw [c1] at f1
                    go_wp2
                    go_roundw
                    case rel => exact ⟨m + 1, bys3, vis3, by omega, by go_num, HV, HC, HCm.out.next fun _ _ => ⟨kf, (HR.out.reach.mem hkf HZ.out).2 c3, HO.out.2.2⟩, HR⟩
                    case measure => simp [intOf]; omega
                  · rw [decide_eq_false c3] at cmt
                    rw [c1] at f1
                    have hbz : byV l.length z = .int .i64 0 := by unfold byV byI; rw [if_pos (by omega)]
                    rw [hbz] at cbt
                    have hsto := HR.out.stored kf (2 * m + 1)
                    rw [show byV l.length ((2 * m + 1 : Nat) : Int) = .int .i64 (-((m : Int) + 1)) by unfold byV; rw [byI_odd hml]] at hsto
                    have hown1 := hsto.2.2.1
                    have hszs : gm ≤ ((wc.setCell ⟨gm, kf, none⟩ (.bool true)).setCell ⟨gb, kf, none⟩ (.int .i64 (-((m : Int) + 1)))).heap.size := Nat.le_trans (by omega) hsto.2.2.2.size
                    have HOWN : Hid (OwnF encI 1 3 gm ((wc.setCell ⟨gm, kf, none⟩ (.bool true)).setCell ⟨gb, kf, none⟩ (.int .i64 (-((m : Int) + 1)))) u12 (vis3.map fun v : Nat => (v : Int))) := hown1
                    have hvl2 : vis3.length ≤ n := nodup_le HR.out.reach.nod HR.out.reach.lt
                    clear hsto hown1
                    go_wp2_with (at_builtin; refine wpList_append1_at rfl (.tmp 137) (.tmp 143) 34 rfl 3 (.int .i64 0) 8 Tryz.underlying34 int_info rfl (by decide) encI_len encI_one gm u12 (vis3.map fun v : Nat => (v : Int)) rfl (HOWN.out.below (below1 _ _)) _ (kf : Int) rfl ?c2 ?c3 (by decide) ?c4 ?_; rotate_left 3; intro A2 c2 w2 hown2 hg2 hk2)
                    case c2 => intro j u hj; simpa [encI] using hj
                    case c3 => omega
                    case c4 => have h1 := HR.out.low.size; have h2 := HR.out.le; omega
                    go_roundw
                    case rel =>
                      have e1 : byV l.length ((2 * m + 1 : Nat) : Int) = .int .i64 (-((m : Int) + 1)) := by unfold byV; rw [byI_odd hml]
                      refine ⟨m + 1, bys3.set kf ((2 * m + 1 : Nat) : Int), vis3 ++ [kf], by omega, by go_num, snoc_at HV.out, closed_snoc HV.out HC.out, (HCm.out.more).next fun _ _ => ⟨kf, by simp, HO.out.2.2⟩, ?_⟩
                      exact RSt.pushed HR.out (v := v) hkf (HR.out.out_of hkf HZ.out (by omega)) (List.mem_of_getElem? HV.out) (by omega) (by have := HO.out.1; omega) HO.out.2.2 (by rw [HO.out.2.1]; exact c1) rfl (by rw [e1]; exact below1 _ _) hg2 (by simpa using hown2) (by rw [List.length_map] at hk2; simpa using hk2)
                    case measure => simp [intOf]; omega
                · have c2' : ¬ (0 : Int) < y := c2
                  rw [c1] at f1
                  go_wp2
                  go_roundw
                  case rel => exact ⟨m + 1, bys3, vis3, by omega, by go_num, HV, HC, HCm.out.next fun h1 _ => (by have := HO.out.1; omega), HR⟩
                  case measure => simp [intOf]; omega
              · have c4 : ((kt : Int) == v) = false := by simpa using c1
                go_wp2
                go_roundw
                case rel => exact ⟨m + 1, bys3, vis3, by omega, by go_num, HV, HC, HCm.out.next fun _ h2 => absurd (HO.out.2.1.symm.trans h2) c1, HR⟩
                case measure => simp [intOf]; omega
        · obtain rfl : m = l.length := by omega
          go_wp2
          go_roundw
          case rel =>
            refine ⟨k + 1, bys2, vis2, ?_, by go_num, fun j x hj hx => ?_, HR⟩
            · have := (List.getElem?_eq_some_iff.1 HV.out).1; omega
            · by_cases e : j = k
              · subst e
                have := HV.out.symm.trans hx
                injection this with this
                subst this
                exact HCm.out
              · exact HC.out j x (by omega) hx
          case measure => simp [intOf]; omega
    · obtain rfl : k = vis.length := by omega
      go_wp2
      exact bodyPost_ret (v := .tuple #[.slice (some ⟨gm, 0, none⟩) n n, .slice (some ⟨gb, 0, none⟩) n n]) (by simp [results, Tryz.results94, go_sem]) rfl ⟨gm, gb, bys, vis, rfl, HR.out.reach, fun v hv => by
        obtain ⟨i, hi⟩ := List.mem_iff_getElem?.1 hv
        exact HC.out i v (List.getElem?_eq_some_iff.1 hi).1 hi, by omega, by have := HR.out.hb; omega, HR.out.met, HR.out.byb, by rw [hgm]; exact HR.out.low⟩
end Go.Proofs.YtaiibchadlaifaaGreatDoor
