/-
  The reference's augment: the flows behind a push along the path that the search found. Conditions: the arguments read as data, the path is usable.
  The reference's greatest flow. Conditions: the edges read as data, the network and its ends are valid.
  The uses that the reference collects from a flow are the ones the audit collects. Conditions: none.
  The reference's audit. Conditions: the arguments read as data, at most 8 attempts and 6 requirements.
  The law DegreeAuditSpec. Conditions: the arguments read as data.
-/
import Derived.Test.YtaiibchadlaifaaGreatDoorHAub
set_option linter.unusedVariables false
set_option linter.unusedSimpArgs false

namespace Go.Proofs.YtaiibchadlaifaaGreatDoor
open Go.RowKit Go.Shelf

theorem okF_prefix {l : List Edge} {F : List Int} {p p1 p2 : List Nat} {d : Int} (hp : p = p1 ++ p2) (ok : okF l F) (hu : ∀ r, r ∈ p → r < 2 * l.length ∧ d ≤ capR l F r) (hnd : (p.map (· / 2)).Nodup) (h0 : 0 ≤ d) : okF l (pushAll F p1 d) := by
  subst hp
  rw [List.map_append, List.nodup_append] at hnd
  exact okF_pushAll h0 ok (fun r hr => hu r (List.mem_append_left _ hr)) hnd.1
theorem minP_bd {l : List Edge} {F : List Int} {p : List Nat} (h : ∀ r, r ∈ p → 0 < capR l F r) : 1 ≤ minP l F 1073741824 p ∧ minP l F 1073741824 p ≤ 1073741824 := ⟨minP_pos p _ (by decide) h, (minP_le p _).1⟩
theorem flatMap_encI : ∀ xs : List Int, xs.flatMap encI = xs.map (Value.int .i64)
  | [] => rfl
  | x :: xs => by rw [List.flatMap_cons, flatMap_encI xs]; rfl
/-- An element of a row of numbers of the call's own; a store into it. -/
theorem OwnI.get {base : Nat} {w : World} {v : Value} {xs : List Int} (h : OwnF encI 1 3 base w v xs) {i : Nat} {x : Int} (hx : xs[i]? = some x) : ∃ g c, v = .slice (some ⟨g, 0, none⟩) xs.length c ∧ base ≤ g ∧ g < w.heap.size ∧ w.cell? ⟨g, i, none⟩ = some (.int .i64 x) ∧ w.frozen? ⟨g, i, none⟩ = false ∧
    ∀ y : Int, OwnF encI 1 3 base (w.setCell ⟨g, i, none⟩ (.int .i64 y)) v (xs.set i y) := by
  have hi := (List.getElem?_eq_some_iff.1 hx).1
  obtain ⟨hl, ⟨rfl, h0⟩ | ⟨g, cap, cur, rfl, hb, hg, hnc, hcm, hcs, htk⟩⟩ := h
  · omega
  have hcell : cur[i]? = some (.int .i64 x) := by
    have h1 := flatMap_get (enc := encI) encI_len xs i x 0 (.int .i64 x) hx rfl
    rw [← htk, List.getElem?_take] at h1
    split at h1
    · simpa using h1
    · cases h1
  refine ⟨g, cap, rfl, hb, (Array.getElem?_eq_some_iff.1 hg).1, (blk_cell hg i).trans hcell, blk_frozen hg i, fun y => ?_⟩
  refine ⟨by rw [flatMap_len encI_len, List.length_set], .inr ⟨g, cap, cur.setIfInBounds i (.int .i64 y), by rw [List.length_set], hb, heap_setCell_same w g i _ _ _ hg, by rw [List.length_set]; exact hnc, hcm, by rw [Array.size_setIfInBounds]; exact hcs, ?_⟩⟩
  rw [List.length_set, Array.toList_setIfInBounds]
  rw [flatMap_encI, List.map_set, ← flatMap_encI, ← htk, List.take_set]

set_option maxRecDepth 100000 in
set_option maxHeartbeats 16000000 in
theorem ref18_augment_c (n s t : Nat) (l : List Edge) (F bys : List Int) (p : List Nat) (A AF AB : Option Addr) (c cF cB : Nat) (w : World) (h : Rd kEdge w A l) (hF : Rd kI w AF F) (hB : Rd kI w AB (bys.map (byI l.length))) (hch : Chain l bys s t p) (hp : ∀ r, r ∈ p → r < 2 * l.length ∧ 0 < capR l F r) (hnd : (p.map (· / 2)).Nodup) (hbl : bys.length = n)
    (ok : okF l F) (hn : n ≤ 4096) (hll : l.length ≤ 65536) (hnod : nodesIn n l) (m30 : ∀ e, e ∈ l → 0 ≤ e.m ∧ e.m ≤ 1073741824) :
    Calls Tryz.prog 95 #[.slice A l.length c, .slice AF l.length cF, .slice AB n cB, .int .i64 s, .int .i64 t] w fun e w' => ∃ A' c', e = .returned (.slice A' l.length c') ∧ OwnF encI 1 3 w.heap.size w' (.slice A' l.length c') (pushAll F p (minP l F 1073741824 p)) ∧ Below w.heap.size w w' := by
  have hlF := okF_length ok
  have hok30 : ∀ F', okF l F' → ∀ x, x ∈ F' → 0 ≤ x ∧ x ≤ 1073741824 := fun F' h => okF_bound h (fun e q => (m30 e q).2)
  obtain ⟨hd1, hd2⟩ := minP_bd (l := l) (F := F) (p := p) (fun r hr => (hp r hr).2)
  have hdu : ∀ r, r ∈ p → r < 2 * l.length ∧ minP l F 1073741824 p ≤ capR l F r := fun r hr => ⟨(hp r hr).1, (minP_le p _).2 r hr⟩
  have HL : Hid (Rd kEdge w A l ∧ Rd kI w AF F ∧ Rd kI w AB (bys.map (byI l.length)) ∧ nodesIn n l ∧ (∀ e, e ∈ l → 0 ≤ e.m ∧ e.m ≤ 1073741824) ∧ (∀ r, r ∈ p → r < 2 * l.length ∧ 0 < capR l F r) ∧ okF l F ∧ (p.map (· / 2)).Nodup ∧ (∀ r, r ∈ p → r < 2 * l.length ∧ minP l F 1073741824 p ≤ capR l F r) ∧ (∀ F', okF l F' → ∀ x, x ∈ F' → 0 ≤ x ∧ x ≤ 1073741824)) := ⟨h, hF, hB, hnod, m30, hp, ok, hnd, hdu, hok30⟩
  have HC : Hid (Chain l bys s t p) := hch
  clear h hF hB hnod m30 hp ok hnd hdu hok30 hch
  go_enter Tryz.func95, Tryz.ntmps95
  go_wp2_with fail
  go_loopg [11, 12, 13, 14] p.length (fun k least v _ _ wr => ∃ (p1 p2 : List Nat) (b : Nat), Hid (p = p1 ++ p2) ∧ k = p2.length ∧ v = .int .i64 b ∧ least = .int .i64 (minP l F 1073741824 p1) ∧ Hid (Chain l bys s b p2) ∧ Below w.heap.size w wr)
  case atStart => exact ⟨[], p, t, rfl, rfl, rfl, rfl, HC.out, Below.refl _ _⟩
  case round =>
    obtain ⟨p1, p2, b, HP, hk, rfl, rfl, HCh, hBr⟩ := hrel
    have HK : Hid (gk = p2.length) := hk
    clear hk
    cases p2 with
    | nil =>
      have hbs : b = s := HCh.out
      subst hbs
      have hpp : p1 = p := by rw [HP.out]; simp
      subst hpp
      clear HP HCh HK
      generalize hd : minP l F 1073741824 p1 = d at *
      have HBr : Hid (Below w.heap.size w wr) := hBr
      have HD : Hid (minP l F 1073741824 p1 = d) := hd
      clear hBr hd
      go_wp2_with (at_builtin; refine wpList_appendR rfl (.tmp 67) (.tmp 68) 34 3 rfl (.int .i64 0) 8 Tryz.underlying34 int_info rfl (by decide) encI_len encI_one w.heap.size (.slice (some ⟨wr.heap.size, 0, none⟩) 0 0) [] F rfl (OwnF.made encI _ HBr.out.size) AF cF ?cx ?cr ?cl (by decide) ?cb ?_; rotate_left 4; intro A2 c2 w2; rw [show ([] : List Int).length + F.length = l.length from by simpa using hlF]; intro hown2 hg2 hk2)
      case cx => rw [hlF]; rfl
      case cr => exact HL.out.2.1.below ((HBr.out.mono (Nat.le_refl _)).alloc HBr.out.size _)
      case cl => rw [hlF]; simp; omega
      case cb => rw [World.size_alloc]; have := HBr.out.size; omega
      have hmade : OwnF encI 1 3 w.heap.size (wr.alloc (.cells #[] 3)) (.slice (some ⟨wr.heap.size, 0, none⟩) 0 0) ([] : List Int) := OwnF.made encI _ HBr.out.size
      have hB2 : Below w.heap.size w w2 := (HBr.out.alloc HBr.out.size _).grown hg2 (by rw [World.size_alloc]; have := HBr.out.size; omega) (fun k e => (hmade.row k e).1)
      clear hmade
      have HB2 : Hid (Below w.heap.size w w2) := hB2
      have HO2 : Hid (OwnF encI 1 3 w.heap.size w2 (.slice A2 l.length c2) F) := hown2
      clear hB2 hown2 hg2 hk2
      go_loopg [16, 17, 18] p1.length (fun k v _ _ wi => ∃ (q1 q2 : List Nat) (x : Nat), Hid (p1 = q1 ++ q2) ∧ k = q2.length ∧ v = .int .i64 x ∧ Hid (Chain l bys b x q2) ∧ Hid (OwnF encI 1 3 w.heap.size wi (.slice A2 l.length c2) (pushAll F q1 d)) ∧ Below w.heap.size w wi)
      case atStart => exact ⟨[], p1, t, rfl, rfl, rfl, HC, HO2, HB2.out⟩
      case round =>
        clear HB2 HO2 HBr
        obtain ⟨q1, q2, x, HP, hk, rfl, HCh, HO, hBi⟩ := hrel
        have HK : Hid (gk = q2.length) := hk
        clear hk
        cases q2 with
        | nil =>
          have hxb : x = b := HCh.out
          subst hxb
          have hpp : q1 = p1 := by rw [HP.out]; simp
          subst hpp
          go_wp2_with fail
          exact bodyPost_ret (v := .slice A2 l.length c2) (by simp [results, Tryz.results95, go_sem]) rfl ⟨A2, c2, rfl, by rw [HD.out]; exact HO.out, hBi⟩
        | cons r q2 =>
          obtain ⟨hvs, hby, hend, b', hbeg, hch2⟩ := HCh.out
          obtain ⟨hE, hFl, hBy, hnod, m30, hp, ok, hnd, hdu, hok30⟩ := HL.out
          have hr := hp r (by rw [HP.out]; simp)
          have hbn : x < n := by rw [← hbl]; exact (List.getElem?_eq_some_iff.1 hby).1
          have hml : r / 2 < l.length := by omega
          obtain ⟨ed, bE, off, hx, hA, hbE, f0w, f1w, f2w⟩ := kEdge_get hE hml
          subst hA
          obtain ⟨z, bB, oB, hz, hAB, hbB, cBw⟩ := kI_get hBy (k := x) (by rw [List.length_map]; omega)
          subst hAB
          have hzr : z = byI l.length (r : Int) := by
            have := hz.out
            rw [List.getElem?_map, hby] at this
            simpa using this.symm
          have hok1 := okF_prefix HP.out ok hdu hnd (by omega)
          have hl1 : (pushAll F q1 d).length = l.length := by rw [pushAll_len]; exact hlF
          obtain ⟨y, hy⟩ : ∃ y, (pushAll F q1 d)[r / 2]? = some y := ⟨_, List.getElem?_eq_getElem (by omega)⟩
          have hy30 := hok30 _ hok1 y (List.mem_of_getElem? hy)
          obtain ⟨g, c3, hv, hbg, hgs, hcel, hfz, hset⟩ := OwnI.get HO.out hy
          injection hv with e1 e2 e3
          subst e1 e3
          have HSET : Hid (∀ y : Int, OwnF encI 1 3 w.heap.size (wr.setCell ⟨g, r / 2, none⟩ (.int .i64 y)) (.slice (some ⟨g, 0, none⟩) l.length c2) ((pushAll F q1 d).set (r / 2) y)) := hset
          have hps : pushAll F (q1 ++ [r]) d = (pushAll F q1 d).set (r / 2) (y + (if r % 2 = 0 then d else -d)) := by rw [pushAll_snoc]; unfold pushR; rw [hy]; rfl
          have HPS : Hid (pushAll F (q1 ++ [r]) d = (pushAll F q1 d).set (r / 2) (y + (if r % 2 = 0 then d else -d))) := hps
          clear hset hps hy hok1 e2 hl1
          have f0 := (hBi.cell (p := ⟨bE, off + r / 2 * 3, none⟩) hbE).trans f0w
          have f1 := (hBi.cell (p := ⟨bE, off + r / 2 * 3 + 1, none⟩) hbE).trans f1w
          have cB0 := (hBi.cell (p := ⟨bB, oB + x, none⟩) hbB).trans cBw
          have hxn := hnod ed (List.mem_of_getElem? hx.out)
          have hcv : begR l (2 * (r / 2)) = ed.f ∧ begR l (2 * (r / 2) + 1) = ed.t := by
            have h2 : (F[r / 2]?) = some F[r / 2] := List.getElem?_eq_getElem (by omega)
            exact ⟨(cap_even hx.out h2).2.1, (cap_odd hx.out h2).2.1⟩
          obtain ⟨ce2, co2⟩ := hcv
          obtain ⟨xf, xt, xm⟩ := ed
          dsimp only at *
          obtain ⟨kf, rfl⟩ : ∃ kf : Nat, xf = kf := ⟨xf.toNat, by omega⟩
          obtain ⟨kt, rfl⟩ : ∃ kt : Nat, xt = kt := ⟨xt.toNat, by omega⟩
          obtain ⟨hy0, hy1⟩ := hy30
          have hb0 : (0 : Int) ≤ x := by omega
          have hb1 : (x : Int) < n := by omega
          have hbs : ((x : Int) == b) = false := by simp; omega
          have hbE' := Nat.lt_of_lt_of_le hbE hBi.size
          have hbB' := Nat.lt_of_lt_of_le hbB hBi.size
          have hneE : bE ≠ g := by omega
          have HCh2 : Hid (Chain l bys b b' q2) := hch2
          generalize hi2 : r / 2 = i at *
          have hev : r = 2 * i ∨ r = 2 * i + 1 := by omega
          rcases hev with hev | hev <;> subst hev
          · skip
            have hzv : z = (i : Int) + 1 := by rw [hzr]; exact byI_even hml
            subst hzv
            have hi0 : (0 : Int) ≤ i := by omega
            have hi1 : (i : Int) < l.length := by omega
            have hbb : (kf : Int) = b' := ce2.symm.trans hbeg
            have HP2 : Hid (p1 = (q1 ++ [2 * i]) ++ q2) := by show p1 = _; rw [HP.out]; simp
            have hiv : (2 * i) % 2 = 0 := by omega
            rw [if_pos hiv] at HPS
            clear hE hFl hBy hnod m30 hp ok hnd hdu hok30 hx hz f0w f1w f2w cBw hr hvs hby hend hbeg hch2 ce2 co2 hzr HP HCh hxn hiv
            go_wp2_with fail
            go_roundg q2.length
            case rel => exact ⟨q1 ++ [2 * i], q2, b', HP2, rfl, by (first | rfl | rw [hbb]), HCh2, by rw [HPS.out]; exact HSET.out _, hBi.setCell (p := ⟨g, i, none⟩) hbg _⟩
            case measure => rw [HK.out]; simp
          · skip
            have hzv : z = -((i : Int) + 1) := by rw [hzr]; exact byI_odd hml
            subst hzv
            have hi0 : (0 : Int) ≤ i := by omega
            have hi1 : (i : Int) < l.length := by omega
            have hbb : (kt : Int) = b' := co2.symm.trans hbeg
            have HP2 : Hid (p1 = (q1 ++ [2 * i + 1]) ++ q2) := by show p1 = _; rw [HP.out]; simp
            have hng : decide (0 < -((i : Int) + 1)) = false := decide_eq_false (by omega)
            have hiv : ¬ (2 * i + 1) % 2 = 0 := by omega
            rw [if_neg hiv] at HPS
            clear hE hFl hBy hnod m30 hp ok hnd hdu hok30 hx hz f0w f1w f2w cBw hr hvs hby hend hbeg hch2 ce2 co2 hzr HP HCh hxn hiv
            go_wp2_with fail
            go_roundg q2.length
            case rel => exact ⟨q1 ++ [2 * i + 1], q2, b', HP2, rfl, by (first | rfl | rw [hbb]), HCh2, by rw [HPS.out]; exact HSET.out _, hBi.setCell (p := ⟨g, i, none⟩) hbg _⟩
            case measure => rw [HK.out]; simp
    | cons r p2 =>
      obtain ⟨hvs, hby, hend, b', hbeg, hch2⟩ := HCh.out
      obtain ⟨hE, hFl, hBy, hnod, m30, hp, ok, hnd, hdu, hok30⟩ := HL.out
      have hr := hp r (by rw [HP.out]; simp)
      have hbn : b < n := by rw [← hbl]; exact (List.getElem?_eq_some_iff.1 hby).1
      have hml : r / 2 < l.length := by omega
      obtain ⟨x, bE, off, hx, hA, hbE, f0w, f1w, f2w⟩ := kEdge_get hE hml
      subst hA
      obtain ⟨y, bF, oF, hy, hAF, hbF, cFw⟩ := kI_get hFl (k := r / 2) (by omega)
      subst hAF
      obtain ⟨z, bB, oB, hz, hAB, hbB, cBw⟩ := kI_get hBy (k := b) (by rw [List.length_map]; omega)
      subst hAB
      have hzr : z = byI l.length (r : Int) := by
        have := hz.out
        rw [List.getElem?_map, hby] at this
        simpa using this.symm
      have f0 := (hBr.cell (p := ⟨bE, off + r / 2 * 3, none⟩) hbE).trans f0w
      have f1 := (hBr.cell (p := ⟨bE, off + r / 2 * 3 + 1, none⟩) hbE).trans f1w
      have f2 := (hBr.cell (p := ⟨bE, off + r / 2 * 3 + 2, none⟩) hbE).trans f2w
      have cF0 := (hBr.cell (p := ⟨bF, oF + r / 2, none⟩) hbF).trans cFw
      have cB0 := (hBr.cell (p := ⟨bB, oB + b, none⟩) hbB).trans cBw
      have hxm := m30 x (List.mem_of_getElem? hx.out)
      have hy30 := hok30 F ok y (List.mem_of_getElem? hy.out)
      have hxn := hnod x (List.mem_of_getElem? hx.out)
      obtain ⟨ce1, ce2, ce3⟩ := cap_even hx.out hy.out
      obtain ⟨co1, co2, co3⟩ := cap_odd hx.out hy.out
      have hmp := minP_bd (l := l) (F := F) (p := p1) (fun q hq => (hp q (by rw [HP.out]; simp [hq])).2)
      have hsn := minP_snoc (l := l) (F := F) (r := r) p1 1073741824
      generalize minP l F 1073741824 p1 = T at *
      obtain ⟨xf, xt, xm⟩ := x
      dsimp only at *
      obtain ⟨kf, rfl⟩ : ∃ kf : Nat, xf = kf := ⟨xf.toNat, by omega⟩
      obtain ⟨kt, rfl⟩ : ∃ kt : Nat, xt = kt := ⟨xt.toNat, by omega⟩
      obtain ⟨hxm0, hxm1⟩ := hxm
      obtain ⟨hy0, hy1⟩ := hy30
      obtain ⟨hT0, hT1⟩ := hmp
      have hb0 : (0 : Int) ≤ b := by omega
      have hb1 : (b : Int) < n := by omega
      have hbs : ((b : Int) == s) = false := by simp; omega
      have hbE' := Nat.lt_of_lt_of_le hbE hBr.size
      have hbF' := Nat.lt_of_lt_of_le hbF hBr.size
      have hbB' := Nat.lt_of_lt_of_le hbB hBr.size
      have HCh2 : Hid (Chain l bys s b' p2) := hch2
      generalize hi2 : r / 2 = i at *
      have hev : r = 2 * i ∨ r = 2 * i + 1 := by omega
      rcases hev with hev | hev <;> subst hev
      · skip
        have hzv : z = (i : Int) + 1 := by rw [hzr]; exact byI_even hml
        subst hzv
        have hi0 : (0 : Int) ≤ i := by omega
        have hi1 : (i : Int) < l.length := by omega
        rw [ce1] at hsn
        have hbb : (kf : Int) = b' := ce2.symm.trans hbeg
        have HP2 : Hid (p = (p1 ++ [2 * i]) ++ p2) := by show p = _; rw [HP.out]; simp
        clear hE hFl hBy hnod m30 hp ok hnd hdu hok30 hx hy hz f0w f1w f2w cFw cBw hr hvs hby hend hbeg hch2 ce1 ce2 ce3 co1 co2 co3 hzr HP HCh hxn
        go_upto_region 6 with fail
        refine wp_region_G 12 (fun w' => w' = wr.drew) (by kernel_rfl) (by kernel_rfl) (by intro d v c a w h; cases d <;> exact h) rfl ?_
        iterate 10 (
          first
            | refine wpG_next rfl (by kernel_rfl) (.inr ⟨by rfl, rfl⟩) ?_
            | (refine wpG_next (v := ?_) rfl (by kernel_rfl) (.inl ⟨by rfl, ?hy⟩) ?_
               case hy => (rintro w' rfl; simp only [List.getElem_toArray, List.getElem_cons_succ, List.getElem_cons_zero]; go_simp; try with_reducible rfl))
          simp only [List.getElem_toArray, List.getElem_cons_succ, List.getElem_cons_zero, Act.put, List.setIfInBounds_toArray, List.set_cons_zero, List.set_cons_succ, Nat.reduceAdd, Nat.reduceSub])
        refine wpG_next (v := .int .i64 (xm - y)) rfl (by kernel_rfl) (.inl ⟨by rfl, ?hy⟩) ?_
        case hy => (rintro w' rfl; simp only [List.getElem_toArray, List.getElem_cons_succ, List.getElem_cons_zero]; go_simp; try (simp [IntKind.wrap, IntKind.bits, IntKind.signed]; omega))
        simp only [List.getElem_toArray, List.getElem_cons_succ, List.getElem_cons_zero, Act.put, List.setIfInBounds_toArray, List.set_cons_zero, List.set_cons_succ, Nat.reduceAdd, Nat.reduceSub]
        refine wpG_next (v := .int .i64 (min T (xm - y))) rfl (by kernel_rfl) (.inl ⟨by rfl, ?hy⟩) ?_
        case hy => (rintro w' rfl; simp only [List.getElem_toArray, List.getElem_cons_succ, List.getElem_cons_zero]; go_simp; try (first | rfl | (simp [Int.min_def] <;> omega)))
        simp only [List.getElem_toArray, List.getElem_cons_succ, List.getElem_cons_zero, Act.put, List.setIfInBounds_toArray, List.set_cons_zero, List.set_cons_succ, Nat.reduceAdd, Nat.reduceSub]
        refine wpG_done (by kernel_rfl) ?_
        simp only [List.drop_succ_cons, List.drop_zero]
        go_wp2_with fail
        go_roundg p2.length
        case rel => exact ⟨p1 ++ [2 * i], p2, b', HP2, rfl, by (first | rfl | rw [hbb]), by rw [hsn], HCh2, hBr.drew⟩
        case measure => rw [HK.out]; simp
      · skip
        have hzv : z = -((i : Int) + 1) := by rw [hzr]; exact byI_odd hml
        subst hzv
        have hi0 : (0 : Int) ≤ i := by omega
        have hi1 : (i : Int) < l.length := by omega
        rw [co1] at hsn
        have hbb : (kt : Int) = b' := co2.symm.trans hbeg
        have HP2 : Hid (p = (p1 ++ [2 * i + 1]) ++ p2) := by show p = _; rw [HP.out]; simp
        have hng : decide (0 < -((i : Int) + 1)) = false := decide_eq_false (by omega)
        clear hE hFl hBy hnod m30 hp ok hnd hdu hok30 hx hy hz f0w f1w f2w cFw cBw hr hvs hby hend hbeg hch2 ce1 ce2 ce3 co1 co2 co3 hzr HP HCh hxn
        go_wp2_with fail
        · go_roundg p2.length
          case rel => exact ⟨p1 ++ [2 * i + 1], p2, b', HP2, rfl, by (first | rfl | rw [hbb]), by rw [hsn]; simp [Int.min_def]; omega, HCh2, hBr⟩
          case measure => rw [HK.out]; simp
        · go_roundg p2.length
          case rel => exact ⟨p1 ++ [2 * i + 1], p2, b', HP2, rfl, by (first | rfl | rw [hbb]), by rw [hsn]; simp [Int.min_def]; omega, HCh2, hBr⟩
          case measure => rw [HK.out]; simp
end Go.Proofs.YtaiibchadlaifaaGreatDoor

namespace Go.Proofs.YtaiibchadlaifaaGreatDoor
open Go.RowKit Go.Shelf

/-- What it gives. -/
def RMaxR (n s t : Nat) (l : List Edge) (w w' : World) (e : Ending) : Prop :=
  ∃ A cF gm F bys, e = .returned (.tuple #[.slice A l.length cF, .slice (some ⟨gm, 0, none⟩) n n, .int .i64 0]) ∧ Rd kI w' A F ∧ w'.heap[gm]? = some (.cells (bys.map metV).toArray 4 (0, 0)) ∧ bys.length = n ∧ MaxSpec n s t l F (cutOf bys) ∧ Below w.heap.size w w'

theorem rd_ints {w : World} {b : Nat} {T : TypeId} {f : Nat × Nat} {xs : List Int} (h : w.heap[b]? = some (.cells (xs.map (Value.int .i64)).toArray T f)) (hl : xs.length ≤ 9223372036854775807) : Rd kI w (some ⟨b, 0, none⟩) xs :=
  ⟨hl, fun _ => ⟨b, 0, rfl, fun i x hx => by
    refine ⟨[.int .i64 x], rfl, fun j v hj => ?_⟩
    rw [blk_cell h]
    cases j with
    | zero =>
      have hv : Value.int .i64 x = v := by simpa using hj
      subst hv
      simp [show kI.sz = 1 from rfl, hx]
    | succ j => simp at hj⟩⟩
theorem own_zeros {base : Nat} {w : World} {n : Nat} (hb : base ≤ w.heap.size) (hn : n ≤ 65536) : OwnF encI 1 3 base (w.alloc (.cells (List.replicate n (Value.int .i64 0)).toArray 3)) (.slice (some ⟨w.heap.size, 0, none⟩) n n) (List.replicate n 0) := by
  refine ⟨by rw [flatMap_len encI_len], .inr ⟨w.heap.size, n, (List.replicate n (Value.int .i64 0)).toArray, by rw [List.length_replicate], hb, World.alloc_heap_new _ _, by rw [List.length_replicate]; exact Nat.le_refl _, by unfold maxLen; omega, by simp, ?_⟩⟩
  rw [flatMap_encI, List.length_replicate, List.map_replicate]
  simp

set_option maxRecDepth 100000 in
set_option maxHeartbeats 16000000 in
theorem ref18_Max_c (n s t : Nat) (l : List Edge) (A : Option Addr) (c : Nat) (w : World) (h : Rd kEdge w A l) (he : endsE n s t l = 0) :
    Calls Tryz.prog 49 #[.int .i64 n, .slice A l.length c, .int .i64 s, .int .i64 t] w fun e w' => RMaxR n s t l w w' e := by
  have hc := ref18_ends_ok n s t l A c w h he
  obtain ⟨hf0, hs0, hs1, ht0, ht1, hst⟩ := ends_ok he
  obtain ⟨hn2, hn4, hll, hok⟩ := flowE_ok hf0
  have hin : nodesIn n l := fun e q => by have := hok e q; unfold edgeOk at this; simp at this; omega
  have m0 : ∀ e, e ∈ l → 0 ≤ e.m := fun e q => by have := hok e q; unfold edgeOk at this; simp at this; omega
  have m30 : ∀ e, e ∈ l → 0 ≤ e.m ∧ e.m ≤ 1073741824 := fun e q => by have := hok e q; unfold edgeOk at this; simp at this; omega
  have hnn : n ≤ 4096 := by omega
  have hll' : l.length ≤ 65536 := by omega
  have hsn : s < n := by omega
  have htn : t < n := by omega
  have hstn : s ≠ t := by omega
  have HL : Hid (Rd kEdge w A l ∧ nodesIn n l ∧ (∀ e, e ∈ l → 0 ≤ e.m ∧ e.m ≤ 1073741824)) := ⟨h, hin, m30⟩
  have ok0 : Hid (okF l (List.replicate l.length 0)) := okF_zero m0
  have cons0 : Hid (conserve n s t l (List.replicate l.length 0)) := fun v _ _ _ => outF_zero l v
  have hmk : ∀ W : World, (Instr.makeSlice 34 (.int .i64 (l.length : Int)) (.int .i64 (l.length : Int))).run Tryz.prog W = .ok (.slice (some ⟨W.heap.size, 0, none⟩) l.length l.length) (W.alloc (.cells (List.replicate l.length (Value.int .i64 0)).toArray 3)) := fun W => by
    have := run_make_row' (P := Tryz.prog) 34 3 (.int .i64 0) 8 Tryz.underlying34 int_info rfl .i64 .i64 l.length (by omega) (by omega) W
    rw [this]
    congr 3
    apply Array.ext'
    rw [toList_madeCells_one]
  clear he hf0 hok hs0 hs1 ht0 ht1 hst hn2 hn4 h hin m0 m30 hll
  go_enter Tryz.func49, Tryz.ntmps49
  go_wp2_with (go_at_call 93; refine hc.mono ?_; rintro e w1 ⟨rfl, hb1⟩)
  have HB1 : Hid (Below w.heap.size w (w1.alloc (.cells (List.replicate l.length (Value.int .i64 0)).toArray 3))) := hb1.alloc hb1.size _
  have HO1 : Hid (OwnF encI 1 3 w.heap.size (w1.alloc (.cells (List.replicate l.length (Value.int .i64 0)).toArray 3)) (.slice (some ⟨w1.heap.size, 0, none⟩) l.length l.length) (List.replicate l.length 0)) := own_zeros hb1.size hll'
  clear hmk hb1 hc
  go_loopg [11, 12, 13] ((capC (fun v => decide (v = (s : Int))) l - outF l (List.replicate l.length 0) s).toNat) (fun k fl _ _ wr => ∃ F A1 c1, k = (capC (fun v => decide (v = (s : Int))) l - outF l F s).toNat ∧ fl = .slice A1 l.length c1 ∧ Hid (okF l F) ∧ Hid (conserve n s t l F) ∧ Hid (OwnF encI 1 3 w.heap.size wr (.slice A1 l.length c1) F) ∧ Below w.heap.size w wr)
  case atStart => exact ⟨_, _, _, rfl, rfl, ok0, cons0, HO1, HB1.out⟩
  case round =>
    clear ok0 cons0 HO1 HB1
    obtain ⟨F, A1, c1, hk, rfl, OK, CONS, OWN, hBr⟩ := hrel
    have HK : Hid (gk = _) := hk
    clear hk
    have hlF := okF_length OK.out
    obtain ⟨A2, c2, hv2, _, hrd⟩ := OWN.out.rd encI_len
    injection hv2 with e1 e2 e3
    subst e1 e3
    have f30 := okF_bound OK.out (fun e q => (HL.out.2.2 e q).2)
    have hse := ref18_search_c n s l F A A1 c c1 wr (HL.out.1.below hBr) hrd hnn hsn hll' hlF HL.out.2.1 HL.out.2.2 f30
    have HRD : Hid (Rd kI wr A1 F) := hrd
    clear hrd f30 e2 hlF
    go_wp2_with fail
    refine hse.mono ?_
    intro e w4 hS
    unfold SearchR at hS
    obtain ⟨gm, gb, bys, vis, rfl, reach, hcl, hgm, hgb, hmet, hby, hb4⟩ := hS
    have hB4 : Below w.heap.size w w4 := hBr.trans (hb4.mono hBr.size)
    have hlen := reach.len
    obtain ⟨y, hy⟩ : ∃ y, bys[t]? = some y := ⟨_, List.getElem?_eq_getElem (by omega)⟩
    have hmem := reach.mem htn hy
    have htI : (t : Int) < n := by omega
    have ht0 : (0 : Int) ≤ t := by omega
    by_cases hyn : y < 0
    · have cmt : w4.cell? ⟨gm, t, none⟩ = some (.bool false) := by rw [blk_cell hmet]; simp [hy, metV]; omega
      have htv : t ∉ vis := fun q => by have := hmem.1 q; omega
      have hspec := reach.spec OK.out CONS.out htv (fun v r hv hr h1 h2 => hcl v hv r hr h1 h2)
      have HM : Hid (w4.heap[gm]? = some (.cells (bys.map metV).toArray 4 (0, 0))) := hmet
      have HS : Hid (MaxSpec n s t l F (cutOf bys) ∧ Below w.heap.size w w4 ∧ bys.length = n ∧ Rd kI w4 A1 F) := ⟨hspec, hB4, hlen, HRD.out.below hb4⟩
      clear hmem hy reach hcl hmet hby hspec htv hB4 hb4 hlen hse
      go_wp2_with fail
      exact bodyPost_ret (v := .tuple #[.slice A1 l.length c1, .slice (some ⟨gm, 0, none⟩) n n, .int .i64 0]) (by simp [results, Tryz.results49, go_sem]) rfl ⟨A1, c1, gm, F, bys, rfl, HS.out.2.2.2, HM.out, HS.out.2.2.1, HS.out.1, HS.out.2.1⟩
    · have cmt : w4.cell? ⟨gm, t, none⟩ = some (.bool true) := by rw [blk_cell hmet]; simp [hy, metV]; omega
      have htv : t ∈ vis := hmem.2 (by omega)
      obtain ⟨ti, hti⟩ := List.mem_iff_getElem?.1 htv
      obtain ⟨p, hch, hpg, hnd, _, _⟩ := reach.chain ti t hti
      obtain ⟨hpos, _⟩ := minP_bd (l := l) (F := F) (p := p) (fun r hr => (hpg r hr).2)
      have haug := augment_ok OK.out CONS.out hstn hch (fun r hr => ⟨(hpg r hr).1, (minP_le p _).2 r hr⟩) hnd hpos
      have hwk := weak1 HL.out.2.1 haug.1 haug.2.1 hsn hstn
      have hrb : Rd kI w4 (some ⟨gb, 0, none⟩) (bys.map (byI l.length)) := rd_ints (xs := bys.map (byI l.length)) (by rw [List.map_map]; exact hby) (by rw [List.length_map]; omega)
      have hau := ref18_augment_c n s t l F bys p A A1 (some ⟨gb, 0, none⟩) c c1 n w4 (HL.out.1.below hB4) (HRD.out.below hb4) hrb hch hpg hnd hlen OK.out hnn hll' HL.out.2.1 HL.out.2.2
      have HB4 : Hid (Below w.heap.size w w4) := hB4
      have HA : Hid (okF l (pushAll F p (minP l F 1073741824 p)) ∧ conserve n s t l (pushAll F p (minP l F 1073741824 p)) ∧ outF l F s < outF l (pushAll F p (minP l F 1073741824 p)) s ∧ outF l (pushAll F p (minP l F 1073741824 p)) s ≤ capC (fun v => decide (v = (s : Int))) l) := ⟨haug.1, haug.2.1, haug.2.2, hwk⟩
      clear hmem hy reach hcl hmet hby htv hB4 hb4 hlen hse hti hch hpg hnd hpos haug hwk hrb
      go_wp2_with fail
      refine hau.mono ?_
      rintro e w5 ⟨A5, c5, rfl, hown5, hb5⟩
      go_wp2_with fail
      go_roundg (capC (fun v => decide (v = (s : Int))) l - outF l (pushAll F p (minP l F 1073741824 p)) s).toNat
      case measure => rw [HK.out]; have := HA.out.2.2; omega
      case rel => exact ⟨_, A5, c5, rfl, rfl, HA.out.1, HA.out.2.1, hown5.lower HB4.out.size, HB4.out.trans (hb5.mono HB4.out.size)⟩
end Go.Proofs.YtaiibchadlaifaaGreatDoor

namespace Go.Proofs.YtaiibchadlaifaaGreatDoor
open Go.RowKit Go.Shelf

def useF (m : Nat) (x : Edge × Int) : Option Use := if 1 ≤ x.1.f ∧ x.1.f ≤ m ∧ 0 < x.2 then some ⟨x.1.f - 1, x.1.t - 1 - m, x.2⟩ else none
def usesE (m : Nat) (es : List Edge) (F : List Int) : List Use := (es.zip F).filterMap (useF m)
theorem usesE_snoc {m k : Nat} {es : List Edge} {F : List Int} {e : Edge} {f : Int} (he : es[k]? = some e) (hf : F[k]? = some f) : usesE m (es.take (k + 1)) (F.take (k + 1)) = usesE m (es.take k) (F.take k) ++ (useF m (e, f)).toList := by
  have h1 := (List.getElem?_eq_some_iff.1 he).1
  have h2 := (List.getElem?_eq_some_iff.1 hf).1
  unfold usesE
  rw [take_snoc_get he, take_snoc_get hf, List.zip_append (by rw [List.length_take, List.length_take]; omega), List.filterMap_append]
  cases h : useF m (e, f) <;> simp [h]
theorem usesE_none {m : Nat} : ∀ (es : List Edge) (F : List Int), (∀ e, e ∈ es → e.f < 1 ∨ m < e.f) → usesE m es F = []
  | [], F, _ => rfl
  | e :: es, [], _ => rfl
  | e :: es, f :: F, h => by
    have := usesE_none es F (fun x hx => h x (List.mem_cons_of_mem _ hx))
    have h1 := h e (List.mem_cons_self ..)
    unfold usesE at this ⊢
    rw [List.zip_cons_cons, List.filterMap_cons, show useF m (e, f) = none from if_neg (by dsimp only; omega)]
    exact this
theorem usesE_mid {l : List Att} : ∀ (ps : List (Nat × Int)) (F : List Int), (∀ x, x ∈ ps → x.1 < l.length) → usesE l.length (ps.map (edgeP l)) F = usesL ps F
  | [], F, _ => rfl
  | x :: ps, [], _ => rfl
  | x :: ps, f :: F, h => by
    have ih := usesE_mid ps F (fun y hy => h y (List.mem_cons_of_mem _ hy))
    have h1 := h x (List.mem_cons_self ..)
    unfold usesE usesL at ih ⊢
    rw [List.map_cons, List.zip_cons_cons, List.zip_cons_cons, List.filterMap_cons, List.filterMap_cons, ih]
    by_cases hf : 0 < f
    · rw [show useF l.length (edgeP l x, f) = some ⟨x.1, x.2, f⟩ from by
        unfold useF edgeP
        rw [if_pos (by dsimp only; omega)]
        dsimp only
        congr 2 <;> omega]
      simp [hf]
    · rw [show useF l.length (edgeP l x, f) = none from if_neg (by dsimp only; omega)]
      simp [hf]
theorem usesE_net {p : Prg} {l : List Att} {F : List Int} (hl : F.length = (netL p l).length) : usesE l.length (netL p l) F = usesL (pairsL p.reqs l) (F.drop l.length) := by
  have hA := edgeA_len p.uses l
  have e1 : usesE l.length (upTo (edgeA p.uses l) l.length) (F.take l.length) = [] := usesE_none _ _ fun e he => by
    obtain ⟨i, hi, hx⟩ := mem_upTo he
    unfold edgeA at hx
    rw [List.getElem?_eq_getElem hi] at hx
    simp at hx
    subst hx
    left; dsimp only; omega
  have e3 : ∀ G, usesE l.length (upTo (edgeR l.length p.reqs) p.reqs.length) G = [] := fun G => usesE_none _ _ fun e he => by
    obtain ⟨i, hi, hx⟩ := mem_upTo he
    unfold edgeR at hx
    rw [List.getElem?_eq_getElem hi] at hx
    simp at hx
    subst hx
    right; dsimp only; omega
  have hsp : ∀ (a b : List Edge) (G : List Int), a.length ≤ G.length → usesE l.length (a ++ b) G = usesE l.length a (G.take a.length) ++ usesE l.length b (G.drop a.length) := fun a b G hG => by
    unfold usesE
    rw [← List.filterMap_append, ← List.zip_append (by rw [List.length_take]; omega), List.take_append_drop]
  unfold netL at hl ⊢
  rw [List.length_append, List.length_append, hA, List.length_map] at hl
  rw [List.append_assoc, hsp _ _ _ (by omega), hA, e1, List.nil_append, hsp _ _ _ (by rw [List.length_map, List.length_drop]; omega), e3, List.append_nil, List.length_map, usesE_mid _ _ (fun x hx => (pairsL_mem hx).1), usesL_take]
end Go.Proofs.YtaiibchadlaifaaGreatDoor

namespace Go.Proofs.YtaiibchadlaifaaGreatDoor
open Go.RowKit Go.Shelf

/-- What the reference's audit gives at a valid programme and valid attempts. -/
def RAuditP (p : Prg) (l : List Att) (w w' : World) (e : Ending) : Prop :=
  ∃ (F bys : List Int) (AU : Option Addr) (nU cU gm : Nat), MaxSpec (2 + l.length + p.reqs.length) 0 ((1 + l.length + p.reqs.length : Nat) : Int) (netL p l) F (cutOf bys) ∧ bys.length = 2 + l.length + p.reqs.length ∧
    e = .returned (.tuple #[.agg #[.slice AU nU cU, .int .i64 (totalC p.reqs - usedC (usesL (pairsL p.reqs l) (F.drop l.length))), .slice (some ⟨gm, 0, none⟩) (2 + l.length + p.reqs.length) (2 + l.length + p.reqs.length)], .int .i64 0]) ∧
    w'.heap[gm]? = some (.cells (bys.map metV).toArray 4 (0, 0)) ∧ Below w.heap.size w w'

set_option maxRecDepth 100000 in
set_option maxHeartbeats 8000000 in
theorem ref19_Audit_bad (w : World) (p : Prg) (l : List Att) (A Aq : Option Addr) (c cq : Nat) (hl : Rd kAtt w A l) (hq : Rd kReq w Aq p.reqs) (hm : l.length ≤ 60) (hE : netE p l ≠ 0) :
    Calls Tryz.prog 22 #[.agg #[.string p.nm, .int .i64 p.num, .int .i64 p.uses, .int .i64 p.earn, .int .i64 p.mn, .int .i64 p.md, .slice Aq p.reqs.length cq], .slice A l.length c] w fun e w' => e = .returned (.tuple #[.agg #[.slice none 0 0, .int .i64 0, .slice none 0 0], .int .i64 (netE p l)]) ∧ Below w.heap.size w w' := by
  have hnet := fun W (hW : Below w.heap.size w W) => ref19_Network_bad W p l A Aq c cq (hl.below hW) (hq.below hW) (by omega) hE
  obtain ⟨pnm, pnum, puses, pearn, pmn, pmd, qs⟩ := p
  dsimp only at *
  generalize netE ⟨pnm, pnum, puses, pearn, pmn, pmd, qs⟩ l = E at *
  have hE2 : (E != 0) = true := by simpa using hE
  have hE3 : (E == 0) = false := by simpa using hE
  go_enter Tryz.func22, Tryz.ntmps22
  go_wp2_with fail
  refine (hnet _ (below2 _ _ _)).mono ?_
  rintro e w1 ⟨rfl, hb1⟩
  have ha1 := (hb1.block (w.heap.size + 1) (by rw [alloc2_size]; omega)).trans (alloc2_blk1 w _ _)
  have hB1 := bthen (below2 w _ _) hb1
  have ca0 := blk_cell ha1 0
  have ca1 := blk_cell ha1 1
  have ca2 := blk_cell ha1 2
  have fa0 := blk_frozen ha1 0
  have fa1 := blk_frozen ha1 1
  have fa2 := blk_frozen ha1 2
  have hz1 := (Array.getElem?_eq_some_iff.1 ha1).1
  clear hb1 hnet
  go_wp2_with fail
  exact bodyPost_ret (v := .tuple #[.agg #[.slice none 0 0, .int .i64 0, .slice none 0 0], .int .i64 E]) (by
    have hA0 := heap_setCell_same w1 (w.heap.size + 1) 0 _ _ (.slice none 0 0) ha1
    have hA1 := heap_setCell_same _ (w.heap.size + 1) 1 _ _ (.int .i64 0) hA0
    have hA2 := heap_setCell_same _ (w.heap.size + 1) 2 _ _ (.slice none 0 0) hA1
    have cA0 := blk_cell hA2 0
    have cA1 := blk_cell hA2 1
    have cA2 := blk_cell hA2 2
    simp [results, Tryz.results22, go_sem, cA0, cA1, cA2]) rfl ⟨rfl, (((hB1.setCell (p := ⟨w.heap.size + 1, 0, none⟩) (Nat.le_succ _) _).setCell (p := ⟨w.heap.size + 1, 1, none⟩) (Nat.le_succ _) _).setCell (p := ⟨w.heap.size + 1, 2, none⟩) (Nat.le_succ _) _)⟩

set_option maxRecDepth 100000 in
set_option maxHeartbeats 16000000 in
theorem ref19_Audit_good (w : World) (p : Prg) (l : List Att) (A Aq : Option Addr) (c cq : Nat) (hl : Rd kAtt w A l) (hq : Rd kReq w Aq p.reqs) (hm : l.length ≤ 8) (hr6 : p.reqs.length ≤ 6) (hE : netE p l = 0) :
    Calls Tryz.prog 22 #[.agg #[.string p.nm, .int .i64 p.num, .int .i64 p.uses, .int .i64 p.earn, .int .i64 p.mn, .int .i64 p.md, .slice Aq p.reqs.length cq], .slice A l.length c] w fun e w' => RAuditP p l w w' e := by
  have hnet := fun W (hW : Below w.heap.size w W) => ref19_Network_good W p l A Aq c cq (hl.below hW) (hq.below hW) (by omega) hE
  have hmax := fun W A2 c2 h2 => ref18_Max_c (2 + l.length + p.reqs.length) 0 (1 + l.length + p.reqs.length) (netL p l) A2 c2 W h2 (net_ends hE (by omega))
  have hlen := netL_len hE (by omega)
  have hfe : ∀ e, e ∈ netL p l → edgeOk ((2 + l.length + p.reqs.length : Nat) : Int) e = true := netL_ok hE
  obtain ⟨hp0, hall⟩ := netE_ok hE
  obtain ⟨hu1, hu2, hr64, hqcr⟩ := prg_ok hp0
  have hatc : ∀ a, a ∈ l → 0 ≤ a.cr ∧ a.cr ≤ 60 := fun a ha => by
    have := List.all_eq_true.1 hall a ha
    simp [attOk, inB] at this
    omega
  have hTot := fun W (hW : Below w.heap.size w W) => ref19_Total_c W p Aq cq (hq.below hW) (fun q hq' => by have := hqcr q hq'; omega) (by omega)
  have htb := totalC_bd p.reqs (fun q hq' => by have := hqcr q hq'; omega)
  have hue := fun F (hF : F.length = (netL p l).length) => usesE_net (p := p) (l := l) (F := F) hF
  have hub : ∀ F, okF (netL p l) F → conserve (2 + l.length + p.reqs.length) 0 ((1 + l.length + p.reqs.length : Nat) : Int) (netL p l) F → ∀ u, u ∈ usesE l.length (netL p l) F → 0 ≤ u.c ∧ u.c ≤ 10000 := fun F ok cons u hu => by
    rw [hue F (okF_length ok)] at hu
    have := asgB_c (asg_of_flow ok (cons_cast cons)) hatc u hu
    omega
  have hpl3 := pairsL_le p.reqs l
  have hul : ∀ F, F.length = (netL p l).length → (usesE l.length (netL p l) F).length ≤ 1000 := fun F hF => by
    rw [hue F hF]
    refine Nat.le_trans (usesL_len _ _) ?_
    refine Nat.le_trans hpl3 ?_
    exact Nat.le_trans (Nat.mul_le_mul hm hr6) (by omega)
  unfold RAuditP
  obtain ⟨EL, hEL⟩ : ∃ EL, EL = netL p l := ⟨_, rfl⟩
  rw [← hEL] at hnet hmax hlen hfe hue hub hul ⊢
  clear hE hp0 hEL hall hu1 hu2 hr64 hqcr hatc hpl3
  obtain ⟨pnm, pnum, puses, pearn, pmn, pmd, qs⟩ := p
  dsimp only at *
  go_enter Tryz.func22, Tryz.ntmps22
  go_wp2_with fail
  refine (hnet _ (below2 _ _ _)).mono ?_
  rintro e w1 ⟨v1, rfl, hown1, hb1⟩
  obtain ⟨A1, c1, rfl, hc1, hrd1⟩ := hown1.rd edge_len
  have hp1 := (hb1.block w.heap.size (by rw [alloc2_size]; omega)).trans (alloc2_blk0 w _ _)
  have ha1 := (hb1.block (w.heap.size + 1) (by rw [alloc2_size]; omega)).trans (alloc2_blk1 w _ _)
  have hB1 := bthen (below2 w _ _) hb1
  have hmx := hmax _ A1 c1 hrd1
  rw [show ((2 + l.length + qs.length : Nat) : Int) = 2 + l.length + qs.length by omega, show ((1 + l.length + qs.length : Nat) : Int) = 2 + l.length + qs.length - 1 by omega, show ((0 : Nat) : Int) = 0 from rfl] at hmx
  have hz1 := (Array.getElem?_eq_some_iff.1 ha1).1
  clear hb1 hnet hmax hown1
  go_wp2_with fail
  refine hmx.mono ?_
  intro e w3 hR
  unfold RMaxR at hR
  obtain ⟨A3, cF, gm, F, bys, rfl, hF3, hm3, hbl, hspec, hb3⟩ := hR
  have hp3 := (hb3.block w.heap.size (by omega)).trans hp1
  have ha3 := (hb3.block (w.heap.size + 1) hz1).trans ha1
  have hB3 : Below w.heap.size w w3 := hB1.trans (hb3.mono hB1.size)
  have hrd3 := hrd1.below hb3
  have hgz := (Array.getElem?_eq_some_iff.1 hm3).1
  have hz3 := (Array.getElem?_eq_some_iff.1 ha3).1
  have hFl := okF_length hspec.ok
  have hf0 := okF_bound hspec.ok (fun e q => (show e.m ≤ 1073741824 by have := hfe e q; unfold edgeOk at this; simp at this; omega))
  have hub' := hub F hspec.ok hspec.cons
  have hul' := hul F hFl
  have hue' := hue F hFl
  clear hb3 hp1 ha1 hB1 hrd1 hz1 hub hul hue hmx
  go_wp2_with fail
  have hb4 := below1 w3 (.cells #[.slice none 0 0, .int .i64 0, .slice (some ⟨gm, 0, none⟩) (2 + l.length + qs.length) (2 + l.length + qs.length)] 45)
  have hx4 := World.alloc_heap_new w3 (.cells #[.slice none 0 0, .int .i64 0, .slice (some ⟨gm, 0, none⟩) (2 + l.length + qs.length) (2 + l.length + qs.length)] 45)
  have hz4 := World.size_alloc w3 (.cells #[.slice none 0 0, .int .i64 0, .slice (some ⟨gm, 0, none⟩) (2 + l.length + qs.length) (2 + l.length + qs.length)] 45)
  obtain ⟨cv, hcv⟩ : ∃ cv, cv = Value.slice (some ⟨gm, 0, none⟩) (2 + l.length + qs.length) (2 + l.length + qs.length) := ⟨_, rfl⟩
  rw [← hcv] at hb4 hx4 hz4 ⊢
  generalize w3.alloc _ = w4 at *
  generalize hz : w3.heap.size = z at *
  have H4 : Hid (Rd kEdge w3 A1 EL ∧ Rd kI w3 A3 F ∧ Below w3.heap.size w3 w4 ∧ w3.heap.size = z ∧ (∀ e, e ∈ EL → edgeOk ((2 + l.length + qs.length : Nat) : Int) e = true) ∧ (∀ x, x ∈ F → 0 ≤ x ∧ x ≤ 1073741824)) := ⟨hrd3, hF3, by rw [← hz] at hb4; exact hb4, hz, hfe, hf0⟩
  have HFin : Hid (w4.heap[w.heap.size]? = some (.cells #[.string pnm, .int .i64 pnum, .int .i64 puses, .int .i64 pearn, .int .i64 pmn, .int .i64 pmd, .slice Aq qs.length cq] 26 (0, 0)) ∧ w4.heap[w.heap.size + 1]? = some (.cells #[.slice none 0 0, .int .i64 0, .slice none 0 0] 45 (0, 0)) ∧ w4.heap[gm]? = some (.cells (bys.map metV).toArray 4 (0, 0)) ∧ Below w.heap.size w w4 ∧ cv = Value.slice (some ⟨gm, 0, none⟩) (2 + l.length + qs.length) (2 + l.length + qs.length) ∧ (∀ u, u ∈ usesE l.length EL F → 0 ≤ u.c ∧ u.c ≤ 10000) ∧ (usesE l.length EL F).length ≤ 1000 ∧ usesE l.length EL F = usesL (pairsL qs l) (F.drop l.length) ∧ MaxSpec (2 + l.length + qs.length) 0 ((1 + l.length + qs.length : Nat) : Int) EL F (cutOf bys) ∧ bys.length = 2 + l.length + qs.length ∧ gm < z ∧ 0 ≤ totalC qs ∧ totalC qs ≤ 10000 * qs.length ∧
      (∀ W, Below w.heap.size w W → Calls Tryz.prog 29 #[.agg #[.string pnm, .int .i64 pnum, .int .i64 puses, .int .i64 pearn, .int .i64 pmn, .int .i64 pmd, .slice Aq qs.length cq]] W fun e w' => e = .returned (.int .i64 (totalC qs)) ∧ Below W.heap.size W w')) :=
    ⟨(hb4.block _ (by omega)).trans hp3, (hb4.block _ hz3).trans ha3, (hb4.block _ hgz).trans hm3, hB3.trans (hb4.mono (by omega)), hcv, hub', hul', hue', hspec, hbl, hgz, htb.1, htb.2, hTot⟩
  have hEll : EL.length ≤ 5000 := hlen
  have hFl' : F.length = EL.length := hFl
  have hzw : w.heap.size + 1 < z := hz3
  have HX4 : Hid (w4.heap[z]? = some (.cells #[.slice none 0 0, .int .i64 0, cv] 45 (0, 0))) := hx4
  clear hrd3 hF3 hfe hf0 hp3 ha3 hm3 hB3 hcv hub' hul' hue' hspec hbl htb hTot hb4 hx4 hgz hz3 hlen hl hq
  go_loopw [12, 13] (fun i _ wr => ∃ k Au cu us, k ≤ EL.length ∧ i = .int .i64 k ∧ Hid (us = usesE l.length (EL.take k) (F.take k)) ∧ Hid (wr.heap[z]? = some (.cells #[.slice Au us.length cu, .int .i64 0, cv] 45 (0, 0))) ∧ Hid (OwnF Use.enc 3 95 w4.heap.size wr (.slice Au us.length cu) us) ∧ BelowX w4.heap.size z w4 wr) (fun i _ _ => EL.length - (intOf i).toNat)
  case atStart => exact ⟨0, none, 0, [], Nat.zero_le _, rfl, rfl, HX4, OwnF.nil _ _ _ _ _, BelowX.refl _ _ _⟩
  case round =>
    clear HX4
    obtain ⟨k, Au, cu, us, hk, rfl, HU, HZ, HO, hX⟩ := hrel
    by_cases hlt : k < EL.length
    · obtain ⟨hE, hFl, hb4, hz3, hfe, hf0⟩ := H4.out
      have hlow : Below w3.heap.size w3 wr := hb4.trans (hX.below (by omega) (by omega))
      obtain ⟨x, bE, off, hx, hA, hbE, f0w, f1w, f2w⟩ := kEdge_get hE hlt
      subst hA
      obtain ⟨y, bF, oF, hy, hAF, hbF, cFw⟩ := kI_get hFl (k := k) (by omega)
      subst hAF
      have hxe := hfe x (List.mem_of_getElem? hx.out)
      have hy30 := hf0 y (List.mem_of_getElem? hy.out)
      have hsn := usesE_snoc (m := l.length) hx.out hy.out
      have f0 := (hlow.cell (p := ⟨bE, off + k * 3, none⟩) hbE).trans f0w
      have f1 := (hlow.cell (p := ⟨bE, off + k * 3 + 1, none⟩) hbE).trans f1w
      have f2 := (hlow.cell (p := ⟨bE, off + k * 3 + 2, none⟩) hbE).trans f2w
      have cF0 := (hlow.cell (p := ⟨bF, oF + k, none⟩) hbF).trans cFw
      have hbE' := Nat.lt_of_lt_of_le hbE hlow.size
      have hbF' := Nat.lt_of_lt_of_le hbF hlow.size
      obtain ⟨xf, xt, xm⟩ := x
      unfold edgeOk at hxe
      simp only [decide_eq_true_eq] at hxe
      dsimp only at *
      obtain ⟨q1, q2, q3, q4, q5, q6, q7⟩ := hxe
      obtain ⟨hy0, hy1⟩ := hy30
      have hk0 : (0 : Int) ≤ k := by omega
      have hk1 : (k : Int) < EL.length := by omega
      have hsX := hX.size
      rw [hz3] at hbE hbF
      have HX : Hid (BelowX w4.heap.size z w4 wr) := hX
      clear hE hFl hb4 hfe hf0 hx hy f0w f1w f2w cFw hlow q5 hz3 hX
      have hno : ∀ (hc : ¬ (1 ≤ xf ∧ xf ≤ (l.length : Int) ∧ 0 < y)), us = usesE l.length (EL.take (k + 1)) (F.take (k + 1)) := fun hc => by
        rw [hsn, show useF l.length (⟨xf, xt, xm⟩, y) = none from if_neg hc, ← HU.out]; simp
      have hyes : ∀ (hc : 1 ≤ xf ∧ xf ≤ (l.length : Int) ∧ 0 < y), us ++ [⟨xf - 1, xt - 1 - l.length, y⟩] = usesE l.length (EL.take (k + 1)) (F.take (k + 1)) := fun hc => by
        rw [hsn, show useF l.length (⟨xf, xt, xm⟩, y) = some ⟨xf - 1, xt - 1 - l.length, y⟩ from if_pos hc, ← HU.out]; simp
      have HNO : Hid (∀ (hc : ¬ (1 ≤ xf ∧ xf ≤ (l.length : Int) ∧ 0 < y)), us = usesE l.length (EL.take (k + 1)) (F.take (k + 1))) := hno
      have HYES : Hid (∀ (hc : 1 ≤ xf ∧ xf ≤ (l.length : Int) ∧ 0 < y), us ++ [⟨xf - 1, xt - 1 - l.length, y⟩] = usesE l.length (EL.take (k + 1)) (F.take (k + 1))) := hyes
      clear hno hyes hsn
      have hZa : ∀ o : Obj, Hid ((wr.alloc o).heap[z]? = some (.cells #[.slice Au us.length cu, .int .i64 0, cv] 45 (0, 0))) := fun o => (Below.heap_alloc wr o _ (Array.getElem?_eq_some_iff.1 HZ.out).1).trans HZ.out
      have HNX : Hid (∀ o : Obj, Hid ((wr.alloc o).heap[z]? = some (.cells #[.slice Au us.length cu, .int .i64 0, cv] 45 (0, 0))) ∧ Hid (OwnF Use.enc 3 95 w4.heap.size (wr.alloc o) (.slice Au us.length cu) us) ∧ BelowX w4.heap.size z w4 (wr.alloc o)) := fun o => ⟨hZa o, HO.out.alloc o, HX.out.alloc HX.out.size o⟩
      clear hZa
      by_cases hc1 : 1 ≤ xf
      · by_cases hc2 : xf ≤ (l.length : Int)
        · by_cases hc3 : 0 < y
          · go_upto_region 13 with fail
            have hus : us.length ≤ 5000 := by rw [HU.out]; unfold usesE; refine Nat.le_trans (List.length_filterMap_le _ _) ?_; rw [List.length_zip, List.length_take]; omega
            have hu9 := HYES.out ⟨hc1, hc2, hc3⟩
            have hxX := World.alloc_heap_new wr (.cells #[.int .i64 xf, .int .i64 xt, .int .i64 xm] 85)
            have hsz := World.size_alloc wr (.cells #[.int .i64 xf, .int .i64 xt, .int .i64 xm] 85)
            obtain ⟨hZx, hOx, hXx⟩ := HNX.out (.cells #[.int .i64 xf, .int .i64 xt, .int .i64 xm] 85)
            have hbFx : (wr.alloc (.cells #[.int .i64 xf, .int .i64 xt, .int .i64 xm] 85)).cell? ⟨bF, oF + k, none⟩ = some (.int .i64 y) := (World.cell?_alloc_past (w := wr) _ _ _ (by omega)).trans cF0
            have hown : ∀ g, (Value.slice Au us.length cu).ownBlock = some g → w4.heap.size ≤ g ∧ g < wr.heap.size := fun g hg => ⟨(HO.out.row g hg).1, by obtain ⟨_, _, _, h⟩ := HO.out.row g hg; exact (Array.getElem?_eq_some_iff.1 h).1⟩
            generalize hX0 : wr.heap.size = X at *
            have HU9 : Hid (us ++ [⟨xf - 1, xt - 1 - l.length, y⟩] = usesE l.length (EL.take (k + 1)) (F.take (k + 1))) := hu9
            clear HNX HNO HYES hu9 f0 f1 f2 cF0 hX0 HU
            generalize wr.alloc _ = wx at *
            have hzw4 : z < w4.heap.size := by omega
            have hF : ∀ w' : World, (∀ b, b < wx.heap.size → (Value.slice Au us.length cu).ownBlock ≠ some b → w'.heap[b]? = wx.heap[b]?) → w'.cell? ⟨z, 0, none⟩ = some (.slice Au us.length cu) ∧ w'.cell? ⟨X, 0, none⟩ = some (.int .i64 xf) ∧ w'.cell? ⟨X, 1, none⟩ = some (.int .i64 xt) ∧ w'.cell? ⟨bF, oF + k, none⟩ = some (.int .i64 y) := fun w' hS => by
              have hz' := (hS z (by omega) (fun e => by have := hown _ e; omega)).trans hZx.out
              have hX' := (hS X (by omega) (fun e => by have := hown _ e; omega)).trans hxX
              have hb' := hS bF (by omega) (fun e => by have := hown _ e; omega)
              exact ⟨by rw [blk_cell hz']; rfl, by rw [blk_cell hX']; rfl, by rw [blk_cell hX']; rfl, (World.cell?_of_block (a := ⟨bF, oF + k, none⟩) hb').trans hbFx⟩
            refine wp_region_G 19 (fun w' => ∀ b, b < wx.heap.size → (Value.slice Au us.length cu).ownBlock ≠ some b → w'.heap[b]? = wx.heap[b]?) (by kernel_rfl) (by kernel_rfl) (by intro d v c a w h; cases d <;> exact h) (fun b _ _ => rfl) ?_
            iterate 16 (
              first
                | refine wpG_next rfl (by kernel_rfl) (.inr ⟨by rfl, rfl⟩) ?_
                | (refine wpG_next (v := ?_) rfl (by kernel_rfl) (.inl ⟨by rfl, ?hy⟩) ?_
                   case hy => (intro w' hS'; obtain ⟨f1, f2, f3, f4⟩ := hF w' hS'; simp only [List.getElem_toArray, List.getElem_cons_succ, List.getElem_cons_zero]; go_simp; try with_reducible rfl))
              simp only [List.getElem_toArray, List.getElem_cons_succ, List.getElem_cons_zero, Act.put, List.setIfInBounds_toArray, List.set_cons_zero, List.set_cons_succ, Nat.reduceAdd, Nat.reduceSub])
            have hS0 : ∀ (o : Obj) b, b < wx.heap.size → (Value.slice Au us.length cu).ownBlock ≠ some b → (wx.alloc o).drew.heap[b]? = wx.heap[b]? := fun o b hb _ => Below.heap_alloc wx o b hb
            refine wpG_only (i := 16) rfl (by kernel_rfl) (by rfl) ⟨.slice (some ⟨wx.heap.size, 0, none⟩) 1 1, (wx.alloc (.cells #[.int .i64 (xf - 1), .int .i64 (xt - 1 - l.length), .int .i64 y] 95)).drew, ?r1, hS0 _, ?_⟩
            case r1 =>
              have wA : IntKind.i64.wrap (xf - 1) = xf - 1 := by simp [IntKind.wrap, IntKind.bits, IntKind.signed]; omega
              have wB : IntKind.i64.wrap (xt - 1) = xt - 1 := by simp [IntKind.wrap, IntKind.bits, IntKind.signed]; omega
              have wC : IntKind.i64.wrap (xt - 1 - l.length) = xt - 1 - l.length := by simp [IntKind.wrap, IntKind.bits, IntKind.signed]; omega
              simp only [List.getElem_toArray, List.getElem_cons_succ, List.getElem_cons_zero]
              go_simp
            simp only [List.getElem_toArray, List.getElem_cons_succ, List.getElem_cons_zero, Act.put, List.setIfInBounds_toArray, List.set_cons_zero, List.set_cons_succ, Nat.reduceAdd, Nat.reduceSub]
            refine wpG_append1 (i := 17) rfl (by kernel_rfl) (by rfl) (.tmp 68) (.tmp 83) 42 rfl 95 (.agg #[.int .i64 0, .int .i64 0, .int .i64 0]) 24 Tryz.underlying42 use_info rfl (by decide) use_len use_one w4.heap.size (.slice Au us.length cu) us (by rfl) (hOx.out.below ((below1 _ _).drew)) wx.heap.size ⟨xf - 1, xt - 1 - l.length, y⟩ (by rfl) ?c2 (by omega) (by decide) ?c4 ?_
            case c2 => intro j u hj; simpa [Use.enc] using hj
            case c4 => show w4.heap.size ≤ (World.alloc _ _).heap.size; rw [World.size_alloc]; omega
            intro A6 c6 w6 hown6 hg6 hk6
            have hS6 : ∀ b, b < wx.heap.size → (Value.slice Au us.length cu).ownBlock ≠ some b → w6.heap[b]? = wx.heap[b]? := fun b hb hn => (hg6.block b (by show b < (World.alloc _ _).heap.size; rw [World.size_alloc]; omega) (fun e => hn e.symm)).trans (hS0 _ b hb hn)
            refine ⟨hS6, ?_⟩
            simp only [List.getElem_toArray, List.getElem_cons_succ, List.getElem_cons_zero, Act.put, List.setIfInBounds_toArray, List.set_cons_zero, List.set_cons_succ, Nat.reduceAdd, Nat.reduceSub]
            refine wpG_yield (v := ?_) (i := 18) rfl (by kernel_rfl) (by rfl) ?hy ?_
            case hy => (intro w' hS'; obtain ⟨f1, f2, f3, f4⟩ := hF w' hS'; simp only [List.getElem_toArray, List.getElem_cons_succ, List.getElem_cons_zero]; go_simp; try with_reducible rfl)
            simp only [List.getElem_toArray, List.getElem_cons_succ, List.getElem_cons_zero, Act.put, List.setIfInBounds_toArray, List.set_cons_zero, List.set_cons_succ, Nat.reduceAdd, Nat.reduceSub]
            refine wpG_done (by kernel_rfl) ?_
            simp only [List.drop_succ_cons, List.drop_zero]
            have hz6 := (hS6 z (by omega) (fun e => by have := hown _ e; omega)).trans hZx.out
            have fz6 := blk_frozen hz6 0
            have cz6 := blk_cell hz6 0
            have hz7 := heap_setCell_same w6 z 0 _ _ (.slice A6 (us.length + 1) c6) hz6
            have hX6 : BelowX w4.heap.size z w4 w6 := (hXx.alloc hXx.size _).drew.grown hg6 (by show w4.heap.size ≤ (World.alloc _ _).heap.size; rw [World.size_alloc]; omega) (fun g hg => (hown g hg).1)
            have hown7 : OwnF Use.enc 3 95 w4.heap.size (w6.setCell ⟨z, 0, none⟩ (.slice A6 (us.length + 1) c6)) (.slice A6 (us.length + 1) c6) (us ++ [⟨xf - 1, xt - 1 - l.length, y⟩]) := hown6.kept fun b cur f hb h => (Below.heap_setCell w6 ⟨z, 0, none⟩ _ b (by show b ≠ z; omega)).trans h
            have HZ7 : Hid _ := hz7
            have HO7 : Hid _ := hown7
            have HX7 : Hid (BelowX w4.heap.size z w4 (w6.setCell ⟨z, 0, none⟩ (.slice A6 (us.length + 1) c6))) := hX6.set (p := ⟨z, 0, none⟩) (.inl rfl) _
            clear hz7 hown7 hX6 hown6 hg6 hk6 hS6 hS0 hF
            go_wp2_with fail
            go_roundw
            case rel => exact ⟨k + 1, A6, c6, _, hlt, by go_num, HU9, by rw [List.length_append]; exact HZ7, by rw [List.length_append]; exact HO7, HX7.out⟩
            case measure => simp [intOf]; omega
          · go_wp2_with fail
            go_roundw
            case rel => exact ⟨k + 1, Au, cu, us, hlt, by go_num, HNO.out (by omega), (HNX.out _).1, (HNX.out _).2.1, (HNX.out _).2.2⟩
            case measure => simp [intOf]; omega
        · go_wp2_with fail
          go_roundw
          case rel => exact ⟨k + 1, Au, cu, us, hlt, by go_num, HNO.out (by omega), (HNX.out _).1, (HNX.out _).2.1, (HNX.out _).2.2⟩
          case measure => simp [intOf]; omega
      · go_wp2_with fail
        go_roundw
        case rel => exact ⟨k + 1, Au, cu, us, hlt, by go_num, HNO.out (by omega), (HNX.out _).1, (HNX.out _).2.1, (HNX.out _).2.2⟩
        case measure => simp [intOf]; omega
    · obtain rfl : k = EL.length := by omega
      obtain ⟨hb4, hz3⟩ := (show Below w3.heap.size w3 w4 ∧ w3.heap.size = z from ⟨H4.out.2.2.1, H4.out.2.2.2.1⟩)
      obtain ⟨hp4, ha4, hm4, hB4, hcv, hub, hul, hue, hspec, hbl, hgl, ht0, ht1, hTot⟩ := HFin.out
      have hus : us = usesE l.length EL F := by rw [HU.out, List.take_length, ← hFl', List.take_length]
      rw [← hus] at hub hul hue
      have hzw4 : z < w4.heap.size := by omega
      have hsX := hX.size
      have hgz := (Array.getElem?_eq_some_iff.1 hm4).1
      have hgne : gm ≠ z := Nat.ne_of_lt hgl
      have hpr := (hX.block w.heap.size (by omega) (by omega)).trans hp4
      have har := (hX.block (w.heap.size + 1) (by omega) (by omega)).trans ha4
      have hmr := (hX.block gm (by omega) hgne).trans hm4
      have hBr : Below w.heap.size w wr := hB4.trans (hX.below (by omega) (by omega))
      have hzr := HZ.out
      have hzz := (Array.getElem?_eq_some_iff.1 hzr).1
      obtain ⟨Au', cu', hv, hrd⟩ := rd_uses HO.out
      injection hv with e1 _ e2
      subst e1 e2
      have hubd := usedC_bd us hub
      have hAs := fun W (hW : Below wr.heap.size wr W) => ref19_Assigned_c W us Au cu (hrd.below hW) hub (by omega)
      have hToR := fun W (hW : Below wr.heap.size wr W) => hTot W (bthen hBr hW)
      have HE : Hid (us = usesL (pairsL qs l) (F.drop l.length) ∧ MaxSpec (2 + l.length + qs.length) 0 ((1 + l.length + qs.length : Nat) : Int) EL F (cutOf bys) ∧ bys.length = 2 + l.length + qs.length ∧ cv = Value.slice (some ⟨gm, 0, none⟩) (2 + l.length + qs.length) (2 + l.length + qs.length)) := ⟨hue, hspec, hbl, hcv⟩
      have HM : Hid (wr.heap[gm]? = some (.cells (bys.map metV).toArray 4 (0, 0)) ∧ gm ≠ z) := ⟨hmr, hgne⟩
      clear hmr hue hspec hbl hcv hub hTot hp4 ha4 hm4 hB4 hX HU H4 HFin hb4 hrd hus
      go_upto_region 14 with fail
      have hF : ∀ w' : World, Below wr.heap.size wr w' → (∀ j : Nat, w'.cell? ⟨w.heap.size, j, none⟩ = (#[.string pnm, .int .i64 pnum, .int .i64 puses, .int .i64 pearn, .int .i64 pmn, .int .i64 pmd, .slice Aq qs.length cq] : Array Value)[j]?) ∧ w'.cell? ⟨z, 0, none⟩ = some (.slice Au us.length cu) := fun w' hS => ⟨fun j => by rw [blk_cell ((hS.block w.heap.size (by omega)).trans hpr)], by rw [blk_cell ((hS.block z hzz).trans hzr)]; rfl⟩
      have hS0 : Below wr.heap.size wr wr.drew := (Below.refl _ _).drew
      generalize hT : totalC qs = T at *
      generalize hU : usedC us = U at *
      refine wp_region_G 6 (fun w' => Below wr.heap.size wr w') (by kernel_rfl) (by kernel_rfl) (by intro d v c a w h; cases d <;> exact h) hS0 ?_
      refine wpG_yield (v := ?_) (i := 0) rfl (by kernel_rfl) (by rfl) ?hy ?_
      case hy => (intro w' hS'; obtain ⟨f1, f2⟩ := hF w' hS'; simp only [List.getElem_toArray, List.getElem_cons_succ, List.getElem_cons_zero]; go_simp; try with_reducible rfl)
      simp only [List.getElem_toArray, List.getElem_cons_succ, List.getElem_cons_zero, Act.put, List.setIfInBounds_toArray, List.set_cons_zero, List.set_cons_succ, Nat.reduceAdd, Nat.reduceSub]
      refine wpG_yield (v := ?_) (i := 2) rfl (by kernel_rfl) (by rfl) ?hy ?_
      case hy => (intro w' hS'; obtain ⟨f1, f2⟩ := hF w' hS'; simp only [List.getElem_toArray, List.getElem_cons_succ, List.getElem_cons_zero]; go_simp; try with_reducible rfl)
      simp only [List.getElem_toArray, List.getElem_cons_succ, List.getElem_cons_zero, Act.put, List.setIfInBounds_toArray, List.set_cons_zero, List.set_cons_succ, Nat.reduceAdd, Nat.reduceSub]
      refine wpG_yield (v := ?_) (i := 3) rfl (by kernel_rfl) (by rfl) ?hy ?_
      case hy => (intro w' hS'; obtain ⟨f1, f2⟩ := hF w' hS'; simp only [List.getElem_toArray, List.getElem_cons_succ, List.getElem_cons_zero]; go_simp; try with_reducible rfl)
      simp only [List.getElem_toArray, List.getElem_cons_succ, List.getElem_cons_zero, Act.put, List.setIfInBounds_toArray, List.set_cons_zero, List.set_cons_succ, Nat.reduceAdd, Nat.reduceSub]
      refine wpG_call (i := 1) rfl (by kernel_rfl) (by rfl) ?hr ((hToR _ hS0).mono ?_)
      case hr => (simp only [List.getElem_toArray, List.getElem_cons_succ, List.getElem_cons_zero]; go_simp; try rfl)
      rintro e wa ⟨rfl, hba⟩
      have hSa := bthen hS0 hba
      refine ⟨_, rfl, hSa, ?_⟩
      simp only [List.getElem_toArray, List.getElem_cons_succ, List.getElem_cons_zero, Act.put, List.setIfInBounds_toArray, List.set_cons_zero, List.set_cons_succ, Nat.reduceAdd, Nat.reduceSub]
      refine wpG_call (i := 4) rfl (by kernel_rfl) (by rfl) ?hr ((hAs _ hSa).mono ?_)
      case hr => (simp only [List.getElem_toArray, List.getElem_cons_succ, List.getElem_cons_zero]; go_simp; try rfl)
      rintro e wb ⟨rfl, hbb⟩
      have hSb := bthen hSa hbb
      refine ⟨_, rfl, hSb, ?_⟩
      simp only [List.getElem_toArray, List.getElem_cons_succ, List.getElem_cons_zero, Act.put, List.setIfInBounds_toArray, List.set_cons_zero, List.set_cons_succ, Nat.reduceAdd, Nat.reduceSub]
      refine wpG_yield (v := .int .i64 (T - U)) (i := 5) rfl (by kernel_rfl) (by rfl) ?hy ?_
      case hy => (intro w' hS'; obtain ⟨f1, f2⟩ := hF w' hS'; simp only [List.getElem_toArray, List.getElem_cons_succ, List.getElem_cons_zero]; go_simp; try (simp [IntKind.wrap, IntKind.bits, IntKind.signed]; omega))
      simp only [List.getElem_toArray, List.getElem_cons_succ, List.getElem_cons_zero, Act.put, List.setIfInBounds_toArray, List.set_cons_zero, List.set_cons_succ, Nat.reduceAdd, Nat.reduceSub]
      refine wpG_done (by kernel_rfl) ?_
      simp only [List.drop_succ_cons, List.drop_zero]
      have hzb := (hSb.block z hzz).trans hzr
      have hab := (hSb.block (w.heap.size + 1) (by omega)).trans har
      have hmb := (hSb.block gm (by omega)).trans HM.out.1
      have hBb : Below w.heap.size w wb := bthen hBr hSb
      have hz1 := heap_setCell_same wb z 1 _ _ (.int .i64 (T - U)) hzb
      have ha1 := (Below.heap_setCell wb ⟨z, 1, none⟩ (.int .i64 (T - U)) (w.heap.size + 1) (by show w.heap.size + 1 ≠ z; omega)).trans hab
      have hm1 := (Below.heap_setCell wb ⟨z, 1, none⟩ (.int .i64 (T - U)) gm HM.out.2).trans hmb
      have hB1 : Below w.heap.size w (wb.setCell ⟨z, 1, none⟩ (.int .i64 (T - U))) := hBb.setCell (p := ⟨z, 1, none⟩) (by show w.heap.size ≤ z; omega) _
      have fz1 := blk_frozen hzb 1
      have cz1 := blk_cell hzb 1
      go_upto_region 15 with fail
      have hcv := HE.out.2.2.2
      subst hcv
      generalize wb.setCell ⟨z, 1, none⟩ (.int .i64 (T - U)) = w5 at *
      have cz0 := blk_cell hz1 0
      have cz1 := blk_cell hz1 1
      have cz2 := blk_cell hz1 2
      have ca0 := blk_cell ha1 0
      have ca1 := blk_cell ha1 1
      have ca2 := blk_cell ha1 2
      have fa0 := blk_frozen ha1 0
      have fa1 := blk_frozen ha1 1
      have fa2 := blk_frozen ha1 2
      have hA0 := heap_setCell_same w5 (w.heap.size + 1) 0 _ _ (.slice Au us.length cu) ha1
      have hA1 := heap_setCell_same _ (w.heap.size + 1) 1 _ _ (.int .i64 (T - U)) hA0
      have hA2 := heap_setCell_same _ (w.heap.size + 1) 2 _ _ (.slice (some ⟨gm, 0, none⟩) (2 + l.length + qs.length) (2 + l.length + qs.length)) hA1
      have HA2 : Hid _ := hA2
      have HM5 : Hid (w5.heap[gm]? = some (.cells (bys.map metV).toArray 4 (0, 0)) ∧ gm ≠ w.heap.size + 1) := ⟨hm1, fun e => by rw [e, ha1] at hm1; injection hm1 with hm1; injection hm1 with _ hm1 _; cases hm1⟩
      clear hzb hab hmb hA0 hA1 hA2 hF hToR hAs hba hbb hSa hSb hS0 hpr har hBr hm1 hBb
      go_wp2_with fail
      have cA0 := blk_cell HA2.out 0
      have cA1 := blk_cell HA2.out 1
      have cA2 := blk_cell HA2.out 2
      exact bodyPost_ret (v := .tuple #[.agg #[.slice Au us.length cu, .int .i64 (T - U), .slice (some ⟨gm, 0, none⟩) (2 + l.length + qs.length) (2 + l.length + qs.length)], .int .i64 0]) (by simp [results, Tryz.results22, go_sem, cA0, cA1, cA2]) rfl ⟨F, bys, HE.out.2.1, HE.out.2.2.1, Au, us.length, cu, gm, by rw [← HE.out.1, hU], (Below.heap_setCell _ ⟨w.heap.size + 1, 2, none⟩ _ gm HM5.out.2).trans ((Below.heap_setCell _ ⟨w.heap.size + 1, 1, none⟩ _ gm HM5.out.2).trans ((Below.heap_setCell _ ⟨w.heap.size + 1, 0, none⟩ _ gm HM5.out.2).trans HM5.out.1)), ((hB1.setCell (p := ⟨w.heap.size + 1, 0, none⟩) (Nat.le_succ _) _).setCell (p := ⟨w.heap.size + 1, 1, none⟩) (Nat.le_succ _) _).setCell (p := ⟨w.heap.size + 1, 2, none⟩) (Nat.le_succ _) _⟩
end Go.Proofs.YtaiibchadlaifaaGreatDoor

namespace Go.Proofs.YtaiibchadlaifaaGreatDoor
open Go.RowKit Go.Shelf
attribute [local go_sem] Oper.semAt_some

/-- What an audit tells: its cut and what is missing. -/
def CutX (p : Prg) (l : List Att) (bs : List Bool) (x : Int) : Prop :=
  ∃ (F bys : List Int), MaxSpec (2 + l.length + p.reqs.length) 0 ((1 + l.length + p.reqs.length : Nat) : Int) (netL p l) F (cutOf bys) ∧ bys.length = 2 + l.length + p.reqs.length ∧ bs = bys.map (fun y => decide (0 ≤ y)) ∧ x = totalC p.reqs - outF (netL p l) F 0
theorem CutX.same {p : Prg} {l : List Att} {bs bs' : List Bool} {x x' : Int} (h : CutX p l bs x) (h' : CutX p l bs' x') : bs = bs' ∧ x = x' := by
  obtain ⟨F, bys, hM, hl, rfl, rfl⟩ := h
  obtain ⟨F', bys', hM', hl', rfl, rfl⟩ := h'
  obtain ⟨e1, e2⟩ := hM.same hM' (netL_nodes p l) (by omega) (by omega)
  refine ⟨?_, by rw [e1]⟩
  rw [cutOf_cutB, cutOf_cutB] at e2
  refine List.ext_getElem (by rw [List.length_map, List.length_map, hl, hl']) fun i h1 h2 => ?_
  have g1 := cutB_nat (List.getElem?_eq_getElem h1)
  have g2 := cutB_nat (List.getElem?_eq_getElem h2)
  rw [← g1, ← g2, e2]
def AuditX (p : Prg) (l : List Att) (w w' : World) (e : Ending) : Prop :=
  ∃ (bs : List Bool) (AU : Option Addr) (nU cU cb : Nat) (x : Int), e = .returned (.tuple #[.agg #[.slice AU nU cU, .int .i64 x, .slice (some ⟨cb, 0, none⟩) bs.length bs.length], .int .i64 0]) ∧ Rd kB w' (some ⟨cb, 0, none⟩) bs ∧ CutX p l bs x ∧ Below w.heap.size w w'
theorem degree_Audit_x (w : World) (p : Prg) (l : List Att) (A Aq : Option Addr) (c cq : Nat) (hl : Rd kAtt w A l) (hq : Rd kReq w Aq p.reqs) (hm : l.length ≤ 60) (hE : netE p l = 0) :
    Calls Tryz.prog 21 #[.agg #[.string p.nm, .int .i64 p.num, .int .i64 p.uses, .int .i64 p.earn, .int .i64 p.mn, .int .i64 p.md, .slice Aq p.reqs.length cq], .slice A l.length c] w fun e w' => AuditX p l w w' e := by
  refine (degree_Audit_good w p l A Aq c cq hl hq hm hE).mono ?_
  rintro e w' ⟨F, bys, uv, cb, hspec, hbl, rfl, hown, hcb, hcut, hB⟩
  obtain ⟨AU, cU, rfl, hrd⟩ := rd_uses hown
  have hr64 := (prg_ok (netE_ok hE).1).2.2.1
  have hbl' : (bys.map fun x => decide (0 ≤ x)).length = 2 + l.length + p.reqs.length := by rw [List.length_map, hbl]
  have hcut' : w'.heap[cb]? = some (.cells (((bys.map fun x => decide (0 ≤ x)).map Value.bool).toArray) 4 (0, 0)) := by rw [hcut, List.map_map]; rfl
  exact ⟨bys.map fun x => decide (0 ≤ x), AU, _, cU, cb, _, by rw [hbl'], rd_bools hcut' (by omega), ⟨F, bys, hspec, hbl, rfl, by rw [used_value hspec.ok (cons_cast hspec.cons)]⟩, hB⟩
theorem ref19_Audit_x (w : World) (p : Prg) (l : List Att) (A Aq : Option Addr) (c cq : Nat) (hl : Rd kAtt w A l) (hq : Rd kReq w Aq p.reqs) (hm : l.length ≤ 8) (hr : p.reqs.length ≤ 6) (hE : netE p l = 0) :
    Calls Tryz.prog 22 #[.agg #[.string p.nm, .int .i64 p.num, .int .i64 p.uses, .int .i64 p.earn, .int .i64 p.mn, .int .i64 p.md, .slice Aq p.reqs.length cq], .slice A l.length c] w fun e w' => AuditX p l w w' e := by
  refine (ref19_Audit_good w p l A Aq c cq hl hq hm hr hE).mono ?_
  rintro e w' ⟨F, bys, AU, nU, cU, cb, hspec, hbl, rfl, hcut, hB⟩
  have hbl' : (bys.map fun x => decide (0 ≤ x)).length = 2 + l.length + p.reqs.length := by rw [List.length_map, hbl]
  have hcut' : w'.heap[cb]? = some (.cells (((bys.map fun x => decide (0 ≤ x)).map Value.bool).toArray) 4 (0, 0)) := by rw [hcut, List.map_map]; rfl
  exact ⟨bys.map fun x => decide (0 ≤ x), AU, nU, cU, cb, _, by rw [hbl'], rd_bools hcut' (by omega), ⟨F, bys, hspec, hbl, rfl, by rw [used_value hspec.ok (cons_cast hspec.cons)]⟩, hB⟩

set_option maxRecDepth 100000 in
set_option maxHeartbeats 16000000 in
theorem law_Audit_c (w : World) (p : Prg) (l : List Att) (A Aq : Option Addr) (c cq : Nat) (hl : Rd kAtt w A l) (hq : Rd kReq w Aq p.reqs) :
    Calls Tryz.prog 5 #[.agg #[.string p.nm, .int .i64 p.num, .int .i64 p.uses, .int .i64 p.earn, .int .i64 p.mn, .int .i64 p.md, .slice Aq p.reqs.length cq], .slice A l.length c] w fun e w' => e = .returned (.bool true) ∧ Below w.heap.size w w' := by
  have hsn := fun W => sane_c W
  have hfw := fun W (h : Below w.heap.size w W) => ref19_Few_c W p Aq A cq l.length c (hq.below h) hl.len
  cases hF : fewB p.reqs l.length with
  | false =>
    rw [hF] at hfw
    clear hF hl hq
    obtain ⟨pnm, pnum, puses, pearn, pmn, pmd, qs⟩ := p
    dsimp only at *
    go_enter Tryz.func5, Tryz.ntmps5
    have hP := World.alloc_heap_new w (.cells #[.string pnm, .int .i64 pnum, .int .i64 puses, .int .i64 pearn, .int .i64 pmn, .int .i64 pmd, .slice Aq qs.length cq] 26)
    have hz := World.size_alloc w (.cells #[.string pnm, .int .i64 pnum, .int .i64 puses, .int .i64 pearn, .int .i64 pmn, .int .i64 pmd, .slice Aq qs.length cq] 26)
    go_wp2_with (first
      | (go_at_call 11; refine (hsn _).mono ?_; rintro e w1 ⟨rfl, hb1⟩; have hB1 := bthen (below1 w _) hb1; have cP := blk_cell ((hb1.block _ (by omega)).trans hP))
      | (go_at_call 12; refine (hfw _ hB1).mono ?_; rintro e w2 ⟨rfl, hb2⟩))
    go_ret
    exact ⟨rfl, bthen hB1 hb2⟩
  | true =>
    have hm : l.length ≤ 8 := by unfold fewB at hF; simp at hF; omega
    have hr6 : p.reqs.length ≤ 6 := by unfold fewB at hF; simp at hF; omega
    rw [hF] at hfw
    by_cases hE : netE p l = 0
    · have ha1 := fun W (h : Below w.heap.size w W) => degree_Audit_x W p l A Aq c cq (hl.below h) (hq.below h) (by omega) hE
      have ha2 := fun W (h : Below w.heap.size w W) => ref19_Audit_x W p l A Aq c cq (hl.below h) (hq.below h) hm hr6 hE
      clear hF hl hq hE hr6
      have hcs := fun bs bs' x x' => CutX.same (p := p) (l := l) (bs := bs) (bs' := bs') (x := x) (x' := x')
      obtain ⟨pnm, pnum, puses, pearn, pmn, pmd, qs⟩ := p
      dsimp only at *
      go_enter Tryz.func5, Tryz.ntmps5
      have hP := World.alloc_heap_new w (.cells #[.string pnm, .int .i64 pnum, .int .i64 puses, .int .i64 pearn, .int .i64 pmn, .int .i64 pmd, .slice Aq qs.length cq] 26)
      have hz := World.size_alloc w (.cells #[.string pnm, .int .i64 pnum, .int .i64 puses, .int .i64 pearn, .int .i64 pmn, .int .i64 pmd, .slice Aq qs.length cq] 26)
      go_wp2_with (first
        | (go_at_call 11; refine (hsn _).mono ?_; rintro e w1 ⟨rfl, hb1⟩; have hB1 := bthen (below1 w _) hb1; have hP1 := (hb1.block _ (by omega)).trans hP; have cP := blk_cell hP1; have hz1 := (Array.getElem?_eq_some_iff.1 hP1).1)
        | (go_at_call 12; refine (hfw _ hB1).mono ?_; rintro e w2 ⟨rfl, hb2⟩; have hB2 := bthen hB1 hb2; have hP2 := (hb2.block _ hz1).trans hP1; have cP2 := blk_cell hP2; have hz2 := (Array.getElem?_eq_some_iff.1 hP2).1)
        | (go_at_call 21; refine (ha1 _ hB2).mono ?_; refine stopHere ?_))
      unfold Stopped
      intro e w3 hX
      unfold AuditX at hX
      obtain ⟨bs, AX, nX, cX, cb, x, rfl, hbs, hcx, hb3⟩ := hX
      have hA4 := World.alloc_heap_new w3 (.cells #[.slice AX nX cX, .int .i64 x, .slice (some ⟨cb, 0, none⟩) bs.length bs.length] 45)
      have hb4 := below1 w3 (.cells #[.slice AX nX cX, .int .i64 x, .slice (some ⟨cb, 0, none⟩) bs.length bs.length] 45)
      have hz34 := World.size_alloc w3 (.cells #[.slice AX nX cX, .int .i64 x, .slice (some ⟨cb, 0, none⟩) bs.length bs.length] 45)
      have hz3 : w.heap.size < w3.heap.size := Nat.lt_of_lt_of_le hz2 hb3.size
      have hB4 := bthen hB2 (bthen hb3 hb4)
      have hP4 := ((bthen hb3 hb4).block _ hz2).trans hP2
      have cP4 := blk_cell hP4
      have hbs4 := hbs.below hb4
      clear hP hP1 hP2 hz1 hz2 hb1 hb2 hb3 hB1 hB2 hsn hfw ha1 cP cP2 hbs hb4
      go_wp2_with (go_at_call 22; refine (ha2 _ hB4).mono ?_; refine stopHere ?_)
      unfold Stopped
      intro e w5 hX
      unfold AuditX at hX
      obtain ⟨bs2, AY, nY, cY, cb2, x2, rfl, hbs5, hcx2, hb5⟩ := hX
      obtain ⟨e1, e2⟩ := hcs _ _ _ _ hcx hcx2
      subst e1 e2
      have hA5 := (hb5.block w3.heap.size (by omega)).trans hA4
      have hz5 := (Array.getElem?_eq_some_iff.1 hA5).1
      have hb6 := below1 w5 (.cells #[.slice AY nY cY, .int .i64 x, .slice (some ⟨cb2, 0, none⟩) bs.length bs.length] 45)
      have hA6 := (hb6.block _ hz5).trans hA5
      have hC6 := World.alloc_heap_new w5 (.cells #[.slice AY nY cY, .int .i64 x, .slice (some ⟨cb2, 0, none⟩) bs.length bs.length] 45)
      have hB6 := bthen hB4 (bthen hb5 hb6)
      have hbs6 := (hbs4.below hb5).below hb6
      have hbt6 := hbs5.below hb6
      have HW : Hid (w5.heap.size = w5.heap.size) := rfl
      clear hb5 hb6 hbs4 hbs5 hA5 hA4 hP4 cP4 hB4 ha2 hcs hcx hcx2 hz34
      go_upto_region 7 with fail
      generalize w5.alloc _ = w6 at *
      have ca1 := blk_cell hA6 1
      have ca2 := blk_cell hA6 2
      have cc1 := blk_cell hC6 1
      have cc2 := blk_cell hC6 2
      have hsc := ref19_SameCut_c w6 (some ⟨cb, 0, none⟩) (some ⟨cb2, 0, none⟩) bs.length bs.length bs bs hbs6 hbt6
      clear hbs6 hbt6
      go_wp2_with (go_at_call 23; refine hsc.mono ?_; refine stopHere ?_)
      unfold Stopped
      rintro e w7 rfl hb7
      go_wp2
      go_ret
      exact ⟨rfl, bthen hB6 hb7⟩
    · have ha1 := fun W (h : Below w.heap.size w W) => degree_Audit_bad W p l A Aq c cq (hl.below h) (hq.below h) (by omega) hE
      have ha2 := fun W (h : Below w.heap.size w W) => ref19_Audit_bad W p l A Aq c cq (hl.below h) (hq.below h) (by omega) hE
      clear hF hl hq
      generalize netE p l = E at *
      have hE2 : (E == 0) = false := by simpa using hE
      obtain ⟨pnm, pnum, puses, pearn, pmn, pmd, qs⟩ := p
      dsimp only at *
      go_enter Tryz.func5, Tryz.ntmps5
      have hP := World.alloc_heap_new w (.cells #[.string pnm, .int .i64 pnum, .int .i64 puses, .int .i64 pearn, .int .i64 pmn, .int .i64 pmd, .slice Aq qs.length cq] 26)
      have hz := World.size_alloc w (.cells #[.string pnm, .int .i64 pnum, .int .i64 puses, .int .i64 pearn, .int .i64 pmn, .int .i64 pmd, .slice Aq qs.length cq] 26)
      go_wp2_with (first
        | (go_at_call 11; refine (hsn _).mono ?_; rintro e w1 ⟨rfl, hb1⟩; have hB1 := bthen (below1 w _) hb1; have hP1 := (hb1.block _ (by omega)).trans hP; have cP := blk_cell hP1; have hz1 := (Array.getElem?_eq_some_iff.1 hP1).1)
        | (go_at_call 12; refine (hfw _ hB1).mono ?_; rintro e w2 ⟨rfl, hb2⟩; have hB2 := bthen hB1 hb2; have hP2 := (hb2.block _ hz1).trans hP1; have cP2 := blk_cell hP2; have hz2 := (Array.getElem?_eq_some_iff.1 hP2).1)
        | (go_at_call 21; refine (ha1 _ hB2).mono ?_; refine stopHere ?_))
      unfold Stopped
      rintro e w3 ⟨rfl, hb3⟩
      have hA4 := World.alloc_heap_new w3 (.cells #[.slice none 0 0, .int .i64 0, .slice none 0 0] 45)
      have hb4 := below1 w3 (.cells #[.slice none 0 0, .int .i64 0, .slice none 0 0] 45)
      have hz34 := World.size_alloc w3 (.cells #[.slice none 0 0, .int .i64 0, .slice none 0 0] 45)
      have hz3 : w.heap.size < w3.heap.size := Nat.lt_of_lt_of_le hz2 hb3.size
      have hB4 := bthen hB2 (bthen hb3 hb4)
      have hP4 := ((bthen hb3 hb4).block _ hz2).trans hP2
      have cP4 := blk_cell hP4
      clear hP hP1 hP2 hz1 hz2 hb1 hb2 hb3 hB1 hB2 hsn hfw ha1 cP cP2 hb4
      go_wp2_with (go_at_call 22; refine (ha2 _ hB4).mono ?_; refine stopHere ?_)
      unfold Stopped
      rintro e w5 ⟨rfl, hb5⟩
      have hA5 := (hb5.block w3.heap.size (by omega)).trans hA4
      have hz5 := (Array.getElem?_eq_some_iff.1 hA5).1
      have hb6 := below1 w5 (.cells #[.slice none 0 0, .int .i64 0, .slice none 0 0] 45)
      have hA6 := (hb6.block _ hz5).trans hA5
      have hC6 := World.alloc_heap_new w5 (.cells #[.slice none 0 0, .int .i64 0, .slice none 0 0] 45)
      have hB6 := bthen hB4 (bthen hb5 hb6)
      clear hb5 hb6 hA5 hA4 hP4 cP4 hB4 ha2 hz34
      go_upto_region 7 with fail
      generalize w5.alloc _ = w6 at *
      have ca1 := blk_cell hA6 1
      have ca2 := blk_cell hA6 2
      have cc1 := blk_cell hC6 1
      have cc2 := blk_cell hC6 2
      have hsc := ref19_SameCut_c w6 none none 0 0 [] [] (Rd.nil _ _ _) (Rd.nil _ _ _)
      go_wp2_with (go_at_call 23; refine hsc.mono ?_; refine stopHere ?_)
      unfold Stopped
      rintro e w7 rfl hb7
      have ca0 := blk_cell ((hb7.block _ (Array.getElem?_eq_some_iff.1 hA6).1).trans hA6) 0
      go_wp2
      go_ret
      exact ⟨rfl, bthen hB6 hb7⟩
end Go.Proofs.YtaiibchadlaifaaGreatDoor
