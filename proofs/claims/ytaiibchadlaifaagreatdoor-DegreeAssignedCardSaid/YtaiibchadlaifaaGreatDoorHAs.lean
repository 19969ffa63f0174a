/-
  The card of DegreeAssigned: for every input the law returns true, and its input reads as it did. Conditions: those of the given row (the listed variable holds what the program's text lays in it).
  The law DegreeAssigned. Conditions: the arguments read as data.
-/
import Derived.Test.YtaiibchadlaifaaGreatDoorZg
set_option linter.unusedVariables false
set_option linter.unusedSimpArgs false

namespace Go.Proofs.YtaiibchadlaifaaGreatDoor
open Go.RowKit Go.Shelf
attribute [local go_sem] Oper.semAt_some

set_option maxRecDepth 100000 in
set_option maxHeartbeats 16000000 in
theorem law_Assigned_c (w : World) (p : Prg) (l : List Att) (A Aq : Option Addr) (c cq : Nat) (hl : Rd kAtt w A l) (hq : Rd kReq w Aq p.reqs) :
    Calls Tryz.prog 7 #[.agg #[.string p.nm, .int .i64 p.num, .int .i64 p.uses, .int .i64 p.earn, .int .i64 p.mn, .int .i64 p.md, .slice Aq p.reqs.length cq], .slice A l.length c] w fun e w' => e = .returned (.bool true) ∧ Below w.heap.size w w' := by
  have hsn := fun W => sane_c W
  have hfw := fun W (h : Below w.heap.size w W) => ref19_Few_c W p Aq A cq l.length c (hq.below h) hl.len
  cases hF : fewB p.reqs l.length with
  | false =>
    rw [hF] at hfw
    clear hF hl hq
    obtain ⟨pnm, pnum, puses, pearn, pmn, pmd, qs⟩ := p
    dsimp only at *
    go_enter Tryz.func7, Tryz.ntmps7
    have hP := World.alloc_heap_new w (.cells #[.string pnm, .int .i64 pnum, .int .i64 puses, .int .i64 pearn, .int .i64 pmn, .int .i64 pmd, .slice Aq qs.length cq] 26)
    have hz := World.size_alloc w (.cells #[.string pnm, .int .i64 pnum, .int .i64 puses, .int .i64 pearn, .int .i64 pmn, .int .i64 pmd, .slice Aq qs.length cq] 26)
    go_wp2_with (first
      | (go_at_call 11; refine (hsn _).mono ?_; rintro e w1 ⟨rfl, hb1⟩; have hB1 := bthen (below1 w _) hb1; have cP := blk_cell ((hb1.block _ (by omega)).trans hP))
      | (go_at_call 12; refine (hfw _ hB1).mono ?_; rintro e w2 ⟨rfl, hb2⟩))
    go_ret
    exact ⟨rfl, bthen hB1 hb2⟩
  | true =>
    have hm : l.length ≤ 60 := by unfold fewB at hF; simp at hF; omega
    rw [hF] at hfw
    by_cases hE : netE p l = 0
    · have hau := fun W (h : Below w.heap.size w W) => degree_Audit_good W p l A Aq c cq (hl.below h) (hq.below h) hm hE
      obtain ⟨hp0, hall⟩ := netE_ok hE
      obtain ⟨hu1, hu2, hr64, hqcr⟩ := prg_ok hp0
      have hlc : ∀ a, a ∈ l → 0 ≤ a.cr ∧ a.cr ≤ 60 := fun a ha => attOk_cr (List.all_eq_true.1 hall a ha)
      have hqc : ∀ q, q ∈ p.reqs → 0 ≤ q.cr ∧ q.cr ≤ 10000 := fun q h => by have := hqcr q h; omega
      have hpl := pairsL_le p.reqs l
      have hpl2 : l.length * p.reqs.length ≤ 8 * 6 := Nat.mul_le_mul (by unfold fewB at hF; simp at hF; omega) (by unfold fewB at hF; simp at hF; omega)
      have hto := fun W (h : Below w.heap.size w W) => ref19_Total_c W p Aq cq (hq.below h) hqc (by omega)
      have htb := totalC_bd p.reqs hqc
      have hau2 : ∀ W, Below w.heap.size w W → Calls Tryz.prog 21 #[.agg #[.string p.nm, .int .i64 p.num, .int .i64 p.uses, .int .i64 p.earn, .int .i64 p.mn, .int .i64 p.md, .slice Aq p.reqs.length cq], .slice A l.length c] W fun e w' => ∃ us AU cU CB cn, e = .returned (.tuple #[.agg #[.slice AU us.length cU, .int .i64 (totalC p.reqs - usedC us), .slice CB cn cn], .int .i64 0]) ∧ Rd kUse w' AU us ∧ 0 ≤ usedC us ∧ usedC us ≤ totalC p.reqs ∧ asgB p.uses p.reqs l us = true ∧ us.length ≤ 1000 ∧ Below W.heap.size W w' := fun W h => by
        refine (hau W h).mono ?_
        rintro e w' ⟨F, bys, uv, cb, hspec, hbl, rfl, hown, hcb, hcut, hB⟩
        obtain ⟨AU, cU, rfl, hrd⟩ := rd_uses hown
        have hc : conserve (2 + l.length + p.reqs.length) 0 (1 + l.length + p.reqs.length) (netL p l) F := by have := hspec.cons; rwa [show ((1 + l.length + p.reqs.length : Nat) : Int) = 1 + l.length + p.reqs.length by omega] at this
        have h1 := used_value hspec.ok hc
        have h2 := value_le_total hspec.ok hc
        have h3 := asg_of_flow hspec.ok hc
        have h4 := usesL_len (pairsL p.reqs l) (F.drop l.length)
        have h5 := asgB_c h3 hlc
        have h6 := usedC_bd _ (fun u hu => by have := h5 u hu; omega)
        exact ⟨_, AU, cU, _, _, rfl, hrd, h6.1, by omega, h3, by omega, hB⟩
      clear hau hF hE hp0 hall hpl hpl2
      have hq' := hq
      have hl' := hl
      obtain ⟨p', hp'⟩ : ∃ p', p' = p := ⟨_, rfl⟩
      have HP' : Hid (p' = p) := hp'
      clear hp'
      obtain ⟨pnm, pnum, puses, pearn, pmn, pmd, qs⟩ := p
      dsimp only at *
      have HA : Hid ((∀ a, a ∈ l → 0 ≤ a.cr ∧ a.cr ≤ 60) ∧ (∀ q, q ∈ qs → 0 ≤ q.cr ∧ q.cr ≤ 10000) ∧ Rd kReq w Aq qs ∧ Rd kAtt w A l) := ⟨hlc, hqc, hq, hl⟩
      clear hlc hqc hq hl hq' hl' hqcr HP'
      go_enter Tryz.func7, Tryz.ntmps7
      have hP := World.alloc_heap_new w (.cells #[.string pnm, .int .i64 pnum, .int .i64 puses, .int .i64 pearn, .int .i64 pmn, .int .i64 pmd, .slice Aq qs.length cq] 26)
      have hz := World.size_alloc w (.cells #[.string pnm, .int .i64 pnum, .int .i64 puses, .int .i64 pearn, .int .i64 pmn, .int .i64 pmd, .slice Aq qs.length cq] 26)
      go_wp2_with (first
        | (go_at_call 11; refine (hsn _).mono ?_; rintro e w1 ⟨rfl, hb1⟩; have hB1 := bthen (below1 w _) hb1; have hP1 := (hb1.block _ (by omega)).trans hP; have cP := blk_cell hP1; have hz1 := (Array.getElem?_eq_some_iff.1 hP1).1)
        | (go_at_call 12; refine (hfw _ hB1).mono ?_; rintro e w2 ⟨rfl, hb2⟩; have hB2 := bthen hB1 hb2; have hP2 := (hb2.block _ hz1).trans hP1; have cP2 := blk_cell hP2; have hz2 := (Array.getElem?_eq_some_iff.1 hP2).1)
        | (go_at_call 21; refine (hau2 _ hB2).mono ?_; refine stopHere ?_))
      unfold Stopped
      rintro e w3' ⟨us, AU, cU, CB, cn, rfl, hu3, u0, u1, hasg, hun, hb3⟩
      have HG : Hid _ := hasg
      clear hasg
      go_wp2
      have hA4 := World.alloc_heap_new w3' (.cells #[.slice AU us.length cU, .int .i64 (totalC qs - usedC us), .slice CB cn cn] 45)
      have hb4 := below1 w3' (.cells #[.slice AU us.length cU, .int .i64 (totalC qs - usedC us), .slice CB cn cn] 45)
      have hz34 := World.size_alloc w3' (.cells #[.slice AU us.length cU, .int .i64 (totalC qs - usedC us), .slice CB cn cn] 45)
      have hz3 : w.heap.size < w3'.heap.size := Nat.lt_of_lt_of_le hz2 hb3.size
      have hB4 := bthen hB2 (bthen hb3 hb4)
      have hP4 := ((bthen hb3 hb4).block _ hz2).trans hP2
      have hu4 := hu3.below hb4
      generalize hY : w3'.heap.size = Y at *
      generalize w3'.alloc _ = w4 at *
      have hF : ∀ w', Below w4.heap.size w4 w' → (∀ j : Nat, w'.cell? ⟨w.heap.size, j, none⟩ = #[Value.string pnm, .int .i64 pnum, .int .i64 puses, .int .i64 pearn, .int .i64 pmn, .int .i64 pmd, .slice Aq qs.length cq][j]?) ∧ (∀ j : Nat, w'.cell? ⟨Y, j, none⟩ = #[Value.slice AU us.length cU, .int .i64 (totalC qs - usedC us), .slice CB cn cn][j]?) := fun w' h => ⟨blk_cell ((h.block _ (by omega)).trans hP4), blk_cell ((h.block _ (by omega)).trans hA4)⟩
      obtain ⟨hlc, hqc, hq, hl⟩ := HA.out
      have huc := asgB_c HG.out hlc
      have hAs := fun W (h : Below w4.heap.size w4 W) => ref19_Assignment_true W ⟨pnm, pnum, puses, pearn, pmn, pmd, qs⟩ l us Aq A AU cq c cU ((hq.below hB4).below h) ((hl.below hB4).below h) (hu4.below h) (by dsimp only; omega) (by omega) (by omega) hqc hlc (by dsimp only; omega) HG.out
      have hAd := fun W (h : Below w4.heap.size w4 W) => ref19_Assigned_c W us AU cU (hu4.below h) (fun u hu => by have := huc u hu; omega) hun
      have hTo := fun W (h : Below w4.heap.size w4 W) => hto W (bthen hB4 h)
      have HT : Hid (_ ∧ _) := ⟨hlc, hqc⟩
      clear hlc hqc hq hl HA HG huc hto hP hP1 hP2 hA4 hb4 hu3 hu4 hau2 hfw hsn
      generalize totalC qs = T at *
      generalize usedC us = U at *
      have hS0 : Below w4.heap.size w4 w4.drew := (Below.refl _ _).drew
      refine wp_region_G 21 (fun w' => Below w4.heap.size w4 w') (by kernel_rfl) (by kernel_rfl) (by intro d v c a w h; cases d <;> exact h) hS0 ?_
      refine wpG_yield (v := ?_) (i := 0) rfl (by kernel_rfl) (by rfl) ?hy ?_
      case hy => (rintro w' hS'; obtain ⟨f1, f2⟩ := hF w' hS'; simp only [List.getElem_toArray, List.getElem_cons_succ, List.getElem_cons_zero]; go_simp; try with_reducible rfl)
      simp only [List.getElem_toArray, List.getElem_cons_succ, List.getElem_cons_zero, Act.put, List.setIfInBounds_toArray, List.set_cons_zero, List.set_cons_succ]
      refine wpG_yield (v := ?_) (i := 1) rfl (by kernel_rfl) (by rfl) ?hy ?_
      case hy => (rintro w' hS'; obtain ⟨f1, f2⟩ := hF w' hS'; simp only [List.getElem_toArray, List.getElem_cons_succ, List.getElem_cons_zero]; go_simp; try with_reducible rfl)
      simp only [List.getElem_toArray, List.getElem_cons_succ, List.getElem_cons_zero, Act.put, List.setIfInBounds_toArray, List.set_cons_zero, List.set_cons_succ]
      refine wpG_yield (v := ?_) (i := 2) rfl (by kernel_rfl) (by rfl) ?hy ?_
      case hy => (rintro w' hS'; obtain ⟨f1, f2⟩ := hF w' hS'; simp only [List.getElem_toArray, List.getElem_cons_succ, List.getElem_cons_zero]; go_simp; try with_reducible rfl)
      simp only [List.getElem_toArray, List.getElem_cons_succ, List.getElem_cons_zero, Act.put, List.setIfInBounds_toArray, List.set_cons_zero, List.set_cons_succ]
      refine wpG_yield (v := ?_) (i := 3) rfl (by kernel_rfl) (by rfl) ?hy ?_
      case hy => (rintro w' hS'; obtain ⟨f1, f2⟩ := hF w' hS'; simp only [List.getElem_toArray, List.getElem_cons_succ, List.getElem_cons_zero]; go_simp; try with_reducible rfl)
      simp only [List.getElem_toArray, List.getElem_cons_succ, List.getElem_cons_zero, Act.put, List.setIfInBounds_toArray, List.set_cons_zero, List.set_cons_succ]
      refine wpG_call (i := 4) rfl (by kernel_rfl) (by rfl) ?hr ((hAs _ hS0).mono ?_)
      case hr => (simp only [List.getElem_toArray, List.getElem_cons_succ, List.getElem_cons_zero]; go_simp; try rfl)
      rintro e wa ⟨rfl, hba⟩
      have hSa := bthen hS0 hba
      refine ⟨_, rfl, hSa, ?_⟩
      simp only [List.getElem_toArray, List.getElem_cons_succ, List.getElem_cons_zero, Act.put, List.setIfInBounds_toArray, List.set_cons_zero, List.set_cons_succ]
      refine wpG_yield (v := ?_) (i := 5) rfl (by kernel_rfl) (by rfl) ?hy ?_
      case hy => (rintro w' hS'; obtain ⟨f1, f2⟩ := hF w' hS'; simp only [List.getElem_toArray, List.getElem_cons_succ, List.getElem_cons_zero]; go_simp; try with_reducible rfl)
      simp only [List.getElem_toArray, List.getElem_cons_succ, List.getElem_cons_zero, Act.put, List.setIfInBounds_toArray, List.set_cons_zero, List.set_cons_succ]
      refine wpG_yield (v := ?_) (i := 6) rfl (by kernel_rfl) (by rfl) ?hy ?_
      case hy => (rintro w' hS'; obtain ⟨f1, f2⟩ := hF w' hS'; simp only [List.getElem_toArray, List.getElem_cons_succ, List.getElem_cons_zero]; go_simp; try with_reducible rfl)
      simp only [List.getElem_toArray, List.getElem_cons_succ, List.getElem_cons_zero, Act.put, List.setIfInBounds_toArray, List.set_cons_zero, List.set_cons_succ]
      refine wpG_yield (v := ?_) (i := 7) rfl (by kernel_rfl) (by rfl) ?hy ?_
      case hy => (rintro w' hS'; obtain ⟨f1, f2⟩ := hF w' hS'; simp only [List.getElem_toArray, List.getElem_cons_succ, List.getElem_cons_zero]; go_simp; try with_reducible rfl)
      simp only [List.getElem_toArray, List.getElem_cons_succ, List.getElem_cons_zero, Act.put, List.setIfInBounds_toArray, List.set_cons_zero, List.set_cons_succ]
      refine wpG_yield (v := ?_) (i := 8) rfl (by kernel_rfl) (by rfl) ?hy ?_
      case hy => (rintro w' hS'; obtain ⟨f1, f2⟩ := hF w' hS'; simp only [List.getElem_toArray, List.getElem_cons_succ, List.getElem_cons_zero]; go_simp; try with_reducible rfl)
      simp only [List.getElem_toArray, List.getElem_cons_succ, List.getElem_cons_zero, Act.put, List.setIfInBounds_toArray, List.set_cons_zero, List.set_cons_succ]
      refine wpG_yield (v := ?_) (i := 10) rfl (by kernel_rfl) (by rfl) ?hy ?_
      case hy => (rintro w' hS'; obtain ⟨f1, f2⟩ := hF w' hS'; simp only [List.getElem_toArray, List.getElem_cons_succ, List.getElem_cons_zero]; go_simp; try with_reducible rfl)
      simp only [List.getElem_toArray, List.getElem_cons_succ, List.getElem_cons_zero, Act.put, List.setIfInBounds_toArray, List.set_cons_zero, List.set_cons_succ]
      refine wpG_yield (v := ?_) (i := 11) rfl (by kernel_rfl) (by rfl) ?hy ?_
      case hy => (rintro w' hS'; obtain ⟨f1, f2⟩ := hF w' hS'; simp only [List.getElem_toArray, List.getElem_cons_succ, List.getElem_cons_zero]; go_simp; try with_reducible rfl)
      simp only [List.getElem_toArray, List.getElem_cons_succ, List.getElem_cons_zero, Act.put, List.setIfInBounds_toArray, List.set_cons_zero, List.set_cons_succ]
      refine wpG_call (i := 9) rfl (by kernel_rfl) (by rfl) ?hr ((hTo _ hSa).mono ?_)
      case hr => (simp only [List.getElem_toArray, List.getElem_cons_succ, List.getElem_cons_zero]; go_simp; try rfl)
      rintro e wb ⟨rfl, hba⟩
      have hSb := bthen hSa hba
      refine ⟨_, rfl, hSb, ?_⟩
      simp only [List.getElem_toArray, List.getElem_cons_succ, List.getElem_cons_zero, Act.put, List.setIfInBounds_toArray, List.set_cons_zero, List.set_cons_succ]
      refine wpG_call (i := 12) rfl (by kernel_rfl) (by rfl) ?hr ((hAd _ hSb).mono ?_)
      case hr => (simp only [List.getElem_toArray, List.getElem_cons_succ, List.getElem_cons_zero]; go_simp; try rfl)
      rintro e wc ⟨rfl, hba⟩
      have hSc := bthen hSb hba
      refine ⟨_, rfl, hSc, ?_⟩
      simp only [List.getElem_toArray, List.getElem_cons_succ, List.getElem_cons_zero, Act.put, List.setIfInBounds_toArray, List.set_cons_zero, List.set_cons_succ]
      refine wpG_yield (v := .int .i64 (T - U)) (i := 13) rfl (by kernel_rfl) (by rfl) ?hy ?_
      case hy => (rintro w' hS'; obtain ⟨f1, f2⟩ := hF w' hS'; simp only [List.getElem_toArray, List.getElem_cons_succ, List.getElem_cons_zero]; go_simp; try (simp [IntKind.wrap, IntKind.bits, IntKind.signed]; omega))
      simp only [List.getElem_toArray, List.getElem_cons_succ, List.getElem_cons_zero, Act.put, List.setIfInBounds_toArray, List.set_cons_zero, List.set_cons_succ]
      refine wpG_yield (v := .bool true) (i := 14) rfl (by kernel_rfl) (by rfl) ?hy ?_
      case hy => (rintro w' hS'; obtain ⟨f1, f2⟩ := hF w' hS'; simp only [List.getElem_toArray, List.getElem_cons_succ, List.getElem_cons_zero]; go_simp; try (first | rfl | simp))
      simp only [List.getElem_toArray, List.getElem_cons_succ, List.getElem_cons_zero, Act.put, List.setIfInBounds_toArray, List.set_cons_zero, List.set_cons_succ]
      refine wpG_yield (v := ?_) (i := 15) rfl (by kernel_rfl) (by rfl) ?hy ?_
      case hy => (rintro w' hS'; obtain ⟨f1, f2⟩ := hF w' hS'; simp only [List.getElem_toArray, List.getElem_cons_succ, List.getElem_cons_zero]; go_simp; try with_reducible rfl)
      simp only [List.getElem_toArray, List.getElem_cons_succ, List.getElem_cons_zero, Act.put, List.setIfInBounds_toArray, List.set_cons_zero, List.set_cons_succ]
      refine wpG_yield (v := ?_) (i := 16) rfl (by kernel_rfl) (by rfl) ?hy ?_
      case hy => (rintro w' hS'; obtain ⟨f1, f2⟩ := hF w' hS'; simp only [List.getElem_toArray, List.getElem_cons_succ, List.getElem_cons_zero]; go_simp; try with_reducible rfl)
      simp only [List.getElem_toArray, List.getElem_cons_succ, List.getElem_cons_zero, Act.put, List.setIfInBounds_toArray, List.set_cons_zero, List.set_cons_succ]
      refine wpG_yield (v := ?_) (i := 17) rfl (by kernel_rfl) (by rfl) ?hy ?_
      case hy => (rintro w' hS'; obtain ⟨f1, f2⟩ := hF w' hS'; simp only [List.getElem_toArray, List.getElem_cons_succ, List.getElem_cons_zero]; go_simp; try with_reducible rfl)
      simp only [List.getElem_toArray, List.getElem_cons_succ, List.getElem_cons_zero, Act.put, List.setIfInBounds_toArray, List.set_cons_zero, List.set_cons_succ]
      refine wpG_yield (v := ?_) (i := 18) rfl (by kernel_rfl) (by rfl) ?hy ?_
      case hy => (rintro w' hS'; obtain ⟨f1, f2⟩ := hF w' hS'; simp only [List.getElem_toArray, List.getElem_cons_succ, List.getElem_cons_zero]; go_simp; try with_reducible rfl)
      simp only [List.getElem_toArray, List.getElem_cons_succ, List.getElem_cons_zero, Act.put, List.setIfInBounds_toArray, List.set_cons_zero, List.set_cons_succ]
      refine wpG_yield (v := .bool true) (i := 19) rfl (by kernel_rfl) (by rfl) ?hy ?_
      case hy => (rintro w' hS'; obtain ⟨f1, f2⟩ := hF w' hS'; simp only [List.getElem_toArray, List.getElem_cons_succ, List.getElem_cons_zero]; go_simp; try (first | omega | simp <;> omega))
      simp only [List.getElem_toArray, List.getElem_cons_succ, List.getElem_cons_zero, Act.put, List.setIfInBounds_toArray, List.set_cons_zero, List.set_cons_succ]
      refine wpG_yield (v := ?_) (i := 20) rfl (by kernel_rfl) (by rfl) ?hy ?_
      case hy => (rintro w' hS'; obtain ⟨f1, f2⟩ := hF w' hS'; simp only [List.getElem_toArray, List.getElem_cons_succ, List.getElem_cons_zero]; go_simp; try with_reducible rfl)
      simp only [List.getElem_toArray, List.getElem_cons_succ, List.getElem_cons_zero, Act.put, List.setIfInBounds_toArray, List.set_cons_zero, List.set_cons_succ]
      refine wpG_done (by kernel_rfl) ?_
      simp only [List.drop_succ_cons, List.drop_zero]
      go_wp2
      go_ret
      exact ⟨rfl, bthen hB4 hSc⟩
    · have hau := fun W (h : Below w.heap.size w W) => degree_Audit_bad W p l A Aq c cq (hl.below h) (hq.below h) hm hE
      generalize netE p l = E at *
      clear hF hl hq
      obtain ⟨pnm, pnum, puses, pearn, pmn, pmd, qs⟩ := p
      dsimp only at *
      go_enter Tryz.func7, Tryz.ntmps7
      have hP := World.alloc_heap_new w (.cells #[.string pnm, .int .i64 pnum, .int .i64 puses, .int .i64 pearn, .int .i64 pmn, .int .i64 pmd, .slice Aq qs.length cq] 26)
      have hz := World.size_alloc w (.cells #[.string pnm, .int .i64 pnum, .int .i64 puses, .int .i64 pearn, .int .i64 pmn, .int .i64 pmd, .slice Aq qs.length cq] 26)
      go_wp2_with (first
        | (go_at_call 11; refine (hsn _).mono ?_; rintro e w1 ⟨rfl, hb1⟩; have hB1 := bthen (below1 w _) hb1; have hP1 := (hb1.block _ (by omega)).trans hP; have cP := blk_cell hP1; have hz1 := (Array.getElem?_eq_some_iff.1 hP1).1)
        | (go_at_call 12; refine (hfw _ hB1).mono ?_; rintro e w2 ⟨rfl, hb2⟩; have hB2 := bthen hB1 hb2; have cP2 := blk_cell ((hb2.block _ hz1).trans hP1))
        | (go_at_call 21; refine (hau _ hB2).mono ?_; rintro e w3 ⟨rfl, hb3⟩; have hB3 := bthen hB2 hb3))
      go_ret
      exact ⟨rfl, hB3.alloc hB3.size _⟩
end Go.Proofs.YtaiibchadlaifaaGreatDoor

namespace Go.Proofs.YtaiibchadlaifaaGreatDoor
open Go.ChangeShapes Go.WideShapes Go.ChangeAt Go.RowKit

set_option maxRecDepth 100000 in
theorem degreeAssigned_called {H : Type} {enc : TypeId × Value → H} (W : World) (base : Nat) (args : Array Value) (ds : List (DataW H)) (p : List MemPlace) (hval : ∀ (j : Nat) t v, Tryz.f7.params[j]? = some t → args[j]? = some v → Value.okWide Tryz.prog W .any base t v)
    (hA : DataW.TrodAll enc Tryz.prog W 0 (fun _ => true) true Tryz.f7.params.toList args.toList ds p) : Calls Tryz.prog 7 args W fun e W' => e = .returned (.bool true) ∧ Below W.heap.size W W' := by
  rw [Tryz.params7] at hA hval
  obtain ⟨v0, v1, d0, d1, q0, q1, rfl, rfl, rfl, h0, h1⟩ := trodAll_two hA
  obtain ⟨p0, A0, c0, rfl, l0, r0⟩ := arg_Prg (hval 0 _ _ rfl rfl) h0
  obtain ⟨A1, x1, c1, rfl, l1, r1⟩ := arg_slice Tryz.underlying37 opn_Att (by decide) (hval 1 _ _ rfl rfl) h1
  exact law_Assigned_c W p0 x1 A1 A0 c1 c0 r1 r0

set_option maxRecDepth 100000 in
theorem degreeAssigned_lifted (os : Os) (started : os.Started) (H : Type) (enc : TypeId × Value → H) :
    ReturnsInHanded {} Tryz.checked os 7 .any (fun w args => (Rows.degreeAssignedSpec.pre enc Tryz.prog Tryz.f7 [] false w args ∧ laidMetH Tryz.prog [("sizar/rules.kinds", Rows.laid_sizar_rules_kinds)] w) ∧ sizedMet enc Tryz.prog Tryz.f7 (OpenSpec.ofChange Rows.degreeAssignedSpec) false w args)
      (Rows.degreeAssignedSpec.post enc Tryz.prog Tryz.f7 false true false false) := by
  refine law_lifted os started H enc #[.agg #[.string ⟨#[]⟩, .int .i64 0, .int .i64 0, .int .i64 0, .int .i64 0, .int .i64 0, .slice none 0 0], .slice none 0 0] (by kernel_rfl) Tryz.func7 rfl (by kernel_rfl) (by kernel_rfl) (fun ds h => ?_) (World.shaped_of_RefB (by kernel_rfl) (by kernel_rfl)) (by kernel_rfl) (by kernel_rfl) (by kernel_rfl) degreeAssigned_called
  match ds, h with
  | [_, _], _ => rfl

theorem degreeAssigned_said : Rows.DegreeAssignedSaid :=
  OpenClaim.holds_of_wide 7 Tryz.f7 rfl rfl rfl rfl rfl rfl rfl ⟨rfl, rfl, rfl, rfl, rfl⟩ rfl rfl rfl rfl rfl (by kernel_rfl) Tryz.func7 (by kernel_rfl)
    (of_decide_eq_true (by kernel_rfl)) (by unfold Func.isWrapper; first | (rw [if_pos (by decide +kernel)]; kernel_rfl) | (rw [if_neg (by decide +kernel)]; exact ⟨rfl, rfl⟩))
    (fun os started H enc _ => degreeAssigned_lifted os started H enc)

theorem degreeAssigned_plain (f : FuncId) (fn : Func) (hf : Tryz.pinned.checked.prog.funcNamed "sizar/sizarlaw19.DegreeAssigned" = some f) (hfn : Tryz.pinned.checked.prog.funcs[f]? = some fn) :
    true = Tryz.pinned.checked.prog.looks [] ∧ ∀ (j : Nat) t, fn.params[j]? = some t → Tryz.pinned.checked.prog.wantsStandIn t = false := by
  obtain rfl : f = 7 := Option.some.inj ((show Tryz.prog.funcNamed "sizar/sizarlaw19.DegreeAssigned" = some 7 by kernel_rfl).symm.trans hf) |>.symm
  obtain rfl : fn = Tryz.f7 := (Option.some.inj (Tryz.func7.symm.trans hfn)).symm
  refine ⟨by kernel_rfl, fun j t ht => ?_⟩
  have hall : (Tryz.f7.params.toList.all fun u => !Tryz.prog.wantsStandIn u) = true := by kernel_rfl
  have hm : t ∈ Tryz.f7.params.toList := by simpa using Array.mem_of_getElem? ht
  exact (show Tryz.prog.wantsStandIn t = false by simpa using List.all_eq_true.1 hall t hm)

/-- The card. -/
theorem degreeAssigned_card : Rows.DegreeAssignedCardSaid :=
  Claim7.holds_tied_plain_at .later [] _ _ _ _ degreeAssigned_said (fun _ h => by cases h) (by kernel_rfl) (fun _ h => by cases h) degreeAssigned_row_tie rfl ⟨rfl, rfl⟩ (by kernel_rfl) rfl degreeAssigned_plain (by kernel_rfl)
#print axioms degreeAssigned_card
end Go.Proofs.YtaiibchadlaifaaGreatDoor
