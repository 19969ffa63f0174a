/-
  The card of DegreeCheckSpec: for every input the law returns true, and its input reads as it did. Conditions: those of the given row (the listed variable holds what the program's text lays in it).
  The law DegreeCheckSpec. Conditions: the arguments read as data.
-/
import Derived.Test.YtaiibchadlaifaaGreatDoorZg
set_option linter.unusedVariables false
set_option linter.unusedSimpArgs false

namespace Go.Proofs.YtaiibchadlaifaaGreatDoor
open Go.RowKit Go.Shelf
attribute [local go_sem] Oper.semAt_some

theorem Rd.take {α : Type} {d : Kd α} {w : World} {A : Option Addr} {xs : List α} (h : Rd d w A xs) (n : Nat) : Rd d w A (xs.take n) := by
  refine ⟨Nat.le_trans (List.length_take_le' _ _) h.1, fun hn => ?_⟩
  obtain ⟨b, off, hA, hc⟩ := h.2 (by rintro rfl; simp at hn)
  refine ⟨b, off, hA, fun i x hx => hc i x ?_⟩
  rw [List.getElem?_take] at hx
  split at hx
  · exact hx
  · cases hx

set_option maxRecDepth 100000 in
set_option maxHeartbeats 16000000 in
theorem law_Check_c (w : World) (p : Prg) (a : Att) (Aq : Option Addr) (cq : Nat) (hq : Rd kReq w Aq p.reqs) (hcap : p.reqs.length ≤ cq) :
    Calls Tryz.prog 3 #[.agg #[.string p.nm, .int .i64 p.num, .int .i64 p.uses, .int .i64 p.earn, .int .i64 p.mn, .int .i64 p.md, .slice Aq p.reqs.length cq], .agg #[.int .i64 a.c, .int .i64 a.t, .int .i64 a.g, .int .i64 a.cam, .int .i64 a.cr]] w fun e w' => e = .returned (.bool true) ∧ Below w.heap.size w w' := by
  have hsn := fun W => sane_c W
  have hlq := hq.len
  by_cases h100 : 100 < p.reqs.length
  · clear hq
    obtain ⟨pnm, pnum, puses, pearn, pmn, pmd, qs⟩ := p
    dsimp only at *
    go_enter Tryz.func3, Tryz.ntmps3
    have hP := alloc2_blk0 w (.cells #[.string pnm, .int .i64 pnum, .int .i64 puses, .int .i64 pearn, .int .i64 pmn, .int .i64 pmd, .slice Aq qs.length cq] 26) (.cells #[.int .i64 a.c, .int .i64 a.t, .int .i64 a.g, .int .i64 a.cam, .int .i64 a.cr] 28)
    have hz := alloc2_size w (.cells #[.string pnm, .int .i64 pnum, .int .i64 puses, .int .i64 pearn, .int .i64 pmn, .int .i64 pmd, .slice Aq qs.length cq] 26) (.cells #[.int .i64 a.c, .int .i64 a.t, .int .i64 a.g, .int .i64 a.cam, .int .i64 a.cr] 28)
    go_wp2_with (go_at_call 11; refine (hsn _).mono ?_; rintro e w1 ⟨rfl, hb1⟩; have hB1 := bthen (below2 w _ _) hb1; have cP := blk_cell ((hb1.block _ (by omega)).trans hP))
    go_ret
    exact ⟨rfl, hB1⟩
  · have h100 : p.reqs.length ≤ 100 := by omega
    obtain ⟨m, hm⟩ : ∃ m, (p.reqs.take 6).length = m := ⟨_, rfl⟩
    have hfw := fun W (h : Below w.heap.size w W) => ref19_Few_c W ⟨⟨#[]⟩, 0, 0, 0, 0, 0, p.reqs.take 6⟩ Aq none cq 0 0 ((hq.below h).take 6) (by omega)
    have hm1 : m = if p.reqs.length ≤ 6 then p.reqs.length else 6 := by rw [← hm, List.length_take]; split <;> omega
    dsimp only at hfw
    rw [hm] at hfw
    have e100 : decide ((100 : Int) < p.reqs.length) = false := decide_eq_false (by omega)
    have hck := fun W (h : Below w.heap.size w W) => degree_Check_c W p Aq cq (hq.below h)
    have hrk := fun W (h : Below w.heap.size w W) => ref19_Check_c W p Aq cq (hq.below h)
    have hel := fun W (h : Below w.heap.size w W) => Eligible_c W p a Aq cq (hq.below h) (by omega)
    have hre := fun W (h : Below w.heap.size w W) => ref19_Eligible_c W p a Aq cq (hq.below h) (by omega)
    have hm2 : (m = 6 ∧ 6 ≤ p.reqs.length) ∨ (m = p.reqs.length ∧ p.reqs.length < 6) := by split at hm1 <;> omega
    clear hm1
    generalize hpe : prgE p = pe at *
    generalize hle : eligL p.reqs a = le at *
    generalize fewB (p.reqs.take 6) 0 = fb at *
    clear hpe hle hq hm hlq
    rcases hm2 with ⟨rfl, h6⟩ | ⟨rfl, h6⟩
    · obtain ⟨pnm, pnum, puses, pearn, pmn, pmd, qs⟩ := p
      dsimp only at *
      go_enter Tryz.func3, Tryz.ntmps3
      have hP := alloc2_blk0 w (.cells #[.string pnm, .int .i64 pnum, .int .i64 puses, .int .i64 pearn, .int .i64 pmn, .int .i64 pmd, .slice Aq qs.length cq] 26) (.cells #[.int .i64 a.c, .int .i64 a.t, .int .i64 a.g, .int .i64 a.cam, .int .i64 a.cr] 28)
      have hA := alloc2_blk1 w (.cells #[.string pnm, .int .i64 pnum, .int .i64 puses, .int .i64 pearn, .int .i64 pmn, .int .i64 pmd, .slice Aq qs.length cq] 26) (.cells #[.int .i64 a.c, .int .i64 a.t, .int .i64 a.g, .int .i64 a.cam, .int .i64 a.cr] 28)
      have hz := alloc2_size w (.cells #[.string pnm, .int .i64 pnum, .int .i64 puses, .int .i64 pearn, .int .i64 pmn, .int .i64 pmd, .slice Aq qs.length cq] 26) (.cells #[.int .i64 a.c, .int .i64 a.t, .int .i64 a.g, .int .i64 a.cam, .int .i64 a.cr] 28)
      go_wp2_with (first
        | (go_at_call 11; refine (hsn _).mono ?_; rintro e w1 ⟨rfl, hb1⟩; have hB1 := bthen (below2 w _ _) hb1; have hP1 := (hb1.block _ (by omega)).trans hP; have hA1 := (hb1.block _ (by omega)).trans hA; have cP := blk_cell hP1; have hz1 := (Array.getElem?_eq_some_iff.1 hA1).1)
        | (go_at_call 12; refine stopHere ?_))
      unfold Stopped
      refine (hfw _ hB1).mono ?_
      rintro e w3 ⟨rfl, hb3⟩
      have hB3 := bthen hB1 hb3
      have hP3 := (hb3.block _ (by omega)).trans hP1
      have hA3 := (hb3.block _ (by omega)).trans hA1
      have cP3 := blk_cell hP3
      have cA3 := blk_cell hA3
      have hz3 := (Array.getElem?_eq_some_iff.1 hA3).1
      cases fb
      · go_wp2
        go_ret
        exact ⟨rfl, hB3⟩
      go_wp2
      have hF : ∀ w', Below w3.heap.size w3 w' → (∀ j : Nat, w'.cell? ⟨w.heap.size, j, none⟩ = #[Value.string pnm, .int .i64 pnum, .int .i64 puses, .int .i64 pearn, .int .i64 pmn, .int .i64 pmd, .slice Aq qs.length cq][j]?) ∧ (∀ j : Nat, w'.cell? ⟨w.heap.size + 1, j, none⟩ = #[Value.int .i64 a.c, .int .i64 a.t, .int .i64 a.g, .int .i64 a.cam, .int .i64 a.cr][j]?) := fun w' h => ⟨blk_cell ((h.block _ (by omega)).trans hP3), blk_cell ((h.block _ (by omega)).trans hA3)⟩
      have hS0 : Below w3.heap.size w3 w3.drew := (Below.refl _ _).drew
      refine wp_region_G 14 (fun w' => Below w3.heap.size w3 w') (by kernel_rfl) (by kernel_rfl) (by intro d v c a w h; cases d <;> exact h) hS0 ?_
      refine wpG_yield (v := ?_) (i := 0) rfl (by kernel_rfl) (by rfl) ?hy ?_
      case hy => (rintro w' hS'; obtain ⟨f1, f2⟩ := hF w' hS'; simp only [List.getElem_toArray, List.getElem_cons_succ, List.getElem_cons_zero]; go_simp; try with_reducible rfl)
      simp only [List.getElem_toArray, List.getElem_cons_succ, List.getElem_cons_zero, Act.put, List.setIfInBounds_toArray, List.set_cons_zero, List.set_cons_succ]
      refine wpG_yield (v := ?_) (i := 2) rfl (by kernel_rfl) (by rfl) ?hy ?_
      case hy => (rintro w' hS'; obtain ⟨f1, f2⟩ := hF w' hS'; simp only [List.getElem_toArray, List.getElem_cons_succ, List.getElem_cons_zero]; go_simp; try with_reducible rfl)
      simp only [List.getElem_toArray, List.getElem_cons_succ, List.getElem_cons_zero, Act.put, List.setIfInBounds_toArray, List.set_cons_zero, List.set_cons_succ]
      refine wpG_call (i := 1) rfl (by kernel_rfl) (by rfl) ?hr ((hck _ (bthen hB3 hS0)).mono ?_)
      case hr => (simp only [List.getElem_toArray, List.getElem_cons_succ, List.getElem_cons_zero]; go_simp; try rfl)
      rintro e wa ⟨rfl, hba⟩
      have hSa := bthen hS0 hba
      refine ⟨_, rfl, hSa, ?_⟩
      simp only [List.getElem_toArray, List.getElem_cons_succ, List.getElem_cons_zero, Act.put, List.setIfInBounds_toArray, List.set_cons_zero, List.set_cons_succ]
      refine wpG_call (i := 3) rfl (by kernel_rfl) (by rfl) ?hr ((hrk _ (bthen hB3 hSa)).mono ?_)
      case hr => (simp only [List.getElem_toArray, List.getElem_cons_succ, List.getElem_cons_zero]; go_simp; try rfl)
      rintro e wb ⟨rfl, hba⟩
      have hSb := bthen hSa hba
      refine ⟨_, rfl, hSb, ?_⟩
      simp only [List.getElem_toArray, List.getElem_cons_succ, List.getElem_cons_zero, Act.put, List.setIfInBounds_toArray, List.set_cons_zero, List.set_cons_succ]
      refine wpG_yield (v := ?_) (i := 4) rfl (by kernel_rfl) (by rfl) ?hy ?_
      case hy => (rintro w' hS'; obtain ⟨f1, f2⟩ := hF w' hS'; simp only [List.getElem_toArray, List.getElem_cons_succ, List.getElem_cons_zero]; go_simp; try with_reducible rfl)
      simp only [List.getElem_toArray, List.getElem_cons_succ, List.getElem_cons_zero, Act.put, List.setIfInBounds_toArray, List.set_cons_zero, List.set_cons_succ]
      refine wpG_yield (v := ?_) (i := 5) rfl (by kernel_rfl) (by rfl) ?hy ?_
      case hy => (rintro w' hS'; obtain ⟨f1, f2⟩ := hF w' hS'; simp only [List.getElem_toArray, List.getElem_cons_succ, List.getElem_cons_zero]; go_simp; try with_reducible rfl)
      simp only [List.getElem_toArray, List.getElem_cons_succ, List.getElem_cons_zero, Act.put, List.setIfInBounds_toArray, List.set_cons_zero, List.set_cons_succ]
      refine wpG_yield (v := ?_) (i := 6) rfl (by kernel_rfl) (by rfl) ?hy ?_
      case hy => (rintro w' hS'; obtain ⟨f1, f2⟩ := hF w' hS'; simp only [List.getElem_toArray, List.getElem_cons_succ, List.getElem_cons_zero]; go_simp; try with_reducible rfl)
      simp only [List.getElem_toArray, List.getElem_cons_succ, List.getElem_cons_zero, Act.put, List.setIfInBounds_toArray, List.set_cons_zero, List.set_cons_succ]
      refine wpG_yield (v := ?_) (i := 7) rfl (by kernel_rfl) (by rfl) ?hy ?_
      case hy => (rintro w' hS'; obtain ⟨f1, f2⟩ := hF w' hS'; simp only [List.getElem_toArray, List.getElem_cons_succ, List.getElem_cons_zero]; go_simp; try with_reducible rfl)
      simp only [List.getElem_toArray, List.getElem_cons_succ, List.getElem_cons_zero, Act.put, List.setIfInBounds_toArray, List.set_cons_zero, List.set_cons_succ]
      refine wpG_yield (v := ?_) (i := 9) rfl (by kernel_rfl) (by rfl) ?hy ?_
      case hy => (rintro w' hS'; obtain ⟨f1, f2⟩ := hF w' hS'; simp only [List.getElem_toArray, List.getElem_cons_succ, List.getElem_cons_zero]; go_simp; try with_reducible rfl)
      simp only [List.getElem_toArray, List.getElem_cons_succ, List.getElem_cons_zero, Act.put, List.setIfInBounds_toArray, List.set_cons_zero, List.set_cons_succ]
      refine wpG_yield (v := ?_) (i := 10) rfl (by kernel_rfl) (by rfl) ?hy ?_
      case hy => (rintro w' hS'; obtain ⟨f1, f2⟩ := hF w' hS'; simp only [List.getElem_toArray, List.getElem_cons_succ, List.getElem_cons_zero]; go_simp; try with_reducible rfl)
      simp only [List.getElem_toArray, List.getElem_cons_succ, List.getElem_cons_zero, Act.put, List.setIfInBounds_toArray, List.set_cons_zero, List.set_cons_succ]
      refine wpG_call (i := 8) rfl (by kernel_rfl) (by rfl) ?hr ((hel _ (bthen hB3 hSb)).mono ?_)
      case hr => (simp only [List.getElem_toArray, List.getElem_cons_succ, List.getElem_cons_zero]; go_simp; try rfl)
      rintro e wc ⟨vc, rfl, ho, hba⟩
      obtain ⟨X, cx, rfl, _, hrx⟩ := ho.rd encI_len
      have hSc := bthen hSb hba
      refine ⟨_, rfl, hSc, ?_⟩
      simp only [List.getElem_toArray, List.getElem_cons_succ, List.getElem_cons_zero, Act.put, List.setIfInBounds_toArray, List.set_cons_zero, List.set_cons_succ]
      refine wpG_call (i := 11) rfl (by kernel_rfl) (by rfl) ?hr ((hre _ (bthen hB3 hSc)).mono ?_)
      case hr => (simp only [List.getElem_toArray, List.getElem_cons_succ, List.getElem_cons_zero]; go_simp; try rfl)
      rintro e wd ⟨vd, rfl, ho2, hba⟩
      obtain ⟨Y, cy, rfl, _, hry⟩ := ho2.rd encI_len
      have hsm := law19_same_c _ X Y cx cy _ _ (hrx.below hba) hry
      have hSd := bthen hSc hba
      refine ⟨_, rfl, hSd, ?_⟩
      simp only [List.getElem_toArray, List.getElem_cons_succ, List.getElem_cons_zero, Act.put, List.setIfInBounds_toArray, List.set_cons_zero, List.set_cons_succ]
      refine wpG_call (i := 12) rfl (by kernel_rfl) (by rfl) ?hr (hsm.mono ?_)
      case hr => (simp only [List.getElem_toArray, List.getElem_cons_succ, List.getElem_cons_zero]; go_simp; try rfl)
      rintro e we ⟨⟨b, rfl, hbt⟩, hba⟩
      obtain rfl : b = true := hbt.2 rfl
      have hSe := bthen hSd hba
      refine ⟨_, rfl, hSe, ?_⟩
      simp only [List.getElem_toArray, List.getElem_cons_succ, List.getElem_cons_zero, Act.put, List.setIfInBounds_toArray, List.set_cons_zero, List.set_cons_succ]
      refine wpG_yield (v := ?_) (i := 13) rfl (by kernel_rfl) (by rfl) ?hy ?_
      case hy => (rintro w' hS'; obtain ⟨f1, f2⟩ := hF w' hS'; simp only [List.getElem_toArray, List.getElem_cons_succ, List.getElem_cons_zero]; go_simp; try with_reducible rfl)
      simp only [List.getElem_toArray, List.getElem_cons_succ, List.getElem_cons_zero, Act.put, List.setIfInBounds_toArray, List.set_cons_zero, List.set_cons_succ]
      refine wpG_done (by kernel_rfl) ?_
      simp only [List.drop_succ_cons, List.drop_zero]
      go_wp2
      go_ret
      exact ⟨rfl, bthen hB3 hSe⟩
    · obtain ⟨pnm, pnum, puses, pearn, pmn, pmd, qs⟩ := p
      dsimp only at *
      go_enter Tryz.func3, Tryz.ntmps3
      have hP := alloc2_blk0 w (.cells #[.string pnm, .int .i64 pnum, .int .i64 puses, .int .i64 pearn, .int .i64 pmn, .int .i64 pmd, .slice Aq qs.length cq] 26) (.cells #[.int .i64 a.c, .int .i64 a.t, .int .i64 a.g, .int .i64 a.cam, .int .i64 a.cr] 28)
      have hA := alloc2_blk1 w (.cells #[.string pnm, .int .i64 pnum, .int .i64 puses, .int .i64 pearn, .int .i64 pmn, .int .i64 pmd, .slice Aq qs.length cq] 26) (.cells #[.int .i64 a.c, .int .i64 a.t, .int .i64 a.g, .int .i64 a.cam, .int .i64 a.cr] 28)
      have hz := alloc2_size w (.cells #[.string pnm, .int .i64 pnum, .int .i64 puses, .int .i64 pearn, .int .i64 pmn, .int .i64 pmd, .slice Aq qs.length cq] 26) (.cells #[.int .i64 a.c, .int .i64 a.t, .int .i64 a.g, .int .i64 a.cam, .int .i64 a.cr] 28)
      go_wp2_with (first
        | (go_at_call 11; refine (hsn _).mono ?_; rintro e w1 ⟨rfl, hb1⟩; have hB1 := bthen (below2 w _ _) hb1; have hP1 := (hb1.block _ (by omega)).trans hP; have hA1 := (hb1.block _ (by omega)).trans hA; have cP := blk_cell hP1; have hz1 := (Array.getElem?_eq_some_iff.1 hA1).1)
        | (go_at_call 12; refine stopHere ?_))
      unfold Stopped
      refine (hfw _ hB1).mono ?_
      rintro e w3 ⟨rfl, hb3⟩
      have hB3 := bthen hB1 hb3
      have hP3 := (hb3.block _ (by omega)).trans hP1
      have hA3 := (hb3.block _ (by omega)).trans hA1
      have cP3 := blk_cell hP3
      have cA3 := blk_cell hA3
      have hz3 := (Array.getElem?_eq_some_iff.1 hA3).1
      cases fb
      · go_wp2
        go_ret
        exact ⟨rfl, hB3⟩
      go_wp2
      have hF : ∀ w', Below w3.heap.size w3 w' → (∀ j : Nat, w'.cell? ⟨w.heap.size, j, none⟩ = #[Value.string pnm, .int .i64 pnum, .int .i64 puses, .int .i64 pearn, .int .i64 pmn, .int .i64 pmd, .slice Aq qs.length cq][j]?) ∧ (∀ j : Nat, w'.cell? ⟨w.heap.size + 1, j, none⟩ = #[Value.int .i64 a.c, .int .i64 a.t, .int .i64 a.g, .int .i64 a.cam, .int .i64 a.cr][j]?) := fun w' h => ⟨blk_cell ((h.block _ (by omega)).trans hP3), blk_cell ((h.block _ (by omega)).trans hA3)⟩
      have hS0 : Below w3.heap.size w3 w3.drew := (Below.refl _ _).drew
      refine wp_region_G 14 (fun w' => Below w3.heap.size w3 w') (by kernel_rfl) (by kernel_rfl) (by intro d v c a w h; cases d <;> exact h) hS0 ?_
      refine wpG_yield (v := ?_) (i := 0) rfl (by kernel_rfl) (by rfl) ?hy ?_
      case hy => (rintro w' hS'; obtain ⟨f1, f2⟩ := hF w' hS'; simp only [List.getElem_toArray, List.getElem_cons_succ, List.getElem_cons_zero]; go_simp; try with_reducible rfl)
      simp only [List.getElem_toArray, List.getElem_cons_succ, List.getElem_cons_zero, Act.put, List.setIfInBounds_toArray, List.set_cons_zero, List.set_cons_succ]
      refine wpG_yield (v := ?_) (i := 2) rfl (by kernel_rfl) (by rfl) ?hy ?_
      case hy => (rintro w' hS'; obtain ⟨f1, f2⟩ := hF w' hS'; simp only [List.getElem_toArray, List.getElem_cons_succ, List.getElem_cons_zero]; go_simp; try with_reducible rfl)
      simp only [List.getElem_toArray, List.getElem_cons_succ, List.getElem_cons_zero, Act.put, List.setIfInBounds_toArray, List.set_cons_zero, List.set_cons_succ]
      refine wpG_call (i := 1) rfl (by kernel_rfl) (by rfl) ?hr ((hck _ (bthen hB3 hS0)).mono ?_)
      case hr => (simp only [List.getElem_toArray, List.getElem_cons_succ, List.getElem_cons_zero]; go_simp; try rfl)
      rintro e wa ⟨rfl, hba⟩
      have hSa := bthen hS0 hba
      refine ⟨_, rfl, hSa, ?_⟩
      simp only [List.getElem_toArray, List.getElem_cons_succ, List.getElem_cons_zero, Act.put, List.setIfInBounds_toArray, List.set_cons_zero, List.set_cons_succ]
      refine wpG_call (i := 3) rfl (by kernel_rfl) (by rfl) ?hr ((hrk _ (bthen hB3 hSa)).mono ?_)
      case hr => (simp only [List.getElem_toArray, List.getElem_cons_succ, List.getElem_cons_zero]; go_simp; try rfl)
      rintro e wb ⟨rfl, hba⟩
      have hSb := bthen hSa hba
      refine ⟨_, rfl, hSb, ?_⟩
      simp only [List.getElem_toArray, List.getElem_cons_succ, List.getElem_cons_zero, Act.put, List.setIfInBounds_toArray, List.set_cons_zero, List.set_cons_succ]
      refine wpG_yield (v := ?_) (i := 4) rfl (by kernel_rfl) (by rfl) ?hy ?_
      case hy => (rintro w' hS'; obtain ⟨f1, f2⟩ := hF w' hS'; simp only [List.getElem_toArray, List.getElem_cons_succ, List.getElem_cons_zero]; go_simp; try with_reducible rfl)
      simp only [List.getElem_toArray, List.getElem_cons_succ, List.getElem_cons_zero, Act.put, List.setIfInBounds_toArray, List.set_cons_zero, List.set_cons_succ]
      refine wpG_yield (v := ?_) (i := 5) rfl (by kernel_rfl) (by rfl) ?hy ?_
      case hy => (rintro w' hS'; obtain ⟨f1, f2⟩ := hF w' hS'; simp only [List.getElem_toArray, List.getElem_cons_succ, List.getElem_cons_zero]; go_simp; try with_reducible rfl)
      simp only [List.getElem_toArray, List.getElem_cons_succ, List.getElem_cons_zero, Act.put, List.setIfInBounds_toArray, List.set_cons_zero, List.set_cons_succ]
      refine wpG_yield (v := ?_) (i := 6) rfl (by kernel_rfl) (by rfl) ?hy ?_
      case hy => (rintro w' hS'; obtain ⟨f1, f2⟩ := hF w' hS'; simp only [List.getElem_toArray, List.getElem_cons_succ, List.getElem_cons_zero]; go_simp; try with_reducible rfl)
      simp only [List.getElem_toArray, List.getElem_cons_succ, List.getElem_cons_zero, Act.put, List.setIfInBounds_toArray, List.set_cons_zero, List.set_cons_succ]
      refine wpG_yield (v := ?_) (i := 7) rfl (by kernel_rfl) (by rfl) ?hy ?_
      case hy => (rintro w' hS'; obtain ⟨f1, f2⟩ := hF w' hS'; simp only [List.getElem_toArray, List.getElem_cons_succ, List.getElem_cons_zero]; go_simp; try with_reducible rfl)
      simp only [List.getElem_toArray, List.getElem_cons_succ, List.getElem_cons_zero, Act.put, List.setIfInBounds_toArray, List.set_cons_zero, List.set_cons_succ]
      refine wpG_yield (v := ?_) (i := 9) rfl (by kernel_rfl) (by rfl) ?hy ?_
      case hy => (rintro w' hS'; obtain ⟨f1, f2⟩ := hF w' hS'; simp only [List.getElem_toArray, List.getElem_cons_succ, List.getElem_cons_zero]; go_simp; try with_reducible rfl)
      simp only [List.getElem_toArray, List.getElem_cons_succ, List.getElem_cons_zero, Act.put, List.setIfInBounds_toArray, List.set_cons_zero, List.set_cons_succ]
      refine wpG_yield (v := ?_) (i := 10) rfl (by kernel_rfl) (by rfl) ?hy ?_
      case hy => (rintro w' hS'; obtain ⟨f1, f2⟩ := hF w' hS'; simp only [List.getElem_toArray, List.getElem_cons_succ, List.getElem_cons_zero]; go_simp; try with_reducible rfl)
      simp only [List.getElem_toArray, List.getElem_cons_succ, List.getElem_cons_zero, Act.put, List.setIfInBounds_toArray, List.set_cons_zero, List.set_cons_succ]
      refine wpG_call (i := 8) rfl (by kernel_rfl) (by rfl) ?hr ((hel _ (bthen hB3 hSb)).mono ?_)
      case hr => (simp only [List.getElem_toArray, List.getElem_cons_succ, List.getElem_cons_zero]; go_simp; try rfl)
      rintro e wc ⟨vc, rfl, ho, hba⟩
      obtain ⟨X, cx, rfl, _, hrx⟩ := ho.rd encI_len
      have hSc := bthen hSb hba
      refine ⟨_, rfl, hSc, ?_⟩
      simp only [List.getElem_toArray, List.getElem_cons_succ, List.getElem_cons_zero, Act.put, List.setIfInBounds_toArray, List.set_cons_zero, List.set_cons_succ]
      refine wpG_call (i := 11) rfl (by kernel_rfl) (by rfl) ?hr ((hre _ (bthen hB3 hSc)).mono ?_)
      case hr => (simp only [List.getElem_toArray, List.getElem_cons_succ, List.getElem_cons_zero]; go_simp; try rfl)
      rintro e wd ⟨vd, rfl, ho2, hba⟩
      obtain ⟨Y, cy, rfl, _, hry⟩ := ho2.rd encI_len
      have hsm := law19_same_c _ X Y cx cy _ _ (hrx.below hba) hry
      have hSd := bthen hSc hba
      refine ⟨_, rfl, hSd, ?_⟩
      simp only [List.getElem_toArray, List.getElem_cons_succ, List.getElem_cons_zero, Act.put, List.setIfInBounds_toArray, List.set_cons_zero, List.set_cons_succ]
      refine wpG_call (i := 12) rfl (by kernel_rfl) (by rfl) ?hr (hsm.mono ?_)
      case hr => (simp only [List.getElem_toArray, List.getElem_cons_succ, List.getElem_cons_zero]; go_simp; try rfl)
      rintro e we ⟨⟨b, rfl, hbt⟩, hba⟩
      obtain rfl : b = true := hbt.2 rfl
      have hSe := bthen hSd hba
      refine ⟨_, rfl, hSe, ?_⟩
      simp only [List.getElem_toArray, List.getElem_cons_succ, List.getElem_cons_zero, Act.put, List.setIfInBounds_toArray, List.set_cons_zero, List.set_cons_succ]
      refine wpG_yield (v := ?_) (i := 13) rfl (by kernel_rfl) (by rfl) ?hy ?_
      case hy => (rintro w' hS'; obtain ⟨f1, f2⟩ := hF w' hS'; simp only [List.getElem_toArray, List.getElem_cons_succ, List.getElem_cons_zero]; go_simp; try with_reducible rfl)
      simp only [List.getElem_toArray, List.getElem_cons_succ, List.getElem_cons_zero, Act.put, List.setIfInBounds_toArray, List.set_cons_zero, List.set_cons_succ]
      refine wpG_done (by kernel_rfl) ?_
      simp only [List.drop_succ_cons, List.drop_zero]
      go_wp2
      go_ret
      exact ⟨rfl, bthen hB3 hSe⟩
end Go.Proofs.YtaiibchadlaifaaGreatDoor

namespace Go.Proofs.YtaiibchadlaifaaGreatDoor
open Go.ChangeShapes Go.WideShapes Go.ChangeAt Go.RowKit

set_option maxRecDepth 100000 in
theorem degreeCheckSpec_called {H : Type} {enc : TypeId × Value → H} (W : World) (base : Nat) (args : Array Value) (ds : List (DataW H)) (p : List MemPlace) (hval : ∀ (j : Nat) t v, Tryz.f3.params[j]? = some t → args[j]? = some v → Value.okWide Tryz.prog W .any base t v)
    (hA : DataW.TrodAll enc Tryz.prog W 0 (fun _ => true) true Tryz.f3.params.toList args.toList ds p) : Calls Tryz.prog 3 args W fun e W' => e = .returned (.bool true) ∧ Below W.heap.size W W' := by
  rw [Tryz.params3] at hA hval
  obtain ⟨v0, v1, d0, d1, q0, q1, rfl, rfl, rfl, h0, h1⟩ := trodAll_two hA
  obtain ⟨p0, A0, c0, rfl, l0, r0⟩ := arg_Prg (hval 0 _ _ rfl rfl) h0
  obtain ⟨a1, rfl⟩ := arg_Att (hval 1 _ _ rfl rfl) h1
  exact law_Check_c W p0 a1 A0 c0 r0 l0

set_option maxRecDepth 100000 in
theorem degreeCheckSpec_lifted (os : Os) (started : os.Started) (H : Type) (enc : TypeId × Value → H) :
    ReturnsInHanded {} Tryz.checked os 3 .any (fun w args => (Rows.degreeCheckSpecSpec.pre enc Tryz.prog Tryz.f3 [] false w args ∧ laidMetH Tryz.prog [("sizar/rules.kinds", Rows.laid_sizar_rules_kinds)] w) ∧ sizedMet enc Tryz.prog Tryz.f3 (OpenSpec.ofChange Rows.degreeCheckSpecSpec) false w args)
      (Rows.degreeCheckSpecSpec.post enc Tryz.prog Tryz.f3 false true false false) := by
  refine law_lifted os started H enc #[.agg #[.string ⟨#[]⟩, .int .i64 0, .int .i64 0, .int .i64 0, .int .i64 0, .int .i64 0, .slice none 0 0], .agg #[.int .i64 0, .int .i64 0, .int .i64 0, .int .i64 0, .int .i64 0]] (by kernel_rfl) Tryz.func3 rfl (by kernel_rfl) (by kernel_rfl) (fun ds h => ?_) (World.shaped_of_RefB (by kernel_rfl) (by kernel_rfl)) (by kernel_rfl) (by kernel_rfl) (by kernel_rfl) degreeCheckSpec_called
  match ds, h with
  | [_, _], _ => rfl

theorem degreeCheckSpec_said : Rows.DegreeCheckSpecSaid :=
  OpenClaim.holds_of_wide 3 Tryz.f3 rfl rfl rfl rfl rfl rfl rfl ⟨rfl, rfl, rfl, rfl, rfl⟩ rfl rfl rfl rfl rfl (by kernel_rfl) Tryz.func3 (by kernel_rfl)
    (of_decide_eq_true (by kernel_rfl)) (by unfold Func.isWrapper; first | (rw [if_pos (by decide +kernel)]; kernel_rfl) | (rw [if_neg (by decide +kernel)]; exact ⟨rfl, rfl⟩))
    (fun os started H enc _ => degreeCheckSpec_lifted os started H enc)

theorem degreeCheckSpec_plain (f : FuncId) (fn : Func) (hf : Tryz.pinned.checked.prog.funcNamed "sizar/sizarlaw19.DegreeCheckSpec" = some f) (hfn : Tryz.pinned.checked.prog.funcs[f]? = some fn) :
    true = Tryz.pinned.checked.prog.looks [] ∧ ∀ (j : Nat) t, fn.params[j]? = some t → Tryz.pinned.checked.prog.wantsStandIn t = false := by
  obtain rfl : f = 3 := Option.some.inj ((show Tryz.prog.funcNamed "sizar/sizarlaw19.DegreeCheckSpec" = some 3 by kernel_rfl).symm.trans hf) |>.symm
  obtain rfl : fn = Tryz.f3 := (Option.some.inj (Tryz.func3.symm.trans hfn)).symm
  refine ⟨by kernel_rfl, fun j t ht => ?_⟩
  have hall : (Tryz.f3.params.toList.all fun u => !Tryz.prog.wantsStandIn u) = true := by kernel_rfl
  have hm : t ∈ Tryz.f3.params.toList := by simpa using Array.mem_of_getElem? ht
  exact (show Tryz.prog.wantsStandIn t = false by simpa using List.all_eq_true.1 hall t hm)

/-- The card. -/
theorem degreeCheckSpec_card : Rows.DegreeCheckSpecCardSaid :=
  Claim7.holds_tied_plain_at .later [] _ _ _ _ degreeCheckSpec_said (fun _ h => by cases h) (by kernel_rfl) (fun _ h => by cases h) degreeCheckSpec_row_tie rfl ⟨rfl, rfl⟩ (by kernel_rfl) rfl degreeCheckSpec_plain (by kernel_rfl)
#print axioms degreeCheckSpec_card
end Go.Proofs.YtaiibchadlaifaaGreatDoor
