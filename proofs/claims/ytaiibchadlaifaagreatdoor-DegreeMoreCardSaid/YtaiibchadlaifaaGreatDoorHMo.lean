/-
  The card of DegreeMore: for every input the law returns true, and its input reads as it did. Conditions: those of the given row (the listed variable holds what the program's text lays in it).
  The law DegreeMore. Conditions: the arguments read as data.
-/
import Derived.Test.YtaiibchadlaifaaGreatDoorZh
set_option linter.unusedVariables false
set_option linter.unusedSimpArgs false

namespace Go.Proofs.YtaiibchadlaifaaGreatDoor
open Go.RowKit Go.Shelf
attribute [local go_sem] Oper.semAt_some

theorem att_info : (Tryz.prog.info? 28).map (fun i => (i.zero, i.size, i.bytes)) = some (some (.agg #[.int .i64 0, .int .i64 0, .int .i64 0, .int .i64 0, .int .i64 0]), 5, 40) := by kernel_rfl
theorem att_one (x : Att) : ∀ u ∈ x.enc, u.oneCell' = true := by
  intro u hu
  simp only [Att.enc, List.mem_cons, List.not_mem_nil, or_false] at hu
  rcases hu with rfl | rfl | rfl | rfl | rfl <;> rfl

set_option maxRecDepth 100000 in
set_option maxHeartbeats 16000000 in
theorem law_More_c (w : World) (p : Prg) (l : List Att) (a : Att) (A Aq : Option Addr) (c cq : Nat) (hl : Rd kAtt w A l) (hq : Rd kReq w Aq p.reqs) :
    Calls Tryz.prog 8 #[.agg #[.string p.nm, .int .i64 p.num, .int .i64 p.uses, .int .i64 p.earn, .int .i64 p.mn, .int .i64 p.md, .slice Aq p.reqs.length cq], .slice A l.length c, .agg #[.int .i64 a.c, .int .i64 a.t, .int .i64 a.g, .int .i64 a.cam, .int .i64 a.cr]] w fun e w' => e = .returned (.bool true) ∧ Below w.heap.size w w' := by
  have hsn := fun W => sane_c W
  have hfw := fun W (h : Below w.heap.size w W) => ref19_Few_c W p Aq A cq l.length c (hq.below h) hl.len
  cases hF : fewB p.reqs l.length with
  | false =>
    rw [hF] at hfw
    clear hF hl hq
    obtain ⟨pnm, pnum, puses, pearn, pmn, pmd, qs⟩ := p
    dsimp only at *
    go_enter Tryz.func8, Tryz.ntmps8
    have hP := alloc2_blk0 w (.cells #[.string pnm, .int .i64 pnum, .int .i64 puses, .int .i64 pearn, .int .i64 pmn, .int .i64 pmd, .slice Aq qs.length cq] 26) (.cells #[.int .i64 a.c, .int .i64 a.t, .int .i64 a.g, .int .i64 a.cam, .int .i64 a.cr] 28)
    go_wp2_with (first
      | (go_at_call 11; refine (hsn _).mono ?_; rintro e w1 ⟨rfl, hb1⟩; have hB1 := bthen (below2 w _ _) hb1; have cP := blk_cell ((hb1.block _ (by simp; omega)).trans hP))
      | (go_at_call 12; refine (hfw _ hB1).mono ?_; rintro e w2 ⟨rfl, hb2⟩))
    go_ret
    exact ⟨rfl, bthen hB1 hb2⟩
  | true =>
    have hm : l.length ≤ 8 := by unfold fewB at hF; simp at hF; omega
    rw [hF] at hfw
    have hau := fun W (h : Below w.heap.size w W) => degree_Audit_r W p l A Aq c cq (hl.below h) (hq.below h) (by omega)
    by_cases hE : netE p l = 0
    · obtain ⟨hp0, hall⟩ := netE_ok hE
      obtain ⟨hu1, hu2, hr64, hqcr⟩ := prg_ok hp0
      have hlc : ∀ a, a ∈ l → 0 ≤ a.cr ∧ a.cr ≤ 60 := fun a ha => attOk_cr (List.all_eq_true.1 hall a ha)
      have hqc : ∀ q, q ∈ p.reqs → 0 ≤ q.cr ∧ q.cr ≤ 10000 := fun q h => by have := hqcr q h; omega
      have HP : Hid (prgE p = 0 ∧ l.all attOk = true ∧ (∀ a, a ∈ l → 0 ≤ a.cr ∧ a.cr ≤ 60) ∧ (∀ q, q ∈ p.reqs → 0 ≤ q.cr ∧ q.cr ≤ 10000) ∧ Rd kAtt w A l ∧ Rd kReq w Aq p.reqs) := ⟨hp0, hall, hlc, hqc, hl, hq⟩
      have HE : Hid (netE p l = 0) := hE
      clear hF hp0 hall hlc hqc hl hq hE hqcr
      have hp' : Hid (∃ q, q = p) := ⟨_, rfl⟩
      obtain ⟨pnm, pnum, puses, pearn, pmn, pmd, qs⟩ := p
      dsimp only at *
      go_enter Tryz.func8, Tryz.ntmps8
      have hP := alloc2_blk0 w (.cells #[.string pnm, .int .i64 pnum, .int .i64 puses, .int .i64 pearn, .int .i64 pmn, .int .i64 pmd, .slice Aq qs.length cq] 26) (.cells #[.int .i64 a.c, .int .i64 a.t, .int .i64 a.g, .int .i64 a.cam, .int .i64 a.cr] 28)
      have hM := alloc2_blk1 w (.cells #[.string pnm, .int .i64 pnum, .int .i64 puses, .int .i64 pearn, .int .i64 pmn, .int .i64 pmd, .slice Aq qs.length cq] 26) (.cells #[.int .i64 a.c, .int .i64 a.t, .int .i64 a.g, .int .i64 a.cam, .int .i64 a.cr] 28)
      have hz := alloc2_size w (.cells #[.string pnm, .int .i64 pnum, .int .i64 puses, .int .i64 pearn, .int .i64 pmn, .int .i64 pmd, .slice Aq qs.length cq] 26) (.cells #[.int .i64 a.c, .int .i64 a.t, .int .i64 a.g, .int .i64 a.cam, .int .i64 a.cr] 28)
      go_wp2_with (first
        | (go_at_call 11; refine (hsn _).mono ?_; rintro e w1 ⟨rfl, hb1⟩; have hB1 := bthen (below2 w _ _) hb1; have hP1 := (hb1.block _ (by omega)).trans hP; have hM1 := (hb1.block _ (by omega)).trans hM; have cP := blk_cell hP1; have hz1 := (Array.getElem?_eq_some_iff.1 hM1).1)
        | (go_at_call 12; refine (hfw _ hB1).mono ?_; rintro e w2 ⟨rfl, hb2⟩; have hB2 := bthen hB1 hb2; have hP2 := (hb2.block _ (by omega)).trans hP1; have hM2 := (hb2.block _ hz1).trans hM1; have cP2 := blk_cell hP2; have hz2 := (Array.getElem?_eq_some_iff.1 hM2).1)
        | (go_at_call 21; refine (hau _ hB2).mono ?_; refine stopHere ?_))
      unfold Stopped
      rintro e w3 ⟨hb3, hR⟩
      obtain ⟨AU, nU, cU, AC, nC, cC, x, rfl, hx⟩ : ∃ AU nU cU AC nC cC x, e = .returned (.tuple #[.agg #[.slice AU nU cU, .int .i64 x, .slice AC nC cC], .int .i64 0]) ∧ MissP ⟨pnm, pnum, puses, pearn, pmn, pmd, qs⟩ l x := by
        rcases hR with ⟨_, h⟩ | ⟨h0, _⟩
        · exact h
        · exact absurd HE.out h0
      clear hR
      have HX : Hid (MissP ⟨pnm, pnum, puses, pearn, pmn, pmd, qs⟩ l x) := hx
      clear hx hsn hfw
      have hB3 := bthen hB2 hb3
      go_wp2
      have hA4 := World.alloc_heap_new w3 (.cells #[.slice AU nU cU, .int .i64 x, .slice AC nC cC] 45)
      have hb4 := below1 w3 (.cells #[.slice AU nU cU, .int .i64 x, .slice AC nC cC] 45)
      have hz34 := World.size_alloc w3 (.cells #[.slice AU nU cU, .int .i64 x, .slice AC nC cC] 45)
      have hz3 : w.heap.size + 1 < w3.heap.size := Nat.lt_of_lt_of_le hz2 hb3.size
      have hB4 := bthen hB2 (bthen hb3 hb4)
      have hP4 := ((bthen hb3 hb4).block _ (by omega)).trans hP2
      have hM4 := ((bthen hb3 hb4).block _ hz2).trans hM2
      generalize hY : w3.heap.size = Y at *
      generalize w3.alloc _ = w4 at *
      clear hP hM hP1 hM1 cP hz1 hP2 hM2 cP2 hz2 hb1 hb2 hB1 hB2 hb3 hB3 hb4
      obtain ⟨hp0, hall, hlc, hqc, hl, hq⟩ := HP.out
      obtain ⟨E, hE⟩ : ∃ E, E = netE ⟨pnm, pnum, puses, pearn, pmn, pmd, qs⟩ (l ++ [a]) := ⟨_, rfl⟩
      obtain ⟨Ry, hRy⟩ : ∃ Ry : Int → Prop, Ry = fun y => E = 0 → MissP ⟨pnm, pnum, puses, pearn, pmn, pmd, qs⟩ (l ++ [a]) y := ⟨_, rfl⟩
      have hau2 : ∀ W, Below w.heap.size w W → ∀ A' c', Rd kAtt W A' (l ++ [a]) → Calls Tryz.prog 21 #[.agg #[.string pnm, .int .i64 pnum, .int .i64 puses, .int .i64 pearn, .int .i64 pmn, .int .i64 pmd, .slice Aq qs.length cq], .slice A' (l.length + 1) c'] W fun e w' => Below W.heap.size W w' ∧ ∃ v, e = .returned v ∧ ∃ AU nU cU AC nC cC y, v = .tuple #[.agg #[.slice AU nU cU, .int .i64 y, .slice AC nC cC], .int .i64 E] ∧ Ry y := fun W hW A' c' hr => by
        have h1 := degree_Audit_r W ⟨pnm, pnum, puses, pearn, pmn, pmd, qs⟩ (l ++ [a]) A' Aq c' cq hr (hq.below hW) (by simp; omega)
        rw [List.length_append, List.length_singleton] at h1
        refine h1.mono ?_
        rintro e w' ⟨hB, ⟨h0, AU, nU, cU, AC, nC, cC, y, rfl, hy⟩ | ⟨h0, rfl⟩⟩
        · exact ⟨hB, _, rfl, AU, nU, cU, AC, nC, cC, y, by rw [hE, h0], by rw [hRy]; exact fun _ => hy⟩
        · exact ⟨hB, _, rfl, none, 0, 0, none, 0, 0, 0, by rw [hE], by rw [hRy, hE]; exact fun e => absurd e h0⟩
      have HN : Hid (E = netE ⟨pnm, pnum, puses, pearn, pmn, pmd, qs⟩ (l ++ [a]) ∧ Ry = fun y => E = 0 → MissP ⟨pnm, pnum, puses, pearn, pmn, pmd, qs⟩ (l ++ [a]) y) := ⟨hE, hRy⟩
      have hau3 : ∀ W, Below w.heap.size w W → Calls Tryz.prog 21 #[.agg #[.string pnm, .int .i64 pnum, .int .i64 puses, .int .i64 pearn, .int .i64 pmn, .int .i64 pmd, .slice Aq qs.length cq], .slice none 0 0] W fun e w' => ∃ AU nU cU AC nC cC, e = .returned (.tuple #[.agg #[.slice AU nU cU, .int .i64 (totalC qs), .slice AC nC cC], .int .i64 0]) ∧ Below W.heap.size W w' := fun W hW => by
        refine (degree_Audit_r W ⟨pnm, pnum, puses, pearn, pmn, pmd, qs⟩ [] none Aq 0 cq (Rd.nil _ _ _) (hq.below hW) (by simp)).mono ?_
        rintro e w' ⟨hB, ⟨h0, AU, nU, cU, AC, nC, cC, y, rfl, hy⟩ | ⟨h0, _⟩⟩
        · exact ⟨AU, nU, cU, AC, nC, cC, by rw [miss_none hy], hB⟩
        · exact absurd (netE_of hp0 rfl) h0
      have hau4 : ∀ W, Below w.heap.size w W → Calls Tryz.prog 21 #[.agg #[.string pnm, .int .i64 pnum, .int .i64 (puses + 1), .int .i64 pearn, .int .i64 pmn, .int .i64 pmd, .slice Aq qs.length cq], .slice A l.length c] W fun e w' => ∃ AU nU cU AC nC cC z E4, e = .returned (.tuple #[.agg #[.slice AU nU cU, .int .i64 z, .slice AC nC cC], .int .i64 E4]) ∧ Hid (puses + 1 ≤ 4 → E4 = 0 ∧ z ≤ x) ∧ Below W.heap.size W w' := fun W hW => by
        refine (degree_Audit_r W ⟨pnm, pnum, puses + 1, pearn, pmn, pmd, qs⟩ l A Aq c cq (hl.below hW) (hq.below hW) (by omega)).mono ?_
        rintro e w' ⟨hB, ⟨h0, AU, nU, cU, AC, nC, cC, y, rfl, hy⟩ | ⟨h0, rfl⟩⟩
        · exact ⟨AU, nU, cU, AC, nC, cC, y, 0, rfl, fun _ => ⟨rfl, miss_uses HX.out hy (fun b hb => (hlc b hb).1) rfl rfl⟩, hB⟩
        · exact ⟨none, 0, 0, none, 0, 0, 0, _, rfl, fun hu => absurd (netE_of (prgE_uses hp0 hu hu1) hall) h0, hB⟩
      have hxy : E = 0 → ∀ y, Ry y → y ≤ x := fun h0 y hy => by
        rw [hRy] at hy
        rw [hE] at h0
        have h2 := List.all_eq_true.1 (netE_ok h0).2
        exact miss_more HX.out (hy (hE.trans h0)) (fun b hb => (attOk_cr (h2 b hb)).1) (show (0 : Int) ≤ puses by omega)
      have hxb := miss_bd HX.out hlc
      have hto := fun W (h : Below w.heap.size w W) => ref19_Total_c W ⟨pnm, pnum, puses, pearn, pmn, pmd, qs⟩ Aq cq (hq.below h) hqc (by dsimp only; omega)
      clear hE hRy hp0 hall hlc hqc
      refine wp_region_inv (J := fun L b w' => ∃ v9 v10 v30 v31 v32 v33 v34 v35 v36 v37 v38 v39 v40 : Value, b = ⟨#[Value.agg #[.string pnm, .int .i64 pnum, .int .i64 puses, .int .i64 pearn, .int .i64 pmn, .int .i64 pmd, .slice Aq qs.length cq], .slice A l.length c, .agg #[.int .i64 a.c, .int .i64 a.t, .int .i64 a.g, .int .i64 a.cam, .int .i64 a.cr], .pointer (some ⟨w.heap.size, 0, none⟩), undef, .pointer (some ⟨w.heap.size + 1, 0, none⟩), .bool false, .pointer (some ⟨Y, 0, none⟩), .int .i64 0, v9, v10, undef, undef, undef, undef, undef, .bool true, .bool false, .agg #[.string pnm, .int .i64 pnum, .int .i64 puses, .int .i64 pearn, .int .i64 pmn, .int .i64 pmd, .slice Aq qs.length cq], .slice A l.length c, .bool true, .bool false, .tuple #[Value.agg #[.slice AU nU cU, .int .i64 x, .slice AC nC cC], .int .i64 0], .agg #[.string pnm, .int .i64 pnum, .int .i64 puses, .int .i64 pearn, .int .i64 pmn, .int .i64 pmd, .slice Aq qs.length cq], .slice A l.length c, .tuple #[Value.agg #[.slice AU nU cU, .int .i64 x, .slice AC nC cC], .int .i64 0], Value.agg #[.slice AU nU cU, .int .i64 x, .slice AC nC cC], .int .i64 0, .int .i64 0, .bool false, v30, v31, v32, v33, v34, v35, v36, v37, v38, v39, v40, undef, undef, undef, undef, undef, undef, undef, undef, undef, undef, undef, undef, undef, undef, undef, undef, undef, undef, undef, undef, undef, undef, undef, undef, undef, undef, undef, undef, undef, undef, undef, undef, undef, undef, undef, undef, undef, undef, undef, undef, undef, undef, undef, undef, undef, undef, undef, undef, undef, undef, undef, undef, undef, undef, undef, undef, undef], []⟩ ∧ More8 w4.heap.size w4.drew (.agg #[.string pnm, .int .i64 pnum, .int .i64 puses, .int .i64 pearn, .int .i64 pmn, .int .i64 pmd, .slice Aq qs.length cq]) (.agg #[.int .i64 a.c, .int .i64 a.t, .int .i64 a.g, .int .i64 a.cam, .int .i64 a.cr]) (.slice A l.length c) l a E Ry L v9 v10 v30 v31 v32 v33 v34 v35 v36 v37 v38 v39 v40 w') (by kernel_rfl) (by kernel_rfl) ?step ?fin ?start
      case start =>
        refine ⟨undef, undef, undef, undef, undef, undef, undef, undef, undef, undef, undef, undef, undef, rfl, ?_⟩
        exact { below := Below.refl _ _, le := Nat.le_refl _, o6 := fun e => (by cases e), o12 := fun e => (by cases e), h0 := fun e => (by cases e), h2 := fun e => (by cases e), h4 := fun e => (by cases e), h1 := fun e => (by cases e), h3 := fun e => (by cases e), h5 := fun e => (by cases e), a5 := fun e => (by cases e), b5 := fun e => (by cases e), h6 := fun e => (by cases e), h7 := fun e => (by cases e), h8 := fun e => (by cases e), h9 := fun e => (by cases e), h10 := fun e => (by cases e), h11 := fun e => (by cases e), h12 := fun e => (by cases e), h13 := fun e => (by cases e) }
      case step =>
        rintro L b w' i o ho hL hp ⟨v9, v10, v30, v31, v32, v33, v34, v35, v36, v37, v38, v39, v40, rfl, h⟩
        have hi : i < 14 := (Array.getElem?_eq_some_iff.1 ho).1
        have hPw : w'.heap[w.heap.size]? = _ := (h.below.block _ (by omega)).trans hP4
        have hMw : w'.heap[w.heap.size + 1]? = _ := (h.below.block _ (by omega)).trans hM4
        have f1 := blk_cell hPw
        have f2 := blk_cell hMw
        have hBw : Below w.heap.size w w' := hB4.trans ((Below.refl w.heap.size w4).drew.trans (h.below.mono (by omega)))
        have hs := h.size
        clear hPw hMw
        obtain rfl | rfl | rfl | rfl | rfl | rfl | rfl | rfl | rfl | rfl | rfl | rfl | rfl | rfl : i = 0 ∨ i = 1 ∨ i = 2 ∨ i = 3 ∨ i = 4 ∨ i = 5 ∨ i = 6 ∨ i = 7 ∨ i = 8 ∨ i = 9 ∨ i = 10 ∨ i = 11 ∨ i = 12 ∨ i = 13 := by omega
        all_goals obtain rfl : _ = o := Option.some.inj ho
        · exact wpOp_yield (v := .agg #[.string pnm, .int .i64 pnum, .int .i64 puses, .int .i64 pearn, .int .i64 pmn, .int .i64 pmd, .slice Aq qs.length cq]) rfl rfl (by (simp only [List.getElem_toArray, List.getElem_cons_succ, List.getElem_cons_zero]; go_simp; try rfl)) ⟨v9, v10, v30, .agg #[.string pnm, .int .i64 pnum, .int .i64 puses, .int .i64 pearn, .int .i64 pmn, .int .i64 pmd, .slice Aq qs.length cq], v32, v33, v34, v35, v36, v37, v38, v39, v40, by rfl, { h with h0 := fun _ => rfl }⟩
        · exact wpOp_yield rfl rfl (by (simp only [List.getElem_toArray, List.getElem_cons_succ, List.getElem_cons_zero]; go_simp; try rfl)) ⟨v9, v10, v30, v31, _, v33, v34, v35, v36, v37, v38, v39, v40, by rfl, h.s1 hL⟩
        · exact wpOp_yield (v := .slice A l.length c) rfl rfl (by (simp only [List.getElem_toArray, List.getElem_cons_succ, List.getElem_cons_zero]; go_simp; try rfl)) ⟨v9, v10, v30, v31, v32, .slice A l.length c, v34, v35, v36, v37, v38, v39, v40, by rfl, { h with h2 := fun _ => rfl }⟩
        · have q1 : L 1 = true := hp ⟨1, .data⟩ (by simp) rfl
          have q2 : L 2 = true := hp ⟨2, .data⟩ (by simp) rfl
          obtain rfl := h.h2 q2
          refine wpOp_appendR rfl rfl (.tmp 32) (.tmp 33) 37 28 rfl _ _ Tryz.underlying37 att_info rfl (by decide) (fun _ => rfl) att_one w4.heap.size v32 [] l (by rfl) (h.h1 q1 hL) A c (by rfl) (hl.below hBw) (by simp; omega) (by decide) hs ?_
          intro A2 c2 w2 ho2 hg2 hk2
          exact ⟨v9, v10, v30, v31, v32, .slice A l.length c, _, v35, v36, v37, v38, v39, v40, by rfl, h.s3 q1 hL hg2 (by simpa using ho2) hk2⟩
        · exact wpOp_yield (v := .agg #[.int .i64 a.c, .int .i64 a.t, .int .i64 a.g, .int .i64 a.cam, .int .i64 a.cr]) rfl rfl (by (simp only [List.getElem_toArray, List.getElem_cons_succ, List.getElem_cons_zero]; go_simp; try rfl)) ⟨v9, v10, v30, v31, v32, v33, v34, .agg #[.int .i64 a.c, .int .i64 a.t, .int .i64 a.g, .int .i64 a.cam, .int .i64 a.cr], v36, v37, v38, v39, v40, by rfl, { h with h4 := fun _ => rfl }⟩
        · have q4 : L 4 = true := hp ⟨4, .data⟩ (by simp) rfl
          obtain rfl := h.h4 q4
          exact wpOp_yield rfl rfl (by (simp only [List.getElem_toArray, List.getElem_cons_succ, List.getElem_cons_zero]; go_simp; first | rfl | exact ⟨rfl, rfl⟩)) ⟨v9, v10, v30, v31, v32, v33, v34, _, _, v37, v38, v39, v40, by rfl, h.s5 hL⟩
        · have q3 : L 3 = true := hp ⟨3, .data⟩ (by simp) rfl
          have q5 : L 5 = true := hp ⟨5, .data⟩ (by simp) rfl
          obtain ⟨B, rfl, hB0, hBh⟩ := h.h5 q5 hL
          refine wpOp_appendR rfl rfl (.tmp 34) (.tmp 36) 37 28 rfl _ _ Tryz.underlying37 att_info rfl (by decide) (fun _ => rfl) att_one w4.heap.size v34 l [a] (by rfl) (h.h3 q3 hL) (some ⟨B, 0, none⟩) 1 (by rfl) (rd_one hBh) (by simp; omega) (by decide) hs ?_
          intro A2 c2 w2 ho2 hg2 hk2
          exact ⟨v9, v10, v30, v31, v32, v33, v34, v35, .slice (some ⟨B, 0, none⟩) 1 1, _, v38, v39, v40, by rfl, h.s6 q3 hL hg2 ho2⟩
        · have q0 : L 0 = true := hp ⟨0, .data⟩ (by simp) rfl
          have q6 : L 6 = true := hp ⟨6, .data⟩ (by simp) rfl
          obtain rfl := h.h0 q0
          obtain ⟨A2, c2, rfl, ho2⟩ := h.h6 q6
          obtain ⟨A3, c3, e3, _, hr3⟩ := OwnF.rd (enc := Att.enc) (sz := 5) (fun _ => rfl) ho2
          rw [List.length_append, List.length_singleton] at e3
          injection e3 with e4 e5 e6
          subst e4 e6
          refine wpOp_call rfl rfl (by (simp only [List.getElem_toArray, List.getElem_cons_succ, List.getElem_cons_zero]; go_simp; try rfl)) ((hau2 w' hBw A2 c2 hr3).mono ?_)
          rintro e w2 ⟨hB, v, rfl, hv⟩
          exact ⟨v, rfl, v9, v10, v30, _, v32, v33, v34, v35, v36, _, v, v39, v40, by rfl, h.s7 hB hv⟩
        · have q7 : L 7 = true := hp ⟨7, .data⟩ (by simp) rfl
          have q := h.h7 q7
          exact wpOp_yield (v := v38) rfl rfl (by (simp only [List.getElem_toArray, List.getElem_cons_succ, List.getElem_cons_zero]; go_simp; try rfl)) ⟨v9, v10, v38, v31, v32, v33, v34, v35, v36, v37, v38, v39, v40, by rfl, { h with h8 := fun _ => q }⟩
        · obtain ⟨AU2, nU2, cU2, AC2, nC2, cC2, y, rfl, hy⟩ := h.h8 (show L 8 = true from hp ⟨8, .data⟩ (by simp) rfl)
          exact wpOp_yield (v := .agg #[.slice AU2 nU2 cU2, .int .i64 y, .slice AC2 nC2 cC2]) rfl rfl (by (simp only [List.getElem_toArray, List.getElem_cons_succ, List.getElem_cons_zero]; go_simp; try rfl)) ⟨v9, v10, _, v31, v32, v33, v34, v35, v36, v37, v38, _, v40, by rfl, { h with h9 := fun _ => ⟨_, _, _, _, _, _, _, rfl, hy⟩ }⟩
        · obtain ⟨AU2, nU2, cU2, AC2, nC2, cC2, y, rfl, hy⟩ := h.h8 (show L 8 = true from hp ⟨8, .data⟩ (by simp) rfl)
          exact wpOp_yield (v := .int .i64 E) rfl rfl (by (simp only [List.getElem_toArray, List.getElem_cons_succ, List.getElem_cons_zero]; go_simp; try rfl)) ⟨v9, v10, _, v31, v32, v33, v34, v35, v36, v37, v38, v39, _, by rfl, { h with h10 := fun _ => rfl }⟩
        · exact wpOp_yield rfl rfl (by (simp only [List.getElem_toArray, List.getElem_cons_succ, List.getElem_cons_zero]; go_simp; first | rfl | exact ⟨rfl, rfl⟩)) ⟨_, v10, v30, v31, v32, v33, v34, v35, v36, v37, v38, v39, v40, by rfl, h.s11 hL (.slice none 0 0) (.int .i64 0) (.slice none 0 0)⟩
        · have q11 : L 11 = true := hp ⟨11, .data⟩ (by simp) rfl
          have q9 : L 9 = true := hp ⟨9, .data⟩ (by simp) rfl
          obtain ⟨g, u0, u1, u2, rfl, hgB, hgh⟩ := h.h11 q11
          obtain ⟨AU2, nU2, cU2, AC2, nC2, cC2, y, rfl, hy⟩ := h.h9 q9
          have g1 : w'.cell? ⟨g, 0, none⟩ = some u0 := blk_cell hgh 0
          have g2 : w'.cell? ⟨g, 1, none⟩ = some u1 := blk_cell hgh 1
          have g3 : w'.cell? ⟨g, 2, none⟩ = some u2 := blk_cell hgh 2
          have k1 := blk_frozen hgh 0
          have k2 := blk_frozen hgh 1
          have k3 := blk_frozen hgh 2
          refine wpOp_skip (w' := ((w'.setCell ⟨g, 0, none⟩ (.slice AU2 nU2 cU2)).setCell ⟨g, 1, none⟩ (.int .i64 y)).setCell ⟨g, 2, none⟩ (.slice AC2 nC2 cC2)) rfl rfl (by (simp only [List.getElem_toArray, List.getElem_cons_succ, List.getElem_cons_zero]; go_simp)) ⟨_, v10, v30, v31, v32, v33, v34, v35, v36, v37, v38, _, v40, by rfl, h.s12 (AU := AU2) (nU := nU2) (cU := cU2) (AC := AC2) (nC := nC2) (cC := cC2) q11 rfl hgB hy hgh ?_ ?_ ?_ ?_ ?_ ?_⟩
          · exact heap_setCell_same _ g 2 _ _ _ (heap_setCell_same _ g 1 _ _ _ (heap_setCell_same _ g 0 _ _ _ hgh))
          · intro k hk
            rw [Below.heap_setCell _ _ _ _ hk, Below.heap_setCell _ _ _ _ hk, Below.heap_setCell _ _ _ _ hk]
          · rfl
          · rfl
          · rfl
          · simp [World.setCell]
        · have q10 : L 10 = true := hp ⟨10, .data⟩ (by simp) rfl
          obtain rfl := h.h10 q10
          exact wpOp_yield (v := .int .i64 E) rfl rfl (by (simp only [List.getElem_toArray, List.getElem_cons_succ, List.getElem_cons_zero]; go_simp; try rfl)) ⟨v9, _, v30, v31, v32, v33, v34, v35, v36, v37, v38, v39, _, by rfl, { h with h13 := fun _ => rfl }⟩
      case fin =>
        rintro L b w' hall ⟨v9, v10, v30, v31, v32, v33, v34, v35, v36, v37, v38, v39, v40, rfl, h⟩
        obtain ⟨g, AU2, nU2, cU2, AC2, nC2, cC2, y, rfl, hgB, hgh, hy⟩ := h.h12 (hall 12 (by decide))
        obtain rfl := h.h13 (hall 13 (by decide))
        have hb5 : Below w4.heap.size w4.drew w' := h.below
        clear h hall hau2
        dsimp only
        have hA5 : w'.heap[Y]? = _ := (hb5.block _ (by omega)).trans hA4
        have hP5 : w'.heap[w.heap.size]? = _ := (hb5.block _ (by omega)).trans hP4
        have hB5 : Below w.heap.size w w' := hB4.trans ((Below.refl w.heap.size w4).drew.trans (hb5.mono (by omega)))
        have hz5 : w4.heap.size ≤ w'.heap.size := hb5.size
        have hgl := (Array.getElem?_eq_some_iff.1 hgh).1
        have cP5 := blk_cell hP5
        generalize hwn : w' = w5 at *
        clear hP4 hM4 hA4 hb5
        go_wp2_with (go_at_call 21; refine (hau3 _ hB5).mono ?_; refine stopHere ?_)
        unfold Stopped
        rintro e w6 AU3 nU3 cU3 AC3 nC3 cC3 rfl hb6
        have hA7 := World.alloc_heap_new w6 (.cells #[.slice AU3 nU3 cU3, .int .i64 (totalC qs), .slice AC3 nC3 cC3] 45)
        have hb7 := below1 w6 (.cells #[.slice AU3 nU3 cU3, .int .i64 (totalC qs), .slice AC3 nC3 cC3] 45)
        have hz67 := World.size_alloc w6 (.cells #[.slice AU3 nU3 cU3, .int .i64 (totalC qs), .slice AC3 nC3 cC3] 45)
        go_wp2
        have hb57 := bthen hb6 hb7
        have hA7Y : (w6.alloc (.cells #[.slice AU3 nU3 cU3, .int .i64 (totalC qs), .slice AC3 nC3 cC3] 45)).heap[Y]? = _ := (hb57.block _ (by omega)).trans hA5
        have hP7 := (hb57.block _ (by omega)).trans hP5
        have hg7 := (hb57.block _ (by omega)).trans hgh
        have hB7 := bthen hB5 hb57
        have hz6 : w5.heap.size ≤ w6.heap.size := hb6.size
        clear hb6 hb7 hb57 hA5 hP5 hgh hB5 cP5
        generalize w6.alloc _ = w7 at *
        generalize totalC qs = T at *
        obtain ⟨hx0, hxT⟩ := hxb
        have hxT' : ¬ T < x := by omega
        have hF : ∀ w', Below w7.heap.size w7 w' → (∀ j : Nat, w'.cell? ⟨w.heap.size, j, none⟩ = #[Value.string pnm, .int .i64 pnum, .int .i64 puses, .int .i64 pearn, .int .i64 pmn, .int .i64 pmd, .slice Aq qs.length cq][j]?) ∧ (∀ j : Nat, w'.cell? ⟨Y, j, none⟩ = #[Value.slice AU nU cU, .int .i64 x, .slice AC nC cC][j]?) ∧ (∀ j : Nat, w'.cell? ⟨g, j, none⟩ = #[Value.slice AU2 nU2 cU2, .int .i64 y, .slice AC2 nC2 cC2][j]?) ∧ (∀ j : Nat, w'.cell? ⟨w6.heap.size, j, none⟩ = #[Value.slice AU3 nU3 cU3, .int .i64 T, .slice AC3 nC3 cC3][j]?) := fun w' h => ⟨blk_cell ((h.block _ (by omega)).trans hP7), blk_cell ((h.block _ (by omega)).trans hA7Y), blk_cell ((h.block _ (by omega)).trans hg7), blk_cell ((h.block _ (by omega)).trans hA7)⟩
        have hto7 := fun W (h : Below w7.heap.size w7 W) => hto W (bthen hB7 h)
        have hS0 : Below w7.heap.size w7 w7.drew := (Below.refl _ _).drew
        clear hto hau3
        by_cases hE0 : E = 0
        · have hyx : ¬ x < y := by have := hxy hE0 y hy; omega
          clear hxy
          subst hE0
          refine wp_region_G 26 (fun w' => Below w7.heap.size w7 w') (by kernel_rfl) (by kernel_rfl) (by intro d v c a w h; cases d <;> exact h) hS0 ?_
          iterate 17 (
            first
              | refine wpG_next rfl (by kernel_rfl) (.inr ⟨by rfl, rfl⟩) ?_
              | (refine wpG_next (v := ?_) rfl (by kernel_rfl) (.inl ⟨by rfl, ?hy⟩) ?_
                 case hy => (intro w' hS'; obtain ⟨f1, f2, f3, f4⟩ := hF w' hS'; simp only [List.getElem_toArray, List.getElem_cons_succ, List.getElem_cons_zero]; go_simp; try with_reducible rfl))
            simp only [List.getElem_toArray, List.getElem_cons_succ, List.getElem_cons_zero, Act.put, List.setIfInBounds_toArray, List.set_cons_zero, List.set_cons_succ, Nat.reduceAdd, Nat.reduceSub])
          refine wpG_call (i := 17) rfl (by kernel_rfl) (by rfl) ?hr ((hto7 _ hS0).mono ?_)
          case hr => (simp only [List.getElem_toArray, List.getElem_cons_succ, List.getElem_cons_zero]; go_simp; try rfl)
          rintro e wa ⟨rfl, hba⟩
          have hSa := bthen hS0 hba
          refine ⟨_, rfl, hSa, ?_⟩
          simp only [List.getElem_toArray, List.getElem_cons_succ, List.getElem_cons_zero, Act.put, List.setIfInBounds_toArray, List.set_cons_zero, List.set_cons_succ, Nat.reduceAdd, Nat.reduceSub]
          iterate 8 (
            first
              | refine wpG_next rfl (by kernel_rfl) (.inr ⟨by rfl, rfl⟩) ?_
              | (refine wpG_next (v := ?_) rfl (by kernel_rfl) (.inl ⟨by rfl, ?hy⟩) ?_
                 case hy => (intro w' hS'; obtain ⟨f1, f2, f3, f4⟩ := hF w' hS'; simp only [List.getElem_toArray, List.getElem_cons_succ, List.getElem_cons_zero]; go_simp; try with_reducible rfl))
            simp only [List.getElem_toArray, List.getElem_cons_succ, List.getElem_cons_zero, Act.put, List.setIfInBounds_toArray, List.set_cons_zero, List.set_cons_succ, Nat.reduceAdd, Nat.reduceSub])
          refine wpG_done (by kernel_rfl) ?_
          simp only [List.drop_succ_cons, List.drop_zero]
          obtain ⟨p1, p2, p3, p4⟩ := hF wa hSa
          have hba : Below w.heap.size w wa := bthen hB7 hSa
          have hZ := World.alloc_heap_new wa (.cells #[.string pnm, .int .i64 pnum, .int .i64 puses, .int .i64 pearn, .int .i64 pmn, .int .i64 pmd, .slice Aq qs.length cq] 26)
          have hZ2 := World.alloc_heap_new wa (.cells #[.string pnm, .int .i64 pnum, .int .i64 (puses + 1), .int .i64 pearn, .int .i64 pmn, .int .i64 pmd, .slice Aq qs.length cq] 26)
          have hz8 := World.size_alloc wa (.cells #[.string pnm, .int .i64 pnum, .int .i64 (puses + 1), .int .i64 pearn, .int .i64 pmn, .int .i64 pmd, .slice Aq qs.length cq] 26)
          have hb8 := below1 wa (.cells #[.string pnm, .int .i64 pnum, .int .i64 (puses + 1), .int .i64 pearn, .int .i64 pmn, .int .i64 pmd, .slice Aq qs.length cq] 26)
          have q2 : (wa.alloc (.cells #[.string pnm, .int .i64 pnum, .int .i64 puses, .int .i64 pearn, .int .i64 pmn, .int .i64 pmd, .slice Aq qs.length cq] 26)).cell? ⟨wa.heap.size, 2, none⟩ = some (.int .i64 puses) := by rw [blk_cell hZ]; rfl
          have qf := blk_frozen hZ 2
          have hza : w7.heap.size ≤ wa.heap.size := hSa.size
          have hwaY : wa.heap[Y]? = _ := (hSa.block _ (by omega)).trans hA7Y
          clear hF hto7 hS0 hA7 hP7 hg7 hZ p3 p4
          go_wp2_with (go_at_call 21; refine (hau4 _ (bthen hba hb8)).mono ?_; refine stopHere ?_)
          unfold Stopped
          rintro e w9 AU4 nU4 cU4 AC4 nC4 cC4 z E4 rfl h4 hb9
          rw [← hz8] at hb9
          have hQ9 := (hb9.block _ (by omega)).trans hZ2
          have hY9 := ((bthen hb8 hb9).block _ (by omega)).trans hwaY
          have c9 : w9.cell? ⟨wa.heap.size, 2, none⟩ = some (.int .i64 (puses + 1)) := by rw [blk_cell hQ9]; rfl
          have d9 : w9.cell? ⟨Y, 1, none⟩ = some (.int .i64 x) := by rw [blk_cell hY9]; rfl
          have e9 := (Array.getElem?_eq_some_iff.1 hQ9).1
          have hB9 : Below w.heap.size w w9 := bthen hba (bthen hb8 hb9)
          have i9 : Y < w9.heap.size := (Array.getElem?_eq_some_iff.1 hY9).1
          clear hau4 q2 qf hZ2 hb8 hQ9 hY9 hwaY hz8 hb9 p1 p2
          by_cases hq4 : puses + 1 ≤ 4
          · obtain ⟨rfl, hzx⟩ := h4.out hq4
            have hq5 : ¬ 4 < puses + 1 := by omega
            go_wp2
            go_ret
            exact ⟨rfl, hB9.alloc hB9.size _⟩
          · have hq5 : 4 < puses + 1 := by omega
            go_wp2
            go_ret
            exact ⟨rfl, hB9.alloc hB9.size _⟩
        · clear hxy
          have hE1 : (E == 0) = false := by simpa using hE0
          have hE2 : decide (E = 0) = false := by simpa using hE0
          refine wp_region_G 26 (fun w' => Below w7.heap.size w7 w') (by kernel_rfl) (by kernel_rfl) (by intro d v c a w h; cases d <;> exact h) hS0 ?_
          iterate 17 (
            first
              | refine wpG_next rfl (by kernel_rfl) (.inr ⟨by rfl, rfl⟩) ?_
              | (refine wpG_next (v := ?_) rfl (by kernel_rfl) (.inl ⟨by rfl, ?hy⟩) ?_
                 case hy => (intro w' hS'; obtain ⟨f1, f2, f3, f4⟩ := hF w' hS'; simp only [List.getElem_toArray, List.getElem_cons_succ, List.getElem_cons_zero]; go_simp; try with_reducible rfl))
            simp only [List.getElem_toArray, List.getElem_cons_succ, List.getElem_cons_zero, Act.put, List.setIfInBounds_toArray, List.set_cons_zero, List.set_cons_succ, Nat.reduceAdd, Nat.reduceSub])
          refine wpG_call (i := 17) rfl (by kernel_rfl) (by rfl) ?hr ((hto7 _ hS0).mono ?_)
          case hr => (simp only [List.getElem_toArray, List.getElem_cons_succ, List.getElem_cons_zero]; go_simp; try rfl)
          rintro e wa ⟨rfl, hba⟩
          have hSa := bthen hS0 hba
          refine ⟨_, rfl, hSa, ?_⟩
          simp only [List.getElem_toArray, List.getElem_cons_succ, List.getElem_cons_zero, Act.put, List.setIfInBounds_toArray, List.set_cons_zero, List.set_cons_succ, Nat.reduceAdd, Nat.reduceSub]
          iterate 8 (
            first
              | refine wpG_next rfl (by kernel_rfl) (.inr ⟨by rfl, rfl⟩) ?_
              | (refine wpG_next (v := ?_) rfl (by kernel_rfl) (.inl ⟨by rfl, ?hy⟩) ?_
                 case hy => (intro w' hS'; obtain ⟨f1, f2, f3, f4⟩ := hF w' hS'; simp only [List.getElem_toArray, List.getElem_cons_succ, List.getElem_cons_zero]; go_simp; try with_reducible rfl))
            simp only [List.getElem_toArray, List.getElem_cons_succ, List.getElem_cons_zero, Act.put, List.setIfInBounds_toArray, List.set_cons_zero, List.set_cons_succ, Nat.reduceAdd, Nat.reduceSub])
          refine wpG_done (by kernel_rfl) ?_
          simp only [List.drop_succ_cons, List.drop_zero]
          obtain ⟨p1, p2, p3, p4⟩ := hF wa hSa
          have hba : Below w.heap.size w wa := bthen hB7 hSa
          have hZ := World.alloc_heap_new wa (.cells #[.string pnm, .int .i64 pnum, .int .i64 puses, .int .i64 pearn, .int .i64 pmn, .int .i64 pmd, .slice Aq qs.length cq] 26)
          have hZ2 := World.alloc_heap_new wa (.cells #[.string pnm, .int .i64 pnum, .int .i64 (puses + 1), .int .i64 pearn, .int .i64 pmn, .int .i64 pmd, .slice Aq qs.length cq] 26)
          have hz8 := World.size_alloc wa (.cells #[.string pnm, .int .i64 pnum, .int .i64 (puses + 1), .int .i64 pearn, .int .i64 pmn, .int .i64 pmd, .slice Aq qs.length cq] 26)
          have hb8 := below1 wa (.cells #[.string pnm, .int .i64 pnum, .int .i64 (puses + 1), .int .i64 pearn, .int .i64 pmn, .int .i64 pmd, .slice Aq qs.length cq] 26)
          have q2 : (wa.alloc (.cells #[.string pnm, .int .i64 pnum, .int .i64 puses, .int .i64 pearn, .int .i64 pmn, .int .i64 pmd, .slice Aq qs.length cq] 26)).cell? ⟨wa.heap.size, 2, none⟩ = some (.int .i64 puses) := by rw [blk_cell hZ]; rfl
          have qf := blk_frozen hZ 2
          have hza : w7.heap.size ≤ wa.heap.size := hSa.size
          have hwaY : wa.heap[Y]? = _ := (hSa.block _ (by omega)).trans hA7Y
          clear hF hto7 hS0 hA7 hP7 hg7 hZ p3 p4
          go_wp2_with (go_at_call 21; refine (hau4 _ (bthen hba hb8)).mono ?_; refine stopHere ?_)
          unfold Stopped
          rintro e w9 AU4 nU4 cU4 AC4 nC4 cC4 z E4 rfl h4 hb9
          rw [← hz8] at hb9
          have hQ9 := (hb9.block _ (by omega)).trans hZ2
          have hY9 := ((bthen hb8 hb9).block _ (by omega)).trans hwaY
          have c9 : w9.cell? ⟨wa.heap.size, 2, none⟩ = some (.int .i64 (puses + 1)) := by rw [blk_cell hQ9]; rfl
          have d9 : w9.cell? ⟨Y, 1, none⟩ = some (.int .i64 x) := by rw [blk_cell hY9]; rfl
          have e9 := (Array.getElem?_eq_some_iff.1 hQ9).1
          have hB9 : Below w.heap.size w w9 := bthen hba (bthen hb8 hb9)
          have i9 : Y < w9.heap.size := (Array.getElem?_eq_some_iff.1 hY9).1
          clear hau4 q2 qf hZ2 hb8 hQ9 hY9 hwaY hz8 hb9 p1 p2
          by_cases hq4 : puses + 1 ≤ 4
          · obtain ⟨rfl, hzx⟩ := h4.out hq4
            have hq5 : ¬ 4 < puses + 1 := by omega
            go_wp2
            go_ret
            exact ⟨rfl, hB9.alloc hB9.size _⟩
          · have hq5 : 4 < puses + 1 := by omega
            go_wp2
            go_ret
            exact ⟨rfl, hB9.alloc hB9.size _⟩
    · generalize hEE : netE p l = E at *
      clear hF hl hq
      obtain ⟨pnm, pnum, puses, pearn, pmn, pmd, qs⟩ := p
      dsimp only at *
      go_enter Tryz.func8, Tryz.ntmps8
      have hP := alloc2_blk0 w (.cells #[.string pnm, .int .i64 pnum, .int .i64 puses, .int .i64 pearn, .int .i64 pmn, .int .i64 pmd, .slice Aq qs.length cq] 26) (.cells #[.int .i64 a.c, .int .i64 a.t, .int .i64 a.g, .int .i64 a.cam, .int .i64 a.cr] 28)
      go_wp2_with (first
        | (go_at_call 11; refine (hsn _).mono ?_; rintro e w1 ⟨rfl, hb1⟩; have hB1 := bthen (below2 w _ _) hb1; have hP1 := (hb1.block _ (by simp; omega)).trans hP; have cP := blk_cell hP1; have hz1 := (Array.getElem?_eq_some_iff.1 hP1).1)
        | (go_at_call 12; refine (hfw _ hB1).mono ?_; rintro e w2 ⟨rfl, hb2⟩; have hB2 := bthen hB1 hb2; have cP2 := blk_cell ((hb2.block _ hz1).trans hP1))
        | (go_at_call 21; refine (hau _ hB2).mono ?_; refine stopHere ?_))
      unfold Stopped
      rintro e w3 ⟨hb3, ⟨h0, _⟩ | ⟨_, rfl⟩⟩
      · exact absurd (hEE.symm.trans h0) hE
      · have hB3 := bthen hB2 hb3
        rw [hEE]
        clear hEE
        go_wp2
        go_ret
        exact ⟨rfl, hB3.alloc hB3.size _⟩
end Go.Proofs.YtaiibchadlaifaaGreatDoor

namespace Go.Proofs.YtaiibchadlaifaaGreatDoor
open Go.ChangeShapes Go.WideShapes Go.ChangeAt Go.RowKit

set_option maxRecDepth 100000 in
theorem degreeMore_called {H : Type} {enc : TypeId × Value → H} (W : World) (base : Nat) (args : Array Value) (ds : List (DataW H)) (p : List MemPlace) (hval : ∀ (j : Nat) t v, Tryz.f8.params[j]? = some t → args[j]? = some v → Value.okWide Tryz.prog W .any base t v)
    (hA : DataW.TrodAll enc Tryz.prog W 0 (fun _ => true) true Tryz.f8.params.toList args.toList ds p) : Calls Tryz.prog 8 args W fun e W' => e = .returned (.bool true) ∧ Below W.heap.size W W' := by
  rw [Tryz.params8] at hA hval
  obtain ⟨v0, v1, v2, d0, d1, d2, q0, q1, q2, rfl, rfl, rfl, h0, h1, h2⟩ := trodAll_three hA
  obtain ⟨p0, A0, c0, rfl, l0, r0⟩ := arg_Prg (hval 0 _ _ rfl rfl) h0
  obtain ⟨A1, x1, c1, rfl, l1, r1⟩ := arg_slice Tryz.underlying37 opn_Att (by decide) (hval 1 _ _ rfl rfl) h1
  obtain ⟨a2, rfl⟩ := arg_Att (hval 2 _ _ rfl rfl) h2
  exact law_More_c W p0 x1 a2 A1 A0 c1 c0 r1 r0

set_option maxRecDepth 100000 in
theorem degreeMore_lifted (os : Os) (started : os.Started) (H : Type) (enc : TypeId × Value → H) :
    ReturnsInHanded {} Tryz.checked os 8 .any (fun w args => (Rows.degreeMoreSpec.pre enc Tryz.prog Tryz.f8 [] false w args ∧ laidMetH Tryz.prog [("sizar/rules.kinds", Rows.laid_sizar_rules_kinds)] w) ∧ sizedMet enc Tryz.prog Tryz.f8 (OpenSpec.ofChange Rows.degreeMoreSpec) false w args)
      (Rows.degreeMoreSpec.post enc Tryz.prog Tryz.f8 false true false false) := by
  refine law_lifted os started H enc #[.agg #[.string ⟨#[]⟩, .int .i64 0, .int .i64 0, .int .i64 0, .int .i64 0, .int .i64 0, .slice none 0 0], .slice none 0 0, .agg #[.int .i64 0, .int .i64 0, .int .i64 0, .int .i64 0, .int .i64 0]] (by kernel_rfl) Tryz.func8 rfl (by kernel_rfl) (by kernel_rfl) (fun ds h => ?_) (World.shaped_of_RefB (by kernel_rfl) (by kernel_rfl)) (by kernel_rfl) (by kernel_rfl) (by kernel_rfl) degreeMore_called
  match ds, h with
  | [_, _, _], _ => rfl

theorem degreeMore_said : Rows.DegreeMoreSaid :=
  OpenClaim.holds_of_wide 8 Tryz.f8 rfl rfl rfl rfl rfl rfl rfl ⟨rfl, rfl, rfl, rfl, rfl⟩ rfl rfl rfl rfl rfl (by kernel_rfl) Tryz.func8 (by kernel_rfl)
    (of_decide_eq_true (by kernel_rfl)) (by unfold Func.isWrapper; first | (rw [if_pos (by decide +kernel)]; kernel_rfl) | (rw [if_neg (by decide +kernel)]; exact ⟨rfl, rfl⟩))
    (fun os started H enc _ => degreeMore_lifted os started H enc)

theorem degreeMore_plain (f : FuncId) (fn : Func) (hf : Tryz.pinned.checked.prog.funcNamed "sizar/sizarlaw19.DegreeMore" = some f) (hfn : Tryz.pinned.checked.prog.funcs[f]? = some fn) :
    true = Tryz.pinned.checked.prog.looks [] ∧ ∀ (j : Nat) t, fn.params[j]? = some t → Tryz.pinned.checked.prog.wantsStandIn t = false := by
  obtain rfl : f = 8 := Option.some.inj ((show Tryz.prog.funcNamed "sizar/sizarlaw19.DegreeMore" = some 8 by kernel_rfl).symm.trans hf) |>.symm
  obtain rfl : fn = Tryz.f8 := (Option.some.inj (Tryz.func8.symm.trans hfn)).symm
  refine ⟨by kernel_rfl, fun j t ht => ?_⟩
  have hall : (Tryz.f8.params.toList.all fun u => !Tryz.prog.wantsStandIn u) = true := by kernel_rfl
  have hm : t ∈ Tryz.f8.params.toList := by simpa using Array.mem_of_getElem? ht
  exact (show Tryz.prog.wantsStandIn t = false by simpa using List.all_eq_true.1 hall t hm)

/-- The card. -/
theorem degreeMore_card : Rows.DegreeMoreCardSaid :=
  Claim7.holds_tied_plain_at .later [] _ _ _ _ degreeMore_said (fun _ h => by cases h) (by kernel_rfl) (fun _ h => by cases h) degreeMore_row_tie rfl ⟨rfl, rfl⟩ (by kernel_rfl) rfl degreeMore_plain (by kernel_rfl)
#print axioms degreeMore_card
end Go.Proofs.YtaiibchadlaifaaGreatDoor
