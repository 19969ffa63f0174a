/-
  The card of DegreeNetworkSpec: for every input the law returns true, and its input reads as it did. Conditions: those of the given row (the listed variable holds what the program's text lays in it).
  The law DegreeNetworkSpec. Conditions: the arguments read as data.
-/
import Derived.Test.YtaiibchadlaifaaGreatDoorZg
set_option linter.unusedVariables false
set_option linter.unusedSimpArgs false

namespace Go.Proofs.YtaiibchadlaifaaGreatDoor
open Go.RowKit Go.Shelf
attribute [local go_sem] Oper.semAt_some

set_option maxRecDepth 100000 in
set_option maxHeartbeats 16000000 in
theorem law_Network_c (w : World) (p : Prg) (l : List Att) (A Aq : Option Addr) (c cq : Nat) (hl : Rd kAtt w A l) (hq : Rd kReq w Aq p.reqs) :
    Calls Tryz.prog 4 #[.agg #[.string p.nm, .int .i64 p.num, .int .i64 p.uses, .int .i64 p.earn, .int .i64 p.mn, .int .i64 p.md, .slice Aq p.reqs.length cq], .slice A l.length c] w fun e w' => e = .returned (.bool true) ∧ Below w.heap.size w w' := by
  have hsn := fun W => sane_c W
  have hfw := fun W (h : Below w.heap.size w W) => ref19_Few_c W p Aq A cq l.length c (hq.below h) hl.len
  cases hF : fewB p.reqs l.length with
  | false =>
    rw [hF] at hfw
    clear hF hl hq
    obtain ⟨pnm, pnum, puses, pearn, pmn, pmd, qs⟩ := p
    dsimp only at *
    go_enter Tryz.func4, Tryz.ntmps4
    have hP := World.alloc_heap_new w (.cells #[.string pnm, .int .i64 pnum, .int .i64 puses, .int .i64 pearn, .int .i64 pmn, .int .i64 pmd, .slice Aq qs.length cq] 26)
    have hz := World.size_alloc w (.cells #[.string pnm, .int .i64 pnum, .int .i64 puses, .int .i64 pearn, .int .i64 pmn, .int .i64 pmd, .slice Aq qs.length cq] 26)
    go_wp2_with (first
      | (go_at_call 11; refine (hsn _).mono ?_; rintro e w1 ⟨rfl, hb1⟩; have hB1 := bthen (below1 w _) hb1; have cP := blk_cell ((hb1.block _ (by omega)).trans hP))
      | (go_at_call 12; refine (hfw _ hB1).mono ?_; rintro e w2 ⟨rfl, hb2⟩))
    go_ret
    exact ⟨rfl, bthen hB1 hb2⟩
  | true =>
    have hm : l.length ≤ 100000 := by unfold fewB at hF; simp at hF; omega
    have hn1 := fun W (h : Below w.heap.size w W) => degree_Network_c W p l A Aq c cq (hl.below h) (hq.below h) hm
    have hn2 := fun W (h : Below w.heap.size w W) => ref19_Network_c W p l A Aq c cq (hl.below h) (hq.below h) hm
    rw [hF] at hfw
    clear hF hl hq
    obtain ⟨pnm, pnum, puses, pearn, pmn, pmd, qs⟩ := p
    dsimp only at *
    go_enter Tryz.func4, Tryz.ntmps4
    have hP := World.alloc_heap_new w (.cells #[.string pnm, .int .i64 pnum, .int .i64 puses, .int .i64 pearn, .int .i64 pmn, .int .i64 pmd, .slice Aq qs.length cq] 26)
    have hz := World.size_alloc w (.cells #[.string pnm, .int .i64 pnum, .int .i64 puses, .int .i64 pearn, .int .i64 pmn, .int .i64 pmd, .slice Aq qs.length cq] 26)
    go_wp2_with (first
      | (go_at_call 11; refine (hsn _).mono ?_; rintro e w1 ⟨rfl, hb1⟩; have hB1 := bthen (below1 w _) hb1; have hP1 := (hb1.block _ (by omega)).trans hP; have cP := blk_cell hP1; have hz1 := (Array.getElem?_eq_some_iff.1 hP1).1)
      | (go_at_call 12; refine (hfw _ hB1).mono ?_; rintro e w2 ⟨rfl, hb2⟩; have hB2 := bthen hB1 hb2; have hP2 := (hb2.block _ hz1).trans hP1; have cP2 := blk_cell hP2; have hz2 := (Array.getElem?_eq_some_iff.1 hP2).1)
      | (go_at_call 18; refine (hn1 _ hB2).mono ?_; refine stopHere ?_))
    unfold Stopped
    rintro e w3 ⟨(⟨hE, rfl⟩ | ⟨hE, v, rfl, hown⟩), hb3⟩
    · have hB3 := bthen hB2 hb3
      have hP3 := (hb3.block _ hz2).trans hP2
      have cP3 := blk_cell hP3
      go_wp2_with (go_at_call 19; refine (hn2 _ hB3).mono ?_; refine stopHere ?_)
      unfold Stopped
      rintro e w4 ⟨(⟨_, rfl⟩ | ⟨hE2, v, rfl, hown⟩), hb4⟩
      · have hse := fun W => ref19_SameEdges_c W none none 0 0 [] [] (Rd.nil _ _ _) (Rd.nil _ _ _)
        go_wp2_with (go_at_call 20; refine (hse _).mono ?_; refine stopHere ?_)
        unfold Stopped
        rintro e w5 ⟨⟨b, rfl, hbt⟩, hb5⟩
        obtain rfl : b = true := hbt.2 trivial
        go_wp2
        go_ret
        exact ⟨rfl, bthen hB3 (bthen hb4 hb5)⟩
      · exact absurd hE2 hE
    · have hB3 := bthen hB2 hb3
      have hP3 := (hb3.block _ hz2).trans hP2
      have cP3 := blk_cell hP3
      obtain ⟨X, cx, rfl, _, hrx⟩ := hown.rd edge_len
      go_wp2_with (go_at_call 19; refine (hn2 _ hB3).mono ?_; refine stopHere ?_)
      unfold Stopped
      rintro e w4 ⟨(⟨hE2, rfl⟩ | ⟨_, v2, rfl, hown2⟩), hb4⟩
      · exact absurd hE hE2
      · obtain ⟨Y, cy, rfl, _, hry⟩ := hown2.rd edge_len
        have hrx4 := hrx.below hb4
        have hse := ref19_SameEdges_c w4 X Y cx cy _ _ hrx4 hry
        go_wp2_with (go_at_call 20; refine hse.mono ?_; refine stopHere ?_)
        unfold Stopped
        rintro e w5 ⟨⟨b, rfl, hbt⟩, hb5⟩
        obtain rfl : b = true := hbt.2 trivial
        go_wp2
        go_ret
        exact ⟨rfl, bthen hB3 (bthen hb4 hb5)⟩
end Go.Proofs.YtaiibchadlaifaaGreatDoor

namespace Go.Proofs.YtaiibchadlaifaaGreatDoor
open Go.ChangeShapes Go.WideShapes Go.ChangeAt Go.RowKit

set_option maxRecDepth 100000 in
theorem degreeNetworkSpec_called {H : Type} {enc : TypeId × Value → H} (W : World) (base : Nat) (args : Array Value) (ds : List (DataW H)) (p : List MemPlace) (hval : ∀ (j : Nat) t v, Tryz.f4.params[j]? = some t → args[j]? = some v → Value.okWide Tryz.prog W .any base t v)
    (hA : DataW.TrodAll enc Tryz.prog W 0 (fun _ => true) true Tryz.f4.params.toList args.toList ds p) : Calls Tryz.prog 4 args W fun e W' => e = .returned (.bool true) ∧ Below W.heap.size W W' := by
  rw [Tryz.params4] at hA hval
  obtain ⟨v0, v1, d0, d1, q0, q1, rfl, rfl, rfl, h0, h1⟩ := trodAll_two hA
  obtain ⟨p0, A0, c0, rfl, l0, r0⟩ := arg_Prg (hval 0 _ _ rfl rfl) h0
  obtain ⟨A1, x1, c1, rfl, l1, r1⟩ := arg_slice Tryz.underlying37 opn_Att (by decide) (hval 1 _ _ rfl rfl) h1
  exact law_Network_c W p0 x1 A1 A0 c1 c0 r1 r0

set_option maxRecDepth 100000 in
theorem degreeNetworkSpec_lifted (os : Os) (started : os.Started) (H : Type) (enc : TypeId × Value → H) :
    ReturnsInHanded {} Tryz.checked os 4 .any (fun w args => (Rows.degreeNetworkSpecSpec.pre enc Tryz.prog Tryz.f4 [] false w args ∧ laidMetH Tryz.prog [("sizar/rules.kinds", Rows.laid_sizar_rules_kinds)] w) ∧ sizedMet enc Tryz.prog Tryz.f4 (OpenSpec.ofChange Rows.degreeNetworkSpecSpec) false w args)
      (Rows.degreeNetworkSpecSpec.post enc Tryz.prog Tryz.f4 false true false false) := by
  refine law_lifted os started H enc #[.agg #[.string ⟨#[]⟩, .int .i64 0, .int .i64 0, .int .i64 0, .int .i64 0, .int .i64 0, .slice none 0 0], .slice none 0 0] (by kernel_rfl) Tryz.func4 rfl (by kernel_rfl) (by kernel_rfl) (fun ds h => ?_) (World.shaped_of_RefB (by kernel_rfl) (by kernel_rfl)) (by kernel_rfl) (by kernel_rfl) (by kernel_rfl) degreeNetworkSpec_called
  match ds, h with
  | [_, _], _ => rfl

theorem degreeNetworkSpec_said : Rows.DegreeNetworkSpecSaid :=
  OpenClaim.holds_of_wide 4 Tryz.f4 rfl rfl rfl rfl rfl rfl rfl ⟨rfl, rfl, rfl, rfl, rfl⟩ rfl rfl rfl rfl rfl (by kernel_rfl) Tryz.func4 (by kernel_rfl)
    (of_decide_eq_true (by kernel_rfl)) (by unfold Func.isWrapper; first | (rw [if_pos (by decide +kernel)]; kernel_rfl) | (rw [if_neg (by decide +kernel)]; exact ⟨rfl, rfl⟩))
    (fun os started H enc _ => degreeNetworkSpec_lifted os started H enc)

theorem degreeNetworkSpec_plain (f : FuncId) (fn : Func) (hf : Tryz.pinned.checked.prog.funcNamed "sizar/sizarlaw19.DegreeNetworkSpec" = some f) (hfn : Tryz.pinned.checked.prog.funcs[f]? = some fn) :
    true = Tryz.pinned.checked.prog.looks [] ∧ ∀ (j : Nat) t, fn.params[j]? = some t → Tryz.pinned.checked.prog.wantsStandIn t = false := by
  obtain rfl : f = 4 := Option.some.inj ((show Tryz.prog.funcNamed "sizar/sizarlaw19.DegreeNetworkSpec" = some 4 by kernel_rfl).symm.trans hf) |>.symm
  obtain rfl : fn = Tryz.f4 := (Option.some.inj (Tryz.func4.symm.trans hfn)).symm
  refine ⟨by kernel_rfl, fun j t ht => ?_⟩
  have hall : (Tryz.f4.params.toList.all fun u => !Tryz.prog.wantsStandIn u) = true := by kernel_rfl
  have hm : t ∈ Tryz.f4.params.toList := by simpa using Array.mem_of_getElem? ht
  exact (show Tryz.prog.wantsStandIn t = false by simpa using List.all_eq_true.1 hall t hm)

/-- The card. -/
theorem degreeNetworkSpec_card : Rows.DegreeNetworkSpecCardSaid :=
  Claim7.holds_tied_plain_at .later [] _ _ _ _ degreeNetworkSpec_said (fun _ h => by cases h) (by kernel_rfl) (fun _ h => by cases h) degreeNetworkSpec_row_tie rfl ⟨rfl, rfl⟩ (by kernel_rfl) rfl degreeNetworkSpec_plain (by kernel_rfl)
#print axioms degreeNetworkSpec_card
end Go.Proofs.YtaiibchadlaifaaGreatDoor
