/-
  The card of DegreeOptimal: for every input the law returns true, and its input reads as it did. Conditions: those of the given row (the listed variable holds what the program's text lays in it).
-/
import Derived.Test.YtaiibchadlaifaaGreatDoorHOpa
set_option linter.unusedVariables false
set_option linter.unusedSimpArgs false

namespace Go.Proofs.YtaiibchadlaifaaGreatDoor
open Go.ChangeShapes Go.WideShapes Go.ChangeAt Go.RowKit

set_option maxRecDepth 100000 in
theorem degreeOptimal_called {H : Type} {enc : TypeId × Value → H} (W : World) (base : Nat) (args : Array Value) (ds : List (DataW H)) (p : List MemPlace) (hval : ∀ (j : Nat) t v, Tryz.f9.params[j]? = some t → args[j]? = some v → Value.okWide Tryz.prog W .any base t v)
    (hA : DataW.TrodAll enc Tryz.prog W 0 (fun _ => true) true Tryz.f9.params.toList args.toList ds p) : Calls Tryz.prog 9 args W fun e W' => e = .returned (.bool true) ∧ Below W.heap.size W W' := by
  rw [Tryz.params9] at hA hval
  obtain ⟨v0, v1, v2, d0, d1, d2, q0, q1, q2, rfl, rfl, rfl, h0, h1, h2⟩ := trodAll_three hA
  obtain ⟨p0, A0, c0, rfl, l0, r0⟩ := arg_Prg (hval 0 _ _ rfl rfl) h0
  obtain ⟨A1, x1, c1, rfl, l1, r1⟩ := arg_slice Tryz.underlying37 opn_Att (by decide) (hval 1 _ _ rfl rfl) h1
  obtain ⟨A2, x2, c2, rfl, l2, r2⟩ := arg_slice Tryz.underlying42 opn_Use (by decide) (hval 2 _ _ rfl rfl) h2
  exact law_Optimal_c W p0 x1 x2 A1 A0 A2 c1 c0 c2 r1 r0 r2

set_option maxRecDepth 100000 in
theorem degreeOptimal_lifted (os : Os) (started : os.Started) (H : Type) (enc : TypeId × Value → H) :
    ReturnsInHanded {} Tryz.checked os 9 .any (fun w args => (Rows.degreeOptimalSpec.pre enc Tryz.prog Tryz.f9 [] false w args ∧ laidMetH Tryz.prog [("sizar/rules.kinds", Rows.laid_sizar_rules_kinds)] w) ∧ sizedMet enc Tryz.prog Tryz.f9 (OpenSpec.ofChange Rows.degreeOptimalSpec) false w args)
      (Rows.degreeOptimalSpec.post enc Tryz.prog Tryz.f9 false true false false) := by
  refine law_lifted os started H enc #[.agg #[.string ⟨#[]⟩, .int .i64 0, .int .i64 0, .int .i64 0, .int .i64 0, .int .i64 0, .slice none 0 0], .slice none 0 0, .slice none 0 0] (by kernel_rfl) Tryz.func9 rfl (by kernel_rfl) (by kernel_rfl) (fun ds h => ?_) (World.shaped_of_RefB (by kernel_rfl) (by kernel_rfl)) (by kernel_rfl) (by kernel_rfl) (by kernel_rfl) degreeOptimal_called
  match ds, h with
  | [_, _, _], _ => rfl

theorem degreeOptimal_said : Rows.DegreeOptimalSaid :=
  OpenClaim.holds_of_wide 9 Tryz.f9 rfl rfl rfl rfl rfl rfl rfl ⟨rfl, rfl, rfl, rfl, rfl⟩ rfl rfl rfl rfl rfl (by kernel_rfl) Tryz.func9 (by kernel_rfl)
    (of_decide_eq_true (by kernel_rfl)) (by unfold Func.isWrapper; first | (rw [if_pos (by decide +kernel)]; kernel_rfl) | (rw [if_neg (by decide +kernel)]; exact ⟨rfl, rfl⟩))
    (fun os started H enc _ => degreeOptimal_lifted os started H enc)

theorem degreeOptimal_plain (f : FuncId) (fn : Func) (hf : Tryz.pinned.checked.prog.funcNamed "sizar/sizarlaw19.DegreeOptimal" = some f) (hfn : Tryz.pinned.checked.prog.funcs[f]? = some fn) :
    true = Tryz.pinned.checked.prog.looks [] ∧ ∀ (j : Nat) t, fn.params[j]? = some t → Tryz.pinned.checked.prog.wantsStandIn t = false := by
  obtain rfl : f = 9 := Option.some.inj ((show Tryz.prog.funcNamed "sizar/sizarlaw19.DegreeOptimal" = some 9 by kernel_rfl).symm.trans hf) |>.symm
  obtain rfl : fn = Tryz.f9 := (Option.some.inj (Tryz.func9.symm.trans hfn)).symm
  refine ⟨by kernel_rfl, fun j t ht => ?_⟩
  have hall : (Tryz.f9.params.toList.all fun u => !Tryz.prog.wantsStandIn u) = true := by kernel_rfl
  have hm : t ∈ Tryz.f9.params.toList := by simpa using Array.mem_of_getElem? ht
  exact (show Tryz.prog.wantsStandIn t = false by simpa using List.all_eq_true.1 hall t hm)

/-- The card. -/
theorem degreeOptimal_card : Rows.DegreeOptimalCardSaid :=
  Claim7.holds_tied_plain_at .later [] _ _ _ _ degreeOptimal_said (fun _ h => by cases h) (by kernel_rfl) (fun _ h => by cases h) degreeOptimal_row_tie rfl ⟨rfl, rfl⟩ (by kernel_rfl) rfl degreeOptimal_plain (by kernel_rfl)
#print axioms degreeOptimal_card
end Go.Proofs.YtaiibchadlaifaaGreatDoor
