/-
  The card of DegreeAuditSpec: for every input the law returns true, and its input reads as it did. Conditions: those of the given row (the listed variable holds what the program's text lays in it).
-/
import Derived.Test.YtaiibchadlaifaaGreatDoorHAuc
set_option linter.unusedVariables false
set_option linter.unusedSimpArgs false

namespace Go.Proofs.YtaiibchadlaifaaGreatDoor
open Go.ChangeShapes Go.WideShapes Go.ChangeAt Go.RowKit

set_option maxRecDepth 100000 in
theorem degreeAuditSpec_called {H : Type} {enc : TypeId × Value → H} (W : World) (base : Nat) (args : Array Value) (ds : List (DataW H)) (p : List MemPlace) (hval : ∀ (j : Nat) t v, Tryz.f5.params[j]? = some t → args[j]? = some v → Value.okWide Tryz.prog W .any base t v)
    (hA : DataW.TrodAll enc Tryz.prog W 0 (fun _ => true) true Tryz.f5.params.toList args.toList ds p) : Calls Tryz.prog 5 args W fun e W' => e = .returned (.bool true) ∧ Below W.heap.size W W' := by
  rw [Tryz.params5] at hA hval
  obtain ⟨v0, v1, d0, d1, q0, q1, rfl, rfl, rfl, h0, h1⟩ := trodAll_two hA
  obtain ⟨p0, A0, c0, rfl, l0, r0⟩ := arg_Prg (hval 0 _ _ rfl rfl) h0
  obtain ⟨A1, x1, c1, rfl, l1, r1⟩ := arg_slice Tryz.underlying37 opn_Att (by decide) (hval 1 _ _ rfl rfl) h1
  exact law_Audit_c W p0 x1 A1 A0 c1 c0 r1 r0

set_option maxRecDepth 100000 in
theorem degreeAuditSpec_lifted (os : Os) (started : os.Started) (H : Type) (enc : TypeId × Value → H) :
    ReturnsInHanded {} Tryz.checked os 5 .any (fun w args => (Rows.degreeAuditSpecSpec.pre enc Tryz.prog Tryz.f5 [] false w args ∧ laidMetH Tryz.prog [("sizar/rules.kinds", Rows.laid_sizar_rules_kinds)] w) ∧ sizedMet enc Tryz.prog Tryz.f5 (OpenSpec.ofChange Rows.degreeAuditSpecSpec) false w args)
      (Rows.degreeAuditSpecSpec.post enc Tryz.prog Tryz.f5 false true false false) := by
  refine law_lifted os started H enc #[.agg #[.string ⟨#[]⟩, .int .i64 0, .int .i64 0, .int .i64 0, .int .i64 0, .int .i64 0, .slice none 0 0], .slice none 0 0] (by kernel_rfl) Tryz.func5 rfl (by kernel_rfl) (by kernel_rfl) (fun ds h => ?_) (World.shaped_of_RefB (by kernel_rfl) (by kernel_rfl)) (by kernel_rfl) (by kernel_rfl) (by kernel_rfl) degreeAuditSpec_called
  match ds, h with
  | [_, _], _ => rfl

theorem degreeAuditSpec_said : Rows.DegreeAuditSpecSaid :=
  OpenClaim.holds_of_wide 5 Tryz.f5 rfl rfl rfl rfl rfl rfl rfl ⟨rfl, rfl, rfl, rfl, rfl⟩ rfl rfl rfl rfl rfl (by kernel_rfl) Tryz.func5 (by kernel_rfl)
    (of_decide_eq_true (by kernel_rfl)) (by unfold Func.isWrapper; first | (rw [if_pos (by decide +kernel)]; kernel_rfl) | (rw [if_neg (by decide +kernel)]; exact ⟨rfl, rfl⟩))
    (fun os started H enc _ => degreeAuditSpec_lifted os started H enc)

theorem degreeAuditSpec_plain (f : FuncId) (fn : Func) (hf : Tryz.pinned.checked.prog.funcNamed "sizar/sizarlaw19.DegreeAuditSpec" = some f) (hfn : Tryz.pinned.checked.prog.funcs[f]? = some fn) :
    true = Tryz.pinned.checked.prog.looks [] ∧ ∀ (j : Nat) t, fn.params[j]? = some t → Tryz.pinned.checked.prog.wantsStandIn t = false := by
  obtain rfl : f = 5 := Option.some.inj ((show Tryz.prog.funcNamed "sizar/sizarlaw19.DegreeAuditSpec" = some 5 by kernel_rfl).symm.trans hf) |>.symm
  obtain rfl : fn = Tryz.f5 := (Option.some.inj (Tryz.func5.symm.trans hfn)).symm
  refine ⟨by kernel_rfl, fun j t ht => ?_⟩
  have hall : (Tryz.f5.params.toList.all fun u => !Tryz.prog.wantsStandIn u) = true := by kernel_rfl
  have hm : t ∈ Tryz.f5.params.toList := by simpa using Array.mem_of_getElem? ht
  exact (show Tryz.prog.wantsStandIn t = false by simpa using List.all_eq_true.1 hall t hm)

/-- The card. -/
theorem degreeAuditSpec_card : Rows.DegreeAuditSpecCardSaid :=
  Claim7.holds_tied_plain_at .later [] _ _ _ _ degreeAuditSpec_said (fun _ h => by cases h) (by kernel_rfl) (fun _ h => by cases h) degreeAuditSpec_row_tie rfl ⟨rfl, rfl⟩ (by kernel_rfl) rfl degreeAuditSpec_plain (by kernel_rfl)
#print axioms degreeAuditSpec_card
end Go.Proofs.YtaiibchadlaifaaGreatDoor
