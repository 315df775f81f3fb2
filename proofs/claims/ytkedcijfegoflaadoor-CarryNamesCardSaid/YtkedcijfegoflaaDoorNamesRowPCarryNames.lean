/- spandrellaw21.CarryNames returns true, wherever term.kinds holds what the program's text lays in it: no condition on the input (a closed statement). -/
import Derived.Test.YtkedcijfegoflaaDoorKinds
import Derived.Test.YtkedcijfegoflaaDoorNamesPCarryNames
import Derived.Test.YtkedcijfegoflaaDoorCards
import Derived.Test.YtkedcijfegoflaaDoorTie
namespace Go.Proofs.YtkedcijfegoflaaDoor
open Go Go.ChangeShapes Go.WideShapes Go.ChangeAt Go.RowKit
set_option linter.unusedVariables false
set_option maxRecDepth 100000 in
theorem names_lifted (os : Os) (started : os.Started) (H : Type) (enc : TypeId × Value → H) :
    ReturnsInHanded {} Tryd.checked os 3 .any (fun w args => (Rows.carryNamesSpec.pre enc Tryd.prog Tryd.f3 Rows.carryNamesRow.domain false w args ∧ laidMet Tryd.prog Rows.carryNamesRow.laid w) ∧ sizedMet enc Tryd.prog Tryd.f3 (OpenSpec.ofChange Rows.carryNamesSpec) false w args)
      (Rows.carryNamesSpec.post enc Tryd.prog Tryd.f3 false true false false) := by
  refine returnsInHanded_of_change_and (C := Tryd.checked) (X := fun w _ => laidMet Tryd.prog Rows.carryNamesRow.laid w) (fun _ _ _ hh h => h.of_heap hh) ownK started (by kernel_rfl) Tryd.func3
    (ChangeSpec.witness_at (enc := enc) (C := Tryd.checked) (os := os) (X := fun w _ => laidMet Tryd.prog Rows.carryNamesRow.laid w) false (kindsWorld os) #[] 8 rfl (by kernel_rfl) (by kernel_rfl) (by kernel_rfl) (by kernel_rfl) (by kernel_rfl) (kindsWorld_met os _)) ?_
  intro W base args ds gs before hval0 hW hcnd0 _ hL _
  have hW' := hW
  obtain ⟨p, q, hA0, hV, rfl, hfz, hnd⟩ := hW
  have hA : DataW.TrodAll enc Tryd.prog W 0 (fun _ => true) true Tryd.f3.params.toList args.toList ds p := hA0
  rw [Tryd.params3] at hA
  obtain ⟨rfl, rfl, rfl⟩ := trodAll_none hA
  obtain ⟨rfl, rfl⟩ := trodVars_none hV
  clear hA0 hval0
  refine (PCarryNames.names_any W (kinds_of_laid hL)).mono fun e W' ⟨he, hb⟩ => ?_
  subst he
  exact ⟨_, rfl, _, _, _, [], [], [], hW', trodAll_mk1 (shut_bool Tryd.underlying4 true), rfl, rfl, hb.frame _, fun h => by cases h⟩
theorem names_holds : Rows.CarryNamesSaid :=
  OpenClaim.holds_of_wide 3 Tryd.f3 rfl rfl rfl rfl rfl rfl rfl ⟨rfl, rfl, rfl, rfl, rfl⟩ rfl rfl rfl rfl rfl (by kernel_rfl) Tryd.func3 (by kernel_rfl)
    (of_decide_eq_true (by kernel_rfl)) (by unfold Func.isWrapper; first | (rw [if_pos (by decide +kernel)]; kernel_rfl) | (rw [if_neg (by decide +kernel)]; exact ⟨rfl, rfl⟩))
    (fun os started H enc _ => names_lifted os started H enc)
theorem CarryNames : Rows.CarryNamesCardSaid :=
  Claim7.holds_tied_plain_at .later [] [.data] true (true, "1b7d267b5e7dd96eee887cf47a08b7ef596471e3a869bb1cd6e6f0d32000cef6") true
    names_holds (fun _ h => by cases h) (by kernel_rfl) (fun _ h => by cases h) carryNames_row_tie rfl ⟨rfl, rfl⟩ (by kernel_rfl) rfl
    (fun f fn hf hfn => by
      obtain rfl : f = 3 := Option.some.inj ((show Tryd.prog.funcNamed "spandrel/spandrellaw21.CarryNames" = some 3 by kernel_rfl).symm.trans hf) |>.symm
      obtain rfl : fn = Tryd.f3 := (Option.some.inj (Tryd.func3.symm.trans hfn)).symm
      exact ⟨by kernel_rfl, fun j t ht => by
        rw [Tryd.params3] at ht
        simp at ht⟩)
    (by kernel_rfl)
#print axioms CarryNames
end Go.Proofs.YtkedcijfegoflaaDoor
