/- Proved here: the statement Rows.EvenNamesSaid, of the Go function freeboard/freeboardlaw18.EvenNames. -/
import Derived.Test.YtbedfodlofannaaRows
import Derived.Test.YtbedfodlofannaaCore30
import Derived.Test.YtbedfodlofannaaLwEvenNames
namespace Go.Proofs.Ytbedfodlofannaa.evenNames
open Go GL Go.ChangeShapes Go.WideShapes Go.ChangeAt Go.RowKit
set_option linter.unusedVariables false

theorem own : ownKnob Try.prog.godebug = none := by kernel_rfl
theorem laidOut : laidOutB Try.prog = true := by kernel_rfl

set_option maxRecDepth 100000 in
theorem contract (H : Type) (enc : TypeId × Value → H) (W : World) (base : Nat) (args : Array Value) (ds gs : List (DataW H)) (before : List MemPlace)
    (hval : ∀ (j : Nat) t v, Try.f4.params[j]? = some t → args[j]? = some v → Value.okWide Try.prog W .any base t v)
    (hW : DataW.Whole enc Try.prog Try.f4.params.toList Rows.evenNamesSpec.vars false W args.toList ds gs before) :
    Calls Try.prog 4 args W fun e W' => ∃ v, e = .returned v ∧ Rows.evenNamesSpec.post enc Try.prog Try.f4 false true false false W args v W' := by
  have hW' := hW
  obtain ⟨p, q, hA0, hV, rfl, hfz, hnd⟩ := hW
  have hA : DataW.TrodAll enc Try.prog W 0 (fun _ => true) true Try.f4.params.toList args.toList ds p := hA0
  rw [Try.params4] at hA hval
  obtain ⟨e0, rfl, rfl⟩ := trodAll_nil hA
  obtain rfl : args = [].toArray := by cases args; simp_all
  have hm : law18_EvenNames  = some true := names_true
  exact law_close (tb := 4) laidOut (by kernel_rfl) (by kernel_rfl) (by kernel_rfl) rfl (by
    intro ds hds
    have hds : ds.length = 0 := hds
    match ds, hds with
    | [], _ => rfl) hW' (law_calls (law18_EvenNames_c hm) all2_nil)

set_option maxRecDepth 100000 in
theorem lifted (os : Os) (started : os.Started) (H : Type) (enc : TypeId × Value → H) :
    ReturnsInHanded {} Try.checked os 4 .any (Rows.evenNamesSpec.pre6 enc Try.prog Try.f4 Rows.evenNamesRow.domain false) (Rows.evenNamesSpec.post enc Try.prog Try.f4 false true false false) := by
  refine returnsInHanded_of_change (C := Try.checked) own started (by kernel_rfl) Try.func4
    (ChangeSpec.witness6 (enc := enc) (C := Try.checked) false ⟨#[], #[], []⟩ 8 (by kernel_rfl) (by kernel_rfl) (by kernel_rfl) (by kernel_rfl)) ?_
  intro W base args ds gs before hval hW _ _
  exact contract H enc W base args ds gs before hval hW

theorem over : Rows.evenNamesRow.holds Try.pinned (OpenSpec.ofChange Rows.evenNamesSpec) :=
  OpenClaim.holds_of_wide 4 Try.f4 rfl rfl rfl rfl rfl rfl rfl ⟨rfl, rfl, rfl, rfl, rfl⟩ rfl rfl rfl rfl rfl (by kernel_rfl) Try.func4 (by kernel_rfl)
    (of_decide_eq_true (by kernel_rfl)) (by unfold Func.isWrapper; first | (rw [if_pos (by decide +kernel)]; kernel_rfl) | (rw [if_neg (by decide +kernel)]; exact ⟨rfl, rfl⟩))
    (fun os started H enc _ => lifted os started H enc)

theorem proved : Rows.EvenNamesSaid :=
  over
end Go.Proofs.Ytbedfodlofannaa.evenNames
