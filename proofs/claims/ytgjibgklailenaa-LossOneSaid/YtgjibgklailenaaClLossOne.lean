/- Proved here: the statement Rows.LossOneSaid, of the Go function freeboard/freeboardlaw23.LossOne. -/
import Derived.Test.YtgjibgklailenaaRows
import Derived.Test.YtgjibgklailenaaCore30
import Derived.Test.YtgjibgklailenaaLwLossB
namespace Go.Proofs.Ytgjibgklailenaa.lossOne
open Go GL Go.ChangeShapes Go.WideShapes Go.ChangeAt Go.RowKit
set_option linter.unusedVariables false

theorem own : ownKnob Try.prog.godebug = none := by kernel_rfl
theorem laidOut : laidOutB Try.prog = true := by kernel_rfl

set_option maxRecDepth 100000 in
theorem contract (H : Type) (enc : TypeId × Value → H) (W : World) (base : Nat) (args : Array Value) (ds gs : List (DataW H)) (before : List MemPlace)
    (hval : ∀ (j : Nat) t v, Try.f4.params[j]? = some t → args[j]? = some v → Value.okWide Try.prog W .any base t v)
    (hW : DataW.Whole enc Try.prog Try.f4.params.toList Rows.lossOneSpec.vars false W args.toList ds gs before) :
    Calls Try.prog 4 args W fun e W' => ∃ v, e = .returned v ∧ Rows.lossOneSpec.post enc Try.prog Try.f4 false true false false W args v W' := by
  have hW' := hW
  obtain ⟨p, q, hA0, hV, rfl, hfz, hnd⟩ := hW
  have hA : DataW.TrodAll enc Try.prog W 0 (fun _ => true) true Try.f4.params.toList args.toList ds p := hA0
  rw [Try.params4] at hA hval
  obtain ⟨v0, vs0, d0, ds0, p0, q0, e0, rfl, rfl, h0, r0⟩ := trodAll_cons hA
  obtain ⟨rfl, rfl, rfl⟩ := trodAll_nil r0
  obtain rfl : args = [v0].toArray := by cases args; simp_all
  obtain ⟨y0, w0, z0⟩ := open_arg (Ty.of (by kernel_rfl) : Ty Try.prog 41 (List Op45)) (OT.slice Try.underlying41 (by kernel_rfl) (by decide) (OT.struct (fun y => Op45.mk y.1 y.2) Try.underlying45 (by kernel_rfl) (OF.cons (OT.u8 Try.underlying5) rfl (by kernel_rfl) (OF.one (OT.u8 Try.underlying5) rfl (by kernel_rfl))) (fun _ => rfl))).h (hval 0 41 v0 rfl rfl) h0 (fun b off hm => hfz b off (by simp [hm]))
  have hm : law23_LossOne y0 = some true := (one_true y0 w0.1)
  exact law_close (tb := 4) laidOut (by kernel_rfl) (by kernel_rfl) (by kernel_rfl) rfl (by
    intro ds hds
    have hds : ds.length = 1 := hds
    match ds, hds with
    | [c0], _ => rfl) hW' (law_calls (law23_LossOne_c y0 hm) (all2_cons z0 all2_nil))

set_option maxRecDepth 100000 in
theorem lifted (os : Os) (started : os.Started) (H : Type) (enc : TypeId × Value → H) :
    ReturnsInHanded {} Try.checked os 4 .any (Rows.lossOneSpec.pre6 enc Try.prog Try.f4 Rows.lossOneRow.domain false) (Rows.lossOneSpec.post enc Try.prog Try.f4 false true false false) := by
  refine returnsInHanded_of_change (C := Try.checked) own started (by kernel_rfl) Try.func4
    (ChangeSpec.witness6 (enc := enc) (C := Try.checked) false ⟨#[], #[.slice none 0 0], []⟩ 8 (by kernel_rfl) (by kernel_rfl) (by kernel_rfl) (by kernel_rfl)) ?_
  intro W base args ds gs before hval hW _ _
  exact contract H enc W base args ds gs before hval hW

theorem over : Rows.lossOneRow.holds Try.pinned (OpenSpec.ofChange Rows.lossOneSpec) :=
  OpenClaim.holds_of_wide 4 Try.f4 rfl rfl rfl rfl rfl rfl rfl ⟨rfl, rfl, rfl, rfl, rfl⟩ rfl rfl rfl rfl rfl (by kernel_rfl) Try.func4 (by kernel_rfl)
    (of_decide_eq_true (by kernel_rfl)) (by unfold Func.isWrapper; first | (rw [if_pos (by decide +kernel)]; kernel_rfl) | (rw [if_neg (by decide +kernel)]; exact ⟨rfl, rfl⟩))
    (fun os started H enc _ => lifted os started H enc)

theorem proved : Rows.LossOneSaid :=
  over
end Go.Proofs.Ytgjibgklailenaa.lossOne
