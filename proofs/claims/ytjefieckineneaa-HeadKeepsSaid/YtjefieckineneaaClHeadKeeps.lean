/- Proved here: the statement Rows.HeadKeepsSaid, of the Go function freeboard/freeboardlaw16.HeadKeeps. -/
import Derived.Test.YtjefieckineneaaRows
import Derived.Test.YtjefieckineneaaCore30
import Derived.Test.YtjefieckineneaaLwHeadKHK
namespace Go.Proofs.Ytjefieckineneaa.headKeeps
open Go GL Go.ChangeShapes Go.WideShapes Go.ChangeAt Go.RowKit
set_option linter.unusedVariables false

theorem own : ownKnob Try.prog.godebug = none := by kernel_rfl
theorem laidOut : laidOutB Try.prog = true := by kernel_rfl

set_option maxRecDepth 100000 in
theorem contract (H : Type) (enc : TypeId × Value → H) (W : World) (base : Nat) (args : Array Value) (ds gs : List (DataW H)) (before : List MemPlace)
    (hval : ∀ (j : Nat) t v, Try.f7.params[j]? = some t → args[j]? = some v → Value.okWide Try.prog W .any base t v)
    (hW : DataW.Whole enc Try.prog Try.f7.params.toList Rows.headKeepsSpec.vars false W args.toList ds gs before) :
    Calls Try.prog 7 args W fun e W' => ∃ v, e = .returned v ∧ Rows.headKeepsSpec.post enc Try.prog Try.f7 false true false false W args v W' := by
  have hW' := hW
  obtain ⟨p, q, hA0, hV, rfl, hfz, hnd⟩ := hW
  have hA : DataW.TrodAll enc Try.prog W 0 (fun _ => true) true Try.f7.params.toList args.toList ds p := hA0
  rw [Try.params7] at hA hval
  obtain ⟨v0, vs0, d0, ds0, p0, q0, e0, rfl, rfl, h0, r0⟩ := trodAll_cons hA
  obtain ⟨rfl, rfl, rfl⟩ := trodAll_nil r0
  obtain rfl : args = [v0].toArray := by cases args; simp_all
  obtain ⟨y0, w0, z0⟩ := open_arg (Ty.of (by kernel_rfl) : Ty Try.prog 67 (List Op72)) (OT.slice Try.underlying67 (by kernel_rfl) (by decide) (OT.struct (fun y => Op72.mk y.1 y.2.1 y.2.2) Try.underlying72 (by kernel_rfl) (OF.cons (OT.u8 Try.underlying5) rfl (by kernel_rfl) (OF.cons (OT.u8 Try.underlying5) rfl (by kernel_rfl) (OF.one (OT.u8 Try.underlying5) rfl (by kernel_rfl)))) (fun _ => rfl))).h (hval 0 67 v0 rfl rfl) h0 (fun b off hm => hfz b off (by simp [hm]))
  have hm : law16_HeadKeeps y0 = some true := keeps_true y0
  exact law_close (tb := 4) laidOut (by kernel_rfl) (by kernel_rfl) (by kernel_rfl) rfl (by
    intro ds hds
    have hds : ds.length = 1 := hds
    match ds, hds with
    | [c0], _ => rfl) hW' (law_calls (law16_HeadKeeps_c y0 hm) (all2_cons z0 all2_nil))

set_option maxRecDepth 100000 in
theorem lifted (os : Os) (started : os.Started) (H : Type) (enc : TypeId × Value → H) :
    ReturnsInHanded {} Try.checked os 7 .any (Rows.headKeepsSpec.pre6 enc Try.prog Try.f7 Rows.headKeepsRow.domain false) (Rows.headKeepsSpec.post enc Try.prog Try.f7 false true false false) := by
  refine returnsInHanded_of_change (C := Try.checked) own started (by kernel_rfl) Try.func7
    (ChangeSpec.witness6 (enc := enc) (C := Try.checked) false ⟨#[], #[.slice none 0 0], []⟩ 8 (by kernel_rfl) (by kernel_rfl) (by kernel_rfl) (by kernel_rfl)) ?_
  intro W base args ds gs before hval hW _ _
  exact contract H enc W base args ds gs before hval hW

theorem over : Rows.headKeepsRow.holds Try.pinned (OpenSpec.ofChange Rows.headKeepsSpec) :=
  OpenClaim.holds_of_wide 7 Try.f7 rfl rfl rfl rfl rfl rfl rfl ⟨rfl, rfl, rfl, rfl, rfl⟩ rfl rfl rfl rfl rfl (by kernel_rfl) Try.func7 (by kernel_rfl)
    (of_decide_eq_true (by kernel_rfl)) (by unfold Func.isWrapper; first | (rw [if_pos (by decide +kernel)]; kernel_rfl) | (rw [if_neg (by decide +kernel)]; exact ⟨rfl, rfl⟩))
    (fun os started H enc _ => lifted os started H enc)

theorem proved : Rows.HeadKeepsSaid :=
  over
end Go.Proofs.Ytjefieckineneaa.headKeeps
