/- Plain law: eyes: the laws. -/
import Derived.Test.YtdlmgdfeeofmbaaLwEyeBA
import Derived.Test.YtdlmgdfeeofmbaaLwActsAA
namespace Go.Proofs.Ytdlmgdfeeofmbaa
open Go GL

theorem eyetells_true (c : Config) (ds : List Disk) (s : Int) : law22_EyeTells c ds s = some true := by
  unfold law22_EyeTells
  obtain ⟨g, hg, hs⟩ := agreat_eq ds
  rw [hg]
  simp only [Option.bind_some]
  cases g with
  | true => rfl
  | false =>
  obtain ⟨hl, hsm⟩ := hs rfl
  simp only [cond_false]
  rw [atwin_eq (by omega) hsm]
  simp only [Option.bind_some, peven_eq, reven_eq, podd_eqL, rodd_eqL, beq_self_eq_true, Bool.and_self, gO, cond_true, ints_eq _ _ (oddR_len c ds), decide_true, pcheckA_eq, rcheckA_eq, asame_eq (show ds.length ≤ 100000 by omega) hsm hsm]
end Go.Proofs.Ytdlmgdfeeofmbaa
