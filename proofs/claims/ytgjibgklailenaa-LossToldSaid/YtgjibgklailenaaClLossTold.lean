/- Proved here: the statement Rows.LossToldSaid, of the Go function freeboard/freeboardlaw23.LossTold. -/
import Derived.Test.YtgjibgklailenaaRows
import Derived.Test.YtgjibgklailenaaCoreMC
import Derived.Test.YtgjibgklailenaaLwMLT
set_option linter.unusedVariables false
set_option linter.unusedSimpArgs false
set_option linter.unnecessarySimpa false
namespace Go.Proofs.Ytgjibgklailenaa.lossTold
open Go GL Go.ChangeShapes Go.WideShapes Go.ChangeAt Go.RowKit
set_option linter.unusedVariables false

theorem own : ownKnob Try.prog.godebug = none := by kernel_rfl
theorem laidOut : laidOutB Try.prog = true := by kernel_rfl

set_option maxRecDepth 100000 in
theorem contract (H : Type) (enc : TypeId × Value → H) (W : World) (base : Nat) (args : Array Value) (ds gs : List (DataW H)) (before : List MemPlace)
    (hval : ∀ (j : Nat) t v, Try.f7.params[j]? = some t → args[j]? = some v → Value.okWide Try.prog W .any base t v)
    (hW : DataW.Whole enc Try.prog Try.f7.params.toList Rows.lossToldSpec.vars false W args.toList ds gs before) :
    Calls Try.prog 7 args W fun e W' => ∃ v, e = .returned v ∧ Rows.lossToldSpec.post enc Try.prog Try.f7 false true false false W args v W' := by
  have hW' := hW
  obtain ⟨p, q, hA0, hV, rfl, hfz, hnd⟩ := hW
  have hA : DataW.TrodAll enc Try.prog W 0 (fun _ => true) true Try.f7.params.toList args.toList ds p := hA0
  rw [Try.params7] at hA hval
  obtain ⟨v0, vs0, d0, ds0, p0, q0, e0, rfl, rfl, h0, r0⟩ := trodAll_cons hA
  obtain ⟨v1, vs1, d1, ds1, p1, q1, e1, rfl, rfl, h1, r1⟩ := trodAll_cons r0
  obtain ⟨v2, vs2, d2, ds2, p2, q2, e2, rfl, rfl, h2, r2⟩ := trodAll_cons r1
  obtain ⟨v3, vs3, d3, ds3, p3, q3, e3, rfl, rfl, h3, r3⟩ := trodAll_cons r2
  obtain ⟨v4, vs4, d4, ds4, p4, q4, e4, rfl, rfl, h4, r4⟩ := trodAll_cons r3
  obtain ⟨rfl, rfl, rfl⟩ := trodAll_nil r4
  subst e4
  subst e3
  subst e2
  subst e1
  obtain rfl : args = [v0, v1, v2, v3, v4].toArray := by cases args; simp_all
  obtain ⟨y0, w0, z0⟩ := open_arg (Ty.of (by kernel_rfl) : Ty Try.prog 24 (Config)) (OT.struct (fun y => Config.mk y.1 y.2.1 y.2.2.1 y.2.2.2.1 y.2.2.2.2.1 y.2.2.2.2.2) Try.underlying24 (by kernel_rfl) (OF.cons (OT.u32 Try.underlying22) rfl (by kernel_rfl) (OF.cons (OT.i64 Try.underlying3) rfl (by kernel_rfl) (OF.cons (OT.i64 Try.underlying3) rfl (by kernel_rfl) (OF.cons (OT.i64 Try.underlying3) rfl (by kernel_rfl) (OF.cons (OT.i64 Try.underlying3) rfl (by kernel_rfl) (OF.one (OT.i64 Try.underlying3) rfl (by kernel_rfl))))))) (fun _ => rfl)).h (hval 0 24 v0 rfl rfl) h0 (fun b off hm => hfz b off (by simp [hm]))
  obtain ⟨y1, w1, z1⟩ := open_arg (Ty.of (by kernel_rfl) : Ty Try.prog 60 (List Disk)) (OT.slice Try.underlying60 (by kernel_rfl) (by decide) (OT.struct (fun y => Disk.mk y.1 y.2.1 y.2.2) Try.underlying67 (by kernel_rfl) (OF.cons (OT.slice Try.underlying64 (by kernel_rfl) (by decide) (OT.slice Try.underlying56 (by kernel_rfl) (by decide) (OT.u8 Try.underlying5))) rfl (by kernel_rfl) (OF.cons (OT.slice Try.underlying65 (by kernel_rfl) (by decide) (OT.struct (fun y => Write.mk y.1 y.2) Try.underlying91 (by kernel_rfl) (OF.cons (OT.i64 Try.underlying3) rfl (by kernel_rfl) (OF.one (OT.slice Try.underlying56 (by kernel_rfl) (by decide) (OT.u8 Try.underlying5)) rfl (by kernel_rfl))) (fun _ => rfl))) rfl (by kernel_rfl) (OF.one (OT.bool Try.underlying4) rfl (by kernel_rfl)))) (fun _ => rfl))).h (hval 1 60 v1 rfl rfl) h1 (fun b off hm => hfz b off (by simp [hm]))
  obtain ⟨y2, w2, z2⟩ := open_arg (Ty.of (by kernel_rfl) : Ty Try.prog 26 (Loss)) (OT.struct (fun y => Loss.mk y.1 y.2.1 y.2.2.1 y.2.2.2.1 y.2.2.2.2.1 y.2.2.2.2.2.1 y.2.2.2.2.2.2) Try.underlying26 (by kernel_rfl) (OF.cons (OT.u32 Try.underlying22) rfl (by kernel_rfl) (OF.cons (OT.i64 Try.underlying3) rfl (by kernel_rfl) (OF.cons (OT.bool Try.underlying4) rfl (by kernel_rfl) (OF.cons (OT.i64 Try.underlying3) rfl (by kernel_rfl) (OF.cons (OT.i64 Try.underlying3) rfl (by kernel_rfl) (OF.cons (OT.bool Try.underlying4) rfl (by kernel_rfl) (OF.one (OT.bool Try.underlying4) rfl (by kernel_rfl)))))))) (fun _ => rfl)).h (hval 2 26 v2 rfl rfl) h2 (fun b off hm => hfz b off (by simp [hm]))
  obtain ⟨y3, w3, z3⟩ := open_arg (Ty.of (by kernel_rfl) : Ty Try.prog 4 (Bool)) (OT.bool Try.underlying4).h (hval 3 4 v3 rfl rfl) h3 (fun b off hm => hfz b off (by simp [hm]))
  obtain ⟨y4, w4, z4⟩ := open_arg (Ty.of (by kernel_rfl) : Ty Try.prog 3 (Int)) (OT.i64 Try.underlying3).h (hval 4 3 v4 rfl rfl) h4 (fun b off hm => hfz b off (by simp [hm]))
  have hm : law23_LossTold y0 y1 y2 y3 y4 = some true := told_true y0 y1 y2 y3 y4
  exact law_close (tb := 4) laidOut (by kernel_rfl) (by kernel_rfl) (by kernel_rfl) rfl (by
    intro ds hds
    have hds : ds.length = 5 := hds
    match ds, hds with
    | [c0, c1, c2, c3, c4], _ => rfl) hW' (law_calls (law23_LossTold_c y0 y1 y2 y3 y4 hm) (all2_cons z0 (all2_cons z1 (all2_cons z2 (all2_cons z3 (all2_cons z4 all2_nil))))))

set_option maxRecDepth 100000 in
theorem lifted (os : Os) (started : os.Started) (H : Type) (enc : TypeId × Value → H) :
    ReturnsInHanded {} Try.checked os 7 .any (Rows.lossToldSpec.pre6 enc Try.prog Try.f7 Rows.lossToldRow.domain false) (Rows.lossToldSpec.post enc Try.prog Try.f7 false true false false) := by
  refine returnsInHanded_of_change (C := Try.checked) own started (by kernel_rfl) Try.func7
    (ChangeSpec.witness6 (enc := enc) (C := Try.checked) false ⟨#[], #[.agg #[.int .u32 0, .int .i64 0, .int .i64 0, .int .i64 0, .int .i64 0, .int .i64 0], .slice none 0 0, .agg #[.int .u32 0, .int .i64 0, .bool false, .int .i64 0, .int .i64 0, .bool false, .bool false], .bool false, .int .i64 0], []⟩ 8 (by kernel_rfl) (by kernel_rfl) (by kernel_rfl) (by kernel_rfl)) ?_
  intro W base args ds gs before hval hW _ _
  exact contract H enc W base args ds gs before hval hW

theorem over : Rows.lossToldRow.holds Try.pinned (OpenSpec.ofChange Rows.lossToldSpec) :=
  OpenClaim.holds_of_wide 7 Try.f7 rfl rfl rfl rfl rfl rfl rfl ⟨rfl, rfl, rfl, rfl, rfl⟩ rfl rfl rfl rfl rfl (by kernel_rfl) Try.func7 (by kernel_rfl)
    (of_decide_eq_true (by kernel_rfl)) (by unfold Func.isWrapper; first | (rw [if_pos (by decide +kernel)]; kernel_rfl) | (rw [if_neg (by decide +kernel)]; exact ⟨rfl, rfl⟩))
    (fun os started H enc _ => lifted os started H enc)

theorem proved : Rows.LossToldSaid :=
  over
end Go.Proofs.Ytgjibgklailenaa.lossTold
