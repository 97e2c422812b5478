/- Proved here: the statement Rows.RedoTwiceSaid, of the Go function freeboard/freeboardlaw27.RedoTwice. -/
import Derived.Test.YtmlmlfghogoadaaRows
import Derived.Test.YtmlmlfghogoadaaCoreMC
import Derived.Test.YtmlmlfghogoadaaLwMRT
set_option linter.unusedVariables false
set_option linter.unusedSimpArgs false
set_option linter.unnecessarySimpa false
namespace Go.Proofs.Ytmlmlfghogoadaa.redoTwice
open Go GL Go.ChangeShapes Go.WideShapes Go.ChangeAt Go.RowKit
set_option linter.unusedVariables false

theorem own : ownKnob Try.prog.godebug = none := by kernel_rfl
theorem laidOut : laidOutB Try.prog = true := by kernel_rfl

set_option maxRecDepth 100000 in
theorem contract (H : Type) (enc : TypeId × Value → H) (W : World) (base : Nat) (args : Array Value) (ds gs : List (DataW H)) (before : List MemPlace)
    (hval : ∀ (j : Nat) t v, Try.f6.params[j]? = some t → args[j]? = some v → Value.okWide Try.prog W .any base t v)
    (hW : DataW.Whole enc Try.prog Try.f6.params.toList Rows.redoTwiceSpec.vars false W args.toList ds gs before) :
    Calls Try.prog 6 args W fun e W' => ∃ v, e = .returned v ∧ Rows.redoTwiceSpec.post enc Try.prog Try.f6 false true false false W args v W' := by
  have hW' := hW
  obtain ⟨p, q, hA0, hV, rfl, hfz, hnd⟩ := hW
  have hA : DataW.TrodAll enc Try.prog W 0 (fun _ => true) true Try.f6.params.toList args.toList ds p := hA0
  rw [Try.params6] at hA hval
  obtain ⟨v0, vs0, d0, ds0, p0, q0, e0, rfl, rfl, h0, r0⟩ := trodAll_cons hA
  obtain ⟨v1, vs1, d1, ds1, p1, q1, e1, rfl, rfl, h1, r1⟩ := trodAll_cons r0
  obtain ⟨v2, vs2, d2, ds2, p2, q2, e2, rfl, rfl, h2, r2⟩ := trodAll_cons r1
  obtain ⟨v3, vs3, d3, ds3, p3, q3, e3, rfl, rfl, h3, r3⟩ := trodAll_cons r2
  obtain ⟨v4, vs4, d4, ds4, p4, q4, e4, rfl, rfl, h4, r4⟩ := trodAll_cons r3
  obtain ⟨v5, vs5, d5, ds5, p5, q5, e5, rfl, rfl, h5, r5⟩ := trodAll_cons r4
  obtain ⟨rfl, rfl, rfl⟩ := trodAll_nil r5
  subst e5
  subst e4
  subst e3
  subst e2
  subst e1
  obtain rfl : args = [v0, v1, v2, v3, v4, v5].toArray := by cases args; simp_all
  obtain ⟨y0, w0, z0⟩ := open_arg (Ty.of (by kernel_rfl) : Ty Try.prog 30 (Config)) (OT.struct (fun y => Config.mk y.1 y.2.1 y.2.2.1 y.2.2.2.1 y.2.2.2.2.1 y.2.2.2.2.2) Try.underlying30 (by kernel_rfl) (OF.cons (OT.u32 Try.underlying28) rfl (by kernel_rfl) (OF.cons (OT.i64 Try.underlying3) rfl (by kernel_rfl) (OF.cons (OT.i64 Try.underlying3) rfl (by kernel_rfl) (OF.cons (OT.i64 Try.underlying3) rfl (by kernel_rfl) (OF.cons (OT.i64 Try.underlying3) rfl (by kernel_rfl) (OF.one (OT.i64 Try.underlying3) rfl (by kernel_rfl))))))) (fun _ => rfl)).h (hval 0 30 v0 rfl rfl) h0 (fun b off hm => hfz b off (by simp [hm]))
  obtain ⟨y1, w1, z1⟩ := open_arg (Ty.of (by kernel_rfl) : Ty Try.prog 33 (Loss)) (OT.struct (fun y => Loss.mk y.1 y.2.1 y.2.2.1 y.2.2.2.1 y.2.2.2.2.1 y.2.2.2.2.2.1 y.2.2.2.2.2.2) Try.underlying33 (by kernel_rfl) (OF.cons (OT.u32 Try.underlying28) rfl (by kernel_rfl) (OF.cons (OT.i64 Try.underlying3) rfl (by kernel_rfl) (OF.cons (OT.bool Try.underlying4) rfl (by kernel_rfl) (OF.cons (OT.i64 Try.underlying3) rfl (by kernel_rfl) (OF.cons (OT.i64 Try.underlying3) rfl (by kernel_rfl) (OF.cons (OT.bool Try.underlying4) rfl (by kernel_rfl) (OF.one (OT.bool Try.underlying4) rfl (by kernel_rfl)))))))) (fun _ => rfl)).h (hval 1 33 v1 rfl rfl) h1 (fun b off hm => hfz b off (by simp [hm]))
  obtain ⟨y2, w2, z2⟩ := open_arg (Ty.of (by kernel_rfl) : Ty Try.prog 43 (List Found)) (OT.slice Try.underlying43 (by kernel_rfl) (by decide) (OT.struct (fun y => Found.mk y.1 y.2.1 y.2.2) Try.underlying41 (by kernel_rfl) (OF.cons (OT.u32 Try.underlying28) rfl (by kernel_rfl) (OF.cons (OT.u32 Try.underlying28) rfl (by kernel_rfl) (OF.one (OT.struct (fun y => Deal.mk y.1 y.2.1 y.2.2.1 y.2.2.2) Try.underlying39 (by kernel_rfl) (OF.cons (OT.i64 Try.underlying3) rfl (by kernel_rfl) (OF.cons (OT.slice Try.underlying35 (by kernel_rfl) (by decide) (OT.i64 Try.underlying3)) rfl (by kernel_rfl) (OF.cons (OT.slice Try.underlying36 (by kernel_rfl) (by decide) (OT.slice Try.underlying37 (by kernel_rfl) (by decide) (OT.u8 Try.underlying5))) rfl (by kernel_rfl) (OF.one (OT.slice Try.underlying37 (by kernel_rfl) (by decide) (OT.u8 Try.underlying5)) rfl (by kernel_rfl))))) (fun _ => rfl)) rfl (by kernel_rfl)))) (fun _ => rfl))).h (hval 2 43 v2 rfl rfl) h2 (fun b off hm => hfz b off (by simp [hm]))
  obtain ⟨y3, w3, z3⟩ := open_arg (Ty.of (by kernel_rfl) : Ty Try.prog 49 (List Disk)) (OT.slice Try.underlying49 (by kernel_rfl) (by decide) (OT.struct (fun y => Disk.mk y.1 y.2.1 y.2.2) Try.underlying61 (by kernel_rfl) (OF.cons (OT.slice Try.underlying36 (by kernel_rfl) (by decide) (OT.slice Try.underlying37 (by kernel_rfl) (by decide) (OT.u8 Try.underlying5))) rfl (by kernel_rfl) (OF.cons (OT.slice Try.underlying59 (by kernel_rfl) (by decide) (OT.struct (fun y => Write.mk y.1 y.2) Try.underlying86 (by kernel_rfl) (OF.cons (OT.i64 Try.underlying3) rfl (by kernel_rfl) (OF.one (OT.slice Try.underlying37 (by kernel_rfl) (by decide) (OT.u8 Try.underlying5)) rfl (by kernel_rfl))) (fun _ => rfl))) rfl (by kernel_rfl) (OF.one (OT.bool Try.underlying4) rfl (by kernel_rfl)))) (fun _ => rfl))).h (hval 3 49 v3 rfl rfl) h3 (fun b off hm => hfz b off (by simp [hm]))
  obtain ⟨y4, w4, z4⟩ := open_arg (Ty.of (by kernel_rfl) : Ty Try.prog 3 (Int)) (OT.i64 Try.underlying3).h (hval 4 3 v4 rfl rfl) h4 (fun b off hm => hfz b off (by simp [hm]))
  obtain ⟨y5, w5, z5⟩ := open_arg (Ty.of (by kernel_rfl) : Ty Try.prog 64 (List Bool)) (OT.slice Try.underlying64 (by kernel_rfl) (by decide) (OT.bool Try.underlying4)).h (hval 5 64 v5 rfl rfl) h5 (fun b off hm => hfz b off (by simp [hm]))
  have hm : law27_RedoTwice y0 y1 y2 y3 y4 y5 = some true := redotwice_true y0 y1 y2 y3 y4 y5
  exact law_close (tb := 4) laidOut (by kernel_rfl) (by kernel_rfl) (by kernel_rfl) rfl (by
    intro ds hds
    have hds : ds.length = 6 := hds
    match ds, hds with
    | [c0, c1, c2, c3, c4, c5], _ => rfl) hW' (law_calls (law27_RedoTwice_c y0 y1 y2 y3 y4 y5 hm) (all2_cons z0 (all2_cons z1 (all2_cons z2 (all2_cons z3 (all2_cons z4 (all2_cons z5 all2_nil)))))))

set_option maxRecDepth 100000 in
theorem lifted (os : Os) (started : os.Started) (H : Type) (enc : TypeId × Value → H) :
    ReturnsInHanded {} Try.checked os 6 .any (Rows.redoTwiceSpec.pre6 enc Try.prog Try.f6 Rows.redoTwiceRow.domain false) (Rows.redoTwiceSpec.post enc Try.prog Try.f6 false true false false) := by
  refine returnsInHanded_of_change (C := Try.checked) own started (by kernel_rfl) Try.func6
    (ChangeSpec.witness6 (enc := enc) (C := Try.checked) false ⟨#[], #[.agg #[.int .u32 0, .int .i64 0, .int .i64 0, .int .i64 0, .int .i64 0, .int .i64 0], .agg #[.int .u32 0, .int .i64 0, .bool false, .int .i64 0, .int .i64 0, .bool false, .bool false], .slice none 0 0, .slice none 0 0, .int .i64 0, .slice none 0 0], []⟩ 8 (by kernel_rfl) (by kernel_rfl) (by kernel_rfl) (by kernel_rfl)) ?_
  intro W base args ds gs before hval hW _ _
  exact contract H enc W base args ds gs before hval hW

theorem over : Rows.redoTwiceRow.holds Try.pinned (OpenSpec.ofChange Rows.redoTwiceSpec) :=
  OpenClaim.holds_of_wide 6 Try.f6 rfl rfl rfl rfl rfl rfl rfl ⟨rfl, rfl, rfl, rfl, rfl⟩ rfl rfl rfl rfl rfl (by kernel_rfl) Try.func6 (by kernel_rfl)
    (of_decide_eq_true (by kernel_rfl)) (by unfold Func.isWrapper; first | (rw [if_pos (by decide +kernel)]; kernel_rfl) | (rw [if_neg (by decide +kernel)]; exact ⟨rfl, rfl⟩))
    (fun os started H enc _ => lifted os started H enc)

theorem proved : Rows.RedoTwiceSaid :=
  over
end Go.Proofs.Ytmlmlfghogoadaa.redoTwice
