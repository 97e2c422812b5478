/- Printed by a program of ours: models of functions, and that calls do what they say. -/
import Derived.Test.YthdeieeckjhfpaaGf1
namespace Go.Proofs.Ythdeieeckjhfpaa
open Go GL
set_option linter.unusedVariables false

def slices_MinFunc_api_Plan_api_Plan_J3 (s2 : Int) (j6 : UInt8) (j7 : List Int) : Option (Ctl (Int × UInt8 × (List Int)) (UInt8 × (List Int))) :=
  some (Ctl.next ((wI (s2 + (1 : Int))), j6, j7))
def slices_MinFunc_api_Plan_api_Plan_L2 (a0 : List Plan) (a1 : (Plan × Plan) → Option Int) (s2 : Int) (s3 : UInt8) (s4 : List Int) : Option (Ctl (Int × UInt8 × (List Int)) (UInt8 × (List Int))) :=
  (bif (decide (s2 < ((a0).length : Int))) then Option.bind (idx a0 s2) (fun x8 => Option.bind (a1 (x8, (Plan.mk s3 s4))) (fun x9 => (bif (decide (x9 < (0 : Int))) then Option.bind (idx a0 s2) (fun x10 => (slices_MinFunc_api_Plan_api_Plan_J3 s2 x10.Kind x10.Reads)) else (slices_MinFunc_api_Plan_api_Plan_J3 s2 s3 s4)))) else some (Ctl.brk (s3, s4)))
def slices_MinFunc_api_Plan_api_Plan_J1 (a0 : List Plan) (a1 : (Plan × Plan) → Option Int) : Option (Plan) :=
  Option.bind (idx a0 (0 : Int)) (fun x1 => Option.bind (loopM (fun s : Int × UInt8 × (List Int) => slices_MinFunc_api_Plan_api_Plan_L2 a0 a1 s.1 s.2.1 s.2.2) FUEL ((1 : Int), x1.Kind, x1.Reads)) (fun b11 => some (Plan.mk b11.1 b11.2)))
/-- slices.MinFunc[[]freeboard/api.Plan,freeboard/api.Plan] -/
def slices_MinFunc_api_Plan_api_Plan (a0 : List Plan) (a1 : (Plan × Plan) → Option Int) : Option (Plan) :=
  (bif (decide (((a0).length : Int) < (1 : Int))) then none else (slices_MinFunc_api_Plan_api_Plan_J1 a0 a1))
set_option maxRecDepth 100000 in
set_option maxHeartbeats 2000000 in
theorem slices_MinFunc_api_Plan_api_Plan_c (a0 : List Plan) (a1 : (Plan × Plan) → Option Int) {r : Plan} (hm : slices_MinFunc_api_Plan_api_Plan a0 a1 = some r) : Ctr Try.prog 21 [.rep 0 a0, .fn Try.prog pre2 0 a1] (.flds [(false, 1, (.fl r.Kind)), (false, 1, (.rep 0 r.Reads))]) [0] := by
 refine ctr_of_walk [[0]] 33 Try.func21 rfl rfl rfl rfl (fun w0 om => ?_)
 unfold slices_MinFunc_api_Plan_api_Plan at hm
 refine CWalk.sub (G' := [.fact 0 (Fact.rep [0] (a0 : List Plan)), .fact 1 (Fact.fn Try.prog pre2 [0] (a1))]) (sn (sn Sub.nil)) ?_
 refine CWalk.seq ?_
 refine CWalk.region ?_
 refine ws (Step.allocObj (ls := [(false, 1, Fact.rep [] ((0 : UInt8) : UInt8)), (false, 1, Fact.nilv)]) 10 rfl rfl rfl rfl zl33) ?_
 refine Walk.nil ?_
 refine Leaf.thenN ?_
 refine CWalk.seqJ (fun p : Unit => [.fact 0 (Fact.rep [0] (a0 : List Plan)), .fact 1 (Fact.fn Try.prog pre2 [0] (a1)), .fact 4 (Fact.isv 10), .fact 100011 (Fact.at 11 (Fact.rep [] ((0 : UInt8) : UInt8))), .fact 100012 (Fact.at 12 (Fact.nilv)), .fact 100010 (Fact.obj 10 [(false, 1), (false, 1)])]) (fun p : Unit => slices_MinFunc_api_Plan_api_Plan_J1 a0 a1 = some r) ?_ ?_
 ·rintro _ hm
  replace hm : slices_MinFunc_api_Plan_api_Plan_J1 a0 a1 = some r := hm
  unfold slices_MinFunc_api_Plan_api_Plan_J1 at hm
  show CWalk _ [.fact 0 (Fact.rep [0] (a0 : List Plan)), .fact 1 (Fact.fn Try.prog pre2 [0] (a1)), .fact 4 (Fact.isv 10), .fact 100011 (Fact.at 11 (Fact.rep [] ((0 : UInt8) : UInt8))), .fact 100012 (Fact.at 12 (Fact.nilv)), .fact 100010 (Fact.obj 10 [(false, 1), (false, 1)])] _ _
  refine CWalk.seq ?_
  refine CWalk.region ?_
  refine mv ?_
  obtain ⟨x1, hx1, hm⟩ := bind_some hm
  refine wo (Spec.indexAddr hx1 sl52 (Has.s rfl) Has.int) ?_
  refine wo (Spec.load ty33 (Has.s rfl)) ?_
  refine ws (Step.allocObj (ls := [(false, 1, Fact.rep [] ((0 : UInt8) : UInt8)), (false, 1, Fact.nilv)]) 13 rfl rfl rfl rfl zl33) ?_
  refine ws (Step.storeObj (ls := [(false, 1, Fact.rep [] (x1.Kind : UInt8)), (false, 1, Fact.rep [0] (x1.Reads : List Int))]) rfl ty33 rfl rfl (Has.s rfl) rfl (HasL.flds (Has.cv (Has.s rfl) (Cv.trans (Cv.opens (chPlan x1)) (Cv.flds (CvL.cons Cv.fl (CvL.cons Cv.refl CvL.nil)))))) rfl) ?_
  refine Walk.nil ?_
  refine Leaf.thenN ?_
  refine CWalk.seq ?_
  refine CWalk.seq ?_
  refine CWalk.region ?_
  refine wo (Spec.assign Has.int) ?_
  refine Walk.nil ?_
  refine Leaf.thenN ?_
  refine CWalk.block ?_
  obtain ⟨b11, hb11, hm⟩ := bind_some hm
  refine CWalk.loop (fun s : Int × UInt8 × (List Int) => [.fact 0 (Fact.rep [0] (a0 : List Plan)), .fact 1 (Fact.fn Try.prog pre2 [0] (a1)), .fact 4 (Fact.isv 10), .fact 5 (Fact.isv 13), .fact 6 (Fact.rep [] (s.1 : Int)), .fact 100011 (Fact.at 11 (Fact.rep [] ((0 : UInt8) : UInt8))), .fact 100012 (Fact.at 12 (Fact.nilv)), .fact 100014 (Fact.at 14 (Fact.rep [] (s.2.1 : UInt8))), .fact 100015 (Fact.at 15 (Fact.rep [0] (s.2.2 : List Int))), .fact 100010 (Fact.obj 10 [(false, 1), (false, 1)]), .fact 100013 (Fact.obj 13 [(false, 1), (false, 1)])]) (fun b : UInt8 × (List Int) => (Exit.exit 0, [.fact 4 (Fact.isv 10), .fact 5 (Fact.isv 13), .fact 100011 (Fact.at 11 (Fact.rep [] ((0 : UInt8) : UInt8))), .fact 100012 (Fact.at 12 (Fact.nilv)), .fact 100014 (Fact.at 14 (Fact.rep [] (b.1 : UInt8))), .fact 100015 (Fact.at 15 (Fact.rep [0] (b.2 : List Int))), .fact 100010 (Fact.obj 10 [(false, 1), (false, 1)]), .fact 100013 (Fact.obj 13 [(false, 1), (false, 1)])])) hb11 (su (sn (sn (sn (st (sf (sg (sf (sm (sn (sn Sub.nil))))))))))) ?_ ?_
  ·rintro ⟨s2, s3, s4⟩ c5 hm
   replace hm : slices_MinFunc_api_Plan_api_Plan_L2 a0 a1 s2 s3 s4 = some c5 := hm
   unfold slices_MinFunc_api_Plan_api_Plan_L2 at hm
   show CWalk _ [.fact 0 (Fact.rep [0] (a0 : List Plan)), .fact 1 (Fact.fn Try.prog pre2 [0] (a1)), .fact 4 (Fact.isv 10), .fact 5 (Fact.isv 13), .fact 6 (Fact.rep [] (s2 : Int)), .fact 100011 (Fact.at 11 (Fact.rep [] ((0 : UInt8) : UInt8))), .fact 100012 (Fact.at 12 (Fact.nilv)), .fact 100014 (Fact.at 14 (Fact.rep [] (s3 : UInt8))), .fact 100015 (Fact.at 15 (Fact.rep [0] (s4 : List Int))), .fact 100010 (Fact.obj 10 [(false, 1), (false, 1)]), .fact 100013 (Fact.obj 13 [(false, 1), (false, 1)])] _ _
   refine CWalk.seq ?_
   refine CWalk.seq ?_
   refine CWalk.region ?_
   refine mv ?_
   refine mv ?_
   refine wo (Spec.len (Has.s rfl) Try.underlying52) ?_
   refine wo (Spec.lssI (Has.s rfl) (Has.s rfl)) ?_
   refine Walk.nil ?_
   refine Leaf.thenN ?_
   refine CWalk.cond rfl (fun hb => ?_) (fun hb => ?_)
   ·have hm := cond_t hb hm
    refine CWalk.skip ?_
    refine Leaf.thenN ?_
    refine CWalk.seqJ (fun p : UInt8 × (List Int) => [.fact 0 (Fact.rep [0] (a0 : List Plan)), .fact 1 (Fact.fn Try.prog pre2 [0] (a1)), .fact 4 (Fact.isv 10), .fact 5 (Fact.isv 13), .fact 6 (Fact.rep [] (s2 : Int)), .fact 100011 (Fact.at 11 (Fact.rep [] ((0 : UInt8) : UInt8))), .fact 100012 (Fact.at 12 (Fact.nilv)), .fact 100014 (Fact.at 14 (Fact.rep [] (p.1 : UInt8))), .fact 100015 (Fact.at 15 (Fact.rep [0] (p.2 : List Int))), .fact 100010 (Fact.obj 10 [(false, 1), (false, 1)]), .fact 100013 (Fact.obj 13 [(false, 1), (false, 1)])]) (fun p : UInt8 × (List Int) => slices_MinFunc_api_Plan_api_Plan_J3 s2 p.1 p.2 = some c5) ?_ ?_
    ·rintro ⟨j6, j7⟩ hm
     replace hm : slices_MinFunc_api_Plan_api_Plan_J3 s2 j6 j7 = some c5 := hm
     unfold slices_MinFunc_api_Plan_api_Plan_J3 at hm
     show CWalk _ [.fact 0 (Fact.rep [0] (a0 : List Plan)), .fact 1 (Fact.fn Try.prog pre2 [0] (a1)), .fact 4 (Fact.isv 10), .fact 5 (Fact.isv 13), .fact 6 (Fact.rep [] (s2 : Int)), .fact 100011 (Fact.at 11 (Fact.rep [] ((0 : UInt8) : UInt8))), .fact 100012 (Fact.at 12 (Fact.nilv)), .fact 100014 (Fact.at 14 (Fact.rep [] (j6 : UInt8))), .fact 100015 (Fact.at 15 (Fact.rep [0] (j7 : List Int))), .fact 100010 (Fact.obj 10 [(false, 1), (false, 1)]), .fact 100013 (Fact.obj 13 [(false, 1), (false, 1)])] _ _
     refine CWalk.region ?_
     refine mv ?_
     refine wo (Spec.addI (Has.s rfl) Has.int) ?_
     refine wo (Spec.assign (Has.s rfl)) ?_
     refine Walk.nil ?_
     exact Leaf.next hm (su (sn (sn (sn (st (sf (sg (sf (sm (sn (sn Sub.nil)))))))))))
    ·refine CWalk.block ?_
     refine CWalk.seq ?_
     obtain ⟨x8, hx8, hm⟩ := bind_some hm
     obtain ⟨x9, hx9, hm⟩ := bind_some hm
     refine CWalk.drawM [[], [], [], [1, 2], [1, 2, 3], [], [0, 1, 2, 3, 4, 5], [0, 1, 2, 3, 4, 5, 6]] [[.fact 20 (Fact.fn Try.prog pre2 [0] (a1))], [.fact 21 (Fact.rep [0] (a0 : List Plan))], [.fact 22 (Fact.rep [] (s2 : Int))], [.fact 23 (Fact.ptr [0] (x8 : Plan))], [.fact 24 (Fact.rep [0] (x8 : Plan))], [.fact 25 (Fact.flds [(false, 1, Fact.rep [] (s3 : UInt8)), (false, 1, Fact.rep [0] (s4 : List Int))])], [.fact 26 (Fact.rep [] (x9 : Int))], [.fact 27 (Fact.rep [] ((decide (x9 < (0 : Int))) : Bool))]] mixed (by kernel_rfl) (ao (so (Spec.move (Has.s rfl))) (ao (so (Spec.move (Has.s rfl))) (ao (so (Spec.move (Has.s rfl))) (ao (so (Spec.indexAddr hx8 sl52 (Has.s rfl) (Has.s rfl))) (ao (so (Spec.load ty33 (Has.s rfl))) (ao (so (Spec.loadObj (ls := [(false, 1, Fact.rep [] (s3 : UInt8)), (false, 1, Fact.rep [0] (s4 : List Int))]) ty33 rfl rfl (Has.s rfl) rfl (HasGs.cons (HasG.s rfl) (HasGs.cons (HasG.s rfl) HasGs.nil)))) (ao (so (Spec.callFn (xs := [.tmp 24, .tmp 25]) (x := (x8, (Plan.mk s3 s4))) [0] 16 rfl hx9 (Has.s rfl) (HasAll.cons (Has.m (Has.s rfl) rfl) (HasAll.cons (Has.m (Has.cv (Has.s rfl) (Cv.trans (Cv.flds (CvL.cons Cv.fl (CvL.cons (Cv.m rfl) CvL.nil))) (Cv.close (T := [0]) (chPlan (Plan.mk s3 s4))))) rfl) HasAll.nil)))) (ao (so (Spec.lssI (Has.s rfl) Has.int)) AllM.nil)))))))) ?_
     refine Leaf.thenN ?_
     refine CWalk.cond rfl (fun hb => ?_) (fun hb => ?_)
     ·have hm := cond_t hb hm
      refine CWalk.region ?_
      refine mv ?_
      refine mv ?_
      obtain ⟨x10, hx10, hm⟩ := bind_some hm
      refine wo (Spec.indexAddr hx10 sl52 (Has.s rfl) (Has.s rfl)) ?_
      refine wo (Spec.load ty33 (Has.s rfl)) ?_
      refine ws (Step.storeObj (ls := [(false, 1, Fact.rep [] (x10.Kind : UInt8)), (false, 1, Fact.rep [0] (x10.Reads : List Int))]) rfl ty33 rfl rfl (Has.s rfl) rfl (HasL.flds (Has.cv (Has.s rfl) (Cv.trans (Cv.opens (chPlan x10)) (Cv.flds (CvL.cons Cv.fl (CvL.cons Cv.refl CvL.nil)))))) rfl) ?_
      refine Walk.nil ?_
      refine Leaf.blockN ?_
      exact Leaf.join (x10.Kind, x10.Reads) hm (su (sn (sn (sn (st (sf (sg (sf (sm (sn (sn Sub.nil)))))))))))
     ·have hm := cond_f hb hm
      refine CWalk.skip ?_
      refine Leaf.blockN ?_
      exact Leaf.join (s3, s4) hm (su (sn (sn (sn (st (sf (sg (sf (sm (sn (sn Sub.nil)))))))))))
   ·have hm := cond_f hb hm
    refine CWalk.exit ?_
    refine Leaf.thenE ?_
    exact Leaf.brk hm (fun h => nomatch h) rfl (sn (sn (sf (sg (sf (sm (sn (sn Sub.nil))))))))
  ·intro _
   refine Leaf.blockE ?_
   refine Leaf.thenN ?_
   refine CWalk.seq ?_
   refine CWalk.region ?_
   refine wo (Spec.loadObj (ls := [(false, 1, Fact.rep [] (b11.1 : UInt8)), (false, 1, Fact.rep [0] (b11.2 : List Int))]) ty33 rfl rfl (Has.s rfl) rfl (HasGs.cons (HasG.s rfl) (HasGs.cons (HasG.s rfl) HasGs.nil))) ?_
   refine ws (Step.storeObj (ls := [(false, 1, Fact.rep [] (b11.1 : UInt8)), (false, 1, Fact.rep [0] (b11.2 : List Int))]) rfl ty33 rfl rfl (Has.s rfl) rfl (HasL.flds (Has.s rfl)) rfl) ?_
   refine Walk.nil ?_
   refine Leaf.thenN ?_
   refine CWalk.ret ?_
   obtain rfl := Option.some.inj hm
   exact Leaf.retC1 rfl (HasR.cv (HasR.obj (ls := [(false, 1, Fact.rep [] (b11.1 : UInt8)), (false, 1, Fact.rep [0] (b11.2 : List Int))]) ty33 rfl rfl (Has.s rfl) rfl (HasGs.cons (HasG.s rfl) (HasGs.cons (HasG.s rfl) HasGs.nil))) (Cv.flds (CvL.cons Cv.fl (CvL.cons (Cv.m rfl) CvL.nil))))
 ·refine CWalk.seq ?_
  refine CWalk.region ?_
  refine mv ?_
  refine wo (Spec.len (Has.s rfl) Try.underlying52) ?_
  refine wo (Spec.lssI (Has.s rfl) Has.int) ?_
  refine Walk.nil ?_
  refine Leaf.thenN ?_
  refine CWalk.cond rfl (fun hb => ?_) (fun hb => ?_)
  ·have hm := cond_t hb hm
   refine CWalk.region ?_
   exact nomatch hm
  ·have hm := cond_f hb hm
   refine CWalk.skip ?_
   exact Leaf.join () hm (su (sn (sn (sf (sg (sn Sub.nil))))))

/-- cmp.isNaN[int] -/
def cmp_isNaN_int (a0 : Int) : Option (Bool) :=
  some (a0 != a0)
set_option maxRecDepth 100000 in
set_option maxHeartbeats 2000000 in
theorem cmp_isNaN_int_c (a0 : Int) {r : Bool} (hm : cmp_isNaN_int a0 = some r) : Ctr Try.prog 39 [.rep 0 a0] (.fl r) [] := by
 refine ctr_of_walk [[]] 6 Try.func39 rfl rfl rfl rfl (fun w0 om => ?_)
 unfold cmp_isNaN_int at hm
 refine CWalk.sub (G' := [.fact 0 (Fact.rep [] (a0 : Int))]) (Sub.cons (Has.fl (Has.s rfl)) Sub.nil) ?_
 refine CWalk.seq ?_
 refine CWalk.region ?_
 refine wo (Spec.assign Has.bool) ?_
 refine Walk.nil ?_
 refine Leaf.thenN ?_
 refine CWalk.seq ?_
 refine CWalk.region ?_
 refine mv ?_
 refine mv ?_
 refine wo (Spec.neqI (Has.s rfl) (Has.s rfl)) ?_
 refine wo (Spec.assign (Has.s rfl)) ?_
 refine Walk.nil ?_
 refine Leaf.thenN ?_
 refine CWalk.ret ?_
 obtain rfl := Option.some.inj hm
 exact Leaf.retC1 rfl (HasR.cv (HasR.tmp (Has.s rfl)) Cv.fl)

/-- cmp.Compare[int] -/
def cmp_Compare_int (a0 : Int) (a1 : Int) : Option (Int) :=
  Option.bind (cmp_isNaN_int a0) (fun x1 => Option.bind (cmp_isNaN_int a1) (fun x2 => (bif x1 then (bif x2 then some (0 : Int) else some (-1 : Int)) else (bif x2 then some (1 : Int) else (bif (decide (a0 < a1)) then some (-1 : Int) else (bif (decide (a0 > a1)) then some (1 : Int) else some (0 : Int)))))))
set_option maxRecDepth 100000 in
set_option maxHeartbeats 2000000 in
theorem cmp_Compare_int_c (a0 : Int) (a1 : Int) {r : Int} (hm : cmp_Compare_int a0 a1 = some r) : Ctr Try.prog 25 [.rep 0 a0, .rep 0 a1] (.fl r) [] := by
 refine ctr_of_walk [[]] 20 Try.func25 rfl rfl rfl rfl (fun w0 om => ?_)
 unfold cmp_Compare_int at hm
 refine CWalk.sub (G' := [.fact 0 (Fact.rep [] (a0 : Int)), .fact 1 (Fact.rep [] (a1 : Int))]) (Sub.cons (Has.fl (Has.s rfl)) (Sub.cons (Has.fl (Has.s rfl)) Sub.nil)) ?_
 refine CWalk.seq ?_
 refine CWalk.region ?_
 refine wo (Spec.assign Has.int) ?_
 refine Walk.nil ?_
 refine Leaf.thenN ?_
 refine CWalk.seq ?_
 refine CWalk.region ?_
 refine mv ?_
 obtain ⟨x1, hx1, hm⟩ := bind_some hm
 refine wo (f := Fact.rep [] (x1 : Bool)) (Spec.callE [] 10 rfl en39 (cmp_isNaN_int_c a0 hx1) (HasAll.cons (Has.fl (Has.s rfl)) HasAll.nil)) ?_
 refine wo (Spec.assign (Has.s rfl)) ?_
 refine Walk.nil ?_
 refine Leaf.thenN ?_
 refine CWalk.seq ?_
 refine CWalk.region ?_
 refine mv ?_
 obtain ⟨x2, hx2, hm⟩ := bind_some hm
 refine wo (f := Fact.rep [] (x2 : Bool)) (Spec.callE [] 11 rfl en39 (cmp_isNaN_int_c a1 hx2) (HasAll.cons (Has.fl (Has.s rfl)) HasAll.nil)) ?_
 refine wo (Spec.assign (Has.s rfl)) ?_
 refine Walk.nil ?_
 refine Leaf.thenN ?_
 refine CWalk.seq ?_
 refine CWalk.seq ?_
 refine CWalk.region ?_
 refine mv ?_
 refine Walk.nil ?_
 refine Leaf.thenN ?_
 refine CWalk.cond rfl (fun hb => ?_) (fun hb => ?_)
 ·have hm := cond_t hb hm
  refine CWalk.seq ?_
  refine CWalk.seq ?_
  refine CWalk.region ?_
  refine mv ?_
  refine Walk.nil ?_
  refine Leaf.thenN ?_
  refine CWalk.cond rfl (fun hb => ?_) (fun hb => ?_)
  ·have hm := cond_t hb hm
   refine CWalk.seq ?_
   refine CWalk.region ?_
   refine wo (Spec.assign Has.int) ?_
   refine Walk.nil ?_
   refine Leaf.thenN ?_
   refine CWalk.ret ?_
   refine Leaf.thenR ?_
   refine Leaf.thenR ?_
   obtain rfl := Option.some.inj hm
   exact Leaf.retC1 rfl (HasR.cv (HasR.tmp (Has.s rfl)) Cv.fl)
  ·have hm := cond_f hb hm
   refine CWalk.skip ?_
   refine Leaf.thenN ?_
   refine CWalk.seq ?_
   refine CWalk.region ?_
   refine wo (Spec.assign Has.int) ?_
   refine Walk.nil ?_
   refine Leaf.thenN ?_
   refine CWalk.ret ?_
   refine Leaf.thenR ?_
   obtain rfl := Option.some.inj hm
   exact Leaf.retC1 rfl (HasR.cv (HasR.tmp (Has.s rfl)) Cv.fl)
 ·have hm := cond_f hb hm
  refine CWalk.skip ?_
  refine Leaf.thenN ?_
  refine CWalk.seq ?_
  refine CWalk.seq ?_
  refine CWalk.region ?_
  refine mv ?_
  refine Walk.nil ?_
  refine Leaf.thenN ?_
  refine CWalk.cond rfl (fun hb => ?_) (fun hb => ?_)
  ·have hm := cond_t hb hm
   refine CWalk.seq ?_
   refine CWalk.region ?_
   refine wo (Spec.assign Has.int) ?_
   refine Walk.nil ?_
   refine Leaf.thenN ?_
   refine CWalk.ret ?_
   refine Leaf.thenR ?_
   obtain rfl := Option.some.inj hm
   exact Leaf.retC1 rfl (HasR.cv (HasR.tmp (Has.s rfl)) Cv.fl)
  ·have hm := cond_f hb hm
   refine CWalk.skip ?_
   refine Leaf.thenN ?_
   refine CWalk.seq ?_
   refine CWalk.seq ?_
   refine CWalk.region ?_
   refine mv ?_
   refine mv ?_
   refine wo (Spec.lssI (Has.s rfl) (Has.s rfl)) ?_
   refine Walk.nil ?_
   refine Leaf.thenN ?_
   refine CWalk.cond rfl (fun hb => ?_) (fun hb => ?_)
   ·have hm := cond_t hb hm
    refine CWalk.seq ?_
    refine CWalk.region ?_
    refine wo (Spec.assign Has.int) ?_
    refine Walk.nil ?_
    refine Leaf.thenN ?_
    refine CWalk.ret ?_
    refine Leaf.thenR ?_
    obtain rfl := Option.some.inj hm
    exact Leaf.retC1 rfl (HasR.cv (HasR.tmp (Has.s rfl)) Cv.fl)
   ·have hm := cond_f hb hm
    refine CWalk.skip ?_
    refine Leaf.thenN ?_
    refine CWalk.seq ?_
    refine CWalk.seq ?_
    refine CWalk.region ?_
    refine mv ?_
    refine mv ?_
    refine wo (Spec.gtrI (Has.s rfl) (Has.s rfl)) ?_
    refine Walk.nil ?_
    refine Leaf.thenN ?_
    refine CWalk.cond rfl (fun hb => ?_) (fun hb => ?_)
    ·have hm := cond_t hb hm
     refine CWalk.seq ?_
     refine CWalk.region ?_
     refine wo (Spec.assign Has.int) ?_
     refine Walk.nil ?_
     refine Leaf.thenN ?_
     refine CWalk.ret ?_
     refine Leaf.thenR ?_
     obtain rfl := Option.some.inj hm
     exact Leaf.retC1 rfl (HasR.cv (HasR.tmp (Has.s rfl)) Cv.fl)
    ·have hm := cond_f hb hm
     refine CWalk.skip ?_
     refine Leaf.thenN ?_
     refine CWalk.seq ?_
     refine CWalk.region ?_
     refine wo (Spec.assign Has.int) ?_
     refine Walk.nil ?_
     refine Leaf.thenN ?_
     refine CWalk.ret ?_
     obtain rfl := Option.some.inj hm
     exact Leaf.retC1 rfl (HasR.cv (HasR.tmp (Has.s rfl)) Cv.fl)

/-- freeboard/plan.Of$1 -/
def plan_Of_1 (a0 : Plan) (a1 : Plan) : Option (Int) :=
  Option.bind (cmp_Compare_int ((a0.Reads).length : Int) ((a1.Reads).length : Int)) (fun x1 => some x1)
set_option maxRecDepth 100000 in
set_option maxHeartbeats 2000000 in
theorem plan_Of_1_c (a0 : Plan) (a1 : Plan) {r : Int} (hm : plan_Of_1 a0 a1 = some r) : Ctr Try.prog 24 [.rep 0 a0, .rep 0 a1] (.fl r) [] := by
 refine ctr_of_walk [[]] 12 Try.func24 rfl rfl rfl rfl (fun w0 om => ?_)
 unfold plan_Of_1 at hm
 refine CWalk.sub (G' := [.fact 0 (Fact.rep [0] (a0 : Plan)), .fact 1 (Fact.rep [0] (a1 : Plan))]) (sn (sn Sub.nil)) ?_
 refine CWalk.seq ?_
 refine CWalk.region ?_
 refine ws (Step.boxObj (ls := [(false, 1, Fact.rep [] (a0.Kind : UInt8)), (false, 1, Fact.rep [0] (a0.Reads : List Int))]) 10 rfl rfl rfl rfl (HasL.flds (Has.cv (Has.s rfl) (Cv.trans (Cv.opens (chPlan a0)) (Cv.flds (CvL.cons Cv.fl (CvL.cons Cv.refl CvL.nil))))))) ?_
 refine ws (Step.boxObj (ls := [(false, 1, Fact.rep [] (a1.Kind : UInt8)), (false, 1, Fact.rep [0] (a1.Reads : List Int))]) 13 rfl rfl rfl rfl (HasL.flds (Has.cv (Has.s rfl) (Cv.trans (Cv.opens (chPlan a1)) (Cv.flds (CvL.cons Cv.fl (CvL.cons Cv.refl CvL.nil))))))) ?_
 refine wo (Spec.assign Has.int) ?_
 refine Walk.nil ?_
 refine Leaf.thenN ?_
 refine CWalk.seq ?_
 refine CWalk.region ?_
 refine wo (Spec.fieldAddrO fd33_1 (Has.cv (Has.s rfl) (Cv.isvP rfl))) ?_
 refine wo (Spec.loadF (i := 1) ty31 rfl (Has.s rfl) rfl (HasG.s rfl)) ?_
 refine wo (Spec.len (Has.s rfl) Try.underlying31) ?_
 refine wo (Spec.fieldAddrO fd33_1 (Has.cv (Has.s rfl) (Cv.isvP rfl))) ?_
 refine wo (Spec.loadF (i := 1) ty31 rfl (Has.s rfl) rfl (HasG.s rfl)) ?_
 refine wo (Spec.len (Has.s rfl) Try.underlying31) ?_
 obtain ⟨x1, hx1, hm⟩ := bind_some hm
 refine wo (f := Fact.rep [] (x1 : Int)) (Spec.callE [] 16 rfl en25 (cmp_Compare_int_c ((a0.Reads).length : Int) ((a1.Reads).length : Int) hx1) (HasAll.cons (Has.fl (Has.s rfl)) (HasAll.cons (Has.fl (Has.s rfl)) HasAll.nil))) ?_
 refine wo (Spec.assign (Has.s rfl)) ?_
 refine Walk.nil ?_
 refine Leaf.thenN ?_
 refine CWalk.ret ?_
 obtain rfl := Option.some.inj hm
 exact Leaf.retC1 rfl (HasR.cv (HasR.tmp (Has.s rfl)) Cv.fl)

def plan_Of_J2 (s3 : Int) (j7 : List Int) (j8 : List Int) : Option (Ctl (Int × (List Int) × (List Int)) ((List Int) × (List Int))) :=
  some (Ctl.next ((wI (s3 + (1 : Int))), j7, j8))
def plan_Of_J3 (a1 : Head) (s3 : Int) (s4 : List Int) (j10 : List Int) : Option (Ctl (Int × (List Int) × (List Int)) ((List Int) × (List Int))) :=
  Option.bind (idx a1.Blocks s3) (fun x11 => (bif (((x11).length : Int) == (0 : Int)) then Option.bind (app s4 ([s3])) (fun x12 => (plan_Of_J2 s3 x12 j10)) else (plan_Of_J2 s3 s4 j10)))
def plan_Of_L1 (a1 : Head) (s3 : Int) (s4 : List Int) (s5 : List Int) : Option (Ctl (Int × (List Int) × (List Int)) ((List Int) × (List Int))) :=
  (bif (decide (s3 < ((a1.Dirty).length : Int))) then Option.bind (idx a1.Dirty s3) (fun x9 => (bif x9 then Option.bind (app s5 ([s3])) (fun x13 => (plan_Of_J3 a1 s3 s4 x13)) else (plan_Of_J3 a1 s3 s4 s5))) else some (Ctl.brk (s4, s5)))
/-- freeboard/plan.Of -/
def plan_Of (a0 : Config) (a1 : Head) (a2 : Int) : Option (Plan × Int) :=
  Option.bind (head_Check a0 a1) (fun x1 => (bif (x1 != (0 : Int)) then some ((Plan.mk (0 : UInt8) ([] : List Int)), x1) else (bif ((decide (a2 < (-1 : Int))) || (decide (a2 ≥ a0.Members))) then some ((Plan.mk (0 : UInt8) ([] : List Int)), (2 : Int)) else Option.bind (gO (!(a1.Phase != (0 : UInt8))) (slices_Contains_bool_bool a1.Dirty true)) (fun x2 => (bif ((a1.Phase != (0 : UInt8)) || (!x2)) then some ((Plan.mk (0 : UInt8) ([] : List Int)), (6 : Int)) else Option.bind (loopM (fun s : Int × (List Int) × (List Int) => plan_Of_L1 a1 s.1 s.2.1 s.2.2) FUEL ((0 : Int), ([] : List Int), ([] : List Int))) (fun b14 => (bif (((b14.1).length : Int) == (0 : Int)) then some ((Plan.mk (1 : UInt8) ([] : List Int)), (0 : Int)) else Option.bind (app b14.2 ([(wI (a0.Members - (1 : Int)))])) (fun x15 => Option.bind (plan_lost a0 a1.Stripe a2) (fun x16 => Option.bind (plan_some x16 ([(Plan.mk (2 : UInt8) b14.1), (Plan.mk (3 : UInt8) x15)])) (fun x17 => Option.bind (slices_MinFunc_api_Plan_api_Plan x17 (fun y => plan_Of_1 y.1 y.2)) (fun x18 => some (x18, (0 : Int)))))))))))))
set_option maxRecDepth 100000 in
set_option maxHeartbeats 2000000 in
theorem plan_Of_c (a0 : Config) (a1 : Head) (a2 : Int) {r : Plan × Int} (hm : plan_Of a0 a1 a2 = some r) : Ctr Try.prog 9 [.rep 0 a0, .rep 0 a1, .rep 0 a2] (.tup2 (.flds [(false, 1, (.fl r.1.Kind)), (false, 1, (.rep 0 r.1.Reads))]) (.fl r.2)) [] := by
 refine ctr_of_walk [[36, 38, 41, 42, 43, 44]] 95 Try.func9 rfl rfl rfl rfl (fun w0 om => ?_)
 unfold plan_Of at hm
 refine CWalk.sub (G' := [.fact 0 (Fact.rep [] (a0 : Config)), .fact 1 (Fact.rep [0] (a1 : Head)), .fact 2 (Fact.rep [] (a2 : Int))]) (Sub.cons (Has.fl (Has.s rfl)) (sn (Sub.cons (Has.fl (Has.s rfl)) Sub.nil))) ?_
 refine CWalk.seq ?_
 refine CWalk.region ?_
 refine ws (Step.boxObj (ls := [(false, 1, Fact.rep [] (a0.Id : UInt32)), (false, 1, Fact.rep [] (a0.Members : Int)), (false, 1, Fact.rep [] (a0.Chunk : Int)), (false, 1, Fact.rep [] (a0.Rows : Int)), (false, 1, Fact.rep [] (a0.Log : Int)), (false, 1, Fact.rep [] (a0.Heads : Int))]) 10 rfl rfl rfl rfl (HasL.flds (Has.cv (Has.s rfl) (Cv.trans (Cv.opens (chConfig a0)) (Cv.flds (CvL.cons Cv.fl (CvL.cons Cv.fl (CvL.cons Cv.fl (CvL.cons Cv.fl (CvL.cons Cv.fl (CvL.cons Cv.fl CvL.nil))))))))))) ?_
 refine ws (Step.boxObj (ls := [(false, 1, Fact.rep [] (a1.Stripe : Int)), (false, 1, Fact.rep [0] (a1.Blocks : List (List UInt8))), (false, 1, Fact.rep [0] (a1.Dirty : List Bool)), (false, 1, Fact.rep [] (a1.Phase : UInt8)), (false, 1, Fact.rep [] (a1.Deals : Bool)), (false, 1, Fact.rep [] (a1.Seq : UInt32))]) 17 rfl rfl rfl rfl (HasL.flds (Has.cv (Has.s rfl) (Cv.trans (Cv.opens (chHead a1)) (Cv.flds (CvL.cons Cv.fl (CvL.cons Cv.refl (CvL.cons Cv.refl (CvL.cons Cv.fl (CvL.cons Cv.fl (CvL.cons Cv.fl CvL.nil))))))))))) ?_
 refine ws (Step.allocObj (ls := [(false, 1, Fact.rep [] ((0 : UInt8) : UInt8)), (false, 1, Fact.nilv)]) 24 rfl rfl rfl rfl zl33) ?_
 refine wo (Spec.assign Has.int) ?_
 refine Walk.nil ?_
 refine Leaf.thenN ?_
 refine CWalk.seq ?_
 refine CWalk.seq ?_
 refine CWalk.region ?_
 refine wo (Spec.loadObj (ls := [(false, 1, Fact.rep [] (a0.Id : UInt32)), (false, 1, Fact.rep [] (a0.Members : Int)), (false, 1, Fact.rep [] (a0.Chunk : Int)), (false, 1, Fact.rep [] (a0.Rows : Int)), (false, 1, Fact.rep [] (a0.Log : Int)), (false, 1, Fact.rep [] (a0.Heads : Int))]) ty24 rfl rfl (Has.s rfl) rfl (HasGs.cons (HasG.s rfl) (HasGs.cons (HasG.s rfl) (HasGs.cons (HasG.s rfl) (HasGs.cons (HasG.s rfl) (HasGs.cons (HasG.s rfl) (HasGs.cons (HasG.s rfl) HasGs.nil))))))) ?_
 refine wo (Spec.loadObj (ls := [(false, 1, Fact.rep [] (a1.Stripe : Int)), (false, 1, Fact.rep [0] (a1.Blocks : List (List UInt8))), (false, 1, Fact.rep [0] (a1.Dirty : List Bool)), (false, 1, Fact.rep [] (a1.Phase : UInt8)), (false, 1, Fact.rep [] (a1.Deals : Bool)), (false, 1, Fact.rep [] (a1.Seq : UInt32))]) ty28 rfl rfl (Has.s rfl) rfl (HasGs.cons (HasG.s rfl) (HasGs.cons (HasG.s rfl) (HasGs.cons (HasG.s rfl) (HasGs.cons (HasG.s rfl) (HasGs.cons (HasG.s rfl) (HasGs.cons (HasG.s rfl) HasGs.nil))))))) ?_
 obtain ⟨x1, hx1, hm⟩ := bind_some hm
 refine wo (f := Fact.rep [] (x1 : Int)) (Spec.callE [0] 27 rfl en17 (head_Check_c a0 a1 hx1) (HasAll.cons (Has.fl (Has.cv (Has.s rfl) (Cv.trans (Cv.flds (CvL.cons Cv.fl (CvL.cons Cv.fl (CvL.cons Cv.fl (CvL.cons Cv.fl (CvL.cons Cv.fl (CvL.cons Cv.fl CvL.nil))))))) (Cv.close (T := []) (chConfig a0))))) (HasAll.cons (Has.m (Has.cv (Has.s rfl) (Cv.trans (Cv.flds (CvL.cons Cv.fl (CvL.cons (Cv.m rfl) (CvL.cons (Cv.m rfl) (CvL.cons Cv.fl (CvL.cons Cv.fl (CvL.cons Cv.fl CvL.nil))))))) (Cv.close (T := [0]) (chHead a1)))) rfl) HasAll.nil))) ?_
 refine wo (Spec.assign (Has.s rfl)) ?_
 refine Walk.nil ?_
 refine Leaf.thenN ?_
 refine CWalk.seq ?_
 refine CWalk.region ?_
 refine mv ?_
 refine wo (Spec.neqI (Has.s rfl) Has.int) ?_
 refine Walk.nil ?_
 refine Leaf.thenN ?_
 refine CWalk.cond rfl (fun hb => ?_) (fun hb => ?_)
 ·have hm := cond_t hb hm
  refine CWalk.seq ?_
  refine CWalk.region ?_
  refine wo (Spec.build (us := []) (ls' := [(false, 1, Fact.rep [] ((0 : UInt8) : UInt8)), (false, 1, Fact.nilv)]) bd33 rfl BP.nil) ?_
  refine mv ?_
  refine ws (Step.storeObj (ls := [(false, 1, Fact.rep [] ((0 : UInt8) : UInt8)), (false, 1, Fact.nilv)]) rfl ty33 rfl rfl (Has.s rfl) rfl (HasL.flds (Has.s rfl)) rfl) ?_
  refine wo (Spec.assign (Has.s rfl)) ?_
  refine Walk.nil ?_
  refine Leaf.thenN ?_
  refine CWalk.ret ?_
  refine Leaf.thenR ?_
  obtain rfl := Option.some.inj hm
  exact Leaf.retC2 rfl (HasR.cv (HasR.obj (ls := [(false, 1, Fact.rep [] ((0 : UInt8) : UInt8)), (false, 1, Fact.nilv)]) ty33 rfl rfl (Has.s rfl) rfl (HasGs.cons (HasG.s rfl) (HasGs.cons (HasG.s rfl) HasGs.nil))) (Cv.flds (CvL.cons Cv.fl (CvL.cons (Cv.trans (Cv.nil (T := [])) (Cv.m rfl)) CvL.nil)))) (HasR.cv (HasR.tmp (Has.s rfl)) Cv.fl)
 ·have hm := cond_f hb hm
  refine CWalk.skip ?_
  refine Leaf.thenN ?_
  refine CWalk.seq ?_
  refine CWalk.seq ?_
  refine CWalk.region ?_
  refine mv ?_
  refine wo (Spec.lssI (Has.s rfl) Has.int) ?_
  refine mv ?_
  refine wg rfl rfl (fun hb => Spec.move (Has.s rfl)) ?_
  refine wg rfl rfl (fun hb => Spec.fieldAddrO fd24_1 (Has.cv (Has.s rfl) (Cv.isvP rfl))) ?_
  refine wg rfl rfl (fun hb => Spec.loadF (i := 1) ty3 rfl (Has.u rfl hb) rfl (HasG.s rfl)) ?_
  refine wg rfl rfl (fun hb => Spec.geqI (Has.u rfl hb) (Has.u rfl hb)) ?_
  refine wo (Spec.or (Has.s rfl) (fun h => Has.u rfl h)) ?_
  refine Walk.nil ?_
  refine Leaf.thenN ?_
  refine CWalk.cond rfl (fun hb => ?_) (fun hb => ?_)
  ·have hm := cond_t hb hm
   refine CWalk.seq ?_
   refine CWalk.region ?_
   refine wo (Spec.build (us := []) (ls' := [(false, 1, Fact.rep [] ((0 : UInt8) : UInt8)), (false, 1, Fact.nilv)]) bd33 rfl BP.nil) ?_
   refine ws (Step.storeObj (ls := [(false, 1, Fact.rep [] ((0 : UInt8) : UInt8)), (false, 1, Fact.nilv)]) rfl ty33 rfl rfl (Has.s rfl) rfl (HasL.flds (Has.s rfl)) rfl) ?_
   refine wo (Spec.assign Has.int) ?_
   refine Walk.nil ?_
   refine Leaf.thenN ?_
   refine CWalk.ret ?_
   refine Leaf.thenR ?_
   obtain rfl := Option.some.inj hm
   exact Leaf.retC2 rfl (HasR.cv (HasR.obj (ls := [(false, 1, Fact.rep [] ((0 : UInt8) : UInt8)), (false, 1, Fact.nilv)]) ty33 rfl rfl (Has.s rfl) rfl (HasGs.cons (HasG.s rfl) (HasGs.cons (HasG.s rfl) HasGs.nil))) (Cv.flds (CvL.cons Cv.fl (CvL.cons (Cv.trans (Cv.nil (T := [])) (Cv.m rfl)) CvL.nil)))) (HasR.cv (HasR.tmp (Has.s rfl)) Cv.fl)
  ·have hm := cond_f hb hm
   refine CWalk.skip ?_
   refine Leaf.thenN ?_
   refine CWalk.seq ?_
   refine CWalk.seq ?_
   refine CWalk.region ?_
   refine wo (Spec.fieldAddrO fd28_3 (Has.cv (Has.s rfl) (Cv.isvP rfl))) ?_
   refine wo (Spec.loadF (i := 3) ty5 rfl (Has.s rfl) rfl (HasG.s rfl)) ?_
   refine wo (Spec.neqB (Has.s rfl) (Has.u8 0 rfl)) ?_
   refine mv ?_
   refine wg rfl rfl (fun hb => Spec.fieldAddrO fd28_2 (Has.cv (Has.s rfl) (Cv.isvP rfl))) ?_
   refine wg rfl rfl (fun hb => Spec.loadF (i := 2) ty26 rfl (Has.u rfl hb) rfl (HasG.s rfl)) ?_
   obtain ⟨x2, hx2, hm⟩ := bind_some hm
   refine wg (f := Fact.rep [] (x2 : Bool)) rfl rfl (fun hb => Spec.callE [0] 28 rfl en20 (slices_Contains_bool_bool_c a1.Dirty true (gO_t hx2 (not_t hb))) (HasAll.cons (Has.m (Has.u rfl hb) rfl) (HasAll.cons (Has.fl Has.bool) HasAll.nil))) ?_
   refine wg rfl rfl (fun hb => Spec.not (Has.u rfl hb)) ?_
   refine wo (Spec.or (Has.s rfl) (fun h => Has.u rfl h)) ?_
   refine Walk.nil ?_
   refine Leaf.thenN ?_
   refine CWalk.cond rfl (fun hb => ?_) (fun hb => ?_)
   ·have hm := cond_t hb hm
    refine CWalk.seq ?_
    refine CWalk.region ?_
    refine wo (Spec.build (us := []) (ls' := [(false, 1, Fact.rep [] ((0 : UInt8) : UInt8)), (false, 1, Fact.nilv)]) bd33 rfl BP.nil) ?_
    refine ws (Step.storeObj (ls := [(false, 1, Fact.rep [] ((0 : UInt8) : UInt8)), (false, 1, Fact.nilv)]) rfl ty33 rfl rfl (Has.s rfl) rfl (HasL.flds (Has.s rfl)) rfl) ?_
    refine wo (Spec.assign Has.int) ?_
    refine Walk.nil ?_
    refine Leaf.thenN ?_
    refine CWalk.ret ?_
    refine Leaf.thenR ?_
    obtain rfl := Option.some.inj hm
    exact Leaf.retC2 rfl (HasR.cv (HasR.obj (ls := [(false, 1, Fact.rep [] ((0 : UInt8) : UInt8)), (false, 1, Fact.nilv)]) ty33 rfl rfl (Has.s rfl) rfl (HasGs.cons (HasG.s rfl) (HasGs.cons (HasG.s rfl) HasGs.nil))) (Cv.flds (CvL.cons Cv.fl (CvL.cons (Cv.trans (Cv.nil (T := [])) (Cv.m rfl)) CvL.nil)))) (HasR.cv (HasR.tmp (Has.s rfl)) Cv.fl)
   ·have hm := cond_f hb hm
    refine CWalk.skip ?_
    refine Leaf.thenN ?_
    refine CWalk.seq ?_
    refine CWalk.region ?_
    refine wo (Spec.build (us := [(0, .const (.int .u8 2))]) (ls' := [(false, 1, Fact.rep [] ((2 : UInt8) : UInt8)), (false, 1, Fact.nilv)]) bd33 rfl (BP.cons rfl rfl (Has.u8 2 rfl) (Has.u8 2 rfl) BP.nil)) ?_
    refine wo (Spec.build (us := [(0, .const (.int .u8 3))]) (ls' := [(false, 1, Fact.rep [] ((3 : UInt8) : UInt8)), (false, 1, Fact.nilv)]) bd33 rfl (BP.cons rfl rfl (Has.u8 3 rfl) (Has.u8 3 rfl) BP.nil)) ?_
    refine ws (Step.allocObj (ls := [(false, 1, Fact.rep [] ((0 : UInt8) : UInt8)), (false, 1, Fact.nilv)]) 29 rfl rfl rfl rfl zl33) ?_
    refine ws (Step.allocObj (ls := [(false, 1, Fact.rep [] ((0 : UInt8) : UInt8)), (false, 1, Fact.nilv)]) 32 rfl rfl rfl rfl zl33) ?_
    refine ws (Step.storeObj (ls := [(false, 1, Fact.rep [] ((2 : UInt8) : UInt8)), (false, 1, Fact.nilv)]) rfl ty33 rfl rfl (Has.s rfl) rfl (HasL.flds (Has.s rfl)) rfl) ?_
    refine ws (Step.storeObj (ls := [(false, 1, Fact.rep [] ((3 : UInt8) : UInt8)), (false, 1, Fact.nilv)]) rfl ty33 rfl rfl (Has.s rfl) rfl (HasL.flds (Has.s rfl)) rfl) ?_
    refine Walk.nil ?_
    refine Leaf.thenN ?_
    refine CWalk.seq ?_
    refine CWalk.seq ?_
    refine CWalk.region ?_
    refine wo (Spec.fieldAddrO fd28_2 (Has.cv (Has.s rfl) (Cv.isvP rfl))) ?_
    refine wo (Spec.loadF (i := 2) ty26 rfl (Has.s rfl) rfl (HasG.s rfl)) ?_
    refine wo (Spec.len (Has.s rfl) Try.underlying26) ?_
    refine wo (Spec.move Has.int) ?_
    refine Walk.nil ?_
    refine Leaf.thenN ?_
    refine CWalk.block ?_
    obtain ⟨b14, hb14, hm⟩ := bind_some hm
    refine CWalk.loop (fun s : Int × (List Int) × (List Int) => [.fact 2 (Fact.rep [] (a2 : Int)), .fact 3 (Fact.isv 10), .fact 4 (Fact.isv 17), .fact 6 (Fact.isv 24), .fact 9 (Fact.isv 29), .fact 10 (Fact.isv 32), .fact 43 (Fact.rep [0] (a1.Dirty : List Bool)), .fact 44 (Fact.rep [] (((a1.Dirty).length : Int) : Int)), .fact 45 (Fact.rep [] (s.1 : Int)), .fact 100011 (Fact.at 11 (Fact.rep [] (a0.Id : UInt32))), .fact 100012 (Fact.at 12 (Fact.rep [] (a0.Members : Int))), .fact 100013 (Fact.at 13 (Fact.rep [] (a0.Chunk : Int))), .fact 100014 (Fact.at 14 (Fact.rep [] (a0.Rows : Int))), .fact 100015 (Fact.at 15 (Fact.rep [] (a0.Log : Int))), .fact 100016 (Fact.at 16 (Fact.rep [] (a0.Heads : Int))), .fact 100018 (Fact.at 18 (Fact.rep [] (a1.Stripe : Int))), .fact 100019 (Fact.at 19 (Fact.rep [0] (a1.Blocks : List (List UInt8)))), .fact 100020 (Fact.at 20 (Fact.rep [0] (a1.Dirty : List Bool))), .fact 100021 (Fact.at 21 (Fact.rep [] (a1.Phase : UInt8))), .fact 100022 (Fact.at 22 (Fact.rep [] (a1.Deals : Bool))), .fact 100023 (Fact.at 23 (Fact.rep [] (a1.Seq : UInt32))), .fact 100025 (Fact.at 25 (Fact.rep [] ((0 : UInt8) : UInt8))), .fact 100026 (Fact.at 26 (Fact.nilv)), .fact 100030 (Fact.at 30 (Fact.rep [] ((2 : UInt8) : UInt8))), .fact 100031 (Fact.at 31 (Fact.ow [38] [] 3 (s.2.1 : List Int))), .fact 100033 (Fact.at 33 (Fact.rep [] ((3 : UInt8) : UInt8))), .fact 100034 (Fact.at 34 (Fact.ow [36] [] 3 (s.2.2 : List Int))), .fact 100010 (Fact.obj 10 [(false, 1), (false, 1), (false, 1), (false, 1), (false, 1), (false, 1)]), .fact 100017 (Fact.obj 17 [(false, 1), (false, 1), (false, 1), (false, 1), (false, 1), (false, 1)]), .fact 100024 (Fact.obj 24 [(false, 1), (false, 1)]), .fact 100029 (Fact.obj 29 [(false, 1), (false, 1)]), .fact 100032 (Fact.obj 32 [(false, 1), (false, 1)])]) (fun b : (List Int) × (List Int) => (Exit.exit 0, [.fact 2 (Fact.rep [] (a2 : Int)), .fact 3 (Fact.isv 10), .fact 4 (Fact.isv 17), .fact 6 (Fact.isv 24), .fact 9 (Fact.isv 29), .fact 10 (Fact.isv 32), .fact 100011 (Fact.at 11 (Fact.rep [] (a0.Id : UInt32))), .fact 100012 (Fact.at 12 (Fact.rep [] (a0.Members : Int))), .fact 100013 (Fact.at 13 (Fact.rep [] (a0.Chunk : Int))), .fact 100014 (Fact.at 14 (Fact.rep [] (a0.Rows : Int))), .fact 100015 (Fact.at 15 (Fact.rep [] (a0.Log : Int))), .fact 100016 (Fact.at 16 (Fact.rep [] (a0.Heads : Int))), .fact 100018 (Fact.at 18 (Fact.rep [] (a1.Stripe : Int))), .fact 100019 (Fact.at 19 (Fact.rep [0] (a1.Blocks : List (List UInt8)))), .fact 100020 (Fact.at 20 (Fact.rep [0] (a1.Dirty : List Bool))), .fact 100021 (Fact.at 21 (Fact.rep [] (a1.Phase : UInt8))), .fact 100022 (Fact.at 22 (Fact.rep [] (a1.Deals : Bool))), .fact 100023 (Fact.at 23 (Fact.rep [] (a1.Seq : UInt32))), .fact 100025 (Fact.at 25 (Fact.rep [] ((0 : UInt8) : UInt8))), .fact 100026 (Fact.at 26 (Fact.nilv)), .fact 100030 (Fact.at 30 (Fact.rep [] ((2 : UInt8) : UInt8))), .fact 100031 (Fact.at 31 (Fact.ow [38] [] 3 (b.1 : List Int))), .fact 100033 (Fact.at 33 (Fact.rep [] ((3 : UInt8) : UInt8))), .fact 100034 (Fact.at 34 (Fact.ow [36] [] 3 (b.2 : List Int))), .fact 100010 (Fact.obj 10 [(false, 1), (false, 1), (false, 1), (false, 1), (false, 1), (false, 1)]), .fact 100017 (Fact.obj 17 [(false, 1), (false, 1), (false, 1), (false, 1), (false, 1), (false, 1)]), .fact 100024 (Fact.obj 24 [(false, 1), (false, 1)]), .fact 100029 (Fact.obj 29 [(false, 1), (false, 1)]), .fact 100032 (Fact.obj 32 [(false, 1), (false, 1)])])) hb14 (st (sn (sn (sn (sn (sn (su (st (st (sf (sf (sf (sf (sf (sf (sf (sm (sm (sf (sf (sf (sf (sg (sf (Sub.cons (Has.at (HasG.cv (HasG.s rfl) (Cv.trans Cv.nilOw (Cv.owF (T := []) (te := []) rfl)))) (sf (Sub.cons (Has.at (HasG.cv (HasG.s rfl) (Cv.trans Cv.nilOw (Cv.owF (T := []) (te := []) rfl)))) (sn (sn (sn (sn (sn Sub.nil)))))))))))))))))))))))))))))))) ?_ ?_
    ·rintro ⟨s3, s4, s5⟩ c6 hm
     replace hm : plan_Of_L1 a1 s3 s4 s5 = some c6 := hm
     unfold plan_Of_L1 at hm
     show CWalk _ [.fact 2 (Fact.rep [] (a2 : Int)), .fact 3 (Fact.isv 10), .fact 4 (Fact.isv 17), .fact 6 (Fact.isv 24), .fact 9 (Fact.isv 29), .fact 10 (Fact.isv 32), .fact 43 (Fact.rep [0] (a1.Dirty : List Bool)), .fact 44 (Fact.rep [] (((a1.Dirty).length : Int) : Int)), .fact 45 (Fact.rep [] (s3 : Int)), .fact 100011 (Fact.at 11 (Fact.rep [] (a0.Id : UInt32))), .fact 100012 (Fact.at 12 (Fact.rep [] (a0.Members : Int))), .fact 100013 (Fact.at 13 (Fact.rep [] (a0.Chunk : Int))), .fact 100014 (Fact.at 14 (Fact.rep [] (a0.Rows : Int))), .fact 100015 (Fact.at 15 (Fact.rep [] (a0.Log : Int))), .fact 100016 (Fact.at 16 (Fact.rep [] (a0.Heads : Int))), .fact 100018 (Fact.at 18 (Fact.rep [] (a1.Stripe : Int))), .fact 100019 (Fact.at 19 (Fact.rep [0] (a1.Blocks : List (List UInt8)))), .fact 100020 (Fact.at 20 (Fact.rep [0] (a1.Dirty : List Bool))), .fact 100021 (Fact.at 21 (Fact.rep [] (a1.Phase : UInt8))), .fact 100022 (Fact.at 22 (Fact.rep [] (a1.Deals : Bool))), .fact 100023 (Fact.at 23 (Fact.rep [] (a1.Seq : UInt32))), .fact 100025 (Fact.at 25 (Fact.rep [] ((0 : UInt8) : UInt8))), .fact 100026 (Fact.at 26 (Fact.nilv)), .fact 100030 (Fact.at 30 (Fact.rep [] ((2 : UInt8) : UInt8))), .fact 100031 (Fact.at 31 (Fact.ow [38] [] 3 (s4 : List Int))), .fact 100033 (Fact.at 33 (Fact.rep [] ((3 : UInt8) : UInt8))), .fact 100034 (Fact.at 34 (Fact.ow [36] [] 3 (s5 : List Int))), .fact 100010 (Fact.obj 10 [(false, 1), (false, 1), (false, 1), (false, 1), (false, 1), (false, 1)]), .fact 100017 (Fact.obj 17 [(false, 1), (false, 1), (false, 1), (false, 1), (false, 1), (false, 1)]), .fact 100024 (Fact.obj 24 [(false, 1), (false, 1)]), .fact 100029 (Fact.obj 29 [(false, 1), (false, 1)]), .fact 100032 (Fact.obj 32 [(false, 1), (false, 1)])] _ _
     refine CWalk.seq ?_
     refine CWalk.region ?_
     refine wo (Spec.lssI (Has.s rfl) (Has.s rfl)) ?_
     refine Walk.nil ?_
     refine Leaf.thenN ?_
     refine CWalk.seq ?_
     refine CWalk.cond rfl (fun hb => ?_) (fun hb => ?_)
     ·have hm := cond_t hb hm
      refine CWalk.skip ?_
      refine Leaf.thenN ?_
      refine CWalk.seqJ (fun p : (List Int) × (List Int) => [.fact 2 (Fact.rep [] (a2 : Int)), .fact 3 (Fact.isv 10), .fact 4 (Fact.isv 17), .fact 6 (Fact.isv 24), .fact 9 (Fact.isv 29), .fact 10 (Fact.isv 32), .fact 43 (Fact.rep [0] (a1.Dirty : List Bool)), .fact 44 (Fact.rep [] (((a1.Dirty).length : Int) : Int)), .fact 45 (Fact.rep [] (s3 : Int)), .fact 100011 (Fact.at 11 (Fact.rep [] (a0.Id : UInt32))), .fact 100012 (Fact.at 12 (Fact.rep [] (a0.Members : Int))), .fact 100013 (Fact.at 13 (Fact.rep [] (a0.Chunk : Int))), .fact 100014 (Fact.at 14 (Fact.rep [] (a0.Rows : Int))), .fact 100015 (Fact.at 15 (Fact.rep [] (a0.Log : Int))), .fact 100016 (Fact.at 16 (Fact.rep [] (a0.Heads : Int))), .fact 100018 (Fact.at 18 (Fact.rep [] (a1.Stripe : Int))), .fact 100019 (Fact.at 19 (Fact.rep [0] (a1.Blocks : List (List UInt8)))), .fact 100020 (Fact.at 20 (Fact.rep [0] (a1.Dirty : List Bool))), .fact 100021 (Fact.at 21 (Fact.rep [] (a1.Phase : UInt8))), .fact 100022 (Fact.at 22 (Fact.rep [] (a1.Deals : Bool))), .fact 100023 (Fact.at 23 (Fact.rep [] (a1.Seq : UInt32))), .fact 100025 (Fact.at 25 (Fact.rep [] ((0 : UInt8) : UInt8))), .fact 100026 (Fact.at 26 (Fact.nilv)), .fact 100030 (Fact.at 30 (Fact.rep [] ((2 : UInt8) : UInt8))), .fact 100031 (Fact.at 31 (Fact.ow [38] [] 3 (p.1 : List Int))), .fact 100033 (Fact.at 33 (Fact.rep [] ((3 : UInt8) : UInt8))), .fact 100034 (Fact.at 34 (Fact.ow [36] [] 3 (p.2 : List Int))), .fact 100010 (Fact.obj 10 [(false, 1), (false, 1), (false, 1), (false, 1), (false, 1), (false, 1)]), .fact 100017 (Fact.obj 17 [(false, 1), (false, 1), (false, 1), (false, 1), (false, 1), (false, 1)]), .fact 100024 (Fact.obj 24 [(false, 1), (false, 1)]), .fact 100029 (Fact.obj 29 [(false, 1), (false, 1)]), .fact 100032 (Fact.obj 32 [(false, 1), (false, 1)])]) (fun p : (List Int) × (List Int) => plan_Of_J2 s3 p.1 p.2 = some c6) ?_ ?_
      ·rintro ⟨j7, j8⟩ hm
       replace hm : plan_Of_J2 s3 j7 j8 = some c6 := hm
       unfold plan_Of_J2 at hm
       show CWalk _ [.fact 2 (Fact.rep [] (a2 : Int)), .fact 3 (Fact.isv 10), .fact 4 (Fact.isv 17), .fact 6 (Fact.isv 24), .fact 9 (Fact.isv 29), .fact 10 (Fact.isv 32), .fact 43 (Fact.rep [0] (a1.Dirty : List Bool)), .fact 44 (Fact.rep [] (((a1.Dirty).length : Int) : Int)), .fact 45 (Fact.rep [] (s3 : Int)), .fact 100011 (Fact.at 11 (Fact.rep [] (a0.Id : UInt32))), .fact 100012 (Fact.at 12 (Fact.rep [] (a0.Members : Int))), .fact 100013 (Fact.at 13 (Fact.rep [] (a0.Chunk : Int))), .fact 100014 (Fact.at 14 (Fact.rep [] (a0.Rows : Int))), .fact 100015 (Fact.at 15 (Fact.rep [] (a0.Log : Int))), .fact 100016 (Fact.at 16 (Fact.rep [] (a0.Heads : Int))), .fact 100018 (Fact.at 18 (Fact.rep [] (a1.Stripe : Int))), .fact 100019 (Fact.at 19 (Fact.rep [0] (a1.Blocks : List (List UInt8)))), .fact 100020 (Fact.at 20 (Fact.rep [0] (a1.Dirty : List Bool))), .fact 100021 (Fact.at 21 (Fact.rep [] (a1.Phase : UInt8))), .fact 100022 (Fact.at 22 (Fact.rep [] (a1.Deals : Bool))), .fact 100023 (Fact.at 23 (Fact.rep [] (a1.Seq : UInt32))), .fact 100025 (Fact.at 25 (Fact.rep [] ((0 : UInt8) : UInt8))), .fact 100026 (Fact.at 26 (Fact.nilv)), .fact 100030 (Fact.at 30 (Fact.rep [] ((2 : UInt8) : UInt8))), .fact 100031 (Fact.at 31 (Fact.ow [38] [] 3 (j7 : List Int))), .fact 100033 (Fact.at 33 (Fact.rep [] ((3 : UInt8) : UInt8))), .fact 100034 (Fact.at 34 (Fact.ow [36] [] 3 (j8 : List Int))), .fact 100010 (Fact.obj 10 [(false, 1), (false, 1), (false, 1), (false, 1), (false, 1), (false, 1)]), .fact 100017 (Fact.obj 17 [(false, 1), (false, 1), (false, 1), (false, 1), (false, 1), (false, 1)]), .fact 100024 (Fact.obj 24 [(false, 1), (false, 1)]), .fact 100029 (Fact.obj 29 [(false, 1), (false, 1)]), .fact 100032 (Fact.obj 32 [(false, 1), (false, 1)])] _ _
       refine CWalk.region ?_
       refine wo (Spec.addI (Has.s rfl) Has.int) ?_
       refine mv ?_
       refine Walk.nil ?_
       exact Leaf.next hm (st (sn (sn (sn (sn (sn (su (st (st (sf (sf (sf (sf (sf (sf (sf (sm (sm (sf (sf (sf (sf (sg (sf (Sub.cons (Has.at (HasG.cv (HasG.s rfl) (Cv.owF (T := [38]) (te := []) rfl))) (sf (Sub.cons (Has.at (HasG.cv (HasG.s rfl) (Cv.owF (T := [36]) (te := []) rfl))) (sn (sn (sn (sn (sn Sub.nil))))))))))))))))))))))))))))))))
      ·refine CWalk.block ?_
       refine CWalk.seq ?_
       refine CWalk.region ?_
       refine mv ?_
       obtain ⟨x9, hx9, hm⟩ := bind_some hm
       refine wo (Spec.indexAddr hx9 sl26 (Has.s rfl) (Has.s rfl)) ?_
       refine wo ((Spec.load ty4 (Has.s rfl)).flat (T' := [])) ?_
       refine wo (Spec.assign (Has.s rfl)) ?_
       refine wo (Spec.assign (Has.s rfl)) ?_
       refine Walk.nil ?_
       refine Leaf.thenN ?_
       refine CWalk.seqJ (fun p : (List Int) => [.fact 2 (Fact.rep [] (a2 : Int)), .fact 3 (Fact.isv 10), .fact 4 (Fact.isv 17), .fact 6 (Fact.isv 24), .fact 9 (Fact.isv 29), .fact 10 (Fact.isv 32), .fact 11 (Fact.rep [] (s3 : Int)), .fact 43 (Fact.rep [0] (a1.Dirty : List Bool)), .fact 44 (Fact.rep [] (((a1.Dirty).length : Int) : Int)), .fact 45 (Fact.rep [] (s3 : Int)), .fact 100011 (Fact.at 11 (Fact.rep [] (a0.Id : UInt32))), .fact 100012 (Fact.at 12 (Fact.rep [] (a0.Members : Int))), .fact 100013 (Fact.at 13 (Fact.rep [] (a0.Chunk : Int))), .fact 100014 (Fact.at 14 (Fact.rep [] (a0.Rows : Int))), .fact 100015 (Fact.at 15 (Fact.rep [] (a0.Log : Int))), .fact 100016 (Fact.at 16 (Fact.rep [] (a0.Heads : Int))), .fact 100018 (Fact.at 18 (Fact.rep [] (a1.Stripe : Int))), .fact 100019 (Fact.at 19 (Fact.rep [0] (a1.Blocks : List (List UInt8)))), .fact 100020 (Fact.at 20 (Fact.rep [0] (a1.Dirty : List Bool))), .fact 100021 (Fact.at 21 (Fact.rep [] (a1.Phase : UInt8))), .fact 100022 (Fact.at 22 (Fact.rep [] (a1.Deals : Bool))), .fact 100023 (Fact.at 23 (Fact.rep [] (a1.Seq : UInt32))), .fact 100025 (Fact.at 25 (Fact.rep [] ((0 : UInt8) : UInt8))), .fact 100026 (Fact.at 26 (Fact.nilv)), .fact 100030 (Fact.at 30 (Fact.rep [] ((2 : UInt8) : UInt8))), .fact 100031 (Fact.at 31 (Fact.ow [38] [] 3 (s4 : List Int))), .fact 100033 (Fact.at 33 (Fact.rep [] ((3 : UInt8) : UInt8))), .fact 100034 (Fact.at 34 (Fact.ow [36] [] 3 (p : List Int))), .fact 100010 (Fact.obj 10 [(false, 1), (false, 1), (false, 1), (false, 1), (false, 1), (false, 1)]), .fact 100017 (Fact.obj 17 [(false, 1), (false, 1), (false, 1), (false, 1), (false, 1), (false, 1)]), .fact 100024 (Fact.obj 24 [(false, 1), (false, 1)]), .fact 100029 (Fact.obj 29 [(false, 1), (false, 1)]), .fact 100032 (Fact.obj 32 [(false, 1), (false, 1)])]) (fun p : (List Int) => plan_Of_J3 a1 s3 s4 p = some c6) ?_ ?_
       ·rintro j10 hm
        replace hm : plan_Of_J3 a1 s3 s4 j10 = some c6 := hm
        unfold plan_Of_J3 at hm
        show CWalk _ [.fact 2 (Fact.rep [] (a2 : Int)), .fact 3 (Fact.isv 10), .fact 4 (Fact.isv 17), .fact 6 (Fact.isv 24), .fact 9 (Fact.isv 29), .fact 10 (Fact.isv 32), .fact 11 (Fact.rep [] (s3 : Int)), .fact 43 (Fact.rep [0] (a1.Dirty : List Bool)), .fact 44 (Fact.rep [] (((a1.Dirty).length : Int) : Int)), .fact 45 (Fact.rep [] (s3 : Int)), .fact 100011 (Fact.at 11 (Fact.rep [] (a0.Id : UInt32))), .fact 100012 (Fact.at 12 (Fact.rep [] (a0.Members : Int))), .fact 100013 (Fact.at 13 (Fact.rep [] (a0.Chunk : Int))), .fact 100014 (Fact.at 14 (Fact.rep [] (a0.Rows : Int))), .fact 100015 (Fact.at 15 (Fact.rep [] (a0.Log : Int))), .fact 100016 (Fact.at 16 (Fact.rep [] (a0.Heads : Int))), .fact 100018 (Fact.at 18 (Fact.rep [] (a1.Stripe : Int))), .fact 100019 (Fact.at 19 (Fact.rep [0] (a1.Blocks : List (List UInt8)))), .fact 100020 (Fact.at 20 (Fact.rep [0] (a1.Dirty : List Bool))), .fact 100021 (Fact.at 21 (Fact.rep [] (a1.Phase : UInt8))), .fact 100022 (Fact.at 22 (Fact.rep [] (a1.Deals : Bool))), .fact 100023 (Fact.at 23 (Fact.rep [] (a1.Seq : UInt32))), .fact 100025 (Fact.at 25 (Fact.rep [] ((0 : UInt8) : UInt8))), .fact 100026 (Fact.at 26 (Fact.nilv)), .fact 100030 (Fact.at 30 (Fact.rep [] ((2 : UInt8) : UInt8))), .fact 100031 (Fact.at 31 (Fact.ow [38] [] 3 (s4 : List Int))), .fact 100033 (Fact.at 33 (Fact.rep [] ((3 : UInt8) : UInt8))), .fact 100034 (Fact.at 34 (Fact.ow [36] [] 3 (j10 : List Int))), .fact 100010 (Fact.obj 10 [(false, 1), (false, 1), (false, 1), (false, 1), (false, 1), (false, 1)]), .fact 100017 (Fact.obj 17 [(false, 1), (false, 1), (false, 1), (false, 1), (false, 1), (false, 1)]), .fact 100024 (Fact.obj 24 [(false, 1), (false, 1)]), .fact 100029 (Fact.obj 29 [(false, 1), (false, 1)]), .fact 100032 (Fact.obj 32 [(false, 1), (false, 1)])] _ _
        refine CWalk.seq ?_
        refine CWalk.region ?_
        refine wo (Spec.fieldAddrO fd28_1 (Has.cv (Has.s rfl) (Cv.isvP rfl))) ?_
        refine wo (Spec.loadF (i := 1) ty25 rfl (Has.s rfl) rfl (HasG.s rfl)) ?_
        refine mv ?_
        obtain ⟨x11, hx11, hm⟩ := bind_some hm
        refine wo (Spec.indexAddr hx11 sl25 (Has.s rfl) (Has.s rfl)) ?_
        refine wo (Spec.load ty46 (Has.s rfl)) ?_
        refine wo (Spec.len (Has.s rfl) Try.underlying46) ?_
        refine wo (Spec.eqlI (Has.s rfl) Has.int) ?_
        refine Walk.nil ?_
        refine Leaf.thenN ?_
        refine CWalk.cond rfl (fun hb => ?_) (fun hb => ?_)
        ·have hm := cond_t hb hm
         refine CWalk.region ?_
         refine wo (Spec.fieldAddrO fd33_1 (Has.cv (Has.s rfl) (Cv.isvP rfl))) ?_
         refine wo (Spec.loadF (i := 1) ty31 rfl (Has.s rfl) rfl (HasG.s rfl)) ?_
         refine mv ?_
         refine wo (Spec.lit (xs := [.tmp 66]) (T := []) 37 rfl ow31 rfl rfl rfl rfl (HasEach.cons (Has.fl (Has.s rfl)) HasEach.nil)) ?_
         obtain ⟨x12, hx12, hm⟩ := bind_some hm
         refine ws (Step.appendOw (T := [38]) (te' := []) hx12 rfl rfl rfl ow31 (Has.s rfl) (Has.s rfl) ElKeeps.flat ElKeeps.flat) ?_
         refine wo (Spec.fieldAddrO fd33_1 (Has.cv (Has.s rfl) (Cv.isvP rfl))) ?_
         refine ws (Step.storeF (i := 1) (f := Fact.ow [38] [] 3 (x12 : List Int)) rfl ty31 rfl (Has.s rfl) rfl (Has.cv (Has.s rfl) (Cv.trans Cv.owSl (Cv.slRep (T' := [38]) rfl rfl))) (Has.s rfl) rfl) ?_
         refine Walk.nil ?_
         refine Leaf.blockN ?_
         exact Leaf.join (x12, j10) hm (st (sn (sn (sn (sn (sn (su (st (st (sf (sf (sf (sf (sf (sf (sf (sm (sm (sf (sf (sf (sf (sg (sf (Sub.cons (Has.at (HasG.cv (HasG.s rfl) (Cv.owF (T := [38]) (te := []) rfl))) (sf (Sub.cons (Has.at (HasG.cv (HasG.s rfl) (Cv.owF (T := [36]) (te := []) rfl))) (sn (sn (sn (sn (sn Sub.nil))))))))))))))))))))))))))))))))
        ·have hm := cond_f hb hm
         refine CWalk.skip ?_
         refine Leaf.blockN ?_
         exact Leaf.join (s4, j10) hm (st (sn (sn (sn (sn (sn (su (st (st (sf (sf (sf (sf (sf (sf (sf (sm (sm (sf (sf (sf (sf (sg (sf (Sub.cons (Has.at (HasG.cv (HasG.s rfl) (Cv.owF (T := [38]) (te := []) rfl))) (sf (Sub.cons (Has.at (HasG.cv (HasG.s rfl) (Cv.owF (T := [36]) (te := []) rfl))) (sn (sn (sn (sn (sn Sub.nil))))))))))))))))))))))))))))))))
       ·refine CWalk.seq ?_
        refine CWalk.region ?_
        refine mv ?_
        refine Walk.nil ?_
        refine Leaf.thenN ?_
        refine CWalk.cond rfl (fun hb => ?_) (fun hb => ?_)
        ·have hm := cond_t hb hm
         refine CWalk.region ?_
         refine wo (Spec.fieldAddrO fd33_1 (Has.cv (Has.s rfl) (Cv.isvP rfl))) ?_
         refine wo (Spec.loadF (i := 1) ty31 rfl (Has.s rfl) rfl (HasG.s rfl)) ?_
         refine mv ?_
         refine wo (Spec.lit (xs := [.tmp 53]) (T := []) 35 rfl ow31 rfl rfl rfl rfl (HasEach.cons (Has.fl (Has.s rfl)) HasEach.nil)) ?_
         obtain ⟨x13, hx13, hm⟩ := bind_some hm
         refine ws (Step.appendOw (T := [36]) (te' := []) hx13 rfl rfl rfl ow31 (Has.s rfl) (Has.s rfl) ElKeeps.flat ElKeeps.flat) ?_
         refine wo (Spec.fieldAddrO fd33_1 (Has.cv (Has.s rfl) (Cv.isvP rfl))) ?_
         refine ws (Step.storeF (i := 1) (f := Fact.ow [36] [] 3 (x13 : List Int)) rfl ty31 rfl (Has.s rfl) rfl (Has.cv (Has.s rfl) (Cv.trans Cv.owSl (Cv.slRep (T' := [36]) rfl rfl))) (Has.s rfl) rfl) ?_
         refine Walk.nil ?_
         exact Leaf.join x13 hm (st (sn (sn (sn (sn (sn (st (su (st (st (sf (sf (sf (sf (sf (sf (sf (sm (sm (sf (sf (sf (sf (sg (sf (Sub.cons (Has.at (HasG.cv (HasG.s rfl) (Cv.owF (T := [38]) (te := []) rfl))) (sf (Sub.cons (Has.at (HasG.cv (HasG.s rfl) (Cv.owF (T := [36]) (te := []) rfl))) (sn (sn (sn (sn (sn Sub.nil)))))))))))))))))))))))))))))))))
        ·have hm := cond_f hb hm
         refine CWalk.skip ?_
         exact Leaf.join s5 hm (st (sn (sn (sn (sn (sn (st (su (st (st (sf (sf (sf (sf (sf (sf (sf (sm (sm (sf (sf (sf (sf (sg (sf (Sub.cons (Has.at (HasG.cv (HasG.s rfl) (Cv.owF (T := [38]) (te := []) rfl))) (sf (Sub.cons (Has.at (HasG.cv (HasG.s rfl) (Cv.owF (T := [36]) (te := []) rfl))) (sn (sn (sn (sn (sn Sub.nil)))))))))))))))))))))))))))))))))
     ·have hm := cond_f hb hm
      refine CWalk.exit ?_
      refine Leaf.thenE ?_
      exact Leaf.brk hm (fun h => nomatch h) rfl (st (sn (sn (sn (sn (sn (sf (sf (sf (sf (sf (sf (sf (sm (sm (sf (sf (sf (sf (sg (sf (Sub.cons (Has.at (HasG.cv (HasG.s rfl) (Cv.owF (T := [38]) (te := []) rfl))) (sf (Sub.cons (Has.at (HasG.cv (HasG.s rfl) (Cv.owF (T := [36]) (te := []) rfl))) (sn (sn (sn (sn (sn Sub.nil)))))))))))))))))))))))))))))
    ·intro _
     refine Leaf.blockE ?_
     refine Leaf.thenN ?_
     refine CWalk.seq ?_
     refine CWalk.seq ?_
     refine CWalk.region ?_
     refine wo (Spec.fieldAddrO fd33_1 (Has.cv (Has.s rfl) (Cv.isvP rfl))) ?_
     refine wo (Spec.loadF (i := 1) ty31 rfl (Has.s rfl) rfl (HasG.s rfl)) ?_
     refine wo (Spec.len (Has.cv (Has.s rfl) (Cv.trans Cv.owSl (Cv.slRep (T' := [38]) rfl rfl))) Try.underlying31) ?_
     refine wo (Spec.eqlI (Has.s rfl) Has.int) ?_
     refine Walk.nil ?_
     refine Leaf.thenN ?_
     refine CWalk.cond rfl (fun hb => ?_) (fun hb => ?_)
     ·have hm := cond_t hb hm
      refine CWalk.seq ?_
      refine CWalk.region ?_
      refine wo (Spec.build (us := [(0, .const (.int .u8 1))]) (ls' := [(false, 1, Fact.rep [] ((1 : UInt8) : UInt8)), (false, 1, Fact.nilv)]) bd33 rfl (BP.cons rfl rfl (Has.u8 1 rfl) (Has.u8 1 rfl) BP.nil)) ?_
      refine ws (Step.storeObj (ls := [(false, 1, Fact.rep [] ((1 : UInt8) : UInt8)), (false, 1, Fact.nilv)]) rfl ty33 rfl rfl (Has.s rfl) rfl (HasL.flds (Has.s rfl)) rfl) ?_
      refine wo (Spec.assign Has.int) ?_
      refine Walk.nil ?_
      refine Leaf.thenN ?_
      refine CWalk.ret ?_
      refine Leaf.thenR ?_
      obtain rfl := Option.some.inj hm
      exact Leaf.retC2 rfl (HasR.cv (HasR.obj (ls := [(false, 1, Fact.rep [] ((1 : UInt8) : UInt8)), (false, 1, Fact.nilv)]) ty33 rfl rfl (Has.s rfl) rfl (HasGs.cons (HasG.s rfl) (HasGs.cons (HasG.s rfl) HasGs.nil))) (Cv.flds (CvL.cons Cv.fl (CvL.cons (Cv.trans (Cv.nil (T := [])) (Cv.m rfl)) CvL.nil)))) (HasR.cv (HasR.tmp (Has.s rfl)) Cv.fl)
     ·have hm := cond_f hb hm
      refine CWalk.skip ?_
      refine Leaf.thenN ?_
      refine CWalk.seq ?_
      refine CWalk.region ?_
      refine wo (Spec.fieldAddrO fd33_1 (Has.cv (Has.s rfl) (Cv.isvP rfl))) ?_
      refine wo (Spec.loadF (i := 1) ty31 rfl (Has.s rfl) rfl (HasG.s rfl)) ?_
      refine wo (Spec.fieldAddrO fd24_1 (Has.cv (Has.s rfl) (Cv.isvP rfl))) ?_
      refine wo (Spec.loadF (i := 1) ty3 rfl (Has.s rfl) rfl (HasG.s rfl)) ?_
      refine wo (Spec.subI (Has.s rfl) Has.int) ?_
      refine wo (Spec.lit (xs := [.tmp 80]) (T := []) 39 rfl ow31 rfl rfl rfl rfl (HasEach.cons (Has.fl (Has.s rfl)) HasEach.nil)) ?_
      obtain ⟨x15, hx15, hm⟩ := bind_some hm
      refine ws (Step.appendOw (T := [36]) (te' := []) hx15 rfl rfl rfl ow31 (Has.s rfl) (Has.s rfl) ElKeeps.flat ElKeeps.flat) ?_
      refine wo (Spec.fieldAddrO fd33_1 (Has.cv (Has.s rfl) (Cv.isvP rfl))) ?_
      refine ws (Step.storeF (i := 1) (f := Fact.ow [36] [] 3 (x15 : List Int)) rfl ty31 rfl (Has.s rfl) rfl (Has.cv (Has.s rfl) (Cv.trans Cv.owSl (Cv.slRep (T' := [36]) rfl rfl))) (Has.s rfl) rfl) ?_
      refine Walk.nil ?_
      refine Leaf.thenN ?_
      refine CWalk.seq ?_
      obtain ⟨x16, hx16, hm⟩ := bind_some hm
      obtain ⟨x17, hx17, hm⟩ := bind_some hm
      obtain ⟨x18, hx18, hm⟩ := bind_some hm
      refine CWalk.drawM [[], [], [1], [], [0, 1, 2, 3], [], [], [5, 6], [0, 1, 2, 3, 4, 5, 6, 7], [0, 1, 2, 3, 4, 5, 6, 7, 8], [], [0, 1, 2, 3, 4, 5, 6, 7, 8, 9, 10]] [[.fact 84 (Fact.flds [(false, 1, Fact.rep [] (a0.Id : UInt32)), (false, 1, Fact.rep [] (a0.Members : Int)), (false, 1, Fact.rep [] (a0.Chunk : Int)), (false, 1, Fact.rep [] (a0.Rows : Int)), (false, 1, Fact.rep [] (a0.Log : Int)), (false, 1, Fact.rep [] (a0.Heads : Int))])], [.fact 85 (Fact.pto 17 0)], [.fact 86 (Fact.rep [] (a1.Stripe : Int))], [.fact 87 (Fact.rep [] (a2 : Int))], [.fact 88 (Fact.rep [] (x16 : Int))], [.fact 89 (Fact.flds [(false, 1, Fact.rep [] ((2 : UInt8) : UInt8)), (false, 1, Fact.ow [38] [] 3 (b14.1 : List Int))])], [.fact 90 (Fact.flds [(false, 1, Fact.rep [] ((3 : UInt8) : UInt8)), (false, 1, Fact.ow [36] [] 3 (x15 : List Int))])], [.fact 91 (Fact.rep [41, 36, 38] ([(Plan.mk (2 : UInt8) b14.1), (Plan.mk (3 : UInt8) x15)] : List Plan))], [.fact 92 (Fact.ow [42] [43, 36, 38, 41] 33 (x17 : List Plan))], [.fact 93 (Fact.flds [(false, 1, Fact.rep [] (x18.Kind : UInt8)), (false, 1, Fact.rep [44, 36, 38, 41, 42, 43] (x18.Reads : List Int))])], [.fact 13 (.isv 45), .fact 100045 (Fact.obj 45 [(false, 1), (false, 1)]), .fact 100046 (Fact.at 46 (Fact.rep [] ((0 : UInt8) : UInt8))), .fact 100047 (Fact.at 47 (Fact.nilv)), .killId 45, .killId 46, .killId 47], [.fact 100045 (Fact.obj 45 [(false, 1), (false, 1)]), .fact 100046 (Fact.at 46 (Fact.rep [] (x18.Kind : UInt8))), .fact 100047 (Fact.at 47 (Fact.rep [44, 36, 38, 41, 42, 43] (x18.Reads : List Int))), .kill 45, .killId 46, .killId 47]] mixed (by kernel_rfl) (ao (so (Spec.loadObj (ls := [(false, 1, Fact.rep [] (a0.Id : UInt32)), (false, 1, Fact.rep [] (a0.Members : Int)), (false, 1, Fact.rep [] (a0.Chunk : Int)), (false, 1, Fact.rep [] (a0.Rows : Int)), (false, 1, Fact.rep [] (a0.Log : Int)), (false, 1, Fact.rep [] (a0.Heads : Int))]) ty24 rfl rfl (Has.s rfl) rfl (HasGs.cons (HasG.s rfl) (HasGs.cons (HasG.s rfl) (HasGs.cons (HasG.s rfl) (HasGs.cons (HasG.s rfl) (HasGs.cons (HasG.s rfl) (HasGs.cons (HasG.s rfl) HasGs.nil)))))))) (ao (so (Spec.fieldAddrO fd28_0 (Has.cv (Has.s rfl) (Cv.isvP rfl)))) (ao (so (Spec.loadF (i := 0) ty3 rfl (Has.s rfl) rfl (HasG.s rfl))) (ao (so (Spec.move (Has.s rfl))) (ao (so (Spec.callE [] 40 rfl en23 (plan_lost_c a0 a1.Stripe a2 hx16) (HasAll.cons (Has.fl (Has.cv (Has.s rfl) (Cv.trans (Cv.flds (CvL.cons Cv.fl (CvL.cons Cv.fl (CvL.cons Cv.fl (CvL.cons Cv.fl (CvL.cons Cv.fl (CvL.cons Cv.fl CvL.nil))))))) (Cv.close (T := []) (chConfig a0))))) (HasAll.cons (Has.fl (Has.s rfl)) (HasAll.cons (Has.fl (Has.s rfl)) HasAll.nil))))) (ao (so (Spec.loadObj (ls := [(false, 1, Fact.rep [] ((2 : UInt8) : UInt8)), (false, 1, Fact.ow [38] [] 3 (b14.1 : List Int))]) ty33 rfl rfl (Has.s rfl) rfl (HasGs.cons (HasG.s rfl) (HasGs.cons (HasG.s rfl) HasGs.nil)))) (ao (so (Spec.loadObj (ls := [(false, 1, Fact.rep [] ((3 : UInt8) : UInt8)), (false, 1, Fact.ow [36] [] 3 (x15 : List Int))]) ty33 rfl rfl (Has.s rfl) rfl (HasGs.cons (HasG.s rfl) (HasGs.cons (HasG.s rfl) HasGs.nil)))) (ao (so (Spec.lit (xs := [.tmp 89, .tmp 90]) (T := [36, 38]) 41 rfl ow52 rfl rfl rfl rfl (HasEach.cons (Has.m (Has.cv (Has.s rfl) (Cv.trans (Cv.flds (CvL.cons Cv.fl (CvL.cons (Cv.trans (Cv.trans Cv.owSl (Cv.slRep (T' := [38]) rfl rfl)) (Cv.m rfl)) CvL.nil))) (Cv.close (T := [38]) (chPlan (Plan.mk (2 : UInt8) b14.1))))) rfl) (HasEach.cons (Has.m (Has.cv (Has.s rfl) (Cv.trans (Cv.flds (CvL.cons Cv.fl (CvL.cons (Cv.trans (Cv.trans Cv.owSl (Cv.slRep (T' := [36]) rfl rfl)) (Cv.m rfl)) CvL.nil))) (Cv.close (T := [36]) (chPlan (Plan.mk (3 : UInt8) x15))))) rfl) HasEach.nil)))) (ao (so (Spec.callE [36, 38, 41] 42 rfl en22 (plan_some_c x16 ([(Plan.mk (2 : UInt8) b14.1), (Plan.mk (3 : UInt8) x15)]) hx17) (HasAll.cons (Has.fl (Has.s rfl)) (HasAll.cons (Has.m (Has.s rfl) rfl) HasAll.nil)))) (ao (so (Spec.callE [36, 38, 41, 42, 43] 44 rfl en21 (slices_MinFunc_api_Plan_api_Plan_c x17 (fun y => plan_Of_1 y.1 y.2) hx18) (HasAll.cons (Has.m (Has.cv (Has.s rfl) (Cv.trans Cv.owSl (Cv.slRep (T' := [36, 38, 41, 42, 43]) rfl rfl))) rfl) (HasAll.cons (Has.cv Has.func (Cv.fn (pu := []) (pc := []) (shc := []) en24 CvF.nil CvF.nil (fun y r h => plan_Of_1_c y.1 y.2 h))) HasAll.nil)))) (ao (StepG.stE (Step.allocObj (ls := [(false, 1, Fact.rep [] ((0 : UInt8) : UInt8)), (false, 1, Fact.nilv)]) 45 rfl rfl rfl rfl zl33)) (ao (StepG.stE (Step.storeObj (ls := [(false, 1, Fact.rep [] (x18.Kind : UInt8)), (false, 1, Fact.rep [44, 36, 38, 41, 42, 43] (x18.Reads : List Int))]) rfl ty33 rfl rfl (Has.s rfl) rfl (HasL.flds (Has.s rfl)) rfl)) AllM.nil)))))))))))) ?_
      refine Leaf.thenN ?_
      refine CWalk.seq ?_
      refine CWalk.region ?_
      refine wo (Spec.loadObj (ls := [(false, 1, Fact.rep [] (x18.Kind : UInt8)), (false, 1, Fact.rep [44, 36, 38, 41, 42, 43] (x18.Reads : List Int))]) ty33 rfl rfl (Has.s rfl) rfl (HasGs.cons (HasG.s rfl) (HasGs.cons (HasG.s rfl) HasGs.nil))) ?_
      refine ws (Step.storeObj (ls := [(false, 1, Fact.rep [] (x18.Kind : UInt8)), (false, 1, Fact.rep [44, 36, 38, 41, 42, 43] (x18.Reads : List Int))]) rfl ty33 rfl rfl (Has.s rfl) rfl (HasL.flds (Has.s rfl)) rfl) ?_
      refine wo (Spec.assign Has.int) ?_
      refine Walk.nil ?_
      refine Leaf.thenN ?_
      refine CWalk.ret ?_
      obtain rfl := Option.some.inj hm
      exact Leaf.retC2 rfl (HasR.cv (HasR.obj (ls := [(false, 1, Fact.rep [] (x18.Kind : UInt8)), (false, 1, Fact.rep [44, 36, 38, 41, 42, 43] (x18.Reads : List Int))]) ty33 rfl rfl (Has.s rfl) rfl (HasGs.cons (HasG.s rfl) (HasGs.cons (HasG.s rfl) HasGs.nil))) (Cv.flds (CvL.cons Cv.fl (CvL.cons (Cv.m rfl) CvL.nil)))) (HasR.cv (HasR.tmp (Has.s rfl)) Cv.fl)

def ref17_Same_L1 (a0 : Plan) (a1 : Plan) (s1 : Int) : Option (Ctl (Int) ((Unit) ⊕ (Unit))) :=
  (bif (decide (s1 < ((a0.Reads).length : Int))) then Option.bind (idx a0.Reads s1) (fun x3 => Option.bind (idx a1.Reads s1) (fun x4 => (bif (x3 != x4) then some (Ctl.brk (Sum.inr ())) else some (Ctl.next (wI (s1 + (1 : Int))))))) else some (Ctl.brk (Sum.inl ())))
/-- freeboard/freeboardref17.Same -/
def ref17_Same (a0 : Plan) (a1 : Plan) : Option (Bool) :=
  (bif ((a0.Kind != a1.Kind) || (((a0.Reads).length : Int) != ((a1.Reads).length : Int))) then some false else Option.bind (loopM (fun s : Int => ref17_Same_L1 a0 a1 s) FUEL (0 : Int)) (fun b5 => Sum.elim (fun b6 => some true) (fun b7 => some false) b5))
set_option maxRecDepth 100000 in
set_option maxHeartbeats 2000000 in
theorem ref17_Same_c (a0 : Plan) (a1 : Plan) {r : Bool} (hm : ref17_Same a0 a1 = some r) : Ctr Try.prog 11 [.rep 0 a0, .rep 0 a1] (.fl r) [] := by
 refine ctr_of_walk [[]] 38 Try.func11 rfl rfl rfl rfl (fun w0 om => ?_)
 unfold ref17_Same at hm
 refine CWalk.sub (G' := [.fact 0 (Fact.rep [0] (a0 : Plan)), .fact 1 (Fact.rep [0] (a1 : Plan))]) (sn (sn Sub.nil)) ?_
 refine CWalk.seq ?_
 refine CWalk.region ?_
 refine ws (Step.boxObj (ls := [(false, 1, Fact.rep [] (a0.Kind : UInt8)), (false, 1, Fact.rep [0] (a0.Reads : List Int))]) 10 rfl rfl rfl rfl (HasL.flds (Has.cv (Has.s rfl) (Cv.trans (Cv.opens (chPlan a0)) (Cv.flds (CvL.cons Cv.fl (CvL.cons Cv.refl CvL.nil))))))) ?_
 refine ws (Step.boxObj (ls := [(false, 1, Fact.rep [] (a1.Kind : UInt8)), (false, 1, Fact.rep [0] (a1.Reads : List Int))]) 13 rfl rfl rfl rfl (HasL.flds (Has.cv (Has.s rfl) (Cv.trans (Cv.opens (chPlan a1)) (Cv.flds (CvL.cons Cv.fl (CvL.cons Cv.refl CvL.nil))))))) ?_
 refine wo (Spec.assign Has.bool) ?_
 refine Walk.nil ?_
 refine Leaf.thenN ?_
 refine CWalk.seq ?_
 refine CWalk.seq ?_
 refine CWalk.region ?_
 refine wo (Spec.fieldAddrO fd33_0 (Has.cv (Has.s rfl) (Cv.isvP rfl))) ?_
 refine wo (Spec.loadF (i := 0) ty5 rfl (Has.s rfl) rfl (HasG.s rfl)) ?_
 refine wo (Spec.fieldAddrO fd33_0 (Has.cv (Has.s rfl) (Cv.isvP rfl))) ?_
 refine wo (Spec.loadF (i := 0) ty5 rfl (Has.s rfl) rfl (HasG.s rfl)) ?_
 refine wo (Spec.neqB (Has.s rfl) (Has.s rfl)) ?_
 refine mv ?_
 refine wg rfl rfl (fun hb => Spec.fieldAddrO fd33_1 (Has.cv (Has.s rfl) (Cv.isvP rfl))) ?_
 refine wg rfl rfl (fun hb => Spec.loadF (i := 1) ty31 rfl (Has.u rfl hb) rfl (HasG.s rfl)) ?_
 refine wg rfl rfl (fun hb => Spec.len (Has.u rfl hb) Try.underlying31) ?_
 refine wg rfl rfl (fun hb => Spec.fieldAddrO fd33_1 (Has.cv (Has.s rfl) (Cv.isvP rfl))) ?_
 refine wg rfl rfl (fun hb => Spec.loadF (i := 1) ty31 rfl (Has.u rfl hb) rfl (HasG.s rfl)) ?_
 refine wg rfl rfl (fun hb => Spec.len (Has.u rfl hb) Try.underlying31) ?_
 refine wg rfl rfl (fun hb => Spec.neqI (Has.u rfl hb) (Has.u rfl hb)) ?_
 refine wo (Spec.or (Has.s rfl) (fun h => Has.u rfl h)) ?_
 refine Walk.nil ?_
 refine Leaf.thenN ?_
 refine CWalk.cond rfl (fun hb => ?_) (fun hb => ?_)
 ·have hm := cond_t hb hm
  refine CWalk.seq ?_
  refine CWalk.region ?_
  refine wo (Spec.assign Has.bool) ?_
  refine Walk.nil ?_
  refine Leaf.thenN ?_
  refine CWalk.ret ?_
  refine Leaf.thenR ?_
  obtain rfl := Option.some.inj hm
  exact Leaf.retC1 rfl (HasR.cv (HasR.tmp (Has.s rfl)) Cv.fl)
 ·have hm := cond_f hb hm
  refine CWalk.skip ?_
  refine Leaf.thenN ?_
  refine CWalk.seq ?_
  refine CWalk.seq ?_
  refine CWalk.region ?_
  refine wo (Spec.assign Has.int) ?_
  refine Walk.nil ?_
  refine Leaf.thenN ?_
  refine CWalk.block ?_
  obtain ⟨b5, hb5, hm⟩ := bind_some hm
  refine CWalk.loop (fun s : Int => [.fact 2 (Fact.isv 10), .fact 3 (Fact.isv 13), .fact 5 (Fact.rep [] (s : Int)), .fact 100011 (Fact.at 11 (Fact.rep [] (a0.Kind : UInt8))), .fact 100012 (Fact.at 12 (Fact.rep [0] (a0.Reads : List Int))), .fact 100014 (Fact.at 14 (Fact.rep [] (a1.Kind : UInt8))), .fact 100015 (Fact.at 15 (Fact.rep [0] (a1.Reads : List Int))), .fact 100010 (Fact.obj 10 [(false, 1), (false, 1)]), .fact 100013 (Fact.obj 13 [(false, 1), (false, 1)])]) (fun b : (Unit) ⊕ (Unit) => Sum.elim (fun b => (Exit.exit 0, [])) (fun b => (Exit.ret, [.fact 4 (Fact.rep [] (false : Bool))])) b) hb5 (sn (sn (st (sf (sm (sf (sm (sn (sn Sub.nil))))))))) ?_ ?_
  ·rintro s1 c2 hm
   replace hm : ref17_Same_L1 a0 a1 s1 = some c2 := hm
   unfold ref17_Same_L1 at hm
   show CWalk _ [.fact 2 (Fact.isv 10), .fact 3 (Fact.isv 13), .fact 5 (Fact.rep [] (s1 : Int)), .fact 100011 (Fact.at 11 (Fact.rep [] (a0.Kind : UInt8))), .fact 100012 (Fact.at 12 (Fact.rep [0] (a0.Reads : List Int))), .fact 100014 (Fact.at 14 (Fact.rep [] (a1.Kind : UInt8))), .fact 100015 (Fact.at 15 (Fact.rep [0] (a1.Reads : List Int))), .fact 100010 (Fact.obj 10 [(false, 1), (false, 1)]), .fact 100013 (Fact.obj 13 [(false, 1), (false, 1)])] _ _
   refine CWalk.seq ?_
   refine CWalk.seq ?_
   refine CWalk.region ?_
   refine mv ?_
   refine wo (Spec.fieldAddrO fd33_1 (Has.cv (Has.s rfl) (Cv.isvP rfl))) ?_
   refine wo (Spec.loadF (i := 1) ty31 rfl (Has.s rfl) rfl (HasG.s rfl)) ?_
   refine wo (Spec.len (Has.s rfl) Try.underlying31) ?_
   refine wo (Spec.lssI (Has.s rfl) (Has.s rfl)) ?_
   refine Walk.nil ?_
   refine Leaf.thenN ?_
   refine CWalk.cond rfl (fun hb => ?_) (fun hb => ?_)
   ·have hm := cond_t hb hm
    refine CWalk.skip ?_
    refine Leaf.thenN ?_
    refine CWalk.seq ?_
    refine CWalk.block ?_
    refine CWalk.seq ?_
    obtain ⟨x3, hx3, hm⟩ := bind_some hm
    obtain ⟨x4, hx4, hm⟩ := bind_some hm
    refine CWalk.drawM [[], [0], [], [0, 1, 2], [0, 1, 2, 3], [], [5], [], [5, 6, 7], [5, 6, 7, 8], [0, 1, 2, 3, 4, 5, 6, 7, 8, 9]] [[.fact 27 (Fact.pto 10 1)], [.fact 28 (Fact.rep [0] (a0.Reads : List Int))], [.fact 29 (Fact.rep [] (s1 : Int))], [.fact 30 (Fact.ptr [0] (x3 : Int))], [.fact 31 (Fact.rep [] (x3 : Int))], [.fact 32 (Fact.pto 13 1)], [.fact 33 (Fact.rep [0] (a1.Reads : List Int))], [.fact 34 (Fact.rep [] (s1 : Int))], [.fact 35 (Fact.ptr [0] (x4 : Int))], [.fact 36 (Fact.rep [] (x4 : Int))], [.fact 37 (Fact.rep [] ((x3 != x4) : Bool))]] mixed (by kernel_rfl) (ao (so (Spec.fieldAddrO fd33_1 (Has.cv (Has.s rfl) (Cv.isvP rfl)))) (ao (so (Spec.loadF (i := 1) ty31 rfl (Has.s rfl) rfl (HasG.s rfl))) (ao (so (Spec.move (Has.s rfl))) (ao (so (Spec.indexAddr hx3 sl31 (Has.s rfl) (Has.s rfl))) (ao (so ((Spec.load ty3 (Has.s rfl)).flat (T' := []))) (ao (so (Spec.fieldAddrO fd33_1 (Has.cv (Has.s rfl) (Cv.isvP rfl)))) (ao (so (Spec.loadF (i := 1) ty31 rfl (Has.s rfl) rfl (HasG.s rfl))) (ao (so (Spec.move (Has.s rfl))) (ao (so (Spec.indexAddr hx4 sl31 (Has.s rfl) (Has.s rfl))) (ao (so ((Spec.load ty3 (Has.s rfl)).flat (T' := []))) (ao (so (Spec.neqI (Has.s rfl) (Has.s rfl))) AllM.nil))))))))))) ?_
    refine Leaf.thenN ?_
    refine CWalk.cond rfl (fun hb => ?_) (fun hb => ?_)
    ·have hm := cond_t hb hm
     refine CWalk.seq ?_
     refine CWalk.region ?_
     refine wo (Spec.assign Has.bool) ?_
     refine Walk.nil ?_
     refine Leaf.thenN ?_
     refine CWalk.ret ?_
     refine Leaf.blockR ?_
     refine Leaf.thenR ?_
     exact Leaf.brk hm (fun h => nomatch h) rfl (st Sub.nil)
    ·have hm := cond_f hb hm
     refine CWalk.skip ?_
     refine Leaf.blockN ?_
     refine Leaf.thenN ?_
     refine CWalk.region ?_
     refine mv ?_
     refine wo (Spec.addI (Has.s rfl) Has.int) ?_
     refine wo (Spec.assign (Has.s rfl)) ?_
     refine Walk.nil ?_
     exact Leaf.next hm (sn (sn (st (sf (sm (sf (sm (sn (sn Sub.nil)))))))))
   ·have hm := cond_f hb hm
    refine CWalk.exit ?_
    refine Leaf.thenE ?_
    exact Leaf.brk hm (fun h => nomatch h) rfl (Sub.nil)
  ·intro _
   rcases b5 with b6 | b7
   ·have hm := selim_l hm
    refine Leaf.blockE ?_
    refine Leaf.thenN ?_
    refine CWalk.seq ?_
    refine CWalk.region ?_
    refine wo (Spec.assign Has.bool) ?_
    refine Walk.nil ?_
    refine Leaf.thenN ?_
    refine CWalk.ret ?_
    obtain rfl := Option.some.inj hm
    exact Leaf.retC1 rfl (HasR.cv (HasR.tmp (Has.s rfl)) Cv.fl)
   ·have hm := selim_r hm
    refine Leaf.blockR ?_
    refine Leaf.thenR ?_
    obtain rfl := Option.some.inj hm
    exact Leaf.retC1 rfl (HasR.cv (HasR.tmp (Has.s rfl)) Cv.fl)

/-- freeboard/freeboardlaw17.is -/
def law17_is (a0 : Head) (a1 : Int) (a2 : UInt8) (a3 : List Int) : Option (Bool) :=
  Option.bind (law17_five) (fun x1 => Option.bind (plan_Of x1 a0 a1) (fun x2 => Option.bind (gO ((x2.2 == (0 : Int))) (ref17_Same x2.1 (Plan.mk a2 a3))) (fun x3 => some ((x2.2 == (0 : Int)) && x3))))
set_option maxRecDepth 100000 in
set_option maxHeartbeats 2000000 in
theorem law17_is_c (a0 : Head) (a1 : Int) (a2 : UInt8) (a3 : List Int) {r : Bool} (hm : law17_is a0 a1 a2 a3 = some r) : Ctr Try.prog 16 [.rep 0 a0, .rep 0 a1, .rep 0 a2, .rep 0 a3] (.fl r) [] := by
 refine ctr_of_walk [[]] 27 Try.func16 rfl rfl rfl rfl (fun w0 om => ?_)
 unfold law17_is at hm
 refine CWalk.sub (G' := [.fact 0 (Fact.rep [0] (a0 : Head)), .fact 1 (Fact.rep [] (a1 : Int)), .fact 2 (Fact.rep [] (a2 : UInt8)), .fact 3 (Fact.rep [0] (a3 : List Int))]) (sn (Sub.cons (Has.fl (Has.s rfl)) (Sub.cons (Has.fl (Has.s rfl)) (sn Sub.nil)))) ?_
 refine CWalk.seq ?_
 refine CWalk.region ?_
 refine ws (Step.boxObj (ls := [(false, 1, Fact.rep [] (a0.Stripe : Int)), (false, 1, Fact.rep [0] (a0.Blocks : List (List UInt8))), (false, 1, Fact.rep [0] (a0.Dirty : List Bool)), (false, 1, Fact.rep [] (a0.Phase : UInt8)), (false, 1, Fact.rep [] (a0.Deals : Bool)), (false, 1, Fact.rep [] (a0.Seq : UInt32))]) 10 rfl rfl rfl rfl (HasL.flds (Has.cv (Has.s rfl) (Cv.trans (Cv.opens (chHead a0)) (Cv.flds (CvL.cons Cv.fl (CvL.cons Cv.refl (CvL.cons Cv.refl (CvL.cons Cv.fl (CvL.cons Cv.fl (CvL.cons Cv.fl CvL.nil))))))))))) ?_
 refine wo (Spec.assign Has.bool) ?_
 refine Walk.nil ?_
 refine Leaf.thenN ?_
 refine CWalk.seq ?_
 obtain ⟨x1, hx1, hm⟩ := bind_some hm
 obtain ⟨x2, hx2, hm⟩ := bind_some hm
 refine CWalk.drawM [[], [], [], [0, 1, 2], [0, 1, 2, 3], [0, 1, 2, 3, 4], [0, 1, 2, 3, 4], [], [0, 1, 2, 3, 4, 5, 7], [0, 1, 2, 3, 4, 5, 6, 7, 8]] [[.fact 12 (Fact.rep [] (x1 : Config))], [.fact 13 (Fact.flds [(false, 1, Fact.rep [] (a0.Stripe : Int)), (false, 1, Fact.rep [0] (a0.Blocks : List (List UInt8))), (false, 1, Fact.rep [0] (a0.Dirty : List Bool)), (false, 1, Fact.rep [] (a0.Phase : UInt8)), (false, 1, Fact.rep [] (a0.Deals : Bool)), (false, 1, Fact.rep [] (a0.Seq : UInt32))])], [.fact 14 (Fact.rep [] (a1 : Int))], [.fact 15 (Fact.tup2 (Fact.flds [(false, 1, Fact.rep [] (x2.1.Kind : UInt8)), (false, 1, Fact.rep [18] (x2.1.Reads : List Int))]) (Fact.rep [] (x2.2 : Int)))], [.fact 11 (Fact.tup2 (Fact.flds [(false, 1, Fact.rep [] (x2.1.Kind : UInt8)), (false, 1, Fact.rep [18] (x2.1.Reads : List Int))]) (Fact.rep [] (x2.2 : Int)))], [.fact 16 (Fact.flds [(false, 1, Fact.rep [] (x2.1.Kind : UInt8)), (false, 1, Fact.rep [18] (x2.1.Reads : List Int))])], [.fact 17 (Fact.rep [] (x2.2 : Int))], [.fact 9 (.isv 19), .fact 100019 (Fact.obj 19 [(false, 1), (false, 1)]), .fact 100020 (Fact.at 20 (Fact.rep [] ((0 : UInt8) : UInt8))), .fact 100021 (Fact.at 21 (Fact.nilv)), .killId 19, .killId 20, .killId 21], [.fact 100019 (Fact.obj 19 [(false, 1), (false, 1)]), .fact 100020 (Fact.at 20 (Fact.rep [] (x2.1.Kind : UInt8))), .fact 100021 (Fact.at 21 (Fact.rep [18] (x2.1.Reads : List Int))), .kill 19, .killId 20, .killId 21], [.fact 10 (Fact.rep [] (x2.2 : Int))]] mixed (by kernel_rfl) (ao (so (Spec.callE [] 17 rfl en13 (law17_five_c  hx1) HasAll.nil)) (ao (so (Spec.loadObj (ls := [(false, 1, Fact.rep [] (a0.Stripe : Int)), (false, 1, Fact.rep [0] (a0.Blocks : List (List UInt8))), (false, 1, Fact.rep [0] (a0.Dirty : List Bool)), (false, 1, Fact.rep [] (a0.Phase : UInt8)), (false, 1, Fact.rep [] (a0.Deals : Bool)), (false, 1, Fact.rep [] (a0.Seq : UInt32))]) ty28 rfl rfl (Has.s rfl) rfl (HasGs.cons (HasG.s rfl) (HasGs.cons (HasG.s rfl) (HasGs.cons (HasG.s rfl) (HasGs.cons (HasG.s rfl) (HasGs.cons (HasG.s rfl) (HasGs.cons (HasG.s rfl) HasGs.nil)))))))) (ao (so (Spec.move (Has.s rfl))) (ao (so (Spec.callE [0] 18 rfl en9 (plan_Of_c x1 a0 a1 hx2) (HasAll.cons (Has.fl (Has.s rfl)) (HasAll.cons (Has.m (Has.cv (Has.s rfl) (Cv.trans (Cv.flds (CvL.cons Cv.fl (CvL.cons (Cv.m rfl) (CvL.cons (Cv.m rfl) (CvL.cons Cv.fl (CvL.cons Cv.fl (CvL.cons Cv.fl CvL.nil))))))) (Cv.close (T := [0]) (chHead a0)))) rfl) (HasAll.cons (Has.fl (Has.s rfl)) HasAll.nil))))) (ao (so (Spec.move (Has.s rfl))) (ao (so (Spec.ext0 (Has.s rfl))) (ao (so (Spec.ext1 (Has.s rfl))) (ao (StepG.stE (Step.allocObj (ls := [(false, 1, Fact.rep [] ((0 : UInt8) : UInt8)), (false, 1, Fact.nilv)]) 19 rfl rfl rfl rfl zl33)) (ao (StepG.stE (Step.storeObj (ls := [(false, 1, Fact.rep [] (x2.1.Kind : UInt8)), (false, 1, Fact.rep [18] (x2.1.Reads : List Int))]) rfl ty33 rfl rfl (Has.s rfl) rfl (HasL.flds (Has.s rfl)) rfl)) (ao (so (Spec.assign (Has.s rfl))) AllM.nil)))))))))) ?_
 refine Leaf.thenN ?_
 refine CWalk.seq ?_
 refine CWalk.region ?_
 refine mv ?_
 refine wo (Spec.eqlI (Has.s rfl) Has.int) ?_
 refine mv ?_
 refine wg rfl rfl (fun hb => Spec.loadObj (ls := [(false, 1, Fact.rep [] (x2.1.Kind : UInt8)), (false, 1, Fact.rep [18] (x2.1.Reads : List Int))]) ty33 rfl rfl (Has.s rfl) rfl (HasGs.cons (HasG.s rfl) (HasGs.cons (HasG.s rfl) HasGs.nil))) ?_
 refine wg rfl rfl (fun hb => Spec.move (Has.s rfl)) ?_
 refine wg rfl rfl (fun hb => Spec.move (Has.s rfl)) ?_
 refine wg rfl rfl (fun hb => Spec.build (us := [(0, .tmp 22), (1, .tmp 23)]) (ls' := [(false, 1, Fact.rep [] (a2 : UInt8)), (false, 1, Fact.rep [0] (a3 : List Int))]) bd33 rfl (BP.cons rfl rfl (Has.u rfl hb) (Has.u rfl hb) (BP.cons rfl rfl (Has.u rfl hb) (Has.u rfl hb) BP.nil))) ?_
 obtain ⟨x3, hx3, hm⟩ := bind_some hm
 refine wg (f := Fact.rep [] (x3 : Bool)) rfl rfl (fun hb => Spec.callE [0, 18] 22 rfl en11 (ref17_Same_c x2.1 (Plan.mk a2 a3) (gO_t hx3 hb)) (HasAll.cons (Has.m (Has.cv (Has.u rfl hb) (Cv.trans (Cv.flds (CvL.cons Cv.fl (CvL.cons (Cv.m rfl) CvL.nil))) (Cv.close (T := [18]) (chPlan x2.1)))) rfl) (HasAll.cons (Has.m (Has.cv (Has.u rfl hb) (Cv.trans (Cv.flds (CvL.cons Cv.fl (CvL.cons (Cv.m rfl) CvL.nil))) (Cv.close (T := [0]) (chPlan (Plan.mk a2 a3))))) rfl) HasAll.nil))) ?_
 refine wo (Spec.and (Has.s rfl) (fun h => Has.u rfl h)) ?_
 refine wo (Spec.assign (Has.s rfl)) ?_
 refine Walk.nil ?_
 refine Leaf.thenN ?_
 refine CWalk.ret ?_
 obtain rfl := Option.some.inj hm
 exact Leaf.retC1 rfl (HasR.cv (HasR.tmp (Has.s rfl)) Cv.fl)

/-- freeboard/freeboardlaw17.alive -/
def law17_alive : Option (Bool) :=
  Option.bind (law17_with (1 : Int) (3 : Int)) (fun x1 => Option.bind (law17_is x1 (-1 : Int) (1 : UInt8) ([] : List Int)) (fun x2 => Option.bind (gO (x2) (law17_with (1 : Int) (0 : Int))) (fun x3 => Option.bind (gO (x2) (law17_is x3 (-1 : Int) (3 : UInt8) ([(0 : Int), (4 : Int)]))) (fun x4 => Option.bind (gO ((x2 && x4)) (law17_with (1 : Int) (0 : Int))) (fun x5 => Option.bind (gO ((x2 && x4)) (law17_is x5 (0 : Int) (2 : UInt8) ([(1 : Int), (2 : Int), (3 : Int)]))) (fun x6 => some ((x2 && x4) && x6)))))))
set_option maxRecDepth 100000 in
set_option maxHeartbeats 2000000 in
theorem law17_alive_c {r : Bool} (hm : law17_alive = some r) : Ctr Try.prog 15 [] (.fl r) [] := by
 refine ctr_of_walk [[]] 13 Try.func15 rfl rfl rfl rfl (fun w0 om => ?_)
 unfold law17_alive at hm
 refine CWalk.sub (G' := []) (Sub.nil) ?_
 refine CWalk.seq ?_
 refine CWalk.region ?_
 refine wo (Spec.assign Has.bool) ?_
 refine Walk.nil ?_
 refine Leaf.thenN ?_
 refine CWalk.seq ?_
 refine CWalk.region ?_
 obtain ⟨x1, hx1, hm⟩ := bind_some hm
 refine wo (f := Fact.flds [(false, 1, Fact.rep [] (x1.Stripe : Int)), (false, 1, Fact.ow [10] [11] 46 (x1.Blocks : List (List UInt8))), (false, 1, Fact.ow [12] [] 4 (x1.Dirty : List Bool)), (false, 1, Fact.rep [] (x1.Phase : UInt8)), (false, 1, Fact.rep [] (x1.Deals : Bool)), (false, 1, Fact.rep [] (x1.Seq : UInt32))]) (Spec.callE [] 10 rfl en14 (law17_with_c (1 : Int) (3 : Int) hx1) (HasAll.cons (Has.fl Has.int) (HasAll.cons (Has.fl Has.int) HasAll.nil))) ?_
 obtain ⟨x2, hx2, hm⟩ := bind_some hm
 refine wo (f := Fact.rep [] (x2 : Bool)) (Spec.callE [10, 11, 12] 13 rfl en16 (law17_is_c x1 (-1 : Int) (1 : UInt8) ([] : List Int) hx2) (HasAll.cons (Has.m (Has.cv (Has.s rfl) (Cv.trans (Cv.flds (CvL.cons Cv.fl (CvL.cons (Cv.trans (Cv.trans Cv.owSl (Cv.slRep (T' := [10, 11]) rfl rfl)) (Cv.m rfl)) (CvL.cons (Cv.trans (Cv.trans Cv.owSl (Cv.slRep (T' := [12]) rfl rfl)) (Cv.m rfl)) (CvL.cons Cv.fl (CvL.cons Cv.fl (CvL.cons Cv.fl CvL.nil))))))) (Cv.close (T := [10, 11, 12]) (chHead x1)))) rfl) (HasAll.cons (Has.fl Has.int) (HasAll.cons (Has.fl (Has.u8 1 rfl)) (HasAll.cons (Has.m (Has.nil Int) rfl) HasAll.nil))))) ?_
 refine mv ?_
 obtain ⟨x3, hx3, hm⟩ := bind_some hm
 refine wg (f := Fact.flds [(false, 1, Fact.rep [] (x3.Stripe : Int)), (false, 1, Fact.ow [14] [15] 46 (x3.Blocks : List (List UInt8))), (false, 1, Fact.ow [16] [] 4 (x3.Dirty : List Bool)), (false, 1, Fact.rep [] (x3.Phase : UInt8)), (false, 1, Fact.rep [] (x3.Deals : Bool)), (false, 1, Fact.rep [] (x3.Seq : UInt32))]) rfl rfl (fun hb => Spec.callE [] 14 rfl en14 (law17_with_c (1 : Int) (0 : Int) (gO_t hx3 hb)) (HasAll.cons (Has.fl Has.int) (HasAll.cons (Has.fl Has.int) HasAll.nil))) ?_
 refine wg rfl rfl (fun hb => Spec.lit (xs := [.const (.int .i64 0), .const (.int .i64 4)]) (T := []) 17 rfl ow31 rfl rfl rfl rfl (HasEach.cons (Has.fl Has.int) (HasEach.cons (Has.fl Has.int) HasEach.nil))) ?_
 obtain ⟨x4, hx4, hm⟩ := bind_some hm
 refine wg (f := Fact.rep [] (x4 : Bool)) rfl rfl (fun hb => Spec.callE [14, 15, 16, 17] 18 rfl en16 (law17_is_c x3 (-1 : Int) (3 : UInt8) ([(0 : Int), (4 : Int)]) (gO_t hx4 hb)) (HasAll.cons (Has.m (Has.cv (Has.u rfl hb) (Cv.trans (Cv.flds (CvL.cons Cv.fl (CvL.cons (Cv.trans (Cv.trans Cv.owSl (Cv.slRep (T' := [14, 15]) rfl rfl)) (Cv.m rfl)) (CvL.cons (Cv.trans (Cv.trans Cv.owSl (Cv.slRep (T' := [16]) rfl rfl)) (Cv.m rfl)) (CvL.cons Cv.fl (CvL.cons Cv.fl (CvL.cons Cv.fl CvL.nil))))))) (Cv.close (T := [14, 15, 16]) (chHead x3)))) rfl) (HasAll.cons (Has.fl Has.int) (HasAll.cons (Has.fl (Has.u8 3 rfl)) (HasAll.cons (Has.m (Has.u rfl hb) rfl) HasAll.nil))))) ?_
 refine wo (Spec.and (Has.s rfl) (fun h => Has.u rfl h)) ?_
 refine mv ?_
 obtain ⟨x5, hx5, hm⟩ := bind_some hm
 refine wg (f := Fact.flds [(false, 1, Fact.rep [] (x5.Stripe : Int)), (false, 1, Fact.ow [19] [20] 46 (x5.Blocks : List (List UInt8))), (false, 1, Fact.ow [21] [] 4 (x5.Dirty : List Bool)), (false, 1, Fact.rep [] (x5.Phase : UInt8)), (false, 1, Fact.rep [] (x5.Deals : Bool)), (false, 1, Fact.rep [] (x5.Seq : UInt32))]) rfl rfl (fun hb => Spec.callE [] 19 rfl en14 (law17_with_c (1 : Int) (0 : Int) (gO_t hx5 hb)) (HasAll.cons (Has.fl Has.int) (HasAll.cons (Has.fl Has.int) HasAll.nil))) ?_
 refine wg rfl rfl (fun hb => Spec.lit (xs := [.const (.int .i64 1), .const (.int .i64 2), .const (.int .i64 3)]) (T := []) 22 rfl ow31 rfl rfl rfl rfl (HasEach.cons (Has.fl Has.int) (HasEach.cons (Has.fl Has.int) (HasEach.cons (Has.fl Has.int) HasEach.nil)))) ?_
 obtain ⟨x6, hx6, hm⟩ := bind_some hm
 refine wg (f := Fact.rep [] (x6 : Bool)) rfl rfl (fun hb => Spec.callE [19, 20, 21, 22] 23 rfl en16 (law17_is_c x5 (0 : Int) (2 : UInt8) ([(1 : Int), (2 : Int), (3 : Int)]) (gO_t hx6 hb)) (HasAll.cons (Has.m (Has.cv (Has.u rfl hb) (Cv.trans (Cv.flds (CvL.cons Cv.fl (CvL.cons (Cv.trans (Cv.trans Cv.owSl (Cv.slRep (T' := [19, 20]) rfl rfl)) (Cv.m rfl)) (CvL.cons (Cv.trans (Cv.trans Cv.owSl (Cv.slRep (T' := [21]) rfl rfl)) (Cv.m rfl)) (CvL.cons Cv.fl (CvL.cons Cv.fl (CvL.cons Cv.fl CvL.nil))))))) (Cv.close (T := [19, 20, 21]) (chHead x5)))) rfl) (HasAll.cons (Has.fl Has.int) (HasAll.cons (Has.fl (Has.u8 2 rfl)) (HasAll.cons (Has.m (Has.u rfl hb) rfl) HasAll.nil))))) ?_
 refine wo (Spec.and (Has.s rfl) (fun h => Has.u rfl h)) ?_
 refine wo (Spec.assign (Has.s rfl)) ?_
 refine Walk.nil ?_
 refine Leaf.thenN ?_
 refine CWalk.ret ?_
 obtain rfl := Option.some.inj hm
 exact Leaf.retC1 rfl (HasR.cv (HasR.tmp (Has.s rfl)) Cv.fl)

def ref16_Great_L1 (a0 : Head) (s1 : Int) (s2 : Int) : Option (Ctl (Int × Int) (Int)) :=
  (bif ((decide (s2 < ((a0.Blocks).length : Int))) && (decide (s2 < (100 : Int)))) then Option.bind (idx a0.Blocks s2) (fun x4 => some (Ctl.next ((wI (s1 + (wI ((8 : Int) + (min ((x4).length : Int) (100000 : Int)))))), (wI (s2 + (1 : Int)))))) else some (Ctl.brk s1))
/-- freeboard/freeboardref16.Great -/
def ref16_Great (a0 : Head) : Option (Bool) :=
  Option.bind (loopM (fun s : Int × Int => ref16_Great_L1 a0 s.1 s.2) FUEL ((0 : Int), (0 : Int))) (fun b5 => some (((decide (((a0.Blocks).length : Int) > (60 : Int))) || (decide (((a0.Dirty).length : Int) > (60 : Int)))) || (decide (b5 > (10000 : Int)))))
set_option maxRecDepth 100000 in
set_option maxHeartbeats 2000000 in
theorem ref16_Great_c (a0 : Head) {r : Bool} (hm : ref16_Great a0 = some r) : Ctr Try.prog 7 [.rep 0 a0] (.fl r) [] := by
 refine ctr_of_walk [[]] 40 Try.func7 rfl rfl rfl rfl (fun w0 om => ?_)
 unfold ref16_Great at hm
 refine CWalk.sub (G' := [.fact 0 (Fact.rep [0] (a0 : Head))]) (sn Sub.nil) ?_
 refine CWalk.seq ?_
 refine CWalk.region ?_
 refine ws (Step.boxObj (ls := [(false, 1, Fact.rep [] (a0.Stripe : Int)), (false, 1, Fact.rep [0] (a0.Blocks : List (List UInt8))), (false, 1, Fact.rep [0] (a0.Dirty : List Bool)), (false, 1, Fact.rep [] (a0.Phase : UInt8)), (false, 1, Fact.rep [] (a0.Deals : Bool)), (false, 1, Fact.rep [] (a0.Seq : UInt32))]) 10 rfl rfl rfl rfl (HasL.flds (Has.cv (Has.s rfl) (Cv.trans (Cv.opens (chHead a0)) (Cv.flds (CvL.cons Cv.fl (CvL.cons Cv.refl (CvL.cons Cv.refl (CvL.cons Cv.fl (CvL.cons Cv.fl (CvL.cons Cv.fl CvL.nil))))))))))) ?_
 refine wo (Spec.assign Has.bool) ?_
 refine Walk.nil ?_
 refine Leaf.thenN ?_
 refine CWalk.seq ?_
 refine CWalk.region ?_
 refine wo (Spec.assign Has.int) ?_
 refine Walk.nil ?_
 refine Leaf.thenN ?_
 refine CWalk.seq ?_
 refine CWalk.seq ?_
 refine CWalk.region ?_
 refine wo (Spec.assign Has.int) ?_
 refine Walk.nil ?_
 refine Leaf.thenN ?_
 refine CWalk.block ?_
 obtain ⟨b5, hb5, hm⟩ := bind_some hm
 refine CWalk.loop (fun s : Int × Int => [.fact 1 (Fact.isv 10), .fact 3 (Fact.rep [] (s.1 : Int)), .fact 4 (Fact.rep [] (s.2 : Int)), .fact 100011 (Fact.at 11 (Fact.rep [] (a0.Stripe : Int))), .fact 100012 (Fact.at 12 (Fact.rep [0] (a0.Blocks : List (List UInt8)))), .fact 100013 (Fact.at 13 (Fact.rep [0] (a0.Dirty : List Bool))), .fact 100014 (Fact.at 14 (Fact.rep [] (a0.Phase : UInt8))), .fact 100015 (Fact.at 15 (Fact.rep [] (a0.Deals : Bool))), .fact 100016 (Fact.at 16 (Fact.rep [] (a0.Seq : UInt32))), .fact 100010 (Fact.obj 10 [(false, 1), (false, 1), (false, 1), (false, 1), (false, 1), (false, 1)])]) (fun b : Int => (Exit.exit 0, [.fact 1 (Fact.isv 10), .fact 3 (Fact.rep [] (b : Int)), .fact 100011 (Fact.at 11 (Fact.rep [] (a0.Stripe : Int))), .fact 100012 (Fact.at 12 (Fact.rep [0] (a0.Blocks : List (List UInt8)))), .fact 100013 (Fact.at 13 (Fact.rep [0] (a0.Dirty : List Bool))), .fact 100014 (Fact.at 14 (Fact.rep [] (a0.Phase : UInt8))), .fact 100015 (Fact.at 15 (Fact.rep [] (a0.Deals : Bool))), .fact 100016 (Fact.at 16 (Fact.rep [] (a0.Seq : UInt32))), .fact 100010 (Fact.obj 10 [(false, 1), (false, 1), (false, 1), (false, 1), (false, 1), (false, 1)])])) hb5 (sn (st (st (sf (sm (sm (sf (sf (sf (sn Sub.nil)))))))))) ?_ ?_
 ·rintro ⟨s1, s2⟩ c3 hm
  replace hm : ref16_Great_L1 a0 s1 s2 = some c3 := hm
  unfold ref16_Great_L1 at hm
  show CWalk _ [.fact 1 (Fact.isv 10), .fact 3 (Fact.rep [] (s1 : Int)), .fact 4 (Fact.rep [] (s2 : Int)), .fact 100011 (Fact.at 11 (Fact.rep [] (a0.Stripe : Int))), .fact 100012 (Fact.at 12 (Fact.rep [0] (a0.Blocks : List (List UInt8)))), .fact 100013 (Fact.at 13 (Fact.rep [0] (a0.Dirty : List Bool))), .fact 100014 (Fact.at 14 (Fact.rep [] (a0.Phase : UInt8))), .fact 100015 (Fact.at 15 (Fact.rep [] (a0.Deals : Bool))), .fact 100016 (Fact.at 16 (Fact.rep [] (a0.Seq : UInt32))), .fact 100010 (Fact.obj 10 [(false, 1), (false, 1), (false, 1), (false, 1), (false, 1), (false, 1)])] _ _
  refine CWalk.seq ?_
  refine CWalk.seq ?_
  refine CWalk.region ?_
  refine mv ?_
  refine wo (Spec.fieldAddrO fd28_1 (Has.cv (Has.s rfl) (Cv.isvP rfl))) ?_
  refine wo (Spec.loadF (i := 1) ty25 rfl (Has.s rfl) rfl (HasG.s rfl)) ?_
  refine wo (Spec.len (Has.s rfl) Try.underlying25) ?_
  refine wo (Spec.lssI (Has.s rfl) (Has.s rfl)) ?_
  refine mv ?_
  refine wg rfl rfl (fun hb => Spec.move (Has.s rfl)) ?_
  refine wg rfl rfl (fun hb => Spec.lssI (Has.u rfl hb) Has.int) ?_
  refine wo (Spec.and (Has.s rfl) (fun h => Has.u rfl h)) ?_
  refine Walk.nil ?_
  refine Leaf.thenN ?_
  refine CWalk.cond rfl (fun hb => ?_) (fun hb => ?_)
  ·have hm := cond_t hb hm
   refine CWalk.skip ?_
   refine Leaf.thenN ?_
   refine CWalk.seq ?_
   refine CWalk.block ?_
   refine CWalk.region ?_
   refine mv ?_
   refine wo (Spec.fieldAddrO fd28_1 (Has.cv (Has.s rfl) (Cv.isvP rfl))) ?_
   refine wo (Spec.loadF (i := 1) ty25 rfl (Has.s rfl) rfl (HasG.s rfl)) ?_
   refine mv ?_
   obtain ⟨x4, hx4, hm⟩ := bind_some hm
   refine wo (Spec.indexAddr hx4 sl25 (Has.s rfl) (Has.s rfl)) ?_
   refine wo (Spec.load ty46 (Has.s rfl)) ?_
   refine wo (Spec.len (Has.s rfl) Try.underlying46) ?_
   refine wo (Spec.minI (Has.s rfl) Has.int) ?_
   refine wo (Spec.addI Has.int (Has.s rfl)) ?_
   refine wo (Spec.addI (Has.s rfl) (Has.s rfl)) ?_
   refine wo (Spec.assign (Has.s rfl)) ?_
   refine Walk.nil ?_
   refine Leaf.blockN ?_
   refine Leaf.thenN ?_
   refine CWalk.region ?_
   refine mv ?_
   refine wo (Spec.addI (Has.s rfl) Has.int) ?_
   refine wo (Spec.assign (Has.s rfl)) ?_
   refine Walk.nil ?_
   exact Leaf.next hm (sn (st (st (sf (sm (sm (sf (sf (sf (sn Sub.nil))))))))))
  ·have hm := cond_f hb hm
   refine CWalk.exit ?_
   refine Leaf.thenE ?_
   exact Leaf.brk hm (fun h => nomatch h) rfl (sn (st (sf (sm (sm (sf (sf (sf (sn Sub.nil)))))))))
 ·intro _
  refine Leaf.blockE ?_
  refine Leaf.thenN ?_
  refine CWalk.seq ?_
  refine CWalk.region ?_
  refine wo (Spec.fieldAddrO fd28_1 (Has.cv (Has.s rfl) (Cv.isvP rfl))) ?_
  refine wo (Spec.loadF (i := 1) ty25 rfl (Has.s rfl) rfl (HasG.s rfl)) ?_
  refine wo (Spec.len (Has.s rfl) Try.underlying25) ?_
  refine wo (Spec.gtrI (Has.s rfl) Has.int) ?_
  refine mv ?_
  refine wg rfl rfl (fun hb => Spec.fieldAddrO fd28_2 (Has.cv (Has.s rfl) (Cv.isvP rfl))) ?_
  refine wg rfl rfl (fun hb => Spec.loadF (i := 2) ty26 rfl (Has.u rfl hb) rfl (HasG.s rfl)) ?_
  refine wg rfl rfl (fun hb => Spec.len (Has.u rfl hb) Try.underlying26) ?_
  refine wg rfl rfl (fun hb => Spec.gtrI (Has.u rfl hb) Has.int) ?_
  refine wo (Spec.or (Has.s rfl) (fun h => Has.u rfl h)) ?_
  refine mv ?_
  refine wg rfl rfl (fun hb => Spec.move (Has.s rfl)) ?_
  refine wg rfl rfl (fun hb => Spec.gtrI (Has.u rfl hb) Has.int) ?_
  refine wo (Spec.or (Has.s rfl) (fun h => Has.u rfl h)) ?_
  refine wo (Spec.assign (Has.s rfl)) ?_
  refine Walk.nil ?_
  refine Leaf.thenN ?_
  refine CWalk.ret ?_
  obtain rfl := Option.some.inj hm
  exact Leaf.retC1 rfl (HasR.cv (HasR.tmp (Has.s rfl)) Cv.fl)

def law17_PlanFewest_J2 (s6 : Int) (j8 : Int) (j9 : Int) : Option (Ctl (Int × Int × Int) (Int × Int)) :=
  some (Ctl.next (j8, j9, (wI (s6 + (1 : Int)))))
def law17_PlanFewest_J3 (a1 : Head) (s5 : Int) (s6 : Int) (j10 : Int) : Option (Ctl (Int × Int × Int) (Int × Int)) :=
  Option.bind (idx a1.Dirty s6) (fun x11 => (bif x11 then (law17_PlanFewest_J2 s6 j10 (wI (s5 + (1 : Int)))) else (law17_PlanFewest_J2 s6 j10 s5)))
def law17_PlanFewest_L1 (a0 : Config) (a1 : Head) (s4 : Int) (s5 : Int) (s6 : Int) : Option (Ctl (Int × Int × Int) (Int × Int)) :=
  (bif (decide (s6 < (wI (a0.Members - (1 : Int))))) then Option.bind (idx a1.Blocks s6) (fun x12 => (bif (((x12).length : Int) == (0 : Int)) then (law17_PlanFewest_J3 a1 s5 s6 (wI (s4 + (1 : Int)))) else (law17_PlanFewest_J3 a1 s5 s6 s4))) else some (Ctl.brk (s4, s5)))
/-- freeboard/freeboardlaw17.PlanFewest -/
def law17_PlanFewest (a0 : Config) (a1 : Head) (a2 : Int) : Option (Bool) :=
  Option.bind (law17_alive) (fun x1 => Option.bind (plan_Of a0 a1 (-1 : Int)) (fun x2 => Option.bind (ref16_Great a1) (fun x3 => (bif ((x3 || (x2.2 != (0 : Int))) || (!x1)) then some x1 else Option.bind (loopM (fun s : Int × Int × Int => law17_PlanFewest_L1 a0 a1 s.1 s.2.1 s.2.2) FUEL ((0 : Int), (1 : Int), (0 : Int))) (fun b13 => Option.bind (plan_Of a0 a1 a2) (fun x14 => some (((((x2.1.Reads).length : Int) == (min b13.1 b13.2)) && (decide ((wI ((2 : Int) * ((x2.1.Reads).length : Int))) ≤ a0.Members))) && ((x14.2 != (0 : Int)) || (decide (((x14.1.Reads).length : Int) ≥ ((x2.1.Reads).length : Int)))))))))))
set_option maxRecDepth 100000 in
set_option maxHeartbeats 2000000 in
theorem law17_PlanFewest_c (a0 : Config) (a1 : Head) (a2 : Int) {r : Bool} (hm : law17_PlanFewest a0 a1 a2 = some r) : Ctr Try.prog 5 [.rep 0 a0, .rep 0 a1, .rep 0 a2] (.fl r) [] := by
 refine ctr_of_walk [[]] 90 Try.func5 rfl rfl rfl rfl (fun w0 om => ?_)
 unfold law17_PlanFewest at hm
 refine CWalk.sub (G' := [.fact 0 (Fact.rep [] (a0 : Config)), .fact 1 (Fact.rep [0] (a1 : Head)), .fact 2 (Fact.rep [] (a2 : Int))]) (Sub.cons (Has.fl (Has.s rfl)) (sn (Sub.cons (Has.fl (Has.s rfl)) Sub.nil))) ?_
 refine CWalk.seq ?_
 refine CWalk.region ?_
 refine ws (Step.boxObj (ls := [(false, 1, Fact.rep [] (a0.Id : UInt32)), (false, 1, Fact.rep [] (a0.Members : Int)), (false, 1, Fact.rep [] (a0.Chunk : Int)), (false, 1, Fact.rep [] (a0.Rows : Int)), (false, 1, Fact.rep [] (a0.Log : Int)), (false, 1, Fact.rep [] (a0.Heads : Int))]) 10 rfl rfl rfl rfl (HasL.flds (Has.cv (Has.s rfl) (Cv.trans (Cv.opens (chConfig a0)) (Cv.flds (CvL.cons Cv.fl (CvL.cons Cv.fl (CvL.cons Cv.fl (CvL.cons Cv.fl (CvL.cons Cv.fl (CvL.cons Cv.fl CvL.nil))))))))))) ?_
 refine ws (Step.boxObj (ls := [(false, 1, Fact.rep [] (a1.Stripe : Int)), (false, 1, Fact.rep [0] (a1.Blocks : List (List UInt8))), (false, 1, Fact.rep [0] (a1.Dirty : List Bool)), (false, 1, Fact.rep [] (a1.Phase : UInt8)), (false, 1, Fact.rep [] (a1.Deals : Bool)), (false, 1, Fact.rep [] (a1.Seq : UInt32))]) 17 rfl rfl rfl rfl (HasL.flds (Has.cv (Has.s rfl) (Cv.trans (Cv.opens (chHead a1)) (Cv.flds (CvL.cons Cv.fl (CvL.cons Cv.refl (CvL.cons Cv.refl (CvL.cons Cv.fl (CvL.cons Cv.fl (CvL.cons Cv.fl CvL.nil))))))))))) ?_
 refine wo (Spec.assign Has.bool) ?_
 refine Walk.nil ?_
 refine Leaf.thenN ?_
 refine CWalk.seq ?_
 refine CWalk.region ?_
 obtain ⟨x1, hx1, hm⟩ := bind_some hm
 refine wo (f := Fact.rep [] (x1 : Bool)) (Spec.callE [] 24 rfl en15 (law17_alive_c  hx1) HasAll.nil) ?_
 refine wo (Spec.assign (Has.s rfl)) ?_
 refine Walk.nil ?_
 refine Leaf.thenN ?_
 refine CWalk.seq ?_
 refine CWalk.region ?_
 refine wo (Spec.loadObj (ls := [(false, 1, Fact.rep [] (a0.Id : UInt32)), (false, 1, Fact.rep [] (a0.Members : Int)), (false, 1, Fact.rep [] (a0.Chunk : Int)), (false, 1, Fact.rep [] (a0.Rows : Int)), (false, 1, Fact.rep [] (a0.Log : Int)), (false, 1, Fact.rep [] (a0.Heads : Int))]) ty24 rfl rfl (Has.s rfl) rfl (HasGs.cons (HasG.s rfl) (HasGs.cons (HasG.s rfl) (HasGs.cons (HasG.s rfl) (HasGs.cons (HasG.s rfl) (HasGs.cons (HasG.s rfl) (HasGs.cons (HasG.s rfl) HasGs.nil))))))) ?_
 refine wo (Spec.loadObj (ls := [(false, 1, Fact.rep [] (a1.Stripe : Int)), (false, 1, Fact.rep [0] (a1.Blocks : List (List UInt8))), (false, 1, Fact.rep [0] (a1.Dirty : List Bool)), (false, 1, Fact.rep [] (a1.Phase : UInt8)), (false, 1, Fact.rep [] (a1.Deals : Bool)), (false, 1, Fact.rep [] (a1.Seq : UInt32))]) ty28 rfl rfl (Has.s rfl) rfl (HasGs.cons (HasG.s rfl) (HasGs.cons (HasG.s rfl) (HasGs.cons (HasG.s rfl) (HasGs.cons (HasG.s rfl) (HasGs.cons (HasG.s rfl) (HasGs.cons (HasG.s rfl) HasGs.nil))))))) ?_
 obtain ⟨x2, hx2, hm⟩ := bind_some hm
 refine wo (f := Fact.tup2 (Fact.flds [(false, 1, Fact.rep [] (x2.1.Kind : UInt8)), (false, 1, Fact.rep [25] (x2.1.Reads : List Int))]) (Fact.rep [] (x2.2 : Int))) (Spec.callE [0] 25 rfl en9 (plan_Of_c a0 a1 (-1 : Int) hx2) (HasAll.cons (Has.fl (Has.cv (Has.s rfl) (Cv.trans (Cv.flds (CvL.cons Cv.fl (CvL.cons Cv.fl (CvL.cons Cv.fl (CvL.cons Cv.fl (CvL.cons Cv.fl (CvL.cons Cv.fl CvL.nil))))))) (Cv.close (T := []) (chConfig a0))))) (HasAll.cons (Has.m (Has.cv (Has.s rfl) (Cv.trans (Cv.flds (CvL.cons Cv.fl (CvL.cons (Cv.m rfl) (CvL.cons (Cv.m rfl) (CvL.cons Cv.fl (CvL.cons Cv.fl (CvL.cons Cv.fl CvL.nil))))))) (Cv.close (T := [0]) (chHead a1)))) rfl) (HasAll.cons (Has.fl Has.int) HasAll.nil)))) ?_
 refine mv ?_
 refine wo (Spec.ext0 (Has.s rfl)) ?_
 refine wo (Spec.ext1 (Has.s rfl)) ?_
 refine ws (Step.allocObj (ls := [(false, 1, Fact.rep [] ((0 : UInt8) : UInt8)), (false, 1, Fact.nilv)]) 26 rfl rfl rfl rfl zl33) ?_
 refine ws (Step.storeObj (ls := [(false, 1, Fact.rep [] (x2.1.Kind : UInt8)), (false, 1, Fact.rep [25] (x2.1.Reads : List Int))]) rfl ty33 rfl rfl (Has.s rfl) rfl (HasL.flds (Has.s rfl)) rfl) ?_
 refine wo (Spec.assign (Has.s rfl)) ?_
 refine Walk.nil ?_
 refine Leaf.thenN ?_
 refine CWalk.seq ?_
 refine CWalk.seq ?_
 refine CWalk.region ?_
 refine wo (Spec.loadObj (ls := [(false, 1, Fact.rep [] (a1.Stripe : Int)), (false, 1, Fact.rep [0] (a1.Blocks : List (List UInt8))), (false, 1, Fact.rep [0] (a1.Dirty : List Bool)), (false, 1, Fact.rep [] (a1.Phase : UInt8)), (false, 1, Fact.rep [] (a1.Deals : Bool)), (false, 1, Fact.rep [] (a1.Seq : UInt32))]) ty28 rfl rfl (Has.s rfl) rfl (HasGs.cons (HasG.s rfl) (HasGs.cons (HasG.s rfl) (HasGs.cons (HasG.s rfl) (HasGs.cons (HasG.s rfl) (HasGs.cons (HasG.s rfl) (HasGs.cons (HasG.s rfl) HasGs.nil))))))) ?_
 obtain ⟨x3, hx3, hm⟩ := bind_some hm
 refine wo (f := Fact.rep [] (x3 : Bool)) (Spec.callE [0] 29 rfl en7 (ref16_Great_c a1 hx3) (HasAll.cons (Has.m (Has.cv (Has.s rfl) (Cv.trans (Cv.flds (CvL.cons Cv.fl (CvL.cons (Cv.m rfl) (CvL.cons (Cv.m rfl) (CvL.cons Cv.fl (CvL.cons Cv.fl (CvL.cons Cv.fl CvL.nil))))))) (Cv.close (T := [0]) (chHead a1)))) rfl) HasAll.nil)) ?_
 refine mv ?_
 refine wg rfl rfl (fun hb => Spec.move (Has.s rfl)) ?_
 refine wg rfl rfl (fun hb => Spec.neqI (Has.u rfl hb) Has.int) ?_
 refine wo (Spec.or (Has.s rfl) (fun h => Has.u rfl h)) ?_
 refine mv ?_
 refine wg rfl rfl (fun hb => Spec.move (Has.s rfl)) ?_
 refine wg rfl rfl (fun hb => Spec.not (Has.u rfl hb)) ?_
 refine wo (Spec.or (Has.s rfl) (fun h => Has.u rfl h)) ?_
 refine Walk.nil ?_
 refine Leaf.thenN ?_
 refine CWalk.cond rfl (fun hb => ?_) (fun hb => ?_)
 ·have hm := cond_t hb hm
  refine CWalk.seq ?_
  refine CWalk.region ?_
  refine mv ?_
  refine wo (Spec.assign (Has.s rfl)) ?_
  refine Walk.nil ?_
  refine Leaf.thenN ?_
  refine CWalk.ret ?_
  refine Leaf.thenR ?_
  obtain rfl := Option.some.inj hm
  exact Leaf.retC1 rfl (HasR.cv (HasR.tmp (Has.s rfl)) Cv.fl)
 ·have hm := cond_f hb hm
  refine CWalk.skip ?_
  refine Leaf.thenN ?_
  refine CWalk.seq ?_
  refine CWalk.region ?_
  refine wo (Spec.assign Has.int) ?_
  refine wo (Spec.assign Has.int) ?_
  refine Walk.nil ?_
  refine Leaf.thenN ?_
  refine CWalk.seq ?_
  refine CWalk.seq ?_
  refine CWalk.region ?_
  refine wo (Spec.assign Has.int) ?_
  refine Walk.nil ?_
  refine Leaf.thenN ?_
  refine CWalk.block ?_
  obtain ⟨b13, hb13, hm⟩ := bind_some hm
  refine CWalk.loop (fun s : Int × Int × Int => [.fact 2 (Fact.rep [] (a2 : Int)), .fact 3 (Fact.isv 10), .fact 4 (Fact.isv 17), .fact 8 (Fact.isv 26), .fact 10 (Fact.rep [] (s.1 : Int)), .fact 11 (Fact.rep [] (s.2.1 : Int)), .fact 12 (Fact.rep [] (s.2.2 : Int)), .fact 100011 (Fact.at 11 (Fact.rep [] (a0.Id : UInt32))), .fact 100012 (Fact.at 12 (Fact.rep [] (a0.Members : Int))), .fact 100013 (Fact.at 13 (Fact.rep [] (a0.Chunk : Int))), .fact 100014 (Fact.at 14 (Fact.rep [] (a0.Rows : Int))), .fact 100015 (Fact.at 15 (Fact.rep [] (a0.Log : Int))), .fact 100016 (Fact.at 16 (Fact.rep [] (a0.Heads : Int))), .fact 100018 (Fact.at 18 (Fact.rep [] (a1.Stripe : Int))), .fact 100019 (Fact.at 19 (Fact.rep [0] (a1.Blocks : List (List UInt8)))), .fact 100020 (Fact.at 20 (Fact.rep [0] (a1.Dirty : List Bool))), .fact 100021 (Fact.at 21 (Fact.rep [] (a1.Phase : UInt8))), .fact 100022 (Fact.at 22 (Fact.rep [] (a1.Deals : Bool))), .fact 100023 (Fact.at 23 (Fact.rep [] (a1.Seq : UInt32))), .fact 100027 (Fact.at 27 (Fact.rep [] (x2.1.Kind : UInt8))), .fact 100028 (Fact.at 28 (Fact.rep [25] (x2.1.Reads : List Int))), .fact 100010 (Fact.obj 10 [(false, 1), (false, 1), (false, 1), (false, 1), (false, 1), (false, 1)]), .fact 100017 (Fact.obj 17 [(false, 1), (false, 1), (false, 1), (false, 1), (false, 1), (false, 1)]), .fact 100026 (Fact.obj 26 [(false, 1), (false, 1)])]) (fun b : Int × Int => (Exit.exit 0, [.fact 2 (Fact.rep [] (a2 : Int)), .fact 3 (Fact.isv 10), .fact 4 (Fact.isv 17), .fact 8 (Fact.isv 26), .fact 10 (Fact.rep [] (b.1 : Int)), .fact 11 (Fact.rep [] (b.2 : Int)), .fact 100011 (Fact.at 11 (Fact.rep [] (a0.Id : UInt32))), .fact 100012 (Fact.at 12 (Fact.rep [] (a0.Members : Int))), .fact 100013 (Fact.at 13 (Fact.rep [] (a0.Chunk : Int))), .fact 100014 (Fact.at 14 (Fact.rep [] (a0.Rows : Int))), .fact 100015 (Fact.at 15 (Fact.rep [] (a0.Log : Int))), .fact 100016 (Fact.at 16 (Fact.rep [] (a0.Heads : Int))), .fact 100018 (Fact.at 18 (Fact.rep [] (a1.Stripe : Int))), .fact 100019 (Fact.at 19 (Fact.rep [0] (a1.Blocks : List (List UInt8)))), .fact 100020 (Fact.at 20 (Fact.rep [0] (a1.Dirty : List Bool))), .fact 100021 (Fact.at 21 (Fact.rep [] (a1.Phase : UInt8))), .fact 100022 (Fact.at 22 (Fact.rep [] (a1.Deals : Bool))), .fact 100023 (Fact.at 23 (Fact.rep [] (a1.Seq : UInt32))), .fact 100027 (Fact.at 27 (Fact.rep [] (x2.1.Kind : UInt8))), .fact 100028 (Fact.at 28 (Fact.rep [25] (x2.1.Reads : List Int))), .fact 100010 (Fact.obj 10 [(false, 1), (false, 1), (false, 1), (false, 1), (false, 1), (false, 1)]), .fact 100017 (Fact.obj 17 [(false, 1), (false, 1), (false, 1), (false, 1), (false, 1), (false, 1)]), .fact 100026 (Fact.obj 26 [(false, 1), (false, 1)])])) hb13 (st (sn (sn (sn (st (st (st (sf (sf (sf (sf (sf (sf (sf (sm (sm (sf (sf (sf (sf (sm (sn (sn (sn Sub.nil)))))))))))))))))))))))) ?_ ?_
  ·rintro ⟨s4, s5, s6⟩ c7 hm
   replace hm : law17_PlanFewest_L1 a0 a1 s4 s5 s6 = some c7 := hm
   unfold law17_PlanFewest_L1 at hm
   show CWalk _ [.fact 2 (Fact.rep [] (a2 : Int)), .fact 3 (Fact.isv 10), .fact 4 (Fact.isv 17), .fact 8 (Fact.isv 26), .fact 10 (Fact.rep [] (s4 : Int)), .fact 11 (Fact.rep [] (s5 : Int)), .fact 12 (Fact.rep [] (s6 : Int)), .fact 100011 (Fact.at 11 (Fact.rep [] (a0.Id : UInt32))), .fact 100012 (Fact.at 12 (Fact.rep [] (a0.Members : Int))), .fact 100013 (Fact.at 13 (Fact.rep [] (a0.Chunk : Int))), .fact 100014 (Fact.at 14 (Fact.rep [] (a0.Rows : Int))), .fact 100015 (Fact.at 15 (Fact.rep [] (a0.Log : Int))), .fact 100016 (Fact.at 16 (Fact.rep [] (a0.Heads : Int))), .fact 100018 (Fact.at 18 (Fact.rep [] (a1.Stripe : Int))), .fact 100019 (Fact.at 19 (Fact.rep [0] (a1.Blocks : List (List UInt8)))), .fact 100020 (Fact.at 20 (Fact.rep [0] (a1.Dirty : List Bool))), .fact 100021 (Fact.at 21 (Fact.rep [] (a1.Phase : UInt8))), .fact 100022 (Fact.at 22 (Fact.rep [] (a1.Deals : Bool))), .fact 100023 (Fact.at 23 (Fact.rep [] (a1.Seq : UInt32))), .fact 100027 (Fact.at 27 (Fact.rep [] (x2.1.Kind : UInt8))), .fact 100028 (Fact.at 28 (Fact.rep [25] (x2.1.Reads : List Int))), .fact 100010 (Fact.obj 10 [(false, 1), (false, 1), (false, 1), (false, 1), (false, 1), (false, 1)]), .fact 100017 (Fact.obj 17 [(false, 1), (false, 1), (false, 1), (false, 1), (false, 1), (false, 1)]), .fact 100026 (Fact.obj 26 [(false, 1), (false, 1)])] _ _
   refine CWalk.seq ?_
   refine CWalk.seq ?_
   refine CWalk.region ?_
   refine mv ?_
   refine wo (Spec.fieldAddrO fd24_1 (Has.cv (Has.s rfl) (Cv.isvP rfl))) ?_
   refine wo (Spec.loadF (i := 1) ty3 rfl (Has.s rfl) rfl (HasG.s rfl)) ?_
   refine wo (Spec.subI (Has.s rfl) Has.int) ?_
   refine wo (Spec.lssI (Has.s rfl) (Has.s rfl)) ?_
   refine Walk.nil ?_
   refine Leaf.thenN ?_
   refine CWalk.cond rfl (fun hb => ?_) (fun hb => ?_)
   ·have hm := cond_t hb hm
    refine CWalk.skip ?_
    refine Leaf.thenN ?_
    refine CWalk.seqJ (fun p : Int × Int => [.fact 2 (Fact.rep [] (a2 : Int)), .fact 3 (Fact.isv 10), .fact 4 (Fact.isv 17), .fact 8 (Fact.isv 26), .fact 10 (Fact.rep [] (p.1 : Int)), .fact 11 (Fact.rep [] (p.2 : Int)), .fact 12 (Fact.rep [] (s6 : Int)), .fact 100011 (Fact.at 11 (Fact.rep [] (a0.Id : UInt32))), .fact 100012 (Fact.at 12 (Fact.rep [] (a0.Members : Int))), .fact 100013 (Fact.at 13 (Fact.rep [] (a0.Chunk : Int))), .fact 100014 (Fact.at 14 (Fact.rep [] (a0.Rows : Int))), .fact 100015 (Fact.at 15 (Fact.rep [] (a0.Log : Int))), .fact 100016 (Fact.at 16 (Fact.rep [] (a0.Heads : Int))), .fact 100018 (Fact.at 18 (Fact.rep [] (a1.Stripe : Int))), .fact 100019 (Fact.at 19 (Fact.rep [0] (a1.Blocks : List (List UInt8)))), .fact 100020 (Fact.at 20 (Fact.rep [0] (a1.Dirty : List Bool))), .fact 100021 (Fact.at 21 (Fact.rep [] (a1.Phase : UInt8))), .fact 100022 (Fact.at 22 (Fact.rep [] (a1.Deals : Bool))), .fact 100023 (Fact.at 23 (Fact.rep [] (a1.Seq : UInt32))), .fact 100027 (Fact.at 27 (Fact.rep [] (x2.1.Kind : UInt8))), .fact 100028 (Fact.at 28 (Fact.rep [25] (x2.1.Reads : List Int))), .fact 100010 (Fact.obj 10 [(false, 1), (false, 1), (false, 1), (false, 1), (false, 1), (false, 1)]), .fact 100017 (Fact.obj 17 [(false, 1), (false, 1), (false, 1), (false, 1), (false, 1), (false, 1)]), .fact 100026 (Fact.obj 26 [(false, 1), (false, 1)])]) (fun p : Int × Int => law17_PlanFewest_J2 s6 p.1 p.2 = some c7) ?_ ?_
    ·rintro ⟨j8, j9⟩ hm
     replace hm : law17_PlanFewest_J2 s6 j8 j9 = some c7 := hm
     unfold law17_PlanFewest_J2 at hm
     show CWalk _ [.fact 2 (Fact.rep [] (a2 : Int)), .fact 3 (Fact.isv 10), .fact 4 (Fact.isv 17), .fact 8 (Fact.isv 26), .fact 10 (Fact.rep [] (j8 : Int)), .fact 11 (Fact.rep [] (j9 : Int)), .fact 12 (Fact.rep [] (s6 : Int)), .fact 100011 (Fact.at 11 (Fact.rep [] (a0.Id : UInt32))), .fact 100012 (Fact.at 12 (Fact.rep [] (a0.Members : Int))), .fact 100013 (Fact.at 13 (Fact.rep [] (a0.Chunk : Int))), .fact 100014 (Fact.at 14 (Fact.rep [] (a0.Rows : Int))), .fact 100015 (Fact.at 15 (Fact.rep [] (a0.Log : Int))), .fact 100016 (Fact.at 16 (Fact.rep [] (a0.Heads : Int))), .fact 100018 (Fact.at 18 (Fact.rep [] (a1.Stripe : Int))), .fact 100019 (Fact.at 19 (Fact.rep [0] (a1.Blocks : List (List UInt8)))), .fact 100020 (Fact.at 20 (Fact.rep [0] (a1.Dirty : List Bool))), .fact 100021 (Fact.at 21 (Fact.rep [] (a1.Phase : UInt8))), .fact 100022 (Fact.at 22 (Fact.rep [] (a1.Deals : Bool))), .fact 100023 (Fact.at 23 (Fact.rep [] (a1.Seq : UInt32))), .fact 100027 (Fact.at 27 (Fact.rep [] (x2.1.Kind : UInt8))), .fact 100028 (Fact.at 28 (Fact.rep [25] (x2.1.Reads : List Int))), .fact 100010 (Fact.obj 10 [(false, 1), (false, 1), (false, 1), (false, 1), (false, 1), (false, 1)]), .fact 100017 (Fact.obj 17 [(false, 1), (false, 1), (false, 1), (false, 1), (false, 1), (false, 1)]), .fact 100026 (Fact.obj 26 [(false, 1), (false, 1)])] _ _
     refine CWalk.region ?_
     refine mv ?_
     refine wo (Spec.addI (Has.s rfl) Has.int) ?_
     refine wo (Spec.assign (Has.s rfl)) ?_
     refine Walk.nil ?_
     exact Leaf.next hm (st (sn (sn (sn (st (st (st (sf (sf (sf (sf (sf (sf (sf (sm (sm (sf (sf (sf (sf (sm (sn (sn (sn Sub.nil))))))))))))))))))))))))
    ·refine CWalk.block ?_
     refine CWalk.seqJ (fun p : Int => [.fact 2 (Fact.rep [] (a2 : Int)), .fact 3 (Fact.isv 10), .fact 4 (Fact.isv 17), .fact 8 (Fact.isv 26), .fact 10 (Fact.rep [] (p : Int)), .fact 11 (Fact.rep [] (s5 : Int)), .fact 12 (Fact.rep [] (s6 : Int)), .fact 100011 (Fact.at 11 (Fact.rep [] (a0.Id : UInt32))), .fact 100012 (Fact.at 12 (Fact.rep [] (a0.Members : Int))), .fact 100013 (Fact.at 13 (Fact.rep [] (a0.Chunk : Int))), .fact 100014 (Fact.at 14 (Fact.rep [] (a0.Rows : Int))), .fact 100015 (Fact.at 15 (Fact.rep [] (a0.Log : Int))), .fact 100016 (Fact.at 16 (Fact.rep [] (a0.Heads : Int))), .fact 100018 (Fact.at 18 (Fact.rep [] (a1.Stripe : Int))), .fact 100019 (Fact.at 19 (Fact.rep [0] (a1.Blocks : List (List UInt8)))), .fact 100020 (Fact.at 20 (Fact.rep [0] (a1.Dirty : List Bool))), .fact 100021 (Fact.at 21 (Fact.rep [] (a1.Phase : UInt8))), .fact 100022 (Fact.at 22 (Fact.rep [] (a1.Deals : Bool))), .fact 100023 (Fact.at 23 (Fact.rep [] (a1.Seq : UInt32))), .fact 100027 (Fact.at 27 (Fact.rep [] (x2.1.Kind : UInt8))), .fact 100028 (Fact.at 28 (Fact.rep [25] (x2.1.Reads : List Int))), .fact 100010 (Fact.obj 10 [(false, 1), (false, 1), (false, 1), (false, 1), (false, 1), (false, 1)]), .fact 100017 (Fact.obj 17 [(false, 1), (false, 1), (false, 1), (false, 1), (false, 1), (false, 1)]), .fact 100026 (Fact.obj 26 [(false, 1), (false, 1)])]) (fun p : Int => law17_PlanFewest_J3 a1 s5 s6 p = some c7) ?_ ?_
     ·rintro j10 hm
      replace hm : law17_PlanFewest_J3 a1 s5 s6 j10 = some c7 := hm
      unfold law17_PlanFewest_J3 at hm
      show CWalk _ [.fact 2 (Fact.rep [] (a2 : Int)), .fact 3 (Fact.isv 10), .fact 4 (Fact.isv 17), .fact 8 (Fact.isv 26), .fact 10 (Fact.rep [] (j10 : Int)), .fact 11 (Fact.rep [] (s5 : Int)), .fact 12 (Fact.rep [] (s6 : Int)), .fact 100011 (Fact.at 11 (Fact.rep [] (a0.Id : UInt32))), .fact 100012 (Fact.at 12 (Fact.rep [] (a0.Members : Int))), .fact 100013 (Fact.at 13 (Fact.rep [] (a0.Chunk : Int))), .fact 100014 (Fact.at 14 (Fact.rep [] (a0.Rows : Int))), .fact 100015 (Fact.at 15 (Fact.rep [] (a0.Log : Int))), .fact 100016 (Fact.at 16 (Fact.rep [] (a0.Heads : Int))), .fact 100018 (Fact.at 18 (Fact.rep [] (a1.Stripe : Int))), .fact 100019 (Fact.at 19 (Fact.rep [0] (a1.Blocks : List (List UInt8)))), .fact 100020 (Fact.at 20 (Fact.rep [0] (a1.Dirty : List Bool))), .fact 100021 (Fact.at 21 (Fact.rep [] (a1.Phase : UInt8))), .fact 100022 (Fact.at 22 (Fact.rep [] (a1.Deals : Bool))), .fact 100023 (Fact.at 23 (Fact.rep [] (a1.Seq : UInt32))), .fact 100027 (Fact.at 27 (Fact.rep [] (x2.1.Kind : UInt8))), .fact 100028 (Fact.at 28 (Fact.rep [25] (x2.1.Reads : List Int))), .fact 100010 (Fact.obj 10 [(false, 1), (false, 1), (false, 1), (false, 1), (false, 1), (false, 1)]), .fact 100017 (Fact.obj 17 [(false, 1), (false, 1), (false, 1), (false, 1), (false, 1), (false, 1)]), .fact 100026 (Fact.obj 26 [(false, 1), (false, 1)])] _ _
      refine CWalk.seq ?_
      refine CWalk.region ?_
      refine wo (Spec.fieldAddrO fd28_2 (Has.cv (Has.s rfl) (Cv.isvP rfl))) ?_
      refine wo (Spec.loadF (i := 2) ty26 rfl (Has.s rfl) rfl (HasG.s rfl)) ?_
      refine mv ?_
      obtain ⟨x11, hx11, hm⟩ := bind_some hm
      refine wo (Spec.indexAddr hx11 sl26 (Has.s rfl) (Has.s rfl)) ?_
      refine wo ((Spec.load ty4 (Has.s rfl)).flat (T' := [])) ?_
      refine Walk.nil ?_
      refine Leaf.thenN ?_
      refine CWalk.cond rfl (fun hb => ?_) (fun hb => ?_)
      ·have hm := cond_t hb hm
       refine CWalk.region ?_
       refine mv ?_
       refine wo (Spec.addI (Has.s rfl) Has.int) ?_
       refine wo (Spec.assign (Has.s rfl)) ?_
       refine Walk.nil ?_
       refine Leaf.blockN ?_
       exact Leaf.join (j10, (wI (s5 + (1 : Int)))) hm (st (sn (sn (sn (st (st (st (sf (sf (sf (sf (sf (sf (sf (sm (sm (sf (sf (sf (sf (sm (sn (sn (sn Sub.nil))))))))))))))))))))))))
      ·have hm := cond_f hb hm
       refine CWalk.skip ?_
       refine Leaf.blockN ?_
       exact Leaf.join (j10, s5) hm (st (sn (sn (sn (st (st (st (sf (sf (sf (sf (sf (sf (sf (sm (sm (sf (sf (sf (sf (sm (sn (sn (sn Sub.nil))))))))))))))))))))))))
     ·refine CWalk.seq ?_
      refine CWalk.region ?_
      refine wo (Spec.fieldAddrO fd28_1 (Has.cv (Has.s rfl) (Cv.isvP rfl))) ?_
      refine wo (Spec.loadF (i := 1) ty25 rfl (Has.s rfl) rfl (HasG.s rfl)) ?_
      refine mv ?_
      obtain ⟨x12, hx12, hm⟩ := bind_some hm
      refine wo (Spec.indexAddr hx12 sl25 (Has.s rfl) (Has.s rfl)) ?_
      refine wo (Spec.load ty46 (Has.s rfl)) ?_
      refine wo (Spec.len (Has.s rfl) Try.underlying46) ?_
      refine wo (Spec.eqlI (Has.s rfl) Has.int) ?_
      refine Walk.nil ?_
      refine Leaf.thenN ?_
      refine CWalk.cond rfl (fun hb => ?_) (fun hb => ?_)
      ·have hm := cond_t hb hm
       refine CWalk.region ?_
       refine mv ?_
       refine wo (Spec.addI (Has.s rfl) Has.int) ?_
       refine wo (Spec.assign (Has.s rfl)) ?_
       refine Walk.nil ?_
       exact Leaf.join (wI (s4 + (1 : Int))) hm (st (sn (sn (sn (st (st (st (sf (sf (sf (sf (sf (sf (sf (sm (sm (sf (sf (sf (sf (sm (sn (sn (sn Sub.nil))))))))))))))))))))))))
      ·have hm := cond_f hb hm
       refine CWalk.skip ?_
       exact Leaf.join s4 hm (st (sn (sn (sn (st (st (st (sf (sf (sf (sf (sf (sf (sf (sm (sm (sf (sf (sf (sf (sm (sn (sn (sn Sub.nil))))))))))))))))))))))))
   ·have hm := cond_f hb hm
    refine CWalk.exit ?_
    refine Leaf.thenE ?_
    exact Leaf.brk hm (fun h => nomatch h) rfl (st (sn (sn (sn (st (st (sf (sf (sf (sf (sf (sf (sf (sm (sm (sf (sf (sf (sf (sm (sn (sn (sn Sub.nil)))))))))))))))))))))))
  ·intro _
   refine Leaf.blockE ?_
   refine Leaf.thenN ?_
   refine CWalk.seq ?_
   refine CWalk.region ?_
   refine wo (Spec.fieldAddrO fd33_1 (Has.cv (Has.s rfl) (Cv.isvP rfl))) ?_
   refine wo (Spec.loadF (i := 1) ty31 rfl (Has.s rfl) rfl (HasG.s rfl)) ?_
   refine wo (Spec.len (Has.s rfl) Try.underlying31) ?_
   refine wo (Spec.assign (Has.s rfl)) ?_
   refine Walk.nil ?_
   refine Leaf.thenN ?_
   refine CWalk.seq ?_
   refine CWalk.region ?_
   refine wo (Spec.loadObj (ls := [(false, 1, Fact.rep [] (a0.Id : UInt32)), (false, 1, Fact.rep [] (a0.Members : Int)), (false, 1, Fact.rep [] (a0.Chunk : Int)), (false, 1, Fact.rep [] (a0.Rows : Int)), (false, 1, Fact.rep [] (a0.Log : Int)), (false, 1, Fact.rep [] (a0.Heads : Int))]) ty24 rfl rfl (Has.s rfl) rfl (HasGs.cons (HasG.s rfl) (HasGs.cons (HasG.s rfl) (HasGs.cons (HasG.s rfl) (HasGs.cons (HasG.s rfl) (HasGs.cons (HasG.s rfl) (HasGs.cons (HasG.s rfl) HasGs.nil))))))) ?_
   refine wo (Spec.loadObj (ls := [(false, 1, Fact.rep [] (a1.Stripe : Int)), (false, 1, Fact.rep [0] (a1.Blocks : List (List UInt8))), (false, 1, Fact.rep [0] (a1.Dirty : List Bool)), (false, 1, Fact.rep [] (a1.Phase : UInt8)), (false, 1, Fact.rep [] (a1.Deals : Bool)), (false, 1, Fact.rep [] (a1.Seq : UInt32))]) ty28 rfl rfl (Has.s rfl) rfl (HasGs.cons (HasG.s rfl) (HasGs.cons (HasG.s rfl) (HasGs.cons (HasG.s rfl) (HasGs.cons (HasG.s rfl) (HasGs.cons (HasG.s rfl) (HasGs.cons (HasG.s rfl) HasGs.nil))))))) ?_
   refine mv ?_
   obtain ⟨x14, hx14, hm⟩ := bind_some hm
   refine wo (f := Fact.tup2 (Fact.flds [(false, 1, Fact.rep [] (x14.1.Kind : UInt8)), (false, 1, Fact.rep [30] (x14.1.Reads : List Int))]) (Fact.rep [] (x14.2 : Int))) (Spec.callE [0] 30 rfl en9 (plan_Of_c a0 a1 a2 hx14) (HasAll.cons (Has.fl (Has.cv (Has.s rfl) (Cv.trans (Cv.flds (CvL.cons Cv.fl (CvL.cons Cv.fl (CvL.cons Cv.fl (CvL.cons Cv.fl (CvL.cons Cv.fl (CvL.cons Cv.fl CvL.nil))))))) (Cv.close (T := []) (chConfig a0))))) (HasAll.cons (Has.m (Has.cv (Has.s rfl) (Cv.trans (Cv.flds (CvL.cons Cv.fl (CvL.cons (Cv.m rfl) (CvL.cons (Cv.m rfl) (CvL.cons Cv.fl (CvL.cons Cv.fl (CvL.cons Cv.fl CvL.nil))))))) (Cv.close (T := [0]) (chHead a1)))) rfl) (HasAll.cons (Has.fl (Has.s rfl)) HasAll.nil)))) ?_
   refine mv ?_
   refine wo (Spec.ext0 (Has.s rfl)) ?_
   refine wo (Spec.ext1 (Has.s rfl)) ?_
   refine ws (Step.allocObj (ls := [(false, 1, Fact.rep [] ((0 : UInt8) : UInt8)), (false, 1, Fact.nilv)]) 31 rfl rfl rfl rfl zl33) ?_
   refine ws (Step.storeObj (ls := [(false, 1, Fact.rep [] (x14.1.Kind : UInt8)), (false, 1, Fact.rep [30] (x14.1.Reads : List Int))]) rfl ty33 rfl rfl (Has.s rfl) rfl (HasL.flds (Has.s rfl)) rfl) ?_
   refine wo (Spec.assign (Has.s rfl)) ?_
   refine Walk.nil ?_
   refine Leaf.thenN ?_
   refine CWalk.seq ?_
   refine CWalk.region ?_
   refine mv ?_
   refine mv ?_
   refine mv ?_
   refine wo (Spec.minI (Has.s rfl) (Has.s rfl)) ?_
   refine wo (Spec.eqlI (Has.s rfl) (Has.s rfl)) ?_
   refine mv ?_
   refine wg rfl rfl (fun hb => Spec.move (Has.s rfl)) ?_
   refine wg rfl rfl (fun hb => Spec.mulI Has.int (Has.u rfl hb)) ?_
   refine wg rfl rfl (fun hb => Spec.fieldAddrO fd24_1 (Has.cv (Has.s rfl) (Cv.isvP rfl))) ?_
   refine wg rfl rfl (fun hb => Spec.loadF (i := 1) ty3 rfl (Has.u rfl hb) rfl (HasG.s rfl)) ?_
   refine wg rfl rfl (fun hb => Spec.leqI (Has.u rfl hb) (Has.u rfl hb)) ?_
   refine wo (Spec.and (Has.s rfl) (fun h => Has.u rfl h)) ?_
   refine mv ?_
   refine wg rfl rfl (fun hb => Spec.move (Has.s rfl)) ?_
   refine wg rfl rfl (fun hb => Spec.neqI (Has.u rfl hb) Has.int) ?_
   refine wg rfl rfl (fun hb => Spec.move (Has.u rfl hb)) ?_
   refine Walk.opgu rfl rfl rfl (fun hb => Spec.fieldAddrO fd33_1 (Has.cv (Has.s rfl) (Cv.isvP rfl))) ?_
   refine Walk.opgu rfl rfl rfl (fun hb => Spec.loadF (i := 1) ty31 rfl (Has.u rfl hb) rfl (HasG.s rfl)) ?_
   refine Walk.opgu rfl rfl rfl (fun hb => Spec.len (Has.u rfl hb) Try.underlying31) ?_
   refine Walk.opgu rfl rfl rfl (fun hb => Spec.move (Has.s rfl)) ?_
   refine Walk.opgu rfl rfl rfl (fun hb => Spec.geqI (Has.u rfl hb) (Has.u rfl hb)) ?_
   refine wg rfl rfl (fun hb => Spec.or (Has.u rfl hb) (fun h => Has.u rfl ⟨hb, h⟩)) ?_
   refine wo (Spec.and (Has.s rfl) (fun h => Has.u rfl h)) ?_
   refine wo (Spec.assign (Has.s rfl)) ?_
   refine Walk.nil ?_
   refine Leaf.thenN ?_
   refine CWalk.ret ?_
   obtain rfl := Option.some.inj hm
   exact Leaf.retC1 rfl (HasR.cv (HasR.tmp (Has.s rfl)) Cv.fl)

end Go.Proofs.Ythdeieeckjhfpaa
