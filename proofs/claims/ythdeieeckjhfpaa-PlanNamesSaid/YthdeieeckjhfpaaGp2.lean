/- Printed by a program of ours: models of functions, and that calls do what they say. -/
import Derived.Test.YthdeieeckjhfpaaGp1
namespace Go.Proofs.Ythdeieeckjhfpaa
open Go GL
set_option linter.unusedVariables false

/-- cmp.isNaN[int] -/
def cmp_isNaN_int (a0 : Int) : Option (Bool) :=
  some (a0 != a0)
set_option maxRecDepth 100000 in
set_option maxHeartbeats 2000000 in
theorem cmp_isNaN_int_c (a0 : Int) {r : Bool} (hm : cmp_isNaN_int a0 = some r) : Ctr Try.prog 39 [.rep 0 a0] (.fl r) [] := by
 refine ctr_of_walk [[]] 6 Try.func39 rfl rfl rfl rfl (fun w0 om => ?_)
 unfold cmp_isNaN_int at hm
 refine CWalk.sub (G' := [.fact 0 (Fact.rep [] (a0 : Int))]) (Sub.cons (Has.fl (Has.s rfl)) Sub.nil) ?_
 refine CWalk.seq ?_
 refine CWalk.region ?_
 refine wo (Spec.assign Has.bool) ?_
 refine Walk.nil ?_
 refine Leaf.thenN ?_
 refine CWalk.seq ?_
 refine CWalk.region ?_
 refine mv ?_
 refine mv ?_
 refine wo (Spec.neqI (Has.s rfl) (Has.s rfl)) ?_
 refine wo (Spec.assign (Has.s rfl)) ?_
 refine Walk.nil ?_
 refine Leaf.thenN ?_
 refine CWalk.ret ?_
 obtain rfl := Option.some.inj hm
 exact Leaf.retC1 rfl (HasR.cv (HasR.tmp (Has.s rfl)) Cv.fl)

/-- cmp.Compare[int] -/
def cmp_Compare_int (a0 : Int) (a1 : Int) : Option (Int) :=
  Option.bind (cmp_isNaN_int a0) (fun x1 => Option.bind (cmp_isNaN_int a1) (fun x2 => (bif x1 then (bif x2 then some (0 : Int) else some (-1 : Int)) else (bif x2 then some (1 : Int) else (bif (decide (a0 < a1)) then some (-1 : Int) else (bif (decide (a0 > a1)) then some (1 : Int) else some (0 : Int)))))))
set_option maxRecDepth 100000 in
set_option maxHeartbeats 2000000 in
theorem cmp_Compare_int_c (a0 : Int) (a1 : Int) {r : Int} (hm : cmp_Compare_int a0 a1 = some r) : Ctr Try.prog 25 [.rep 0 a0, .rep 0 a1] (.fl r) [] := by
 refine ctr_of_walk [[]] 20 Try.func25 rfl rfl rfl rfl (fun w0 om => ?_)
 unfold cmp_Compare_int at hm
 refine CWalk.sub (G' := [.fact 0 (Fact.rep [] (a0 : Int)), .fact 1 (Fact.rep [] (a1 : Int))]) (Sub.cons (Has.fl (Has.s rfl)) (Sub.cons (Has.fl (Has.s rfl)) Sub.nil)) ?_
 refine CWalk.seq ?_
 refine CWalk.region ?_
 refine wo (Spec.assign Has.int) ?_
 refine Walk.nil ?_
 refine Leaf.thenN ?_
 refine CWalk.seq ?_
 refine CWalk.region ?_
 refine mv ?_
 obtain ⟨x1, hx1, hm⟩ := bind_some hm
 refine wo (f := Fact.rep [] (x1 : Bool)) (Spec.callE [] 10 rfl en39 (cmp_isNaN_int_c a0 hx1) (HasAll.cons (Has.fl (Has.s rfl)) HasAll.nil)) ?_
 refine wo (Spec.assign (Has.s rfl)) ?_
 refine Walk.nil ?_
 refine Leaf.thenN ?_
 refine CWalk.seq ?_
 refine CWalk.region ?_
 refine mv ?_
 obtain ⟨x2, hx2, hm⟩ := bind_some hm
 refine wo (f := Fact.rep [] (x2 : Bool)) (Spec.callE [] 11 rfl en39 (cmp_isNaN_int_c a1 hx2) (HasAll.cons (Has.fl (Has.s rfl)) HasAll.nil)) ?_
 refine wo (Spec.assign (Has.s rfl)) ?_
 refine Walk.nil ?_
 refine Leaf.thenN ?_
 refine CWalk.seq ?_
 refine CWalk.seq ?_
 refine CWalk.region ?_
 refine mv ?_
 refine Walk.nil ?_
 refine Leaf.thenN ?_
 refine CWalk.cond rfl (fun hb => ?_) (fun hb => ?_)
 ·have hm := cond_t hb hm
  refine CWalk.seq ?_
  refine CWalk.seq ?_
  refine CWalk.region ?_
  refine mv ?_
  refine Walk.nil ?_
  refine Leaf.thenN ?_
  refine CWalk.cond rfl (fun hb => ?_) (fun hb => ?_)
  ·have hm := cond_t hb hm
   refine CWalk.seq ?_
   refine CWalk.region ?_
   refine wo (Spec.assign Has.int) ?_
   refine Walk.nil ?_
   refine Leaf.thenN ?_
   refine CWalk.ret ?_
   refine Leaf.thenR ?_
   refine Leaf.thenR ?_
   obtain rfl := Option.some.inj hm
   exact Leaf.retC1 rfl (HasR.cv (HasR.tmp (Has.s rfl)) Cv.fl)
  ·have hm := cond_f hb hm
   refine CWalk.skip ?_
   refine Leaf.thenN ?_
   refine CWalk.seq ?_
   refine CWalk.region ?_
   refine wo (Spec.assign Has.int) ?_
   refine Walk.nil ?_
   refine Leaf.thenN ?_
   refine CWalk.ret ?_
   refine Leaf.thenR ?_
   obtain rfl := Option.some.inj hm
   exact Leaf.retC1 rfl (HasR.cv (HasR.tmp (Has.s rfl)) Cv.fl)
 ·have hm := cond_f hb hm
  refine CWalk.skip ?_
  refine Leaf.thenN ?_
  refine CWalk.seq ?_
  refine CWalk.seq ?_
  refine CWalk.region ?_
  refine mv ?_
  refine Walk.nil ?_
  refine Leaf.thenN ?_
  refine CWalk.cond rfl (fun hb => ?_) (fun hb => ?_)
  ·have hm := cond_t hb hm
   refine CWalk.seq ?_
   refine CWalk.region ?_
   refine wo (Spec.assign Has.int) ?_
   refine Walk.nil ?_
   refine Leaf.thenN ?_
   refine CWalk.ret ?_
   refine Leaf.thenR ?_
   obtain rfl := Option.some.inj hm
   exact Leaf.retC1 rfl (HasR.cv (HasR.tmp (Has.s rfl)) Cv.fl)
  ·have hm := cond_f hb hm
   refine CWalk.skip ?_
   refine Leaf.thenN ?_
   refine CWalk.seq ?_
   refine CWalk.seq ?_
   refine CWalk.region ?_
   refine mv ?_
   refine mv ?_
   refine wo (Spec.lssI (Has.s rfl) (Has.s rfl)) ?_
   refine Walk.nil ?_
   refine Leaf.thenN ?_
   refine CWalk.cond rfl (fun hb => ?_) (fun hb => ?_)
   ·have hm := cond_t hb hm
    refine CWalk.seq ?_
    refine CWalk.region ?_
    refine wo (Spec.assign Has.int) ?_
    refine Walk.nil ?_
    refine Leaf.thenN ?_
    refine CWalk.ret ?_
    refine Leaf.thenR ?_
    obtain rfl := Option.some.inj hm
    exact Leaf.retC1 rfl (HasR.cv (HasR.tmp (Has.s rfl)) Cv.fl)
   ·have hm := cond_f hb hm
    refine CWalk.skip ?_
    refine Leaf.thenN ?_
    refine CWalk.seq ?_
    refine CWalk.seq ?_
    refine CWalk.region ?_
    refine mv ?_
    refine mv ?_
    refine wo (Spec.gtrI (Has.s rfl) (Has.s rfl)) ?_
    refine Walk.nil ?_
    refine Leaf.thenN ?_
    refine CWalk.cond rfl (fun hb => ?_) (fun hb => ?_)
    ·have hm := cond_t hb hm
     refine CWalk.seq ?_
     refine CWalk.region ?_
     refine wo (Spec.assign Has.int) ?_
     refine Walk.nil ?_
     refine Leaf.thenN ?_
     refine CWalk.ret ?_
     refine Leaf.thenR ?_
     obtain rfl := Option.some.inj hm
     exact Leaf.retC1 rfl (HasR.cv (HasR.tmp (Has.s rfl)) Cv.fl)
    ·have hm := cond_f hb hm
     refine CWalk.skip ?_
     refine Leaf.thenN ?_
     refine CWalk.seq ?_
     refine CWalk.region ?_
     refine wo (Spec.assign Has.int) ?_
     refine Walk.nil ?_
     refine Leaf.thenN ?_
     refine CWalk.ret ?_
     obtain rfl := Option.some.inj hm
     exact Leaf.retC1 rfl (HasR.cv (HasR.tmp (Has.s rfl)) Cv.fl)

/-- freeboard/plan.Of$1 -/
def plan_Of_1 (a0 : Plan) (a1 : Plan) : Option (Int) :=
  Option.bind (cmp_Compare_int ((a0.Reads).length : Int) ((a1.Reads).length : Int)) (fun x1 => some x1)
set_option maxRecDepth 100000 in
set_option maxHeartbeats 2000000 in
theorem plan_Of_1_c (a0 : Plan) (a1 : Plan) {r : Int} (hm : plan_Of_1 a0 a1 = some r) : Ctr Try.prog 24 [.rep 0 a0, .rep 0 a1] (.fl r) [] := by
 refine ctr_of_walk [[]] 12 Try.func24 rfl rfl rfl rfl (fun w0 om => ?_)
 unfold plan_Of_1 at hm
 refine CWalk.sub (G' := [.fact 0 (Fact.rep [0] (a0 : Plan)), .fact 1 (Fact.rep [0] (a1 : Plan))]) (sn (sn Sub.nil)) ?_
 refine CWalk.seq ?_
 refine CWalk.region ?_
 refine ws (Step.boxObj (ls := [(false, 1, Fact.rep [] (a0.Kind : UInt8)), (false, 1, Fact.rep [0] (a0.Reads : List Int))]) 10 rfl rfl rfl rfl (HasL.flds (Has.cv (Has.s rfl) (Cv.trans (Cv.opens (chPlan a0)) (Cv.flds (CvL.cons Cv.fl (CvL.cons Cv.refl CvL.nil))))))) ?_
 refine ws (Step.boxObj (ls := [(false, 1, Fact.rep [] (a1.Kind : UInt8)), (false, 1, Fact.rep [0] (a1.Reads : List Int))]) 13 rfl rfl rfl rfl (HasL.flds (Has.cv (Has.s rfl) (Cv.trans (Cv.opens (chPlan a1)) (Cv.flds (CvL.cons Cv.fl (CvL.cons Cv.refl CvL.nil))))))) ?_
 refine wo (Spec.assign Has.int) ?_
 refine Walk.nil ?_
 refine Leaf.thenN ?_
 refine CWalk.seq ?_
 refine CWalk.region ?_
 refine wo (Spec.fieldAddrO fd33_1 (Has.cv (Has.s rfl) (Cv.isvP rfl))) ?_
 refine wo (Spec.loadF (i := 1) ty31 rfl (Has.s rfl) rfl (HasG.s rfl)) ?_
 refine wo (Spec.len (Has.s rfl) Try.underlying31) ?_
 refine wo (Spec.fieldAddrO fd33_1 (Has.cv (Has.s rfl) (Cv.isvP rfl))) ?_
 refine wo (Spec.loadF (i := 1) ty31 rfl (Has.s rfl) rfl (HasG.s rfl)) ?_
 refine wo (Spec.len (Has.s rfl) Try.underlying31) ?_
 obtain ⟨x1, hx1, hm⟩ := bind_some hm
 refine wo (f := Fact.rep [] (x1 : Int)) (Spec.callE [] 16 rfl en25 (cmp_Compare_int_c ((a0.Reads).length : Int) ((a1.Reads).length : Int) hx1) (HasAll.cons (Has.fl (Has.s rfl)) (HasAll.cons (Has.fl (Has.s rfl)) HasAll.nil))) ?_
 refine wo (Spec.assign (Has.s rfl)) ?_
 refine Walk.nil ?_
 refine Leaf.thenN ?_
 refine CWalk.ret ?_
 obtain rfl := Option.some.inj hm
 exact Leaf.retC1 rfl (HasR.cv (HasR.tmp (Has.s rfl)) Cv.fl)

def plan_Of_J2 (s3 : Int) (j7 : List Int) (j8 : List Int) : Option (Ctl (Int × (List Int) × (List Int)) ((List Int) × (List Int))) :=
  some (Ctl.next ((wI (s3 + (1 : Int))), j7, j8))
def plan_Of_J3 (a1 : Head) (s3 : Int) (s4 : List Int) (j10 : List Int) : Option (Ctl (Int × (List Int) × (List Int)) ((List Int) × (List Int))) :=
  Option.bind (idx a1.Blocks s3) (fun x11 => (bif (((x11).length : Int) == (0 : Int)) then Option.bind (app s4 ([s3])) (fun x12 => (plan_Of_J2 s3 x12 j10)) else (plan_Of_J2 s3 s4 j10)))
def plan_Of_L1 (a1 : Head) (s3 : Int) (s4 : List Int) (s5 : List Int) : Option (Ctl (Int × (List Int) × (List Int)) ((List Int) × (List Int))) :=
  (bif (decide (s3 < ((a1.Dirty).length : Int))) then Option.bind (idx a1.Dirty s3) (fun x9 => (bif x9 then Option.bind (app s5 ([s3])) (fun x13 => (plan_Of_J3 a1 s3 s4 x13)) else (plan_Of_J3 a1 s3 s4 s5))) else some (Ctl.brk (s4, s5)))
/-- freeboard/plan.Of -/
def plan_Of (a0 : Config) (a1 : Head) (a2 : Int) : Option (Plan × Int) :=
  Option.bind (head_Check a0 a1) (fun x1 => (bif (x1 != (0 : Int)) then some ((Plan.mk (0 : UInt8) ([] : List Int)), x1) else (bif ((decide (a2 < (-1 : Int))) || (decide (a2 ≥ a0.Members))) then some ((Plan.mk (0 : UInt8) ([] : List Int)), (2 : Int)) else Option.bind (gO (!(a1.Phase != (0 : UInt8))) (slices_Contains_bool_bool a1.Dirty true)) (fun x2 => (bif ((a1.Phase != (0 : UInt8)) || (!x2)) then some ((Plan.mk (0 : UInt8) ([] : List Int)), (6 : Int)) else Option.bind (loopM (fun s : Int × (List Int) × (List Int) => plan_Of_L1 a1 s.1 s.2.1 s.2.2) FUEL ((0 : Int), ([] : List Int), ([] : List Int))) (fun b14 => (bif (((b14.1).length : Int) == (0 : Int)) then some ((Plan.mk (1 : UInt8) ([] : List Int)), (0 : Int)) else Option.bind (app b14.2 ([(wI (a0.Members - (1 : Int)))])) (fun x15 => Option.bind (plan_lost a0 a1.Stripe a2) (fun x16 => Option.bind (plan_some x16 ([(Plan.mk (2 : UInt8) b14.1), (Plan.mk (3 : UInt8) x15)])) (fun x17 => Option.bind (slices_MinFunc_api_Plan_api_Plan x17 (fun y => plan_Of_1 y.1 y.2)) (fun x18 => some (x18, (0 : Int)))))))))))))
set_option maxRecDepth 100000 in
set_option maxHeartbeats 2000000 in
theorem plan_Of_c (a0 : Config) (a1 : Head) (a2 : Int) {r : Plan × Int} (hm : plan_Of a0 a1 a2 = some r) : Ctr Try.prog 9 [.rep 0 a0, .rep 0 a1, .rep 0 a2] (.tup2 (.flds [(false, 1, (.fl r.1.Kind)), (false, 1, (.rep 0 r.1.Reads))]) (.fl r.2)) [] := by
 refine ctr_of_walk [[36, 38, 41, 42, 43, 44]] 95 Try.func9 rfl rfl rfl rfl (fun w0 om => ?_)
 unfold plan_Of at hm
 refine CWalk.sub (G' := [.fact 0 (Fact.rep [] (a0 : Config)), .fact 1 (Fact.rep [0] (a1 : Head)), .fact 2 (Fact.rep [] (a2 : Int))]) (Sub.cons (Has.fl (Has.s rfl)) (sn (Sub.cons (Has.fl (Has.s rfl)) Sub.nil))) ?_
 refine CWalk.seq ?_
 refine CWalk.region ?_
 refine ws (Step.boxObj (ls := [(false, 1, Fact.rep [] (a0.Id : UInt32)), (false, 1, Fact.rep [] (a0.Members : Int)), (false, 1, Fact.rep [] (a0.Chunk : Int)), (false, 1, Fact.rep [] (a0.Rows : Int)), (false, 1, Fact.rep [] (a0.Log : Int)), (false, 1, Fact.rep [] (a0.Heads : Int))]) 10 rfl rfl rfl rfl (HasL.flds (Has.cv (Has.s rfl) (Cv.trans (Cv.opens (chConfig a0)) (Cv.flds (CvL.cons Cv.fl (CvL.cons Cv.fl (CvL.cons Cv.fl (CvL.cons Cv.fl (CvL.cons Cv.fl (CvL.cons Cv.fl CvL.nil))))))))))) ?_
 refine ws (Step.boxObj (ls := [(false, 1, Fact.rep [] (a1.Stripe : Int)), (false, 1, Fact.rep [0] (a1.Blocks : List (List UInt8))), (false, 1, Fact.rep [0] (a1.Dirty : List Bool)), (false, 1, Fact.rep [] (a1.Phase : UInt8)), (false, 1, Fact.rep [] (a1.Deals : Bool)), (false, 1, Fact.rep [] (a1.Seq : UInt32))]) 17 rfl rfl rfl rfl (HasL.flds (Has.cv (Has.s rfl) (Cv.trans (Cv.opens (chHead a1)) (Cv.flds (CvL.cons Cv.fl (CvL.cons Cv.refl (CvL.cons Cv.refl (CvL.cons Cv.fl (CvL.cons Cv.fl (CvL.cons Cv.fl CvL.nil))))))))))) ?_
 refine ws (Step.allocObj (ls := [(false, 1, Fact.rep [] ((0 : UInt8) : UInt8)), (false, 1, Fact.nilv)]) 24 rfl rfl rfl rfl zl33) ?_
 refine wo (Spec.assign Has.int) ?_
 refine Walk.nil ?_
 refine Leaf.thenN ?_
 refine CWalk.seq ?_
 refine CWalk.seq ?_
 refine CWalk.region ?_
 refine wo (Spec.loadObj (ls := [(false, 1, Fact.rep [] (a0.Id : UInt32)), (false, 1, Fact.rep [] (a0.Members : Int)), (false, 1, Fact.rep [] (a0.Chunk : Int)), (false, 1, Fact.rep [] (a0.Rows : Int)), (false, 1, Fact.rep [] (a0.Log : Int)), (false, 1, Fact.rep [] (a0.Heads : Int))]) ty24 rfl rfl (Has.s rfl) rfl (HasGs.cons (HasG.s rfl) (HasGs.cons (HasG.s rfl) (HasGs.cons (HasG.s rfl) (HasGs.cons (HasG.s rfl) (HasGs.cons (HasG.s rfl) (HasGs.cons (HasG.s rfl) HasGs.nil))))))) ?_
 refine wo (Spec.loadObj (ls := [(false, 1, Fact.rep [] (a1.Stripe : Int)), (false, 1, Fact.rep [0] (a1.Blocks : List (List UInt8))), (false, 1, Fact.rep [0] (a1.Dirty : List Bool)), (false, 1, Fact.rep [] (a1.Phase : UInt8)), (false, 1, Fact.rep [] (a1.Deals : Bool)), (false, 1, Fact.rep [] (a1.Seq : UInt32))]) ty28 rfl rfl (Has.s rfl) rfl (HasGs.cons (HasG.s rfl) (HasGs.cons (HasG.s rfl) (HasGs.cons (HasG.s rfl) (HasGs.cons (HasG.s rfl) (HasGs.cons (HasG.s rfl) (HasGs.cons (HasG.s rfl) HasGs.nil))))))) ?_
 obtain ⟨x1, hx1, hm⟩ := bind_some hm
 refine wo (f := Fact.rep [] (x1 : Int)) (Spec.callE [0] 27 rfl en17 (head_Check_c a0 a1 hx1) (HasAll.cons (Has.fl (Has.cv (Has.s rfl) (Cv.trans (Cv.flds (CvL.cons Cv.fl (CvL.cons Cv.fl (CvL.cons Cv.fl (CvL.cons Cv.fl (CvL.cons Cv.fl (CvL.cons Cv.fl CvL.nil))))))) (Cv.close (T := []) (chConfig a0))))) (HasAll.cons (Has.m (Has.cv (Has.s rfl) (Cv.trans (Cv.flds (CvL.cons Cv.fl (CvL.cons (Cv.m rfl) (CvL.cons (Cv.m rfl) (CvL.cons Cv.fl (CvL.cons Cv.fl (CvL.cons Cv.fl CvL.nil))))))) (Cv.close (T := [0]) (chHead a1)))) rfl) HasAll.nil))) ?_
 refine wo (Spec.assign (Has.s rfl)) ?_
 refine Walk.nil ?_
 refine Leaf.thenN ?_
 refine CWalk.seq ?_
 refine CWalk.region ?_
 refine mv ?_
 refine wo (Spec.neqI (Has.s rfl) Has.int) ?_
 refine Walk.nil ?_
 refine Leaf.thenN ?_
 refine CWalk.cond rfl (fun hb => ?_) (fun hb => ?_)
 ·have hm := cond_t hb hm
  refine CWalk.seq ?_
  refine CWalk.region ?_
  refine wo (Spec.build (us := []) (ls' := [(false, 1, Fact.rep [] ((0 : UInt8) : UInt8)), (false, 1, Fact.nilv)]) bd33 rfl BP.nil) ?_
  refine mv ?_
  refine ws (Step.storeObj (ls := [(false, 1, Fact.rep [] ((0 : UInt8) : UInt8)), (false, 1, Fact.nilv)]) rfl ty33 rfl rfl (Has.s rfl) rfl (HasL.flds (Has.s rfl)) rfl) ?_
  refine wo (Spec.assign (Has.s rfl)) ?_
  refine Walk.nil ?_
  refine Leaf.thenN ?_
  refine CWalk.ret ?_
  refine Leaf.thenR ?_
  obtain rfl := Option.some.inj hm
  exact Leaf.retC2 rfl (HasR.cv (HasR.obj (ls := [(false, 1, Fact.rep [] ((0 : UInt8) : UInt8)), (false, 1, Fact.nilv)]) ty33 rfl rfl (Has.s rfl) rfl (HasGs.cons (HasG.s rfl) (HasGs.cons (HasG.s rfl) HasGs.nil))) (Cv.flds (CvL.cons Cv.fl (CvL.cons (Cv.trans (Cv.nil (T := [])) (Cv.m rfl)) CvL.nil)))) (HasR.cv (HasR.tmp (Has.s rfl)) Cv.fl)
 ·have hm := cond_f hb hm
  refine CWalk.skip ?_
  refine Leaf.thenN ?_
  refine CWalk.seq ?_
  refine CWalk.seq ?_
  refine CWalk.region ?_
  refine mv ?_
  refine wo (Spec.lssI (Has.s rfl) Has.int) ?_
  refine mv ?_
  refine wg rfl rfl (fun hb => Spec.move (Has.s rfl)) ?_
  refine wg rfl rfl (fun hb => Spec.fieldAddrO fd24_1 (Has.cv (Has.s rfl) (Cv.isvP rfl))) ?_
  refine wg rfl rfl (fun hb => Spec.loadF (i := 1) ty3 rfl (Has.u rfl hb) rfl (HasG.s rfl)) ?_
  refine wg rfl rfl (fun hb => Spec.geqI (Has.u rfl hb) (Has.u rfl hb)) ?_
  refine wo (Spec.or (Has.s rfl) (fun h => Has.u rfl h)) ?_
  refine Walk.nil ?_
  refine Leaf.thenN ?_
  refine CWalk.cond rfl (fun hb => ?_) (fun hb => ?_)
  ·have hm := cond_t hb hm
   refine CWalk.seq ?_
   refine CWalk.region ?_
   refine wo (Spec.build (us := []) (ls' := [(false, 1, Fact.rep [] ((0 : UInt8) : UInt8)), (false, 1, Fact.nilv)]) bd33 rfl BP.nil) ?_
   refine ws (Step.storeObj (ls := [(false, 1, Fact.rep [] ((0 : UInt8) : UInt8)), (false, 1, Fact.nilv)]) rfl ty33 rfl rfl (Has.s rfl) rfl (HasL.flds (Has.s rfl)) rfl) ?_
   refine wo (Spec.assign Has.int) ?_
   refine Walk.nil ?_
   refine Leaf.thenN ?_
   refine CWalk.ret ?_
   refine Leaf.thenR ?_
   obtain rfl := Option.some.inj hm
   exact Leaf.retC2 rfl (HasR.cv (HasR.obj (ls := [(false, 1, Fact.rep [] ((0 : UInt8) : UInt8)), (false, 1, Fact.nilv)]) ty33 rfl rfl (Has.s rfl) rfl (HasGs.cons (HasG.s rfl) (HasGs.cons (HasG.s rfl) HasGs.nil))) (Cv.flds (CvL.cons Cv.fl (CvL.cons (Cv.trans (Cv.nil (T := [])) (Cv.m rfl)) CvL.nil)))) (HasR.cv (HasR.tmp (Has.s rfl)) Cv.fl)
  ·have hm := cond_f hb hm
   refine CWalk.skip ?_
   refine Leaf.thenN ?_
   refine CWalk.seq ?_
   refine CWalk.seq ?_
   refine CWalk.region ?_
   refine wo (Spec.fieldAddrO fd28_3 (Has.cv (Has.s rfl) (Cv.isvP rfl))) ?_
   refine wo (Spec.loadF (i := 3) ty5 rfl (Has.s rfl) rfl (HasG.s rfl)) ?_
   refine wo (Spec.neqB (Has.s rfl) (Has.u8 0 rfl)) ?_
   refine mv ?_
   refine wg rfl rfl (fun hb => Spec.fieldAddrO fd28_2 (Has.cv (Has.s rfl) (Cv.isvP rfl))) ?_
   refine wg rfl rfl (fun hb => Spec.loadF (i := 2) ty26 rfl (Has.u rfl hb) rfl (HasG.s rfl)) ?_
   obtain ⟨x2, hx2, hm⟩ := bind_some hm
   refine wg (f := Fact.rep [] (x2 : Bool)) rfl rfl (fun hb => Spec.callE [0] 28 rfl en20 (slices_Contains_bool_bool_c a1.Dirty true (gO_t hx2 (not_t hb))) (HasAll.cons (Has.m (Has.u rfl hb) rfl) (HasAll.cons (Has.fl Has.bool) HasAll.nil))) ?_
   refine wg rfl rfl (fun hb => Spec.not (Has.u rfl hb)) ?_
   refine wo (Spec.or (Has.s rfl) (fun h => Has.u rfl h)) ?_
   refine Walk.nil ?_
   refine Leaf.thenN ?_
   refine CWalk.cond rfl (fun hb => ?_) (fun hb => ?_)
   ·have hm := cond_t hb hm
    refine CWalk.seq ?_
    refine CWalk.region ?_
    refine wo (Spec.build (us := []) (ls' := [(false, 1, Fact.rep [] ((0 : UInt8) : UInt8)), (false, 1, Fact.nilv)]) bd33 rfl BP.nil) ?_
    refine ws (Step.storeObj (ls := [(false, 1, Fact.rep [] ((0 : UInt8) : UInt8)), (false, 1, Fact.nilv)]) rfl ty33 rfl rfl (Has.s rfl) rfl (HasL.flds (Has.s rfl)) rfl) ?_
    refine wo (Spec.assign Has.int) ?_
    refine Walk.nil ?_
    refine Leaf.thenN ?_
    refine CWalk.ret ?_
    refine Leaf.thenR ?_
    obtain rfl := Option.some.inj hm
    exact Leaf.retC2 rfl (HasR.cv (HasR.obj (ls := [(false, 1, Fact.rep [] ((0 : UInt8) : UInt8)), (false, 1, Fact.nilv)]) ty33 rfl rfl (Has.s rfl) rfl (HasGs.cons (HasG.s rfl) (HasGs.cons (HasG.s rfl) HasGs.nil))) (Cv.flds (CvL.cons Cv.fl (CvL.cons (Cv.trans (Cv.nil (T := [])) (Cv.m rfl)) CvL.nil)))) (HasR.cv (HasR.tmp (Has.s rfl)) Cv.fl)
   ·have hm := cond_f hb hm
    refine CWalk.skip ?_
    refine Leaf.thenN ?_
    refine CWalk.seq ?_
    refine CWalk.region ?_
    refine wo (Spec.build (us := [(0, .const (.int .u8 2))]) (ls' := [(false, 1, Fact.rep [] ((2 : UInt8) : UInt8)), (false, 1, Fact.nilv)]) bd33 rfl (BP.cons rfl rfl (Has.u8 2 rfl) (Has.u8 2 rfl) BP.nil)) ?_
    refine wo (Spec.build (us := [(0, .const (.int .u8 3))]) (ls' := [(false, 1, Fact.rep [] ((3 : UInt8) : UInt8)), (false, 1, Fact.nilv)]) bd33 rfl (BP.cons rfl rfl (Has.u8 3 rfl) (Has.u8 3 rfl) BP.nil)) ?_
    refine ws (Step.allocObj (ls := [(false, 1, Fact.rep [] ((0 : UInt8) : UInt8)), (false, 1, Fact.nilv)]) 29 rfl rfl rfl rfl zl33) ?_
    refine ws (Step.allocObj (ls := [(false, 1, Fact.rep [] ((0 : UInt8) : UInt8)), (false, 1, Fact.nilv)]) 32 rfl rfl rfl rfl zl33) ?_
    refine ws (Step.storeObj (ls := [(false, 1, Fact.rep [] ((2 : UInt8) : UInt8)), (false, 1, Fact.nilv)]) rfl ty33 rfl rfl (Has.s rfl) rfl (HasL.flds (Has.s rfl)) rfl) ?_
    refine ws (Step.storeObj (ls := [(false, 1, Fact.rep [] ((3 : UInt8) : UInt8)), (false, 1, Fact.nilv)]) rfl ty33 rfl rfl (Has.s rfl) rfl (HasL.flds (Has.s rfl)) rfl) ?_
    refine Walk.nil ?_
    refine Leaf.thenN ?_
    refine CWalk.seq ?_
    refine CWalk.seq ?_
    refine CWalk.region ?_
    refine wo (Spec.fieldAddrO fd28_2 (Has.cv (Has.s rfl) (Cv.isvP rfl))) ?_
    refine wo (Spec.loadF (i := 2) ty26 rfl (Has.s rfl) rfl (HasG.s rfl)) ?_
    refine wo (Spec.len (Has.s rfl) Try.underlying26) ?_
    refine wo (Spec.move Has.int) ?_
    refine Walk.nil ?_
    refine Leaf.thenN ?_
    refine CWalk.block ?_
    obtain ⟨b14, hb14, hm⟩ := bind_some hm
    refine CWalk.loop (fun s : Int × (List Int) × (List Int) => [.fact 2 (Fact.rep [] (a2 : Int)), .fact 3 (Fact.isv 10), .fact 4 (Fact.isv 17), .fact 6 (Fact.isv 24), .fact 9 (Fact.isv 29), .fact 10 (Fact.isv 32), .fact 43 (Fact.rep [0] (a1.Dirty : List Bool)), .fact 44 (Fact.rep [] (((a1.Dirty).length : Int) : Int)), .fact 45 (Fact.rep [] (s.1 : Int)), .fact 100011 (Fact.at 11 (Fact.rep [] (a0.Id : UInt32))), .fact 100012 (Fact.at 12 (Fact.rep [] (a0.Members : Int))), .fact 100013 (Fact.at 13 (Fact.rep [] (a0.Chunk : Int))), .fact 100014 (Fact.at 14 (Fact.rep [] (a0.Rows : Int))), .fact 100015 (Fact.at 15 (Fact.rep [] (a0.Log : Int))), .fact 100016 (Fact.at 16 (Fact.rep [] (a0.Heads : Int))), .fact 100018 (Fact.at 18 (Fact.rep [] (a1.Stripe : Int))), .fact 100019 (Fact.at 19 (Fact.rep [0] (a1.Blocks : List (List UInt8)))), .fact 100020 (Fact.at 20 (Fact.rep [0] (a1.Dirty : List Bool))), .fact 100021 (Fact.at 21 (Fact.rep [] (a1.Phase : UInt8))), .fact 100022 (Fact.at 22 (Fact.rep [] (a1.Deals : Bool))), .fact 100023 (Fact.at 23 (Fact.rep [] (a1.Seq : UInt32))), .fact 100025 (Fact.at 25 (Fact.rep [] ((0 : UInt8) : UInt8))), .fact 100026 (Fact.at 26 (Fact.nilv)), .fact 100030 (Fact.at 30 (Fact.rep [] ((2 : UInt8) : UInt8))), .fact 100031 (Fact.at 31 (Fact.ow [38] [] 3 (s.2.1 : List Int))), .fact 100033 (Fact.at 33 (Fact.rep [] ((3 : UInt8) : UInt8))), .fact 100034 (Fact.at 34 (Fact.ow [36] [] 3 (s.2.2 : List Int))), .fact 100010 (Fact.obj 10 [(false, 1), (false, 1), (false, 1), (false, 1), (false, 1), (false, 1)]), .fact 100017 (Fact.obj 17 [(false, 1), (false, 1), (false, 1), (false, 1), (false, 1), (false, 1)]), .fact 100024 (Fact.obj 24 [(false, 1), (false, 1)]), .fact 100029 (Fact.obj 29 [(false, 1), (false, 1)]), .fact 100032 (Fact.obj 32 [(false, 1), (false, 1)])]) (fun b : (List Int) × (List Int) => (Exit.exit 0, [.fact 2 (Fact.rep [] (a2 : Int)), .fact 3 (Fact.isv 10), .fact 4 (Fact.isv 17), .fact 6 (Fact.isv 24), .fact 9 (Fact.isv 29), .fact 10 (Fact.isv 32), .fact 100011 (Fact.at 11 (Fact.rep [] (a0.Id : UInt32))), .fact 100012 (Fact.at 12 (Fact.rep [] (a0.Members : Int))), .fact 100013 (Fact.at 13 (Fact.rep [] (a0.Chunk : Int))), .fact 100014 (Fact.at 14 (Fact.rep [] (a0.Rows : Int))), .fact 100015 (Fact.at 15 (Fact.rep [] (a0.Log : Int))), .fact 100016 (Fact.at 16 (Fact.rep [] (a0.Heads : Int))), .fact 100018 (Fact.at 18 (Fact.rep [] (a1.Stripe : Int))), .fact 100019 (Fact.at 19 (Fact.rep [0] (a1.Blocks : List (List UInt8)))), .fact 100020 (Fact.at 20 (Fact.rep [0] (a1.Dirty : List Bool))), .fact 100021 (Fact.at 21 (Fact.rep [] (a1.Phase : UInt8))), .fact 100022 (Fact.at 22 (Fact.rep [] (a1.Deals : Bool))), .fact 100023 (Fact.at 23 (Fact.rep [] (a1.Seq : UInt32))), .fact 100025 (Fact.at 25 (Fact.rep [] ((0 : UInt8) : UInt8))), .fact 100026 (Fact.at 26 (Fact.nilv)), .fact 100030 (Fact.at 30 (Fact.rep [] ((2 : UInt8) : UInt8))), .fact 100031 (Fact.at 31 (Fact.ow [38] [] 3 (b.1 : List Int))), .fact 100033 (Fact.at 33 (Fact.rep [] ((3 : UInt8) : UInt8))), .fact 100034 (Fact.at 34 (Fact.ow [36] [] 3 (b.2 : List Int))), .fact 100010 (Fact.obj 10 [(false, 1), (false, 1), (false, 1), (false, 1), (false, 1), (false, 1)]), .fact 100017 (Fact.obj 17 [(false, 1), (false, 1), (false, 1), (false, 1), (false, 1), (false, 1)]), .fact 100024 (Fact.obj 24 [(false, 1), (false, 1)]), .fact 100029 (Fact.obj 29 [(false, 1), (false, 1)]), .fact 100032 (Fact.obj 32 [(false, 1), (false, 1)])])) hb14 (st (sn (sn (sn (sn (sn (su (st (st (sf (sf (sf (sf (sf (sf (sf (sm (sm (sf (sf (sf (sf (sg (sf (Sub.cons (Has.at (HasG.cv (HasG.s rfl) (Cv.trans Cv.nilOw (Cv.owF (T := []) (te := []) rfl)))) (sf (Sub.cons (Has.at (HasG.cv (HasG.s rfl) (Cv.trans Cv.nilOw (Cv.owF (T := []) (te := []) rfl)))) (sn (sn (sn (sn (sn Sub.nil)))))))))))))))))))))))))))))))) ?_ ?_
    ·rintro ⟨s3, s4, s5⟩ c6 hm
     replace hm : plan_Of_L1 a1 s3 s4 s5 = some c6 := hm
     unfold plan_Of_L1 at hm
     show CWalk _ [.fact 2 (Fact.rep [] (a2 : Int)), .fact 3 (Fact.isv 10), .fact 4 (Fact.isv 17), .fact 6 (Fact.isv 24), .fact 9 (Fact.isv 29), .fact 10 (Fact.isv 32), .fact 43 (Fact.rep [0] (a1.Dirty : List Bool)), .fact 44 (Fact.rep [] (((a1.Dirty).length : Int) : Int)), .fact 45 (Fact.rep [] (s3 : Int)), .fact 100011 (Fact.at 11 (Fact.rep [] (a0.Id : UInt32))), .fact 100012 (Fact.at 12 (Fact.rep [] (a0.Members : Int))), .fact 100013 (Fact.at 13 (Fact.rep [] (a0.Chunk : Int))), .fact 100014 (Fact.at 14 (Fact.rep [] (a0.Rows : Int))), .fact 100015 (Fact.at 15 (Fact.rep [] (a0.Log : Int))), .fact 100016 (Fact.at 16 (Fact.rep [] (a0.Heads : Int))), .fact 100018 (Fact.at 18 (Fact.rep [] (a1.Stripe : Int))), .fact 100019 (Fact.at 19 (Fact.rep [0] (a1.Blocks : List (List UInt8)))), .fact 100020 (Fact.at 20 (Fact.rep [0] (a1.Dirty : List Bool))), .fact 100021 (Fact.at 21 (Fact.rep [] (a1.Phase : UInt8))), .fact 100022 (Fact.at 22 (Fact.rep [] (a1.Deals : Bool))), .fact 100023 (Fact.at 23 (Fact.rep [] (a1.Seq : UInt32))), .fact 100025 (Fact.at 25 (Fact.rep [] ((0 : UInt8) : UInt8))), .fact 100026 (Fact.at 26 (Fact.nilv)), .fact 100030 (Fact.at 30 (Fact.rep [] ((2 : UInt8) : UInt8))), .fact 100031 (Fact.at 31 (Fact.ow [38] [] 3 (s4 : List Int))), .fact 100033 (Fact.at 33 (Fact.rep [] ((3 : UInt8) : UInt8))), .fact 100034 (Fact.at 34 (Fact.ow [36] [] 3 (s5 : List Int))), .fact 100010 (Fact.obj 10 [(false, 1), (false, 1), (false, 1), (false, 1), (false, 1), (false, 1)]), .fact 100017 (Fact.obj 17 [(false, 1), (false, 1), (false, 1), (false, 1), (false, 1), (false, 1)]), .fact 100024 (Fact.obj 24 [(false, 1), (false, 1)]), .fact 100029 (Fact.obj 29 [(false, 1), (false, 1)]), .fact 100032 (Fact.obj 32 [(false, 1), (false, 1)])] _ _
     refine CWalk.seq ?_
     refine CWalk.region ?_
     refine wo (Spec.lssI (Has.s rfl) (Has.s rfl)) ?_
     refine Walk.nil ?_
     refine Leaf.thenN ?_
     refine CWalk.seq ?_
     refine CWalk.cond rfl (fun hb => ?_) (fun hb => ?_)
     ·have hm := cond_t hb hm
      refine CWalk.skip ?_
      refine Leaf.thenN ?_
      refine CWalk.seqJ (fun p : (List Int) × (List Int) => [.fact 2 (Fact.rep [] (a2 : Int)), .fact 3 (Fact.isv 10), .fact 4 (Fact.isv 17), .fact 6 (Fact.isv 24), .fact 9 (Fact.isv 29), .fact 10 (Fact.isv 32), .fact 43 (Fact.rep [0] (a1.Dirty : List Bool)), .fact 44 (Fact.rep [] (((a1.Dirty).length : Int) : Int)), .fact 45 (Fact.rep [] (s3 : Int)), .fact 100011 (Fact.at 11 (Fact.rep [] (a0.Id : UInt32))), .fact 100012 (Fact.at 12 (Fact.rep [] (a0.Members : Int))), .fact 100013 (Fact.at 13 (Fact.rep [] (a0.Chunk : Int))), .fact 100014 (Fact.at 14 (Fact.rep [] (a0.Rows : Int))), .fact 100015 (Fact.at 15 (Fact.rep [] (a0.Log : Int))), .fact 100016 (Fact.at 16 (Fact.rep [] (a0.Heads : Int))), .fact 100018 (Fact.at 18 (Fact.rep [] (a1.Stripe : Int))), .fact 100019 (Fact.at 19 (Fact.rep [0] (a1.Blocks : List (List UInt8)))), .fact 100020 (Fact.at 20 (Fact.rep [0] (a1.Dirty : List Bool))), .fact 100021 (Fact.at 21 (Fact.rep [] (a1.Phase : UInt8))), .fact 100022 (Fact.at 22 (Fact.rep [] (a1.Deals : Bool))), .fact 100023 (Fact.at 23 (Fact.rep [] (a1.Seq : UInt32))), .fact 100025 (Fact.at 25 (Fact.rep [] ((0 : UInt8) : UInt8))), .fact 100026 (Fact.at 26 (Fact.nilv)), .fact 100030 (Fact.at 30 (Fact.rep [] ((2 : UInt8) : UInt8))), .fact 100031 (Fact.at 31 (Fact.ow [38] [] 3 (p.1 : List Int))), .fact 100033 (Fact.at 33 (Fact.rep [] ((3 : UInt8) : UInt8))), .fact 100034 (Fact.at 34 (Fact.ow [36] [] 3 (p.2 : List Int))), .fact 100010 (Fact.obj 10 [(false, 1), (false, 1), (false, 1), (false, 1), (false, 1), (false, 1)]), .fact 100017 (Fact.obj 17 [(false, 1), (false, 1), (false, 1), (false, 1), (false, 1), (false, 1)]), .fact 100024 (Fact.obj 24 [(false, 1), (false, 1)]), .fact 100029 (Fact.obj 29 [(false, 1), (false, 1)]), .fact 100032 (Fact.obj 32 [(false, 1), (false, 1)])]) (fun p : (List Int) × (List Int) => plan_Of_J2 s3 p.1 p.2 = some c6) ?_ ?_
      ·rintro ⟨j7, j8⟩ hm
       replace hm : plan_Of_J2 s3 j7 j8 = some c6 := hm
       unfold plan_Of_J2 at hm
       show CWalk _ [.fact 2 (Fact.rep [] (a2 : Int)), .fact 3 (Fact.isv 10), .fact 4 (Fact.isv 17), .fact 6 (Fact.isv 24), .fact 9 (Fact.isv 29), .fact 10 (Fact.isv 32), .fact 43 (Fact.rep [0] (a1.Dirty : List Bool)), .fact 44 (Fact.rep [] (((a1.Dirty).length : Int) : Int)), .fact 45 (Fact.rep [] (s3 : Int)), .fact 100011 (Fact.at 11 (Fact.rep [] (a0.Id : UInt32))), .fact 100012 (Fact.at 12 (Fact.rep [] (a0.Members : Int))), .fact 100013 (Fact.at 13 (Fact.rep [] (a0.Chunk : Int))), .fact 100014 (Fact.at 14 (Fact.rep [] (a0.Rows : Int))), .fact 100015 (Fact.at 15 (Fact.rep [] (a0.Log : Int))), .fact 100016 (Fact.at 16 (Fact.rep [] (a0.Heads : Int))), .fact 100018 (Fact.at 18 (Fact.rep [] (a1.Stripe : Int))), .fact 100019 (Fact.at 19 (Fact.rep [0] (a1.Blocks : List (List UInt8)))), .fact 100020 (Fact.at 20 (Fact.rep [0] (a1.Dirty : List Bool))), .fact 100021 (Fact.at 21 (Fact.rep [] (a1.Phase : UInt8))), .fact 100022 (Fact.at 22 (Fact.rep [] (a1.Deals : Bool))), .fact 100023 (Fact.at 23 (Fact.rep [] (a1.Seq : UInt32))), .fact 100025 (Fact.at 25 (Fact.rep [] ((0 : UInt8) : UInt8))), .fact 100026 (Fact.at 26 (Fact.nilv)), .fact 100030 (Fact.at 30 (Fact.rep [] ((2 : UInt8) : UInt8))), .fact 100031 (Fact.at 31 (Fact.ow [38] [] 3 (j7 : List Int))), .fact 100033 (Fact.at 33 (Fact.rep [] ((3 : UInt8) : UInt8))), .fact 100034 (Fact.at 34 (Fact.ow [36] [] 3 (j8 : List Int))), .fact 100010 (Fact.obj 10 [(false, 1), (false, 1), (false, 1), (false, 1), (false, 1), (false, 1)]), .fact 100017 (Fact.obj 17 [(false, 1), (false, 1), (false, 1), (false, 1), (false, 1), (false, 1)]), .fact 100024 (Fact.obj 24 [(false, 1), (false, 1)]), .fact 100029 (Fact.obj 29 [(false, 1), (false, 1)]), .fact 100032 (Fact.obj 32 [(false, 1), (false, 1)])] _ _
       refine CWalk.region ?_
       refine wo (Spec.addI (Has.s rfl) Has.int) ?_
       refine mv ?_
       refine Walk.nil ?_
       exact Leaf.next hm (st (sn (sn (sn (sn (sn (su (st (st (sf (sf (sf (sf (sf (sf (sf (sm (sm (sf (sf (sf (sf (sg (sf (Sub.cons (Has.at (HasG.cv (HasG.s rfl) (Cv.owF (T := [38]) (te := []) rfl))) (sf (Sub.cons (Has.at (HasG.cv (HasG.s rfl) (Cv.owF (T := [36]) (te := []) rfl))) (sn (sn (sn (sn (sn Sub.nil))))))))))))))))))))))))))))))))
      ·refine CWalk.block ?_
       refine CWalk.seq ?_
       refine CWalk.region ?_
       refine mv ?_
       obtain ⟨x9, hx9, hm⟩ := bind_some hm
       refine wo (Spec.indexAddr hx9 sl26 (Has.s rfl) (Has.s rfl)) ?_
       refine wo ((Spec.load ty4 (Has.s rfl)).flat (T' := [])) ?_
       refine wo (Spec.assign (Has.s rfl)) ?_
       refine wo (Spec.assign (Has.s rfl)) ?_
       refine Walk.nil ?_
       refine Leaf.thenN ?_
       refine CWalk.seqJ (fun p : (List Int) => [.fact 2 (Fact.rep [] (a2 : Int)), .fact 3 (Fact.isv 10), .fact 4 (Fact.isv 17), .fact 6 (Fact.isv 24), .fact 9 (Fact.isv 29), .fact 10 (Fact.isv 32), .fact 11 (Fact.rep [] (s3 : Int)), .fact 43 (Fact.rep [0] (a1.Dirty : List Bool)), .fact 44 (Fact.rep [] (((a1.Dirty).length : Int) : Int)), .fact 45 (Fact.rep [] (s3 : Int)), .fact 100011 (Fact.at 11 (Fact.rep [] (a0.Id : UInt32))), .fact 100012 (Fact.at 12 (Fact.rep [] (a0.Members : Int))), .fact 100013 (Fact.at 13 (Fact.rep [] (a0.Chunk : Int))), .fact 100014 (Fact.at 14 (Fact.rep [] (a0.Rows : Int))), .fact 100015 (Fact.at 15 (Fact.rep [] (a0.Log : Int))), .fact 100016 (Fact.at 16 (Fact.rep [] (a0.Heads : Int))), .fact 100018 (Fact.at 18 (Fact.rep [] (a1.Stripe : Int))), .fact 100019 (Fact.at 19 (Fact.rep [0] (a1.Blocks : List (List UInt8)))), .fact 100020 (Fact.at 20 (Fact.rep [0] (a1.Dirty : List Bool))), .fact 100021 (Fact.at 21 (Fact.rep [] (a1.Phase : UInt8))), .fact 100022 (Fact.at 22 (Fact.rep [] (a1.Deals : Bool))), .fact 100023 (Fact.at 23 (Fact.rep [] (a1.Seq : UInt32))), .fact 100025 (Fact.at 25 (Fact.rep [] ((0 : UInt8) : UInt8))), .fact 100026 (Fact.at 26 (Fact.nilv)), .fact 100030 (Fact.at 30 (Fact.rep [] ((2 : UInt8) : UInt8))), .fact 100031 (Fact.at 31 (Fact.ow [38] [] 3 (s4 : List Int))), .fact 100033 (Fact.at 33 (Fact.rep [] ((3 : UInt8) : UInt8))), .fact 100034 (Fact.at 34 (Fact.ow [36] [] 3 (p : List Int))), .fact 100010 (Fact.obj 10 [(false, 1), (false, 1), (false, 1), (false, 1), (false, 1), (false, 1)]), .fact 100017 (Fact.obj 17 [(false, 1), (false, 1), (false, 1), (false, 1), (false, 1), (false, 1)]), .fact 100024 (Fact.obj 24 [(false, 1), (false, 1)]), .fact 100029 (Fact.obj 29 [(false, 1), (false, 1)]), .fact 100032 (Fact.obj 32 [(false, 1), (false, 1)])]) (fun p : (List Int) => plan_Of_J3 a1 s3 s4 p = some c6) ?_ ?_
       ·rintro j10 hm
        replace hm : plan_Of_J3 a1 s3 s4 j10 = some c6 := hm
        unfold plan_Of_J3 at hm
        show CWalk _ [.fact 2 (Fact.rep [] (a2 : Int)), .fact 3 (Fact.isv 10), .fact 4 (Fact.isv 17), .fact 6 (Fact.isv 24), .fact 9 (Fact.isv 29), .fact 10 (Fact.isv 32), .fact 11 (Fact.rep [] (s3 : Int)), .fact 43 (Fact.rep [0] (a1.Dirty : List Bool)), .fact 44 (Fact.rep [] (((a1.Dirty).length : Int) : Int)), .fact 45 (Fact.rep [] (s3 : Int)), .fact 100011 (Fact.at 11 (Fact.rep [] (a0.Id : UInt32))), .fact 100012 (Fact.at 12 (Fact.rep [] (a0.Members : Int))), .fact 100013 (Fact.at 13 (Fact.rep [] (a0.Chunk : Int))), .fact 100014 (Fact.at 14 (Fact.rep [] (a0.Rows : Int))), .fact 100015 (Fact.at 15 (Fact.rep [] (a0.Log : Int))), .fact 100016 (Fact.at 16 (Fact.rep [] (a0.Heads : Int))), .fact 100018 (Fact.at 18 (Fact.rep [] (a1.Stripe : Int))), .fact 100019 (Fact.at 19 (Fact.rep [0] (a1.Blocks : List (List UInt8)))), .fact 100020 (Fact.at 20 (Fact.rep [0] (a1.Dirty : List Bool))), .fact 100021 (Fact.at 21 (Fact.rep [] (a1.Phase : UInt8))), .fact 100022 (Fact.at 22 (Fact.rep [] (a1.Deals : Bool))), .fact 100023 (Fact.at 23 (Fact.rep [] (a1.Seq : UInt32))), .fact 100025 (Fact.at 25 (Fact.rep [] ((0 : UInt8) : UInt8))), .fact 100026 (Fact.at 26 (Fact.nilv)), .fact 100030 (Fact.at 30 (Fact.rep [] ((2 : UInt8) : UInt8))), .fact 100031 (Fact.at 31 (Fact.ow [38] [] 3 (s4 : List Int))), .fact 100033 (Fact.at 33 (Fact.rep [] ((3 : UInt8) : UInt8))), .fact 100034 (Fact.at 34 (Fact.ow [36] [] 3 (j10 : List Int))), .fact 100010 (Fact.obj 10 [(false, 1), (false, 1), (false, 1), (false, 1), (false, 1), (false, 1)]), .fact 100017 (Fact.obj 17 [(false, 1), (false, 1), (false, 1), (false, 1), (false, 1), (false, 1)]), .fact 100024 (Fact.obj 24 [(false, 1), (false, 1)]), .fact 100029 (Fact.obj 29 [(false, 1), (false, 1)]), .fact 100032 (Fact.obj 32 [(false, 1), (false, 1)])] _ _
        refine CWalk.seq ?_
        refine CWalk.region ?_
        refine wo (Spec.fieldAddrO fd28_1 (Has.cv (Has.s rfl) (Cv.isvP rfl))) ?_
        refine wo (Spec.loadF (i := 1) ty25 rfl (Has.s rfl) rfl (HasG.s rfl)) ?_
        refine mv ?_
        obtain ⟨x11, hx11, hm⟩ := bind_some hm
        refine wo (Spec.indexAddr hx11 sl25 (Has.s rfl) (Has.s rfl)) ?_
        refine wo (Spec.load ty46 (Has.s rfl)) ?_
        refine wo (Spec.len (Has.s rfl) Try.underlying46) ?_
        refine wo (Spec.eqlI (Has.s rfl) Has.int) ?_
        refine Walk.nil ?_
        refine Leaf.thenN ?_
        refine CWalk.cond rfl (fun hb => ?_) (fun hb => ?_)
        ·have hm := cond_t hb hm
         refine CWalk.region ?_
         refine wo (Spec.fieldAddrO fd33_1 (Has.cv (Has.s rfl) (Cv.isvP rfl))) ?_
         refine wo (Spec.loadF (i := 1) ty31 rfl (Has.s rfl) rfl (HasG.s rfl)) ?_
         refine mv ?_
         refine wo (Spec.lit (xs := [.tmp 66]) (T := []) 37 rfl ow31 rfl rfl rfl rfl (HasEach.cons (Has.fl (Has.s rfl)) HasEach.nil)) ?_
         obtain ⟨x12, hx12, hm⟩ := bind_some hm
         refine ws (Step.appendOw (T := [38]) (te' := []) hx12 rfl rfl rfl ow31 (Has.s rfl) (Has.s rfl) ElKeeps.flat ElKeeps.flat) ?_
         refine wo (Spec.fieldAddrO fd33_1 (Has.cv (Has.s rfl) (Cv.isvP rfl))) ?_
         refine ws (Step.storeF (i := 1) (f := Fact.ow [38] [] 3 (x12 : List Int)) rfl ty31 rfl (Has.s rfl) rfl (Has.cv (Has.s rfl) (Cv.trans Cv.owSl (Cv.slRep (T' := [38]) rfl rfl))) (Has.s rfl) rfl) ?_
         refine Walk.nil ?_
         refine Leaf.blockN ?_
         exact Leaf.join (x12, j10) hm (st (sn (sn (sn (sn (sn (su (st (st (sf (sf (sf (sf (sf (sf (sf (sm (sm (sf (sf (sf (sf (sg (sf (Sub.cons (Has.at (HasG.cv (HasG.s rfl) (Cv.owF (T := [38]) (te := []) rfl))) (sf (Sub.cons (Has.at (HasG.cv (HasG.s rfl) (Cv.owF (T := [36]) (te := []) rfl))) (sn (sn (sn (sn (sn Sub.nil))))))))))))))))))))))))))))))))
        ·have hm := cond_f hb hm
         refine CWalk.skip ?_
         refine Leaf.blockN ?_
         exact Leaf.join (s4, j10) hm (st (sn (sn (sn (sn (sn (su (st (st (sf (sf (sf (sf (sf (sf (sf (sm (sm (sf (sf (sf (sf (sg (sf (Sub.cons (Has.at (HasG.cv (HasG.s rfl) (Cv.owF (T := [38]) (te := []) rfl))) (sf (Sub.cons (Has.at (HasG.cv (HasG.s rfl) (Cv.owF (T := [36]) (te := []) rfl))) (sn (sn (sn (sn (sn Sub.nil))))))))))))))))))))))))))))))))
       ·refine CWalk.seq ?_
        refine CWalk.region ?_
        refine mv ?_
        refine Walk.nil ?_
        refine Leaf.thenN ?_
        refine CWalk.cond rfl (fun hb => ?_) (fun hb => ?_)
        ·have hm := cond_t hb hm
         refine CWalk.region ?_
         refine wo (Spec.fieldAddrO fd33_1 (Has.cv (Has.s rfl) (Cv.isvP rfl))) ?_
         refine wo (Spec.loadF (i := 1) ty31 rfl (Has.s rfl) rfl (HasG.s rfl)) ?_
         refine mv ?_
         refine wo (Spec.lit (xs := [.tmp 53]) (T := []) 35 rfl ow31 rfl rfl rfl rfl (HasEach.cons (Has.fl (Has.s rfl)) HasEach.nil)) ?_
         obtain ⟨x13, hx13, hm⟩ := bind_some hm
         refine ws (Step.appendOw (T := [36]) (te' := []) hx13 rfl rfl rfl ow31 (Has.s rfl) (Has.s rfl) ElKeeps.flat ElKeeps.flat) ?_
         refine wo (Spec.fieldAddrO fd33_1 (Has.cv (Has.s rfl) (Cv.isvP rfl))) ?_
         refine ws (Step.storeF (i := 1) (f := Fact.ow [36] [] 3 (x13 : List Int)) rfl ty31 rfl (Has.s rfl) rfl (Has.cv (Has.s rfl) (Cv.trans Cv.owSl (Cv.slRep (T' := [36]) rfl rfl))) (Has.s rfl) rfl) ?_
         refine Walk.nil ?_
         exact Leaf.join x13 hm (st (sn (sn (sn (sn (sn (st (su (st (st (sf (sf (sf (sf (sf (sf (sf (sm (sm (sf (sf (sf (sf (sg (sf (Sub.cons (Has.at (HasG.cv (HasG.s rfl) (Cv.owF (T := [38]) (te := []) rfl))) (sf (Sub.cons (Has.at (HasG.cv (HasG.s rfl) (Cv.owF (T := [36]) (te := []) rfl))) (sn (sn (sn (sn (sn Sub.nil)))))))))))))))))))))))))))))))))
        ·have hm := cond_f hb hm
         refine CWalk.skip ?_
         exact Leaf.join s5 hm (st (sn (sn (sn (sn (sn (st (su (st (st (sf (sf (sf (sf (sf (sf (sf (sm (sm (sf (sf (sf (sf (sg (sf (Sub.cons (Has.at (HasG.cv (HasG.s rfl) (Cv.owF (T := [38]) (te := []) rfl))) (sf (Sub.cons (Has.at (HasG.cv (HasG.s rfl) (Cv.owF (T := [36]) (te := []) rfl))) (sn (sn (sn (sn (sn Sub.nil)))))))))))))))))))))))))))))))))
     ·have hm := cond_f hb hm
      refine CWalk.exit ?_
      refine Leaf.thenE ?_
      exact Leaf.brk hm (fun h => nomatch h) rfl (st (sn (sn (sn (sn (sn (sf (sf (sf (sf (sf (sf (sf (sm (sm (sf (sf (sf (sf (sg (sf (Sub.cons (Has.at (HasG.cv (HasG.s rfl) (Cv.owF (T := [38]) (te := []) rfl))) (sf (Sub.cons (Has.at (HasG.cv (HasG.s rfl) (Cv.owF (T := [36]) (te := []) rfl))) (sn (sn (sn (sn (sn Sub.nil)))))))))))))))))))))))))))))
    ·intro _
     refine Leaf.blockE ?_
     refine Leaf.thenN ?_
     refine CWalk.seq ?_
     refine CWalk.seq ?_
     refine CWalk.region ?_
     refine wo (Spec.fieldAddrO fd33_1 (Has.cv (Has.s rfl) (Cv.isvP rfl))) ?_
     refine wo (Spec.loadF (i := 1) ty31 rfl (Has.s rfl) rfl (HasG.s rfl)) ?_
     refine wo (Spec.len (Has.cv (Has.s rfl) (Cv.trans Cv.owSl (Cv.slRep (T' := [38]) rfl rfl))) Try.underlying31) ?_
     refine wo (Spec.eqlI (Has.s rfl) Has.int) ?_
     refine Walk.nil ?_
     refine Leaf.thenN ?_
     refine CWalk.cond rfl (fun hb => ?_) (fun hb => ?_)
     ·have hm := cond_t hb hm
      refine CWalk.seq ?_
      refine CWalk.region ?_
      refine wo (Spec.build (us := [(0, .const (.int .u8 1))]) (ls' := [(false, 1, Fact.rep [] ((1 : UInt8) : UInt8)), (false, 1, Fact.nilv)]) bd33 rfl (BP.cons rfl rfl (Has.u8 1 rfl) (Has.u8 1 rfl) BP.nil)) ?_
      refine ws (Step.storeObj (ls := [(false, 1, Fact.rep [] ((1 : UInt8) : UInt8)), (false, 1, Fact.nilv)]) rfl ty33 rfl rfl (Has.s rfl) rfl (HasL.flds (Has.s rfl)) rfl) ?_
      refine wo (Spec.assign Has.int) ?_
      refine Walk.nil ?_
      refine Leaf.thenN ?_
      refine CWalk.ret ?_
      refine Leaf.thenR ?_
      obtain rfl := Option.some.inj hm
      exact Leaf.retC2 rfl (HasR.cv (HasR.obj (ls := [(false, 1, Fact.rep [] ((1 : UInt8) : UInt8)), (false, 1, Fact.nilv)]) ty33 rfl rfl (Has.s rfl) rfl (HasGs.cons (HasG.s rfl) (HasGs.cons (HasG.s rfl) HasGs.nil))) (Cv.flds (CvL.cons Cv.fl (CvL.cons (Cv.trans (Cv.nil (T := [])) (Cv.m rfl)) CvL.nil)))) (HasR.cv (HasR.tmp (Has.s rfl)) Cv.fl)
     ·have hm := cond_f hb hm
      refine CWalk.skip ?_
      refine Leaf.thenN ?_
      refine CWalk.seq ?_
      refine CWalk.region ?_
      refine wo (Spec.fieldAddrO fd33_1 (Has.cv (Has.s rfl) (Cv.isvP rfl))) ?_
      refine wo (Spec.loadF (i := 1) ty31 rfl (Has.s rfl) rfl (HasG.s rfl)) ?_
      refine wo (Spec.fieldAddrO fd24_1 (Has.cv (Has.s rfl) (Cv.isvP rfl))) ?_
      refine wo (Spec.loadF (i := 1) ty3 rfl (Has.s rfl) rfl (HasG.s rfl)) ?_
      refine wo (Spec.subI (Has.s rfl) Has.int) ?_
      refine wo (Spec.lit (xs := [.tmp 80]) (T := []) 39 rfl ow31 rfl rfl rfl rfl (HasEach.cons (Has.fl (Has.s rfl)) HasEach.nil)) ?_
      obtain ⟨x15, hx15, hm⟩ := bind_some hm
      refine ws (Step.appendOw (T := [36]) (te' := []) hx15 rfl rfl rfl ow31 (Has.s rfl) (Has.s rfl) ElKeeps.flat ElKeeps.flat) ?_
      refine wo (Spec.fieldAddrO fd33_1 (Has.cv (Has.s rfl) (Cv.isvP rfl))) ?_
      refine ws (Step.storeF (i := 1) (f := Fact.ow [36] [] 3 (x15 : List Int)) rfl ty31 rfl (Has.s rfl) rfl (Has.cv (Has.s rfl) (Cv.trans Cv.owSl (Cv.slRep (T' := [36]) rfl rfl))) (Has.s rfl) rfl) ?_
      refine Walk.nil ?_
      refine Leaf.thenN ?_
      refine CWalk.seq ?_
      obtain ⟨x16, hx16, hm⟩ := bind_some hm
      obtain ⟨x17, hx17, hm⟩ := bind_some hm
      obtain ⟨x18, hx18, hm⟩ := bind_some hm
      refine CWalk.drawM [[], [], [1], [], [0, 1, 2, 3], [], [], [5, 6], [0, 1, 2, 3, 4, 5, 6, 7], [0, 1, 2, 3, 4, 5, 6, 7, 8], [], [0, 1, 2, 3, 4, 5, 6, 7, 8, 9, 10]] [[.fact 84 (Fact.flds [(false, 1, Fact.rep [] (a0.Id : UInt32)), (false, 1, Fact.rep [] (a0.Members : Int)), (false, 1, Fact.rep [] (a0.Chunk : Int)), (false, 1, Fact.rep [] (a0.Rows : Int)), (false, 1, Fact.rep [] (a0.Log : Int)), (false, 1, Fact.rep [] (a0.Heads : Int))])], [.fact 85 (Fact.pto 17 0)], [.fact 86 (Fact.rep [] (a1.Stripe : Int))], [.fact 87 (Fact.rep [] (a2 : Int))], [.fact 88 (Fact.rep [] (x16 : Int))], [.fact 89 (Fact.flds [(false, 1, Fact.rep [] ((2 : UInt8) : UInt8)), (false, 1, Fact.ow [38] [] 3 (b14.1 : List Int))])], [.fact 90 (Fact.flds [(false, 1, Fact.rep [] ((3 : UInt8) : UInt8)), (false, 1, Fact.ow [36] [] 3 (x15 : List Int))])], [.fact 91 (Fact.rep [41, 36, 38] ([(Plan.mk (2 : UInt8) b14.1), (Plan.mk (3 : UInt8) x15)] : List Plan))], [.fact 92 (Fact.ow [42] [43, 36, 38, 41] 33 (x17 : List Plan))], [.fact 93 (Fact.flds [(false, 1, Fact.rep [] (x18.Kind : UInt8)), (false, 1, Fact.rep [44, 36, 38, 41, 42, 43] (x18.Reads : List Int))])], [.fact 13 (.isv 45), .fact 100045 (Fact.obj 45 [(false, 1), (false, 1)]), .fact 100046 (Fact.at 46 (Fact.rep [] ((0 : UInt8) : UInt8))), .fact 100047 (Fact.at 47 (Fact.nilv)), .killId 45, .killId 46, .killId 47], [.fact 100045 (Fact.obj 45 [(false, 1), (false, 1)]), .fact 100046 (Fact.at 46 (Fact.rep [] (x18.Kind : UInt8))), .fact 100047 (Fact.at 47 (Fact.rep [44, 36, 38, 41, 42, 43] (x18.Reads : List Int))), .kill 45, .killId 46, .killId 47]] mixed (by kernel_rfl) (ao (so (Spec.loadObj (ls := [(false, 1, Fact.rep [] (a0.Id : UInt32)), (false, 1, Fact.rep [] (a0.Members : Int)), (false, 1, Fact.rep [] (a0.Chunk : Int)), (false, 1, Fact.rep [] (a0.Rows : Int)), (false, 1, Fact.rep [] (a0.Log : Int)), (false, 1, Fact.rep [] (a0.Heads : Int))]) ty24 rfl rfl (Has.s rfl) rfl (HasGs.cons (HasG.s rfl) (HasGs.cons (HasG.s rfl) (HasGs.cons (HasG.s rfl) (HasGs.cons (HasG.s rfl) (HasGs.cons (HasG.s rfl) (HasGs.cons (HasG.s rfl) HasGs.nil)))))))) (ao (so (Spec.fieldAddrO fd28_0 (Has.cv (Has.s rfl) (Cv.isvP rfl)))) (ao (so (Spec.loadF (i := 0) ty3 rfl (Has.s rfl) rfl (HasG.s rfl))) (ao (so (Spec.move (Has.s rfl))) (ao (so (Spec.callE [] 40 rfl en23 (plan_lost_c a0 a1.Stripe a2 hx16) (HasAll.cons (Has.fl (Has.cv (Has.s rfl) (Cv.trans (Cv.flds (CvL.cons Cv.fl (CvL.cons Cv.fl (CvL.cons Cv.fl (CvL.cons Cv.fl (CvL.cons Cv.fl (CvL.cons Cv.fl CvL.nil))))))) (Cv.close (T := []) (chConfig a0))))) (HasAll.cons (Has.fl (Has.s rfl)) (HasAll.cons (Has.fl (Has.s rfl)) HasAll.nil))))) (ao (so (Spec.loadObj (ls := [(false, 1, Fact.rep [] ((2 : UInt8) : UInt8)), (false, 1, Fact.ow [38] [] 3 (b14.1 : List Int))]) ty33 rfl rfl (Has.s rfl) rfl (HasGs.cons (HasG.s rfl) (HasGs.cons (HasG.s rfl) HasGs.nil)))) (ao (so (Spec.loadObj (ls := [(false, 1, Fact.rep [] ((3 : UInt8) : UInt8)), (false, 1, Fact.ow [36] [] 3 (x15 : List Int))]) ty33 rfl rfl (Has.s rfl) rfl (HasGs.cons (HasG.s rfl) (HasGs.cons (HasG.s rfl) HasGs.nil)))) (ao (so (Spec.lit (xs := [.tmp 89, .tmp 90]) (T := [36, 38]) 41 rfl ow52 rfl rfl rfl rfl (HasEach.cons (Has.m (Has.cv (Has.s rfl) (Cv.trans (Cv.flds (CvL.cons Cv.fl (CvL.cons (Cv.trans (Cv.trans Cv.owSl (Cv.slRep (T' := [38]) rfl rfl)) (Cv.m rfl)) CvL.nil))) (Cv.close (T := [38]) (chPlan (Plan.mk (2 : UInt8) b14.1))))) rfl) (HasEach.cons (Has.m (Has.cv (Has.s rfl) (Cv.trans (Cv.flds (CvL.cons Cv.fl (CvL.cons (Cv.trans (Cv.trans Cv.owSl (Cv.slRep (T' := [36]) rfl rfl)) (Cv.m rfl)) CvL.nil))) (Cv.close (T := [36]) (chPlan (Plan.mk (3 : UInt8) x15))))) rfl) HasEach.nil)))) (ao (so (Spec.callE [36, 38, 41] 42 rfl en22 (plan_some_c x16 ([(Plan.mk (2 : UInt8) b14.1), (Plan.mk (3 : UInt8) x15)]) hx17) (HasAll.cons (Has.fl (Has.s rfl)) (HasAll.cons (Has.m (Has.s rfl) rfl) HasAll.nil)))) (ao (so (Spec.callE [36, 38, 41, 42, 43] 44 rfl en21 (slices_MinFunc_api_Plan_api_Plan_c x17 (fun y => plan_Of_1 y.1 y.2) hx18) (HasAll.cons (Has.m (Has.cv (Has.s rfl) (Cv.trans Cv.owSl (Cv.slRep (T' := [36, 38, 41, 42, 43]) rfl rfl))) rfl) (HasAll.cons (Has.cv Has.func (Cv.fn (pu := []) (pc := []) (shc := []) en24 CvF.nil CvF.nil (fun y r h => plan_Of_1_c y.1 y.2 h))) HasAll.nil)))) (ao (StepG.stE (Step.allocObj (ls := [(false, 1, Fact.rep [] ((0 : UInt8) : UInt8)), (false, 1, Fact.nilv)]) 45 rfl rfl rfl rfl zl33)) (ao (StepG.stE (Step.storeObj (ls := [(false, 1, Fact.rep [] (x18.Kind : UInt8)), (false, 1, Fact.rep [44, 36, 38, 41, 42, 43] (x18.Reads : List Int))]) rfl ty33 rfl rfl (Has.s rfl) rfl (HasL.flds (Has.s rfl)) rfl)) AllM.nil)))))))))))) ?_
      refine Leaf.thenN ?_
      refine CWalk.seq ?_
      refine CWalk.region ?_
      refine wo (Spec.loadObj (ls := [(false, 1, Fact.rep [] (x18.Kind : UInt8)), (false, 1, Fact.rep [44, 36, 38, 41, 42, 43] (x18.Reads : List Int))]) ty33 rfl rfl (Has.s rfl) rfl (HasGs.cons (HasG.s rfl) (HasGs.cons (HasG.s rfl) HasGs.nil))) ?_
      refine ws (Step.storeObj (ls := [(false, 1, Fact.rep [] (x18.Kind : UInt8)), (false, 1, Fact.rep [44, 36, 38, 41, 42, 43] (x18.Reads : List Int))]) rfl ty33 rfl rfl (Has.s rfl) rfl (HasL.flds (Has.s rfl)) rfl) ?_
      refine wo (Spec.assign Has.int) ?_
      refine Walk.nil ?_
      refine Leaf.thenN ?_
      refine CWalk.ret ?_
      obtain rfl := Option.some.inj hm
      exact Leaf.retC2 rfl (HasR.cv (HasR.obj (ls := [(false, 1, Fact.rep [] (x18.Kind : UInt8)), (false, 1, Fact.rep [44, 36, 38, 41, 42, 43] (x18.Reads : List Int))]) ty33 rfl rfl (Has.s rfl) rfl (HasGs.cons (HasG.s rfl) (HasGs.cons (HasG.s rfl) HasGs.nil))) (Cv.flds (CvL.cons Cv.fl (CvL.cons (Cv.m rfl) CvL.nil)))) (HasR.cv (HasR.tmp (Has.s rfl)) Cv.fl)

def ref17_Same_L1 (a0 : Plan) (a1 : Plan) (s1 : Int) : Option (Ctl (Int) ((Unit) ⊕ (Unit))) :=
  (bif (decide (s1 < ((a0.Reads).length : Int))) then Option.bind (idx a0.Reads s1) (fun x3 => Option.bind (idx a1.Reads s1) (fun x4 => (bif (x3 != x4) then some (Ctl.brk (Sum.inr ())) else some (Ctl.next (wI (s1 + (1 : Int))))))) else some (Ctl.brk (Sum.inl ())))
/-- freeboard/freeboardref17.Same -/
def ref17_Same (a0 : Plan) (a1 : Plan) : Option (Bool) :=
  (bif ((a0.Kind != a1.Kind) || (((a0.Reads).length : Int) != ((a1.Reads).length : Int))) then some false else Option.bind (loopM (fun s : Int => ref17_Same_L1 a0 a1 s) FUEL (0 : Int)) (fun b5 => Sum.elim (fun b6 => some true) (fun b7 => some false) b5))
set_option maxRecDepth 100000 in
set_option maxHeartbeats 2000000 in
theorem ref17_Same_c (a0 : Plan) (a1 : Plan) {r : Bool} (hm : ref17_Same a0 a1 = some r) : Ctr Try.prog 11 [.rep 0 a0, .rep 0 a1] (.fl r) [] := by
 refine ctr_of_walk [[]] 38 Try.func11 rfl rfl rfl rfl (fun w0 om => ?_)
 unfold ref17_Same at hm
 refine CWalk.sub (G' := [.fact 0 (Fact.rep [0] (a0 : Plan)), .fact 1 (Fact.rep [0] (a1 : Plan))]) (sn (sn Sub.nil)) ?_
 refine CWalk.seq ?_
 refine CWalk.region ?_
 refine ws (Step.boxObj (ls := [(false, 1, Fact.rep [] (a0.Kind : UInt8)), (false, 1, Fact.rep [0] (a0.Reads : List Int))]) 10 rfl rfl rfl rfl (HasL.flds (Has.cv (Has.s rfl) (Cv.trans (Cv.opens (chPlan a0)) (Cv.flds (CvL.cons Cv.fl (CvL.cons Cv.refl CvL.nil))))))) ?_
 refine ws (Step.boxObj (ls := [(false, 1, Fact.rep [] (a1.Kind : UInt8)), (false, 1, Fact.rep [0] (a1.Reads : List Int))]) 13 rfl rfl rfl rfl (HasL.flds (Has.cv (Has.s rfl) (Cv.trans (Cv.opens (chPlan a1)) (Cv.flds (CvL.cons Cv.fl (CvL.cons Cv.refl CvL.nil))))))) ?_
 refine wo (Spec.assign Has.bool) ?_
 refine Walk.nil ?_
 refine Leaf.thenN ?_
 refine CWalk.seq ?_
 refine CWalk.seq ?_
 refine CWalk.region ?_
 refine wo (Spec.fieldAddrO fd33_0 (Has.cv (Has.s rfl) (Cv.isvP rfl))) ?_
 refine wo (Spec.loadF (i := 0) ty5 rfl (Has.s rfl) rfl (HasG.s rfl)) ?_
 refine wo (Spec.fieldAddrO fd33_0 (Has.cv (Has.s rfl) (Cv.isvP rfl))) ?_
 refine wo (Spec.loadF (i := 0) ty5 rfl (Has.s rfl) rfl (HasG.s rfl)) ?_
 refine wo (Spec.neqB (Has.s rfl) (Has.s rfl)) ?_
 refine mv ?_
 refine wg rfl rfl (fun hb => Spec.fieldAddrO fd33_1 (Has.cv (Has.s rfl) (Cv.isvP rfl))) ?_
 refine wg rfl rfl (fun hb => Spec.loadF (i := 1) ty31 rfl (Has.u rfl hb) rfl (HasG.s rfl)) ?_
 refine wg rfl rfl (fun hb => Spec.len (Has.u rfl hb) Try.underlying31) ?_
 refine wg rfl rfl (fun hb => Spec.fieldAddrO fd33_1 (Has.cv (Has.s rfl) (Cv.isvP rfl))) ?_
 refine wg rfl rfl (fun hb => Spec.loadF (i := 1) ty31 rfl (Has.u rfl hb) rfl (HasG.s rfl)) ?_
 refine wg rfl rfl (fun hb => Spec.len (Has.u rfl hb) Try.underlying31) ?_
 refine wg rfl rfl (fun hb => Spec.neqI (Has.u rfl hb) (Has.u rfl hb)) ?_
 refine wo (Spec.or (Has.s rfl) (fun h => Has.u rfl h)) ?_
 refine Walk.nil ?_
 refine Leaf.thenN ?_
 refine CWalk.cond rfl (fun hb => ?_) (fun hb => ?_)
 ·have hm := cond_t hb hm
  refine CWalk.seq ?_
  refine CWalk.region ?_
  refine wo (Spec.assign Has.bool) ?_
  refine Walk.nil ?_
  refine Leaf.thenN ?_
  refine CWalk.ret ?_
  refine Leaf.thenR ?_
  obtain rfl := Option.some.inj hm
  exact Leaf.retC1 rfl (HasR.cv (HasR.tmp (Has.s rfl)) Cv.fl)
 ·have hm := cond_f hb hm
  refine CWalk.skip ?_
  refine Leaf.thenN ?_
  refine CWalk.seq ?_
  refine CWalk.seq ?_
  refine CWalk.region ?_
  refine wo (Spec.assign Has.int) ?_
  refine Walk.nil ?_
  refine Leaf.thenN ?_
  refine CWalk.block ?_
  obtain ⟨b5, hb5, hm⟩ := bind_some hm
  refine CWalk.loop (fun s : Int => [.fact 2 (Fact.isv 10), .fact 3 (Fact.isv 13), .fact 5 (Fact.rep [] (s : Int)), .fact 100011 (Fact.at 11 (Fact.rep [] (a0.Kind : UInt8))), .fact 100012 (Fact.at 12 (Fact.rep [0] (a0.Reads : List Int))), .fact 100014 (Fact.at 14 (Fact.rep [] (a1.Kind : UInt8))), .fact 100015 (Fact.at 15 (Fact.rep [0] (a1.Reads : List Int))), .fact 100010 (Fact.obj 10 [(false, 1), (false, 1)]), .fact 100013 (Fact.obj 13 [(false, 1), (false, 1)])]) (fun b : (Unit) ⊕ (Unit) => Sum.elim (fun b => (Exit.exit 0, [])) (fun b => (Exit.ret, [.fact 4 (Fact.rep [] (false : Bool))])) b) hb5 (sn (sn (st (sf (sm (sf (sm (sn (sn Sub.nil))))))))) ?_ ?_
  ·rintro s1 c2 hm
   replace hm : ref17_Same_L1 a0 a1 s1 = some c2 := hm
   unfold ref17_Same_L1 at hm
   show CWalk _ [.fact 2 (Fact.isv 10), .fact 3 (Fact.isv 13), .fact 5 (Fact.rep [] (s1 : Int)), .fact 100011 (Fact.at 11 (Fact.rep [] (a0.Kind : UInt8))), .fact 100012 (Fact.at 12 (Fact.rep [0] (a0.Reads : List Int))), .fact 100014 (Fact.at 14 (Fact.rep [] (a1.Kind : UInt8))), .fact 100015 (Fact.at 15 (Fact.rep [0] (a1.Reads : List Int))), .fact 100010 (Fact.obj 10 [(false, 1), (false, 1)]), .fact 100013 (Fact.obj 13 [(false, 1), (false, 1)])] _ _
   refine CWalk.seq ?_
   refine CWalk.seq ?_
   refine CWalk.region ?_
   refine mv ?_
   refine wo (Spec.fieldAddrO fd33_1 (Has.cv (Has.s rfl) (Cv.isvP rfl))) ?_
   refine wo (Spec.loadF (i := 1) ty31 rfl (Has.s rfl) rfl (HasG.s rfl)) ?_
   refine wo (Spec.len (Has.s rfl) Try.underlying31) ?_
   refine wo (Spec.lssI (Has.s rfl) (Has.s rfl)) ?_
   refine Walk.nil ?_
   refine Leaf.thenN ?_
   refine CWalk.cond rfl (fun hb => ?_) (fun hb => ?_)
   ·have hm := cond_t hb hm
    refine CWalk.skip ?_
    refine Leaf.thenN ?_
    refine CWalk.seq ?_
    refine CWalk.block ?_
    refine CWalk.seq ?_
    obtain ⟨x3, hx3, hm⟩ := bind_some hm
    obtain ⟨x4, hx4, hm⟩ := bind_some hm
    refine CWalk.drawM [[], [0], [], [0, 1, 2], [0, 1, 2, 3], [], [5], [], [5, 6, 7], [5, 6, 7, 8], [0, 1, 2, 3, 4, 5, 6, 7, 8, 9]] [[.fact 27 (Fact.pto 10 1)], [.fact 28 (Fact.rep [0] (a0.Reads : List Int))], [.fact 29 (Fact.rep [] (s1 : Int))], [.fact 30 (Fact.ptr [0] (x3 : Int))], [.fact 31 (Fact.rep [] (x3 : Int))], [.fact 32 (Fact.pto 13 1)], [.fact 33 (Fact.rep [0] (a1.Reads : List Int))], [.fact 34 (Fact.rep [] (s1 : Int))], [.fact 35 (Fact.ptr [0] (x4 : Int))], [.fact 36 (Fact.rep [] (x4 : Int))], [.fact 37 (Fact.rep [] ((x3 != x4) : Bool))]] mixed (by kernel_rfl) (ao (so (Spec.fieldAddrO fd33_1 (Has.cv (Has.s rfl) (Cv.isvP rfl)))) (ao (so (Spec.loadF (i := 1) ty31 rfl (Has.s rfl) rfl (HasG.s rfl))) (ao (so (Spec.move (Has.s rfl))) (ao (so (Spec.indexAddr hx3 sl31 (Has.s rfl) (Has.s rfl))) (ao (so ((Spec.load ty3 (Has.s rfl)).flat (T' := []))) (ao (so (Spec.fieldAddrO fd33_1 (Has.cv (Has.s rfl) (Cv.isvP rfl)))) (ao (so (Spec.loadF (i := 1) ty31 rfl (Has.s rfl) rfl (HasG.s rfl))) (ao (so (Spec.move (Has.s rfl))) (ao (so (Spec.indexAddr hx4 sl31 (Has.s rfl) (Has.s rfl))) (ao (so ((Spec.load ty3 (Has.s rfl)).flat (T' := []))) (ao (so (Spec.neqI (Has.s rfl) (Has.s rfl))) AllM.nil))))))))))) ?_
    refine Leaf.thenN ?_
    refine CWalk.cond rfl (fun hb => ?_) (fun hb => ?_)
    ·have hm := cond_t hb hm
     refine CWalk.seq ?_
     refine CWalk.region ?_
     refine wo (Spec.assign Has.bool) ?_
     refine Walk.nil ?_
     refine Leaf.thenN ?_
     refine CWalk.ret ?_
     refine Leaf.blockR ?_
     refine Leaf.thenR ?_
     exact Leaf.brk hm (fun h => nomatch h) rfl (st Sub.nil)
    ·have hm := cond_f hb hm
     refine CWalk.skip ?_
     refine Leaf.blockN ?_
     refine Leaf.thenN ?_
     refine CWalk.region ?_
     refine mv ?_
     refine wo (Spec.addI (Has.s rfl) Has.int) ?_
     refine wo (Spec.assign (Has.s rfl)) ?_
     refine Walk.nil ?_
     exact Leaf.next hm (sn (sn (st (sf (sm (sf (sm (sn (sn Sub.nil)))))))))
   ·have hm := cond_f hb hm
    refine CWalk.exit ?_
    refine Leaf.thenE ?_
    exact Leaf.brk hm (fun h => nomatch h) rfl (Sub.nil)
  ·intro _
   rcases b5 with b6 | b7
   ·have hm := selim_l hm
    refine Leaf.blockE ?_
    refine Leaf.thenN ?_
    refine CWalk.seq ?_
    refine CWalk.region ?_
    refine wo (Spec.assign Has.bool) ?_
    refine Walk.nil ?_
    refine Leaf.thenN ?_
    refine CWalk.ret ?_
    obtain rfl := Option.some.inj hm
    exact Leaf.retC1 rfl (HasR.cv (HasR.tmp (Has.s rfl)) Cv.fl)
   ·have hm := selim_r hm
    refine Leaf.blockR ?_
    refine Leaf.thenR ?_
    obtain rfl := Option.some.inj hm
    exact Leaf.retC1 rfl (HasR.cv (HasR.tmp (Has.s rfl)) Cv.fl)

/-- freeboard/freeboardlaw17.is -/
def law17_is (a0 : Head) (a1 : Int) (a2 : UInt8) (a3 : List Int) : Option (Bool) :=
  Option.bind (law17_five) (fun x1 => Option.bind (plan_Of x1 a0 a1) (fun x2 => Option.bind (gO ((x2.2 == (0 : Int))) (ref17_Same x2.1 (Plan.mk a2 a3))) (fun x3 => some ((x2.2 == (0 : Int)) && x3))))
set_option maxRecDepth 100000 in
set_option maxHeartbeats 2000000 in
theorem law17_is_c (a0 : Head) (a1 : Int) (a2 : UInt8) (a3 : List Int) {r : Bool} (hm : law17_is a0 a1 a2 a3 = some r) : Ctr Try.prog 16 [.rep 0 a0, .rep 0 a1, .rep 0 a2, .rep 0 a3] (.fl r) [] := by
 refine ctr_of_walk [[]] 27 Try.func16 rfl rfl rfl rfl (fun w0 om => ?_)
 unfold law17_is at hm
 refine CWalk.sub (G' := [.fact 0 (Fact.rep [0] (a0 : Head)), .fact 1 (Fact.rep [] (a1 : Int)), .fact 2 (Fact.rep [] (a2 : UInt8)), .fact 3 (Fact.rep [0] (a3 : List Int))]) (sn (Sub.cons (Has.fl (Has.s rfl)) (Sub.cons (Has.fl (Has.s rfl)) (sn Sub.nil)))) ?_
 refine CWalk.seq ?_
 refine CWalk.region ?_
 refine ws (Step.boxObj (ls := [(false, 1, Fact.rep [] (a0.Stripe : Int)), (false, 1, Fact.rep [0] (a0.Blocks : List (List UInt8))), (false, 1, Fact.rep [0] (a0.Dirty : List Bool)), (false, 1, Fact.rep [] (a0.Phase : UInt8)), (false, 1, Fact.rep [] (a0.Deals : Bool)), (false, 1, Fact.rep [] (a0.Seq : UInt32))]) 10 rfl rfl rfl rfl (HasL.flds (Has.cv (Has.s rfl) (Cv.trans (Cv.opens (chHead a0)) (Cv.flds (CvL.cons Cv.fl (CvL.cons Cv.refl (CvL.cons Cv.refl (CvL.cons Cv.fl (CvL.cons Cv.fl (CvL.cons Cv.fl CvL.nil))))))))))) ?_
 refine wo (Spec.assign Has.bool) ?_
 refine Walk.nil ?_
 refine Leaf.thenN ?_
 refine CWalk.seq ?_
 obtain ⟨x1, hx1, hm⟩ := bind_some hm
 obtain ⟨x2, hx2, hm⟩ := bind_some hm
 refine CWalk.drawM [[], [], [], [0, 1, 2], [0, 1, 2, 3], [0, 1, 2, 3, 4], [0, 1, 2, 3, 4], [], [0, 1, 2, 3, 4, 5, 7], [0, 1, 2, 3, 4, 5, 6, 7, 8]] [[.fact 12 (Fact.rep [] (x1 : Config))], [.fact 13 (Fact.flds [(false, 1, Fact.rep [] (a0.Stripe : Int)), (false, 1, Fact.rep [0] (a0.Blocks : List (List UInt8))), (false, 1, Fact.rep [0] (a0.Dirty : List Bool)), (false, 1, Fact.rep [] (a0.Phase : UInt8)), (false, 1, Fact.rep [] (a0.Deals : Bool)), (false, 1, Fact.rep [] (a0.Seq : UInt32))])], [.fact 14 (Fact.rep [] (a1 : Int))], [.fact 15 (Fact.tup2 (Fact.flds [(false, 1, Fact.rep [] (x2.1.Kind : UInt8)), (false, 1, Fact.rep [18] (x2.1.Reads : List Int))]) (Fact.rep [] (x2.2 : Int)))], [.fact 11 (Fact.tup2 (Fact.flds [(false, 1, Fact.rep [] (x2.1.Kind : UInt8)), (false, 1, Fact.rep [18] (x2.1.Reads : List Int))]) (Fact.rep [] (x2.2 : Int)))], [.fact 16 (Fact.flds [(false, 1, Fact.rep [] (x2.1.Kind : UInt8)), (false, 1, Fact.rep [18] (x2.1.Reads : List Int))])], [.fact 17 (Fact.rep [] (x2.2 : Int))], [.fact 9 (.isv 19), .fact 100019 (Fact.obj 19 [(false, 1), (false, 1)]), .fact 100020 (Fact.at 20 (Fact.rep [] ((0 : UInt8) : UInt8))), .fact 100021 (Fact.at 21 (Fact.nilv)), .killId 19, .killId 20, .killId 21], [.fact 100019 (Fact.obj 19 [(false, 1), (false, 1)]), .fact 100020 (Fact.at 20 (Fact.rep [] (x2.1.Kind : UInt8))), .fact 100021 (Fact.at 21 (Fact.rep [18] (x2.1.Reads : List Int))), .kill 19, .killId 20, .killId 21], [.fact 10 (Fact.rep [] (x2.2 : Int))]] mixed (by kernel_rfl) (ao (so (Spec.callE [] 17 rfl en13 (law17_five_c  hx1) HasAll.nil)) (ao (so (Spec.loadObj (ls := [(false, 1, Fact.rep [] (a0.Stripe : Int)), (false, 1, Fact.rep [0] (a0.Blocks : List (List UInt8))), (false, 1, Fact.rep [0] (a0.Dirty : List Bool)), (false, 1, Fact.rep [] (a0.Phase : UInt8)), (false, 1, Fact.rep [] (a0.Deals : Bool)), (false, 1, Fact.rep [] (a0.Seq : UInt32))]) ty28 rfl rfl (Has.s rfl) rfl (HasGs.cons (HasG.s rfl) (HasGs.cons (HasG.s rfl) (HasGs.cons (HasG.s rfl) (HasGs.cons (HasG.s rfl) (HasGs.cons (HasG.s rfl) (HasGs.cons (HasG.s rfl) HasGs.nil)))))))) (ao (so (Spec.move (Has.s rfl))) (ao (so (Spec.callE [0] 18 rfl en9 (plan_Of_c x1 a0 a1 hx2) (HasAll.cons (Has.fl (Has.s rfl)) (HasAll.cons (Has.m (Has.cv (Has.s rfl) (Cv.trans (Cv.flds (CvL.cons Cv.fl (CvL.cons (Cv.m rfl) (CvL.cons (Cv.m rfl) (CvL.cons Cv.fl (CvL.cons Cv.fl (CvL.cons Cv.fl CvL.nil))))))) (Cv.close (T := [0]) (chHead a0)))) rfl) (HasAll.cons (Has.fl (Has.s rfl)) HasAll.nil))))) (ao (so (Spec.move (Has.s rfl))) (ao (so (Spec.ext0 (Has.s rfl))) (ao (so (Spec.ext1 (Has.s rfl))) (ao (StepG.stE (Step.allocObj (ls := [(false, 1, Fact.rep [] ((0 : UInt8) : UInt8)), (false, 1, Fact.nilv)]) 19 rfl rfl rfl rfl zl33)) (ao (StepG.stE (Step.storeObj (ls := [(false, 1, Fact.rep [] (x2.1.Kind : UInt8)), (false, 1, Fact.rep [18] (x2.1.Reads : List Int))]) rfl ty33 rfl rfl (Has.s rfl) rfl (HasL.flds (Has.s rfl)) rfl)) (ao (so (Spec.assign (Has.s rfl))) AllM.nil)))))))))) ?_
 refine Leaf.thenN ?_
 refine CWalk.seq ?_
 refine CWalk.region ?_
 refine mv ?_
 refine wo (Spec.eqlI (Has.s rfl) Has.int) ?_
 refine mv ?_
 refine wg rfl rfl (fun hb => Spec.loadObj (ls := [(false, 1, Fact.rep [] (x2.1.Kind : UInt8)), (false, 1, Fact.rep [18] (x2.1.Reads : List Int))]) ty33 rfl rfl (Has.s rfl) rfl (HasGs.cons (HasG.s rfl) (HasGs.cons (HasG.s rfl) HasGs.nil))) ?_
 refine wg rfl rfl (fun hb => Spec.move (Has.s rfl)) ?_
 refine wg rfl rfl (fun hb => Spec.move (Has.s rfl)) ?_
 refine wg rfl rfl (fun hb => Spec.build (us := [(0, .tmp 22), (1, .tmp 23)]) (ls' := [(false, 1, Fact.rep [] (a2 : UInt8)), (false, 1, Fact.rep [0] (a3 : List Int))]) bd33 rfl (BP.cons rfl rfl (Has.u rfl hb) (Has.u rfl hb) (BP.cons rfl rfl (Has.u rfl hb) (Has.u rfl hb) BP.nil))) ?_
 obtain ⟨x3, hx3, hm⟩ := bind_some hm
 refine wg (f := Fact.rep [] (x3 : Bool)) rfl rfl (fun hb => Spec.callE [0, 18] 22 rfl en11 (ref17_Same_c x2.1 (Plan.mk a2 a3) (gO_t hx3 hb)) (HasAll.cons (Has.m (Has.cv (Has.u rfl hb) (Cv.trans (Cv.flds (CvL.cons Cv.fl (CvL.cons (Cv.m rfl) CvL.nil))) (Cv.close (T := [18]) (chPlan x2.1)))) rfl) (HasAll.cons (Has.m (Has.cv (Has.u rfl hb) (Cv.trans (Cv.flds (CvL.cons Cv.fl (CvL.cons (Cv.m rfl) CvL.nil))) (Cv.close (T := [0]) (chPlan (Plan.mk a2 a3))))) rfl) HasAll.nil))) ?_
 refine wo (Spec.and (Has.s rfl) (fun h => Has.u rfl h)) ?_
 refine wo (Spec.assign (Has.s rfl)) ?_
 refine Walk.nil ?_
 refine Leaf.thenN ?_
 refine CWalk.ret ?_
 obtain rfl := Option.some.inj hm
 exact Leaf.retC1 rfl (HasR.cv (HasR.tmp (Has.s rfl)) Cv.fl)

/-- freeboard/freeboardlaw17.alive -/
def law17_alive : Option (Bool) :=
  Option.bind (law17_with (1 : Int) (3 : Int)) (fun x1 => Option.bind (law17_is x1 (-1 : Int) (1 : UInt8) ([] : List Int)) (fun x2 => Option.bind (gO (x2) (law17_with (1 : Int) (0 : Int))) (fun x3 => Option.bind (gO (x2) (law17_is x3 (-1 : Int) (3 : UInt8) ([(0 : Int), (4 : Int)]))) (fun x4 => Option.bind (gO ((x2 && x4)) (law17_with (1 : Int) (0 : Int))) (fun x5 => Option.bind (gO ((x2 && x4)) (law17_is x5 (0 : Int) (2 : UInt8) ([(1 : Int), (2 : Int), (3 : Int)]))) (fun x6 => some ((x2 && x4) && x6)))))))
set_option maxRecDepth 100000 in
set_option maxHeartbeats 2000000 in
theorem law17_alive_c {r : Bool} (hm : law17_alive = some r) : Ctr Try.prog 15 [] (.fl r) [] := by
 refine ctr_of_walk [[]] 13 Try.func15 rfl rfl rfl rfl (fun w0 om => ?_)
 unfold law17_alive at hm
 refine CWalk.sub (G' := []) (Sub.nil) ?_
 refine CWalk.seq ?_
 refine CWalk.region ?_
 refine wo (Spec.assign Has.bool) ?_
 refine Walk.nil ?_
 refine Leaf.thenN ?_
 refine CWalk.seq ?_
 refine CWalk.region ?_
 obtain ⟨x1, hx1, hm⟩ := bind_some hm
 refine wo (f := Fact.flds [(false, 1, Fact.rep [] (x1.Stripe : Int)), (false, 1, Fact.ow [10] [11] 46 (x1.Blocks : List (List UInt8))), (false, 1, Fact.ow [12] [] 4 (x1.Dirty : List Bool)), (false, 1, Fact.rep [] (x1.Phase : UInt8)), (false, 1, Fact.rep [] (x1.Deals : Bool)), (false, 1, Fact.rep [] (x1.Seq : UInt32))]) (Spec.callE [] 10 rfl en14 (law17_with_c (1 : Int) (3 : Int) hx1) (HasAll.cons (Has.fl Has.int) (HasAll.cons (Has.fl Has.int) HasAll.nil))) ?_
 obtain ⟨x2, hx2, hm⟩ := bind_some hm
 refine wo (f := Fact.rep [] (x2 : Bool)) (Spec.callE [10, 11, 12] 13 rfl en16 (law17_is_c x1 (-1 : Int) (1 : UInt8) ([] : List Int) hx2) (HasAll.cons (Has.m (Has.cv (Has.s rfl) (Cv.trans (Cv.flds (CvL.cons Cv.fl (CvL.cons (Cv.trans (Cv.trans Cv.owSl (Cv.slRep (T' := [10, 11]) rfl rfl)) (Cv.m rfl)) (CvL.cons (Cv.trans (Cv.trans Cv.owSl (Cv.slRep (T' := [12]) rfl rfl)) (Cv.m rfl)) (CvL.cons Cv.fl (CvL.cons Cv.fl (CvL.cons Cv.fl CvL.nil))))))) (Cv.close (T := [10, 11, 12]) (chHead x1)))) rfl) (HasAll.cons (Has.fl Has.int) (HasAll.cons (Has.fl (Has.u8 1 rfl)) (HasAll.cons (Has.m (Has.nil Int) rfl) HasAll.nil))))) ?_
 refine mv ?_
 obtain ⟨x3, hx3, hm⟩ := bind_some hm
 refine wg (f := Fact.flds [(false, 1, Fact.rep [] (x3.Stripe : Int)), (false, 1, Fact.ow [14] [15] 46 (x3.Blocks : List (List UInt8))), (false, 1, Fact.ow [16] [] 4 (x3.Dirty : List Bool)), (false, 1, Fact.rep [] (x3.Phase : UInt8)), (false, 1, Fact.rep [] (x3.Deals : Bool)), (false, 1, Fact.rep [] (x3.Seq : UInt32))]) rfl rfl (fun hb => Spec.callE [] 14 rfl en14 (law17_with_c (1 : Int) (0 : Int) (gO_t hx3 hb)) (HasAll.cons (Has.fl Has.int) (HasAll.cons (Has.fl Has.int) HasAll.nil))) ?_
 refine wg rfl rfl (fun hb => Spec.lit (xs := [.const (.int .i64 0), .const (.int .i64 4)]) (T := []) 17 rfl ow31 rfl rfl rfl rfl (HasEach.cons (Has.fl Has.int) (HasEach.cons (Has.fl Has.int) HasEach.nil))) ?_
 obtain ⟨x4, hx4, hm⟩ := bind_some hm
 refine wg (f := Fact.rep [] (x4 : Bool)) rfl rfl (fun hb => Spec.callE [14, 15, 16, 17] 18 rfl en16 (law17_is_c x3 (-1 : Int) (3 : UInt8) ([(0 : Int), (4 : Int)]) (gO_t hx4 hb)) (HasAll.cons (Has.m (Has.cv (Has.u rfl hb) (Cv.trans (Cv.flds (CvL.cons Cv.fl (CvL.cons (Cv.trans (Cv.trans Cv.owSl (Cv.slRep (T' := [14, 15]) rfl rfl)) (Cv.m rfl)) (CvL.cons (Cv.trans (Cv.trans Cv.owSl (Cv.slRep (T' := [16]) rfl rfl)) (Cv.m rfl)) (CvL.cons Cv.fl (CvL.cons Cv.fl (CvL.cons Cv.fl CvL.nil))))))) (Cv.close (T := [14, 15, 16]) (chHead x3)))) rfl) (HasAll.cons (Has.fl Has.int) (HasAll.cons (Has.fl (Has.u8 3 rfl)) (HasAll.cons (Has.m (Has.u rfl hb) rfl) HasAll.nil))))) ?_
 refine wo (Spec.and (Has.s rfl) (fun h => Has.u rfl h)) ?_
 refine mv ?_
 obtain ⟨x5, hx5, hm⟩ := bind_some hm
 refine wg (f := Fact.flds [(false, 1, Fact.rep [] (x5.Stripe : Int)), (false, 1, Fact.ow [19] [20] 46 (x5.Blocks : List (List UInt8))), (false, 1, Fact.ow [21] [] 4 (x5.Dirty : List Bool)), (false, 1, Fact.rep [] (x5.Phase : UInt8)), (false, 1, Fact.rep [] (x5.Deals : Bool)), (false, 1, Fact.rep [] (x5.Seq : UInt32))]) rfl rfl (fun hb => Spec.callE [] 19 rfl en14 (law17_with_c (1 : Int) (0 : Int) (gO_t hx5 hb)) (HasAll.cons (Has.fl Has.int) (HasAll.cons (Has.fl Has.int) HasAll.nil))) ?_
 refine wg rfl rfl (fun hb => Spec.lit (xs := [.const (.int .i64 1), .const (.int .i64 2), .const (.int .i64 3)]) (T := []) 22 rfl ow31 rfl rfl rfl rfl (HasEach.cons (Has.fl Has.int) (HasEach.cons (Has.fl Has.int) (HasEach.cons (Has.fl Has.int) HasEach.nil)))) ?_
 obtain ⟨x6, hx6, hm⟩ := bind_some hm
 refine wg (f := Fact.rep [] (x6 : Bool)) rfl rfl (fun hb => Spec.callE [19, 20, 21, 22] 23 rfl en16 (law17_is_c x5 (0 : Int) (2 : UInt8) ([(1 : Int), (2 : Int), (3 : Int)]) (gO_t hx6 hb)) (HasAll.cons (Has.m (Has.cv (Has.u rfl hb) (Cv.trans (Cv.flds (CvL.cons Cv.fl (CvL.cons (Cv.trans (Cv.trans Cv.owSl (Cv.slRep (T' := [19, 20]) rfl rfl)) (Cv.m rfl)) (CvL.cons (Cv.trans (Cv.trans Cv.owSl (Cv.slRep (T' := [21]) rfl rfl)) (Cv.m rfl)) (CvL.cons Cv.fl (CvL.cons Cv.fl (CvL.cons Cv.fl CvL.nil))))))) (Cv.close (T := [19, 20, 21]) (chHead x5)))) rfl) (HasAll.cons (Has.fl Has.int) (HasAll.cons (Has.fl (Has.u8 2 rfl)) (HasAll.cons (Has.m (Has.u rfl hb) rfl) HasAll.nil))))) ?_
 refine wo (Spec.and (Has.s rfl) (fun h => Has.u rfl h)) ?_
 refine wo (Spec.assign (Has.s rfl)) ?_
 refine Walk.nil ?_
 refine Leaf.thenN ?_
 refine CWalk.ret ?_
 obtain rfl := Option.some.inj hm
 exact Leaf.retC1 rfl (HasR.cv (HasR.tmp (Has.s rfl)) Cv.fl)

/-- freeboard/freeboardlaw17.PlanNames -/
def law17_PlanNames : Option (Bool) :=
  Option.bind (law17_five) (fun x1 => Option.bind (law17_with (0 : Int) (2 : Int)) (fun x2 => Option.bind (plan_Of x1 x2 (-1 : Int)) (fun x3 => Option.bind (law17_five) (fun x4 => Option.bind (law17_with (1 : Int) (0 : Int)) (fun x5 => Option.bind (plan_Of x4 x5 (5 : Int)) (fun x6 => Option.bind (law17_five) (fun x7 => Option.bind (plan_Of x7 (Head.mk (0 : Int) ([] : List (List UInt8)) ([] : List Bool) (0 : UInt8) false (0 : UInt32)) (-1 : Int)) (fun x8 => Option.bind (gO (true) (law17_alive)) (fun x9 => Option.bind (gO ((true && x9)) (law17_with (1 : Int) (0 : Int))) (fun x10 => Option.bind (gO ((true && x9)) (law17_is x10 (1 : Int) (3 : UInt8) ([(0 : Int), (4 : Int)]))) (fun x11 => Option.bind (gO (((true && x9) && x11)) (law17_with (1 : Int) (0 : Int))) (fun x12 => Option.bind (gO (((true && x9) && x11)) (law17_is x12 (4 : Int) (2 : UInt8) ([(1 : Int), (2 : Int), (3 : Int)]))) (fun x13 => Option.bind (gO ((((true && x9) && x11) && x13)) (law17_with (2 : Int) (0 : Int))) (fun x14 => Option.bind (gO ((((true && x9) && x11) && x13)) (law17_is x14 (-1 : Int) (2 : UInt8) ([(2 : Int), (3 : Int)]))) (fun x15 => some (((((((true && x9) && x11) && x13) && x15) && (x3.2 == (6 : Int))) && (x6.2 == (2 : Int))) && (x8.2 == (8 : Int))))))))))))))))))
set_option maxRecDepth 100000 in
set_option maxHeartbeats 2000000 in
theorem law17_PlanNames_c {r : Bool} (hm : law17_PlanNames = some r) : Ctr Try.prog 4 [] (.fl r) [] := by
 refine ctr_of_walk [[]] 55 Try.func4 rfl rfl rfl rfl (fun w0 om => ?_)
 unfold law17_PlanNames at hm
 refine CWalk.sub (G' := []) (Sub.nil) ?_
 refine CWalk.seq ?_
 refine CWalk.region ?_
 refine wo (Spec.assign Has.bool) ?_
 refine Walk.nil ?_
 refine Leaf.thenN ?_
 refine CWalk.seq ?_
 refine CWalk.region ?_
 obtain ⟨x1, hx1, hm⟩ := bind_some hm
 refine wo (f := Fact.rep [] (x1 : Config)) (Spec.callE [] 10 rfl en13 (law17_five_c  hx1) HasAll.nil) ?_
 obtain ⟨x2, hx2, hm⟩ := bind_some hm
 refine wo (f := Fact.flds [(false, 1, Fact.rep [] (x2.Stripe : Int)), (false, 1, Fact.ow [11] [12] 46 (x2.Blocks : List (List UInt8))), (false, 1, Fact.ow [13] [] 4 (x2.Dirty : List Bool)), (false, 1, Fact.rep [] (x2.Phase : UInt8)), (false, 1, Fact.rep [] (x2.Deals : Bool)), (false, 1, Fact.rep [] (x2.Seq : UInt32))]) (Spec.callE [] 11 rfl en14 (law17_with_c (0 : Int) (2 : Int) hx2) (HasAll.cons (Has.fl Has.int) (HasAll.cons (Has.fl Has.int) HasAll.nil))) ?_
 obtain ⟨x3, hx3, hm⟩ := bind_some hm
 refine wo (f := Fact.tup2 (Fact.flds [(false, 1, Fact.rep [] (x3.1.Kind : UInt8)), (false, 1, Fact.rep [14] (x3.1.Reads : List Int))]) (Fact.rep [] (x3.2 : Int))) (Spec.callE [11, 12, 13] 14 rfl en9 (plan_Of_c x1 x2 (-1 : Int) hx3) (HasAll.cons (Has.fl (Has.s rfl)) (HasAll.cons (Has.m (Has.cv (Has.s rfl) (Cv.trans (Cv.flds (CvL.cons Cv.fl (CvL.cons (Cv.trans (Cv.trans Cv.owSl (Cv.slRep (T' := [11, 12]) rfl rfl)) (Cv.m rfl)) (CvL.cons (Cv.trans (Cv.trans Cv.owSl (Cv.slRep (T' := [13]) rfl rfl)) (Cv.m rfl)) (CvL.cons Cv.fl (CvL.cons Cv.fl (CvL.cons Cv.fl CvL.nil))))))) (Cv.close (T := [11, 12, 13]) (chHead x2)))) rfl) (HasAll.cons (Has.fl Has.int) HasAll.nil)))) ?_
 refine mv ?_
 refine wo (Spec.ext0 (Has.s rfl)) ?_
 refine wo (Spec.ext1 (Has.s rfl)) ?_
 refine ws (Step.allocObj (ls := [(false, 1, Fact.rep [] ((0 : UInt8) : UInt8)), (false, 1, Fact.nilv)]) 15 rfl rfl rfl rfl zl33) ?_
 refine ws (Step.storeObj (ls := [(false, 1, Fact.rep [] (x3.1.Kind : UInt8)), (false, 1, Fact.rep [14] (x3.1.Reads : List Int))]) rfl ty33 rfl rfl (Has.s rfl) rfl (HasL.flds (Has.s rfl)) rfl) ?_
 refine wo (Spec.assign (Has.s rfl)) ?_
 refine Walk.nil ?_
 refine Leaf.thenN ?_
 refine CWalk.seq ?_
 refine CWalk.region ?_
 obtain ⟨x4, hx4, hm⟩ := bind_some hm
 refine wo (f := Fact.rep [] (x4 : Config)) (Spec.callE [] 18 rfl en13 (law17_five_c  hx4) HasAll.nil) ?_
 obtain ⟨x5, hx5, hm⟩ := bind_some hm
 refine wo (f := Fact.flds [(false, 1, Fact.rep [] (x5.Stripe : Int)), (false, 1, Fact.ow [19] [20] 46 (x5.Blocks : List (List UInt8))), (false, 1, Fact.ow [21] [] 4 (x5.Dirty : List Bool)), (false, 1, Fact.rep [] (x5.Phase : UInt8)), (false, 1, Fact.rep [] (x5.Deals : Bool)), (false, 1, Fact.rep [] (x5.Seq : UInt32))]) (Spec.callE [] 19 rfl en14 (law17_with_c (1 : Int) (0 : Int) hx5) (HasAll.cons (Has.fl Has.int) (HasAll.cons (Has.fl Has.int) HasAll.nil))) ?_
 obtain ⟨x6, hx6, hm⟩ := bind_some hm
 refine wo (f := Fact.tup2 (Fact.flds [(false, 1, Fact.rep [] (x6.1.Kind : UInt8)), (false, 1, Fact.rep [22] (x6.1.Reads : List Int))]) (Fact.rep [] (x6.2 : Int))) (Spec.callE [19, 20, 21] 22 rfl en9 (plan_Of_c x4 x5 (5 : Int) hx6) (HasAll.cons (Has.fl (Has.s rfl)) (HasAll.cons (Has.m (Has.cv (Has.s rfl) (Cv.trans (Cv.flds (CvL.cons Cv.fl (CvL.cons (Cv.trans (Cv.trans Cv.owSl (Cv.slRep (T' := [19, 20]) rfl rfl)) (Cv.m rfl)) (CvL.cons (Cv.trans (Cv.trans Cv.owSl (Cv.slRep (T' := [21]) rfl rfl)) (Cv.m rfl)) (CvL.cons Cv.fl (CvL.cons Cv.fl (CvL.cons Cv.fl CvL.nil))))))) (Cv.close (T := [19, 20, 21]) (chHead x5)))) rfl) (HasAll.cons (Has.fl Has.int) HasAll.nil)))) ?_
 refine mv ?_
 refine wo (Spec.ext0 (Has.s rfl)) ?_
 refine wo (Spec.ext1 (Has.s rfl)) ?_
 refine ws (Step.allocObj (ls := [(false, 1, Fact.rep [] ((0 : UInt8) : UInt8)), (false, 1, Fact.nilv)]) 23 rfl rfl rfl rfl zl33) ?_
 refine ws (Step.storeObj (ls := [(false, 1, Fact.rep [] (x6.1.Kind : UInt8)), (false, 1, Fact.rep [22] (x6.1.Reads : List Int))]) rfl ty33 rfl rfl (Has.s rfl) rfl (HasL.flds (Has.s rfl)) rfl) ?_
 refine wo (Spec.assign (Has.s rfl)) ?_
 refine Walk.nil ?_
 refine Leaf.thenN ?_
 refine CWalk.seq ?_
 refine CWalk.region ?_
 obtain ⟨x7, hx7, hm⟩ := bind_some hm
 refine wo (f := Fact.rep [] (x7 : Config)) (Spec.callE [] 26 rfl en13 (law17_five_c  hx7) HasAll.nil) ?_
 refine wo (Spec.build (us := []) (ls' := [(false, 1, Fact.rep [] ((0 : Int) : Int)), (false, 1, Fact.nilv), (false, 1, Fact.nilv), (false, 1, Fact.rep [] ((0 : UInt8) : UInt8)), (false, 1, Fact.rep [] (false : Bool)), (false, 1, Fact.rep [] ((0 : UInt32) : UInt32))]) bd28 rfl BP.nil) ?_
 obtain ⟨x8, hx8, hm⟩ := bind_some hm
 refine wo (f := Fact.tup2 (Fact.flds [(false, 1, Fact.rep [] (x8.1.Kind : UInt8)), (false, 1, Fact.rep [27] (x8.1.Reads : List Int))]) (Fact.rep [] (x8.2 : Int))) (Spec.callE [] 27 rfl en9 (plan_Of_c x7 (Head.mk (0 : Int) ([] : List (List UInt8)) ([] : List Bool) (0 : UInt8) false (0 : UInt32)) (-1 : Int) hx8) (HasAll.cons (Has.fl (Has.s rfl)) (HasAll.cons (Has.m (Has.cv (Has.s rfl) (Cv.trans (Cv.flds (CvL.cons Cv.fl (CvL.cons (Cv.trans (Cv.nil (T := [])) (Cv.m rfl)) (CvL.cons (Cv.trans (Cv.nil (T := [])) (Cv.m rfl)) (CvL.cons Cv.fl (CvL.cons Cv.fl (CvL.cons Cv.fl CvL.nil))))))) (Cv.close (T := []) (chHead (Head.mk (0 : Int) ([] : List (List UInt8)) ([] : List Bool) (0 : UInt8) false (0 : UInt32)))))) rfl) (HasAll.cons (Has.fl Has.int) HasAll.nil)))) ?_
 refine mv ?_
 refine wo (Spec.ext0 (Has.s rfl)) ?_
 refine wo (Spec.ext1 (Has.s rfl)) ?_
 refine ws (Step.allocObj (ls := [(false, 1, Fact.rep [] ((0 : UInt8) : UInt8)), (false, 1, Fact.nilv)]) 28 rfl rfl rfl rfl zl33) ?_
 refine ws (Step.storeObj (ls := [(false, 1, Fact.rep [] (x8.1.Kind : UInt8)), (false, 1, Fact.rep [27] (x8.1.Reads : List Int))]) rfl ty33 rfl rfl (Has.s rfl) rfl (HasL.flds (Has.s rfl)) rfl) ?_
 refine wo (Spec.assign (Has.s rfl)) ?_
 refine Walk.nil ?_
 refine Leaf.thenN ?_
 refine CWalk.seq ?_
 refine CWalk.region ?_
 refine wo (Spec.move Has.bool) ?_
 obtain ⟨x9, hx9, hm⟩ := bind_some hm
 refine wg (f := Fact.rep [] (x9 : Bool)) rfl rfl (fun hb => Spec.callE [] 31 rfl en15 (law17_alive_c  (gO_t hx9 hb)) HasAll.nil) ?_
 refine wo (Spec.and (Has.s rfl) (fun h => Has.u rfl h)) ?_
 refine mv ?_
 obtain ⟨x10, hx10, hm⟩ := bind_some hm
 refine wg (f := Fact.flds [(false, 1, Fact.rep [] (x10.Stripe : Int)), (false, 1, Fact.ow [32] [33] 46 (x10.Blocks : List (List UInt8))), (false, 1, Fact.ow [34] [] 4 (x10.Dirty : List Bool)), (false, 1, Fact.rep [] (x10.Phase : UInt8)), (false, 1, Fact.rep [] (x10.Deals : Bool)), (false, 1, Fact.rep [] (x10.Seq : UInt32))]) rfl rfl (fun hb => Spec.callE [] 32 rfl en14 (law17_with_c (1 : Int) (0 : Int) (gO_t hx10 hb)) (HasAll.cons (Has.fl Has.int) (HasAll.cons (Has.fl Has.int) HasAll.nil))) ?_
 refine wg rfl rfl (fun hb => Spec.lit (xs := [.const (.int .i64 0), .const (.int .i64 4)]) (T := []) 35 rfl ow31 rfl rfl rfl rfl (HasEach.cons (Has.fl Has.int) (HasEach.cons (Has.fl Has.int) HasEach.nil))) ?_
 obtain ⟨x11, hx11, hm⟩ := bind_some hm
 refine wg (f := Fact.rep [] (x11 : Bool)) rfl rfl (fun hb => Spec.callE [32, 33, 34, 35] 36 rfl en16 (law17_is_c x10 (1 : Int) (3 : UInt8) ([(0 : Int), (4 : Int)]) (gO_t hx11 hb)) (HasAll.cons (Has.m (Has.cv (Has.u rfl hb) (Cv.trans (Cv.flds (CvL.cons Cv.fl (CvL.cons (Cv.trans (Cv.trans Cv.owSl (Cv.slRep (T' := [32, 33]) rfl rfl)) (Cv.m rfl)) (CvL.cons (Cv.trans (Cv.trans Cv.owSl (Cv.slRep (T' := [34]) rfl rfl)) (Cv.m rfl)) (CvL.cons Cv.fl (CvL.cons Cv.fl (CvL.cons Cv.fl CvL.nil))))))) (Cv.close (T := [32, 33, 34]) (chHead x10)))) rfl) (HasAll.cons (Has.fl Has.int) (HasAll.cons (Has.fl (Has.u8 3 rfl)) (HasAll.cons (Has.m (Has.u rfl hb) rfl) HasAll.nil))))) ?_
 refine wo (Spec.and (Has.s rfl) (fun h => Has.u rfl h)) ?_
 refine mv ?_
 obtain ⟨x12, hx12, hm⟩ := bind_some hm
 refine wg (f := Fact.flds [(false, 1, Fact.rep [] (x12.Stripe : Int)), (false, 1, Fact.ow [37] [38] 46 (x12.Blocks : List (List UInt8))), (false, 1, Fact.ow [39] [] 4 (x12.Dirty : List Bool)), (false, 1, Fact.rep [] (x12.Phase : UInt8)), (false, 1, Fact.rep [] (x12.Deals : Bool)), (false, 1, Fact.rep [] (x12.Seq : UInt32))]) rfl rfl (fun hb => Spec.callE [] 37 rfl en14 (law17_with_c (1 : Int) (0 : Int) (gO_t hx12 hb)) (HasAll.cons (Has.fl Has.int) (HasAll.cons (Has.fl Has.int) HasAll.nil))) ?_
 refine wg rfl rfl (fun hb => Spec.lit (xs := [.const (.int .i64 1), .const (.int .i64 2), .const (.int .i64 3)]) (T := []) 40 rfl ow31 rfl rfl rfl rfl (HasEach.cons (Has.fl Has.int) (HasEach.cons (Has.fl Has.int) (HasEach.cons (Has.fl Has.int) HasEach.nil)))) ?_
 obtain ⟨x13, hx13, hm⟩ := bind_some hm
 refine wg (f := Fact.rep [] (x13 : Bool)) rfl rfl (fun hb => Spec.callE [37, 38, 39, 40] 41 rfl en16 (law17_is_c x12 (4 : Int) (2 : UInt8) ([(1 : Int), (2 : Int), (3 : Int)]) (gO_t hx13 hb)) (HasAll.cons (Has.m (Has.cv (Has.u rfl hb) (Cv.trans (Cv.flds (CvL.cons Cv.fl (CvL.cons (Cv.trans (Cv.trans Cv.owSl (Cv.slRep (T' := [37, 38]) rfl rfl)) (Cv.m rfl)) (CvL.cons (Cv.trans (Cv.trans Cv.owSl (Cv.slRep (T' := [39]) rfl rfl)) (Cv.m rfl)) (CvL.cons Cv.fl (CvL.cons Cv.fl (CvL.cons Cv.fl CvL.nil))))))) (Cv.close (T := [37, 38, 39]) (chHead x12)))) rfl) (HasAll.cons (Has.fl Has.int) (HasAll.cons (Has.fl (Has.u8 2 rfl)) (HasAll.cons (Has.m (Has.u rfl hb) rfl) HasAll.nil))))) ?_
 refine wo (Spec.and (Has.s rfl) (fun h => Has.u rfl h)) ?_
 refine mv ?_
 obtain ⟨x14, hx14, hm⟩ := bind_some hm
 refine wg (f := Fact.flds [(false, 1, Fact.rep [] (x14.Stripe : Int)), (false, 1, Fact.ow [42] [43] 46 (x14.Blocks : List (List UInt8))), (false, 1, Fact.ow [44] [] 4 (x14.Dirty : List Bool)), (false, 1, Fact.rep [] (x14.Phase : UInt8)), (false, 1, Fact.rep [] (x14.Deals : Bool)), (false, 1, Fact.rep [] (x14.Seq : UInt32))]) rfl rfl (fun hb => Spec.callE [] 42 rfl en14 (law17_with_c (2 : Int) (0 : Int) (gO_t hx14 hb)) (HasAll.cons (Has.fl Has.int) (HasAll.cons (Has.fl Has.int) HasAll.nil))) ?_
 refine wg rfl rfl (fun hb => Spec.lit (xs := [.const (.int .i64 2), .const (.int .i64 3)]) (T := []) 45 rfl ow31 rfl rfl rfl rfl (HasEach.cons (Has.fl Has.int) (HasEach.cons (Has.fl Has.int) HasEach.nil))) ?_
 obtain ⟨x15, hx15, hm⟩ := bind_some hm
 refine wg (f := Fact.rep [] (x15 : Bool)) rfl rfl (fun hb => Spec.callE [42, 43, 44, 45] 46 rfl en16 (law17_is_c x14 (-1 : Int) (2 : UInt8) ([(2 : Int), (3 : Int)]) (gO_t hx15 hb)) (HasAll.cons (Has.m (Has.cv (Has.u rfl hb) (Cv.trans (Cv.flds (CvL.cons Cv.fl (CvL.cons (Cv.trans (Cv.trans Cv.owSl (Cv.slRep (T' := [42, 43]) rfl rfl)) (Cv.m rfl)) (CvL.cons (Cv.trans (Cv.trans Cv.owSl (Cv.slRep (T' := [44]) rfl rfl)) (Cv.m rfl)) (CvL.cons Cv.fl (CvL.cons Cv.fl (CvL.cons Cv.fl CvL.nil))))))) (Cv.close (T := [42, 43, 44]) (chHead x14)))) rfl) (HasAll.cons (Has.fl Has.int) (HasAll.cons (Has.fl (Has.u8 2 rfl)) (HasAll.cons (Has.m (Has.u rfl hb) rfl) HasAll.nil))))) ?_
 refine wo (Spec.and (Has.s rfl) (fun h => Has.u rfl h)) ?_
 refine mv ?_
 refine wg rfl rfl (fun hb => Spec.move (Has.s rfl)) ?_
 refine wg rfl rfl (fun hb => Spec.eqlI (Has.u rfl hb) Has.int) ?_
 refine wo (Spec.and (Has.s rfl) (fun h => Has.u rfl h)) ?_
 refine mv ?_
 refine wg rfl rfl (fun hb => Spec.move (Has.s rfl)) ?_
 refine wg rfl rfl (fun hb => Spec.eqlI (Has.u rfl hb) Has.int) ?_
 refine wo (Spec.and (Has.s rfl) (fun h => Has.u rfl h)) ?_
 refine mv ?_
 refine wg rfl rfl (fun hb => Spec.move (Has.s rfl)) ?_
 refine wg rfl rfl (fun hb => Spec.eqlI (Has.u rfl hb) Has.int) ?_
 refine wo (Spec.and (Has.s rfl) (fun h => Has.u rfl h)) ?_
 refine wo (Spec.assign (Has.s rfl)) ?_
 refine Walk.nil ?_
 refine Leaf.thenN ?_
 refine CWalk.ret ?_
 obtain rfl := Option.some.inj hm
 exact Leaf.retC1 rfl (HasR.cv (HasR.tmp (Has.s rfl)) Cv.fl)

end Go.Proofs.Ythdeieeckjhfpaa
