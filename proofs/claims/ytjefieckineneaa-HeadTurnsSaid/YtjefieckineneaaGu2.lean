/- Printed by a program of ours: models of functions, and that calls do what they say. -/
import Derived.Test.YtjefieckineneaaGu1
namespace Go.Proofs.Ytjefieckineneaa
open Go GL
set_option linter.unusedVariables false

def head_New_J1 (a0 : Config) (a1 : Int) (j2 : Bool) : Option (Head × Int) :=
  (bif j2 then some ((Head.mk (0 : Int) ([] : List (List UInt8)) ([] : List Bool) (0 : UInt8) false (0 : UInt32)), (2 : Int)) else Option.bind (makeL ([] : List UInt8) a0.Members) (fun x3 => Option.bind (makeL false (wI (a0.Members - (1 : Int)))) (fun x4 => some ((Head.mk a1 x3 x4 (0 : UInt8) false (0 : UInt32)), (0 : Int)))))
/-- freeboard/head.New -/
def head_New (a0 : Config) (a1 : Int) : Option (Head × Int) :=
  Option.bind (shape_Stripes a0) (fun x1 => (bif (x1.2 != (0 : Int)) then some ((Head.mk (0 : Int) ([] : List (List UInt8)) ([] : List Bool) (0 : UInt8) false (0 : UInt32)), x1.2) else (bif (decide (a1 < (0 : Int))) then (head_New_J1 a0 a1 (decide (a1 < (0 : Int)))) else (head_New_J1 a0 a1 (decide (a1 ≥ x1.1))))))
set_option maxRecDepth 100000 in
set_option maxHeartbeats 2000000 in
theorem head_New_c (a0 : Config) (a1 : Int) {r : Head × Int} (hm : head_New a0 a1 = some r) : Ctr Try.prog 21 [.rep 0 a0, .rep 0 a1] (.tup2 (.flds [(false, 1, (.fl r.1.Stripe)), (false, 1, (.own 0 none 31 r.1.Blocks)), (false, 1, (.own 1 none 4 r.1.Dirty)), (false, 1, (.fl r.1.Phase)), (false, 1, (.fl r.1.Deals)), (false, 1, (.fl r.1.Seq))]) (.fl r.2)) [] := by
 refine ctr_of_walk [[25], [26]] 34 Try.func21 rfl rfl rfl rfl (fun w0 om => ?_)
 unfold head_New at hm
 refine CWalk.sub (G' := [.fact 0 (Fact.rep [] (a0 : Config)), .fact 1 (Fact.rep [] (a1 : Int))]) (Sub.cons (Has.fl (Has.s rfl)) (Sub.cons (Has.fl (Has.s rfl)) Sub.nil)) ?_
 refine CWalk.seq ?_
 refine CWalk.region ?_
 refine ws (Step.boxObj (ls := [(false, 1, Fact.rep [] (a0.Id : UInt32)), (false, 1, Fact.rep [] (a0.Members : Int)), (false, 1, Fact.rep [] (a0.Chunk : Int)), (false, 1, Fact.rep [] (a0.Rows : Int)), (false, 1, Fact.rep [] (a0.Log : Int)), (false, 1, Fact.rep [] (a0.Heads : Int))]) 10 rfl rfl rfl rfl (HasL.flds (Has.cv (Has.s rfl) (Cv.trans (Cv.opens (chConfig a0)) (Cv.flds (CvL.cons Cv.fl (CvL.cons Cv.fl (CvL.cons Cv.fl (CvL.cons Cv.fl (CvL.cons Cv.fl (CvL.cons Cv.fl CvL.nil))))))))))) ?_
 refine ws (Step.allocObj (ls := [(false, 1, Fact.rep [] ((0 : Int) : Int)), (false, 1, Fact.nilv), (false, 1, Fact.nilv), (false, 1, Fact.rep [] ((0 : UInt8) : UInt8)), (false, 1, Fact.rep [] (false : Bool)), (false, 1, Fact.rep [] ((0 : UInt32) : UInt32))]) 17 rfl rfl rfl rfl zl28) ?_
 refine wo (Spec.assign Has.int) ?_
 refine Walk.nil ?_
 refine Leaf.thenN ?_
 refine CWalk.seq ?_
 refine CWalk.region ?_
 refine wo (Spec.loadObj (ls := [(false, 1, Fact.rep [] (a0.Id : UInt32)), (false, 1, Fact.rep [] (a0.Members : Int)), (false, 1, Fact.rep [] (a0.Chunk : Int)), (false, 1, Fact.rep [] (a0.Rows : Int)), (false, 1, Fact.rep [] (a0.Log : Int)), (false, 1, Fact.rep [] (a0.Heads : Int))]) ty24 rfl rfl (Has.s rfl) rfl (HasGs.cons (HasG.s rfl) (HasGs.cons (HasG.s rfl) (HasGs.cons (HasG.s rfl) (HasGs.cons (HasG.s rfl) (HasGs.cons (HasG.s rfl) (HasGs.cons (HasG.s rfl) HasGs.nil))))))) ?_
 obtain ⟨x1, hx1, hm⟩ := bind_some hm
 refine wo (f := Fact.tup2 (Fact.rep [] (x1.1 : Int)) (Fact.rep [] (x1.2 : Int))) (Spec.callE [] 24 rfl en52 (shape_Stripes_c a0 hx1) (HasAll.cons (Has.fl (Has.cv (Has.s rfl) (Cv.trans (Cv.flds (CvL.cons Cv.fl (CvL.cons Cv.fl (CvL.cons Cv.fl (CvL.cons Cv.fl (CvL.cons Cv.fl (CvL.cons Cv.fl CvL.nil))))))) (Cv.close (T := []) (chConfig a0))))) HasAll.nil)) ?_
 refine mv ?_
 refine wo (Spec.ext0 (Has.s rfl)) ?_
 refine wo (Spec.ext1 (Has.s rfl)) ?_
 refine wo (Spec.assign (Has.s rfl)) ?_
 refine wo (Spec.assign (Has.s rfl)) ?_
 refine Walk.nil ?_
 refine Leaf.thenN ?_
 refine CWalk.seq ?_
 refine CWalk.block ?_
 refine CWalk.seq ?_
 refine CWalk.region ?_
 refine mv ?_
 refine wo (Spec.neqI (Has.s rfl) Has.int) ?_
 refine wo (Spec.assign (Has.s rfl)) ?_
 refine Walk.nil ?_
 refine Leaf.thenN ?_
 refine CWalk.cond rfl (fun hb => ?_) (fun hb => ?_)
 ·have hm := cond_t hb hm
  refine CWalk.seq ?_
  refine CWalk.region ?_
  refine wo (Spec.build (us := []) (ls' := [(false, 1, Fact.rep [] ((0 : Int) : Int)), (false, 1, Fact.nilv), (false, 1, Fact.nilv), (false, 1, Fact.rep [] ((0 : UInt8) : UInt8)), (false, 1, Fact.rep [] (false : Bool)), (false, 1, Fact.rep [] ((0 : UInt32) : UInt32))]) bd28 rfl BP.nil) ?_
  refine mv ?_
  refine ws (Step.storeObj (ls := [(false, 1, Fact.rep [] ((0 : Int) : Int)), (false, 1, Fact.nilv), (false, 1, Fact.nilv), (false, 1, Fact.rep [] ((0 : UInt8) : UInt8)), (false, 1, Fact.rep [] (false : Bool)), (false, 1, Fact.rep [] ((0 : UInt32) : UInt32))]) rfl ty28 rfl rfl (Has.s rfl) rfl (HasL.flds (Has.s rfl)) rfl) ?_
  refine wo (Spec.assign (Has.s rfl)) ?_
  refine Walk.nil ?_
  refine Leaf.thenN ?_
  refine CWalk.ret ?_
  refine Leaf.blockR ?_
  refine Leaf.thenR ?_
  obtain rfl := Option.some.inj hm
  exact Leaf.retC2 rfl (HasR.cv (HasR.obj (ls := [(false, 1, Fact.rep [] ((0 : Int) : Int)), (false, 1, Fact.nilv), (false, 1, Fact.nilv), (false, 1, Fact.rep [] ((0 : UInt8) : UInt8)), (false, 1, Fact.rep [] (false : Bool)), (false, 1, Fact.rep [] ((0 : UInt32) : UInt32))]) ty28 rfl rfl (Has.s rfl) rfl (HasGs.cons (HasG.s rfl) (HasGs.cons (HasG.s rfl) (HasGs.cons (HasG.s rfl) (HasGs.cons (HasG.s rfl) (HasGs.cons (HasG.s rfl) (HasGs.cons (HasG.s rfl) HasGs.nil))))))) (Cv.flds (CvL.cons Cv.fl (CvL.cons (Cv.trans Cv.nilOw (Cv.owM (T := []) (te := []) rfl rfl)) (CvL.cons (Cv.trans Cv.nilOw (Cv.owF (T := []) (te := []) rfl)) (CvL.cons Cv.fl (CvL.cons Cv.fl (CvL.cons Cv.fl CvL.nil)))))))) (HasR.cv (HasR.tmp (Has.s rfl)) Cv.fl)
 ·have hm := cond_f hb hm
  refine CWalk.seqJ (fun p : Bool => [.fact 1 (Fact.rep [] (a1 : Int)), .fact 2 (Fact.isv 10), .fact 4 (Fact.isv 17), .fact 18 (Fact.rep [] (p : Bool)), .fact 100011 (Fact.at 11 (Fact.rep [] (a0.Id : UInt32))), .fact 100012 (Fact.at 12 (Fact.rep [] (a0.Members : Int))), .fact 100013 (Fact.at 13 (Fact.rep [] (a0.Chunk : Int))), .fact 100014 (Fact.at 14 (Fact.rep [] (a0.Rows : Int))), .fact 100015 (Fact.at 15 (Fact.rep [] (a0.Log : Int))), .fact 100016 (Fact.at 16 (Fact.rep [] (a0.Heads : Int))), .fact 100018 (Fact.at 18 (Fact.rep [] ((0 : Int) : Int))), .fact 100019 (Fact.at 19 (Fact.nilv)), .fact 100020 (Fact.at 20 (Fact.nilv)), .fact 100021 (Fact.at 21 (Fact.rep [] ((0 : UInt8) : UInt8))), .fact 100022 (Fact.at 22 (Fact.rep [] (false : Bool))), .fact 100023 (Fact.at 23 (Fact.rep [] ((0 : UInt32) : UInt32))), .fact 100010 (Fact.obj 10 [(false, 1), (false, 1), (false, 1), (false, 1), (false, 1), (false, 1)]), .fact 100017 (Fact.obj 17 [(false, 1), (false, 1), (false, 1), (false, 1), (false, 1), (false, 1)])]) (fun p : Bool => head_New_J1 a0 a1 p = some r) ?_ ?_
  ·rintro j2 hm
   replace hm : head_New_J1 a0 a1 j2 = some r := hm
   unfold head_New_J1 at hm
   show CWalk _ [.fact 1 (Fact.rep [] (a1 : Int)), .fact 2 (Fact.isv 10), .fact 4 (Fact.isv 17), .fact 18 (Fact.rep [] (j2 : Bool)), .fact 100011 (Fact.at 11 (Fact.rep [] (a0.Id : UInt32))), .fact 100012 (Fact.at 12 (Fact.rep [] (a0.Members : Int))), .fact 100013 (Fact.at 13 (Fact.rep [] (a0.Chunk : Int))), .fact 100014 (Fact.at 14 (Fact.rep [] (a0.Rows : Int))), .fact 100015 (Fact.at 15 (Fact.rep [] (a0.Log : Int))), .fact 100016 (Fact.at 16 (Fact.rep [] (a0.Heads : Int))), .fact 100018 (Fact.at 18 (Fact.rep [] ((0 : Int) : Int))), .fact 100019 (Fact.at 19 (Fact.nilv)), .fact 100020 (Fact.at 20 (Fact.nilv)), .fact 100021 (Fact.at 21 (Fact.rep [] ((0 : UInt8) : UInt8))), .fact 100022 (Fact.at 22 (Fact.rep [] (false : Bool))), .fact 100023 (Fact.at 23 (Fact.rep [] ((0 : UInt32) : UInt32))), .fact 100010 (Fact.obj 10 [(false, 1), (false, 1), (false, 1), (false, 1), (false, 1), (false, 1)]), .fact 100017 (Fact.obj 17 [(false, 1), (false, 1), (false, 1), (false, 1), (false, 1), (false, 1)])] _ _
   refine CWalk.cond rfl (fun hb => ?_) (fun hb => ?_)
   ·have hm := cond_t hb hm
    refine CWalk.seq ?_
    refine CWalk.region ?_
    refine wo (Spec.build (us := []) (ls' := [(false, 1, Fact.rep [] ((0 : Int) : Int)), (false, 1, Fact.nilv), (false, 1, Fact.nilv), (false, 1, Fact.rep [] ((0 : UInt8) : UInt8)), (false, 1, Fact.rep [] (false : Bool)), (false, 1, Fact.rep [] ((0 : UInt32) : UInt32))]) bd28 rfl BP.nil) ?_
    refine ws (Step.storeObj (ls := [(false, 1, Fact.rep [] ((0 : Int) : Int)), (false, 1, Fact.nilv), (false, 1, Fact.nilv), (false, 1, Fact.rep [] ((0 : UInt8) : UInt8)), (false, 1, Fact.rep [] (false : Bool)), (false, 1, Fact.rep [] ((0 : UInt32) : UInt32))]) rfl ty28 rfl rfl (Has.s rfl) rfl (HasL.flds (Has.s rfl)) rfl) ?_
    refine wo (Spec.assign Has.int) ?_
    refine Walk.nil ?_
    refine Leaf.thenN ?_
    refine CWalk.ret ?_
    refine Leaf.blockR ?_
    refine Leaf.thenR ?_
    obtain rfl := Option.some.inj hm
    exact Leaf.retC2 rfl (HasR.cv (HasR.obj (ls := [(false, 1, Fact.rep [] ((0 : Int) : Int)), (false, 1, Fact.nilv), (false, 1, Fact.nilv), (false, 1, Fact.rep [] ((0 : UInt8) : UInt8)), (false, 1, Fact.rep [] (false : Bool)), (false, 1, Fact.rep [] ((0 : UInt32) : UInt32))]) ty28 rfl rfl (Has.s rfl) rfl (HasGs.cons (HasG.s rfl) (HasGs.cons (HasG.s rfl) (HasGs.cons (HasG.s rfl) (HasGs.cons (HasG.s rfl) (HasGs.cons (HasG.s rfl) (HasGs.cons (HasG.s rfl) HasGs.nil))))))) (Cv.flds (CvL.cons Cv.fl (CvL.cons (Cv.trans Cv.nilOw (Cv.owM (T := []) (te := []) rfl rfl)) (CvL.cons (Cv.trans Cv.nilOw (Cv.owF (T := []) (te := []) rfl)) (CvL.cons Cv.fl (CvL.cons Cv.fl (CvL.cons Cv.fl CvL.nil)))))))) (HasR.cv (HasR.tmp (Has.s rfl)) Cv.fl)
   ·have hm := cond_f hb hm
    refine CWalk.skip ?_
    refine Leaf.blockN ?_
    refine Leaf.thenN ?_
    refine CWalk.seq ?_
    obtain ⟨x3, hx3, hm⟩ := bind_some hm
    obtain ⟨x4, hx4, hm⟩ := bind_some hm
    refine CWalk.drawM [[], [], [1], [1, 2], [], [4], [4, 5], [4, 5, 6], [0, 1, 2, 3, 4, 5, 6, 7], [0, 1, 2, 3, 4, 5, 6, 7, 8], [0, 1, 2, 3, 4, 5, 6, 7, 8, 9]] [[.fact 25 (Fact.rep [] (a1 : Int))], [.fact 26 (Fact.pto 10 1)], [.fact 27 (Fact.rep [] (a0.Members : Int))], [.fact 28 (.isv 25), .fact 100025 (Fact.own 25 [] 31 (x3 : List (List UInt8))), .killId 25], [.fact 29 (Fact.pto 10 1)], [.fact 30 (Fact.rep [] (a0.Members : Int))], [.fact 31 (Fact.rep [] ((wI (a0.Members - (1 : Int))) : Int))], [.fact 32 (.isv 26), .fact 100026 (Fact.own 26 [] 4 (x4 : List Bool)), .killId 26], [.fact 33 (Fact.flds [(false, 1, Fact.rep [] (a1 : Int)), (false, 1, Fact.isv 25), (false, 1, Fact.isv 26), (false, 1, Fact.rep [] ((0 : UInt8) : UInt8)), (false, 1, Fact.rep [] (false : Bool)), (false, 1, Fact.rep [] ((0 : UInt32) : UInt32))])], [.fact 100017 (Fact.obj 17 [(false, 1), (false, 1), (false, 1), (false, 1), (false, 1), (false, 1)]), .fact 100018 (Fact.at 18 (Fact.rep [] (a1 : Int))), .fact 100019 (Fact.at 19 (Fact.isv 25)), .fact 100020 (Fact.at 20 (Fact.isv 26)), .fact 100021 (Fact.at 21 (Fact.rep [] ((0 : UInt8) : UInt8))), .fact 100022 (Fact.at 22 (Fact.rep [] (false : Bool))), .fact 100023 (Fact.at 23 (Fact.rep [] ((0 : UInt32) : UInt32))), .kill 17, .killId 18, .killId 19, .killId 20, .killId 21, .killId 22, .killId 23], [.fact 5 (Fact.rep [] ((0 : Int) : Int))]] mixed (by kernel_rfl) (ao (so (Spec.move (Has.s rfl))) (ao (so (Spec.fieldAddrO fd24_1 (Has.cv (Has.s rfl) (Cv.isvP rfl)))) (ao (so (Spec.loadF (i := 1) ty3 rfl (Has.s rfl) rfl (HasG.s rfl))) (ao (StepG.stE (Step.makeOwn 25 hx3 rfl rfl ow25 zt31 (Has.s rfl))) (ao (so (Spec.fieldAddrO fd24_1 (Has.cv (Has.s rfl) (Cv.isvP rfl)))) (ao (so (Spec.loadF (i := 1) ty3 rfl (Has.s rfl) rfl (HasG.s rfl))) (ao (so (Spec.subI (Has.s rfl) Has.int)) (ao (StepG.stE (Step.makeOwn 26 hx4 rfl rfl ow26 zt4 (Has.s rfl))) (ao (so (Spec.build (us := [(0, .tmp 25), (1, .tmp 28), (2, .tmp 32)]) (ls' := [(false, 1, Fact.rep [] (a1 : Int)), (false, 1, Fact.isv 25), (false, 1, Fact.isv 26), (false, 1, Fact.rep [] ((0 : UInt8) : UInt8)), (false, 1, Fact.rep [] (false : Bool)), (false, 1, Fact.rep [] ((0 : UInt32) : UInt32))]) bd28 rfl (BP.cons rfl rfl (Has.s rfl) (Has.s rfl) (BP.cons rfl rfl (Has.cv (Has.s rfl) (Cv.own rfl)) (Has.s rfl) (BP.cons rfl rfl (Has.cv (Has.s rfl) (Cv.own rfl)) (Has.s rfl) BP.nil))))) (ao (StepG.stE (Step.storeObj (ls := [(false, 1, Fact.rep [] (a1 : Int)), (false, 1, Fact.isv 25), (false, 1, Fact.isv 26), (false, 1, Fact.rep [] ((0 : UInt8) : UInt8)), (false, 1, Fact.rep [] (false : Bool)), (false, 1, Fact.rep [] ((0 : UInt32) : UInt32))]) rfl ty28 rfl rfl (Has.s rfl) rfl (HasL.flds (Has.s rfl)) rfl)) (ao (so (Spec.assign Has.int)) AllM.nil))))))))))) ?_
    refine Leaf.thenN ?_
    refine CWalk.ret ?_
    obtain rfl := Option.some.inj hm
    exact Leaf.retC2 rfl (HasR.cv (HasR.obj (ls := [(false, 1, Fact.rep [] (a1 : Int)), (false, 1, Fact.isv 25), (false, 1, Fact.isv 26), (false, 1, Fact.rep [] ((0 : UInt8) : UInt8)), (false, 1, Fact.rep [] (false : Bool)), (false, 1, Fact.rep [] ((0 : UInt32) : UInt32))]) ty28 rfl rfl (Has.s rfl) rfl (HasGs.cons (HasG.s rfl) (HasGs.cons (HasG.s rfl) (HasGs.cons (HasG.s rfl) (HasGs.cons (HasG.s rfl) (HasGs.cons (HasG.s rfl) (HasGs.cons (HasG.s rfl) HasGs.nil))))))) (Cv.flds (CvL.cons Cv.fl (CvL.cons (Cv.trans (Cv.isvOw rfl) (Cv.owM (T := [25]) (te := []) rfl rfl)) (CvL.cons (Cv.trans (Cv.isvOw rfl) (Cv.owF (T := [26]) (te := []) rfl)) (CvL.cons Cv.fl (CvL.cons Cv.fl (CvL.cons Cv.fl CvL.nil)))))))) (HasR.cv (HasR.tmp (Has.s rfl)) Cv.fl)
  ·refine CWalk.seq ?_
   refine CWalk.region ?_
   refine mv ?_
   refine wo (Spec.lssI (Has.s rfl) Has.int) ?_
   refine wo (Spec.assign (Has.s rfl)) ?_
   refine Walk.nil ?_
   refine Leaf.thenN ?_
   refine CWalk.cond rfl (fun hb => ?_) (fun hb => ?_)
   ·have hm := cond_t hb hm
    refine CWalk.skip ?_
    exact Leaf.join (decide (a1 < (0 : Int))) hm (st (sn (sn (st (sf (sf (sf (sf (sf (sf (sf (sg (sg (sf (sf (sf (sn (sn Sub.nil))))))))))))))))))
   ·have hm := cond_f hb hm
    refine CWalk.region ?_
    refine mv ?_
    refine mv ?_
    refine wo (Spec.geqI (Has.s rfl) (Has.s rfl)) ?_
    refine wo (Spec.assign (Has.s rfl)) ?_
    refine Walk.nil ?_
    exact Leaf.join (decide (a1 ≥ x1.1)) hm (st (sn (sn (st (sf (sf (sf (sf (sf (sf (sf (sg (sg (sf (sf (sf (sn (sn Sub.nil))))))))))))))))))

/-- freeboard/freeboardref16.Blank -/
def ref16_Blank (a0 : Config) (a1 : Int) : Option (Head) :=
  Option.bind (makeL ([] : List UInt8) a0.Members) (fun x1 => Option.bind (makeL false (wI (a0.Members - (1 : Int)))) (fun x2 => some (Head.mk a1 x1 x2 (0 : UInt8) false (0 : UInt32))))
set_option maxRecDepth 100000 in
set_option maxHeartbeats 2000000 in
theorem ref16_Blank_c (a0 : Config) (a1 : Int) {r : Head} (hm : ref16_Blank a0 a1 = some r) : Ctr Try.prog 55 [.rep 0 a0, .rep 0 a1] (.flds [(false, 1, (.fl r.Stripe)), (false, 1, (.own 0 none 31 r.Blocks)), (false, 1, (.own 1 none 4 r.Dirty)), (false, 1, (.fl r.Phase)), (false, 1, (.fl r.Deals)), (false, 1, (.fl r.Seq))]) [] := by
 refine ctr_of_walk [[24], [25]] 14 Try.func55 rfl rfl rfl rfl (fun w0 om => ?_)
 unfold ref16_Blank at hm
 refine CWalk.sub (G' := [.fact 0 (Fact.rep [] (a0 : Config)), .fact 1 (Fact.rep [] (a1 : Int))]) (Sub.cons (Has.fl (Has.s rfl)) (Sub.cons (Has.fl (Has.s rfl)) Sub.nil)) ?_
 refine CWalk.seq ?_
 refine CWalk.region ?_
 refine ws (Step.boxObj (ls := [(false, 1, Fact.rep [] (a0.Id : UInt32)), (false, 1, Fact.rep [] (a0.Members : Int)), (false, 1, Fact.rep [] (a0.Chunk : Int)), (false, 1, Fact.rep [] (a0.Rows : Int)), (false, 1, Fact.rep [] (a0.Log : Int)), (false, 1, Fact.rep [] (a0.Heads : Int))]) 10 rfl rfl rfl rfl (HasL.flds (Has.cv (Has.s rfl) (Cv.trans (Cv.opens (chConfig a0)) (Cv.flds (CvL.cons Cv.fl (CvL.cons Cv.fl (CvL.cons Cv.fl (CvL.cons Cv.fl (CvL.cons Cv.fl (CvL.cons Cv.fl CvL.nil))))))))))) ?_
 refine ws (Step.allocObj (ls := [(false, 1, Fact.rep [] ((0 : Int) : Int)), (false, 1, Fact.nilv), (false, 1, Fact.nilv), (false, 1, Fact.rep [] ((0 : UInt8) : UInt8)), (false, 1, Fact.rep [] (false : Bool)), (false, 1, Fact.rep [] ((0 : UInt32) : UInt32))]) 17 rfl rfl rfl rfl zl28) ?_
 refine Walk.nil ?_
 refine Leaf.thenN ?_
 refine CWalk.seq ?_
 obtain ⟨x1, hx1, hm⟩ := bind_some hm
 obtain ⟨x2, hx2, hm⟩ := bind_some hm
 refine CWalk.drawM [[], [], [1], [1, 2], [], [4], [4, 5], [4, 5, 6], [0, 1, 2, 3, 4, 5, 6, 7], [0, 1, 2, 3, 4, 5, 6, 7, 8]] [[.fact 5 (Fact.rep [] (a1 : Int))], [.fact 6 (Fact.pto 10 1)], [.fact 7 (Fact.rep [] (a0.Members : Int))], [.fact 8 (.isv 24), .fact 100024 (Fact.own 24 [] 31 (x1 : List (List UInt8))), .killId 24], [.fact 9 (Fact.pto 10 1)], [.fact 10 (Fact.rep [] (a0.Members : Int))], [.fact 11 (Fact.rep [] ((wI (a0.Members - (1 : Int))) : Int))], [.fact 12 (.isv 25), .fact 100025 (Fact.own 25 [] 4 (x2 : List Bool)), .killId 25], [.fact 13 (Fact.flds [(false, 1, Fact.rep [] (a1 : Int)), (false, 1, Fact.isv 24), (false, 1, Fact.isv 25), (false, 1, Fact.rep [] ((0 : UInt8) : UInt8)), (false, 1, Fact.rep [] (false : Bool)), (false, 1, Fact.rep [] ((0 : UInt32) : UInt32))])], [.fact 100017 (Fact.obj 17 [(false, 1), (false, 1), (false, 1), (false, 1), (false, 1), (false, 1)]), .fact 100018 (Fact.at 18 (Fact.rep [] (a1 : Int))), .fact 100019 (Fact.at 19 (Fact.isv 24)), .fact 100020 (Fact.at 20 (Fact.isv 25)), .fact 100021 (Fact.at 21 (Fact.rep [] ((0 : UInt8) : UInt8))), .fact 100022 (Fact.at 22 (Fact.rep [] (false : Bool))), .fact 100023 (Fact.at 23 (Fact.rep [] ((0 : UInt32) : UInt32))), .kill 17, .killId 18, .killId 19, .killId 20, .killId 21, .killId 22, .killId 23]] mixed (by kernel_rfl) (ao (so (Spec.move (Has.s rfl))) (ao (so (Spec.fieldAddrO fd24_1 (Has.cv (Has.s rfl) (Cv.isvP rfl)))) (ao (so (Spec.loadF (i := 1) ty3 rfl (Has.s rfl) rfl (HasG.s rfl))) (ao (StepG.stE (Step.makeOwn 24 hx1 rfl rfl ow25 zt31 (Has.s rfl))) (ao (so (Spec.fieldAddrO fd24_1 (Has.cv (Has.s rfl) (Cv.isvP rfl)))) (ao (so (Spec.loadF (i := 1) ty3 rfl (Has.s rfl) rfl (HasG.s rfl))) (ao (so (Spec.subI (Has.s rfl) Has.int)) (ao (StepG.stE (Step.makeOwn 25 hx2 rfl rfl ow26 zt4 (Has.s rfl))) (ao (so (Spec.build (us := [(0, .tmp 5), (1, .tmp 8), (2, .tmp 12)]) (ls' := [(false, 1, Fact.rep [] (a1 : Int)), (false, 1, Fact.isv 24), (false, 1, Fact.isv 25), (false, 1, Fact.rep [] ((0 : UInt8) : UInt8)), (false, 1, Fact.rep [] (false : Bool)), (false, 1, Fact.rep [] ((0 : UInt32) : UInt32))]) bd28 rfl (BP.cons rfl rfl (Has.s rfl) (Has.s rfl) (BP.cons rfl rfl (Has.cv (Has.s rfl) (Cv.own rfl)) (Has.s rfl) (BP.cons rfl rfl (Has.cv (Has.s rfl) (Cv.own rfl)) (Has.s rfl) BP.nil))))) (ao (StepG.stE (Step.storeObj (ls := [(false, 1, Fact.rep [] (a1 : Int)), (false, 1, Fact.isv 24), (false, 1, Fact.isv 25), (false, 1, Fact.rep [] ((0 : UInt8) : UInt8)), (false, 1, Fact.rep [] (false : Bool)), (false, 1, Fact.rep [] ((0 : UInt32) : UInt32))]) rfl ty28 rfl rfl (Has.s rfl) rfl (HasL.flds (Has.s rfl)) rfl)) AllM.nil)))))))))) ?_
 refine Leaf.thenN ?_
 refine CWalk.ret ?_
 obtain rfl := Option.some.inj hm
 exact Leaf.retC1 rfl (HasR.cv (HasR.obj (ls := [(false, 1, Fact.rep [] (a1 : Int)), (false, 1, Fact.isv 24), (false, 1, Fact.isv 25), (false, 1, Fact.rep [] ((0 : UInt8) : UInt8)), (false, 1, Fact.rep [] (false : Bool)), (false, 1, Fact.rep [] ((0 : UInt32) : UInt32))]) ty28 rfl rfl (Has.s rfl) rfl (HasGs.cons (HasG.s rfl) (HasGs.cons (HasG.s rfl) (HasGs.cons (HasG.s rfl) (HasGs.cons (HasG.s rfl) (HasGs.cons (HasG.s rfl) (HasGs.cons (HasG.s rfl) HasGs.nil))))))) (Cv.flds (CvL.cons Cv.fl (CvL.cons (Cv.trans (Cv.isvOw rfl) (Cv.owM (T := [24]) (te := []) rfl rfl)) (CvL.cons (Cv.trans (Cv.isvOw rfl) (Cv.owF (T := [25]) (te := []) rfl)) (CvL.cons Cv.fl (CvL.cons Cv.fl (CvL.cons Cv.fl CvL.nil))))))))

/-- freeboard/freeboardref16.New -/
def ref16_New (a0 : Config) (a1 : Int) : Option (Head × Int) :=
  Option.bind (ref06_May a0) (fun x1 => (bif (!x1) then some ((Head.mk (0 : Int) ([] : List (List UInt8)) ([] : List Bool) (0 : UInt8) false (0 : UInt32)), (8 : Int)) else Option.bind (gO (!(decide (a1 < (0 : Int)))) (ref06_Stripes a0)) (fun x2 => (bif ((decide (a1 < (0 : Int))) || (decide (a1 ≥ x2))) then some ((Head.mk (0 : Int) ([] : List (List UInt8)) ([] : List Bool) (0 : UInt8) false (0 : UInt32)), (2 : Int)) else Option.bind (ref16_Blank a0 a1) (fun x3 => some (x3, (0 : Int)))))))
set_option maxRecDepth 100000 in
set_option maxHeartbeats 2000000 in
theorem ref16_New_c (a0 : Config) (a1 : Int) {r : Head × Int} (hm : ref16_New a0 a1 = some r) : Ctr Try.prog 22 [.rep 0 a0, .rep 0 a1] (.tup2 (.flds [(false, 1, (.fl r.1.Stripe)), (false, 1, (.own 0 none 31 r.1.Blocks)), (false, 1, (.own 1 none 4 r.1.Dirty)), (false, 1, (.fl r.1.Phase)), (false, 1, (.fl r.1.Deals)), (false, 1, (.fl r.1.Seq))]) (.fl r.2)) [] := by
 refine ctr_of_walk [[26], [27]] 22 Try.func22 rfl rfl rfl rfl (fun w0 om => ?_)
 unfold ref16_New at hm
 refine CWalk.sub (G' := [.fact 0 (Fact.rep [] (a0 : Config)), .fact 1 (Fact.rep [] (a1 : Int))]) (Sub.cons (Has.fl (Has.s rfl)) (Sub.cons (Has.fl (Has.s rfl)) Sub.nil)) ?_
 refine CWalk.seq ?_
 refine CWalk.region ?_
 refine ws (Step.boxObj (ls := [(false, 1, Fact.rep [] (a0.Id : UInt32)), (false, 1, Fact.rep [] (a0.Members : Int)), (false, 1, Fact.rep [] (a0.Chunk : Int)), (false, 1, Fact.rep [] (a0.Rows : Int)), (false, 1, Fact.rep [] (a0.Log : Int)), (false, 1, Fact.rep [] (a0.Heads : Int))]) 10 rfl rfl rfl rfl (HasL.flds (Has.cv (Has.s rfl) (Cv.trans (Cv.opens (chConfig a0)) (Cv.flds (CvL.cons Cv.fl (CvL.cons Cv.fl (CvL.cons Cv.fl (CvL.cons Cv.fl (CvL.cons Cv.fl (CvL.cons Cv.fl CvL.nil))))))))))) ?_
 refine ws (Step.allocObj (ls := [(false, 1, Fact.rep [] ((0 : Int) : Int)), (false, 1, Fact.nilv), (false, 1, Fact.nilv), (false, 1, Fact.rep [] ((0 : UInt8) : UInt8)), (false, 1, Fact.rep [] (false : Bool)), (false, 1, Fact.rep [] ((0 : UInt32) : UInt32))]) 17 rfl rfl rfl rfl zl28) ?_
 refine wo (Spec.assign Has.int) ?_
 refine Walk.nil ?_
 refine Leaf.thenN ?_
 refine CWalk.seq ?_
 refine CWalk.seq ?_
 refine CWalk.region ?_
 refine wo (Spec.loadObj (ls := [(false, 1, Fact.rep [] (a0.Id : UInt32)), (false, 1, Fact.rep [] (a0.Members : Int)), (false, 1, Fact.rep [] (a0.Chunk : Int)), (false, 1, Fact.rep [] (a0.Rows : Int)), (false, 1, Fact.rep [] (a0.Log : Int)), (false, 1, Fact.rep [] (a0.Heads : Int))]) ty24 rfl rfl (Has.s rfl) rfl (HasGs.cons (HasG.s rfl) (HasGs.cons (HasG.s rfl) (HasGs.cons (HasG.s rfl) (HasGs.cons (HasG.s rfl) (HasGs.cons (HasG.s rfl) (HasGs.cons (HasG.s rfl) HasGs.nil))))))) ?_
 obtain ⟨x1, hx1, hm⟩ := bind_some hm
 refine wo (f := Fact.rep [] (x1 : Bool)) (Spec.callE [] 24 rfl en53 (ref06_May_c a0 hx1) (HasAll.cons (Has.fl (Has.cv (Has.s rfl) (Cv.trans (Cv.flds (CvL.cons Cv.fl (CvL.cons Cv.fl (CvL.cons Cv.fl (CvL.cons Cv.fl (CvL.cons Cv.fl (CvL.cons Cv.fl CvL.nil))))))) (Cv.close (T := []) (chConfig a0))))) HasAll.nil)) ?_
 refine wo (Spec.not (Has.s rfl)) ?_
 refine Walk.nil ?_
 refine Leaf.thenN ?_
 refine CWalk.cond rfl (fun hb => ?_) (fun hb => ?_)
 ·have hm := cond_t hb hm
  refine CWalk.seq ?_
  refine CWalk.region ?_
  refine wo (Spec.build (us := []) (ls' := [(false, 1, Fact.rep [] ((0 : Int) : Int)), (false, 1, Fact.nilv), (false, 1, Fact.nilv), (false, 1, Fact.rep [] ((0 : UInt8) : UInt8)), (false, 1, Fact.rep [] (false : Bool)), (false, 1, Fact.rep [] ((0 : UInt32) : UInt32))]) bd28 rfl BP.nil) ?_
  refine ws (Step.storeObj (ls := [(false, 1, Fact.rep [] ((0 : Int) : Int)), (false, 1, Fact.nilv), (false, 1, Fact.nilv), (false, 1, Fact.rep [] ((0 : UInt8) : UInt8)), (false, 1, Fact.rep [] (false : Bool)), (false, 1, Fact.rep [] ((0 : UInt32) : UInt32))]) rfl ty28 rfl rfl (Has.s rfl) rfl (HasL.flds (Has.s rfl)) rfl) ?_
  refine wo (Spec.assign Has.int) ?_
  refine Walk.nil ?_
  refine Leaf.thenN ?_
  refine CWalk.ret ?_
  refine Leaf.thenR ?_
  obtain rfl := Option.some.inj hm
  exact Leaf.retC2 rfl (HasR.cv (HasR.obj (ls := [(false, 1, Fact.rep [] ((0 : Int) : Int)), (false, 1, Fact.nilv), (false, 1, Fact.nilv), (false, 1, Fact.rep [] ((0 : UInt8) : UInt8)), (false, 1, Fact.rep [] (false : Bool)), (false, 1, Fact.rep [] ((0 : UInt32) : UInt32))]) ty28 rfl rfl (Has.s rfl) rfl (HasGs.cons (HasG.s rfl) (HasGs.cons (HasG.s rfl) (HasGs.cons (HasG.s rfl) (HasGs.cons (HasG.s rfl) (HasGs.cons (HasG.s rfl) (HasGs.cons (HasG.s rfl) HasGs.nil))))))) (Cv.flds (CvL.cons Cv.fl (CvL.cons (Cv.trans Cv.nilOw (Cv.owM (T := []) (te := []) rfl rfl)) (CvL.cons (Cv.trans Cv.nilOw (Cv.owF (T := []) (te := []) rfl)) (CvL.cons Cv.fl (CvL.cons Cv.fl (CvL.cons Cv.fl CvL.nil)))))))) (HasR.cv (HasR.tmp (Has.s rfl)) Cv.fl)
 ·have hm := cond_f hb hm
  refine CWalk.skip ?_
  refine Leaf.thenN ?_
  refine CWalk.seq ?_
  refine CWalk.seq ?_
  refine CWalk.region ?_
  refine mv ?_
  refine wo (Spec.lssI (Has.s rfl) Has.int) ?_
  refine mv ?_
  refine wg rfl rfl (fun hb => Spec.move (Has.s rfl)) ?_
  refine wg rfl rfl (fun hb => Spec.loadObj (ls := [(false, 1, Fact.rep [] (a0.Id : UInt32)), (false, 1, Fact.rep [] (a0.Members : Int)), (false, 1, Fact.rep [] (a0.Chunk : Int)), (false, 1, Fact.rep [] (a0.Rows : Int)), (false, 1, Fact.rep [] (a0.Log : Int)), (false, 1, Fact.rep [] (a0.Heads : Int))]) ty24 rfl rfl (Has.s rfl) rfl (HasGs.cons (HasG.s rfl) (HasGs.cons (HasG.s rfl) (HasGs.cons (HasG.s rfl) (HasGs.cons (HasG.s rfl) (HasGs.cons (HasG.s rfl) (HasGs.cons (HasG.s rfl) HasGs.nil))))))) ?_
  obtain ⟨x2, hx2, hm⟩ := bind_some hm
  refine wg (f := Fact.rep [] (x2 : Int)) rfl rfl (fun hb => Spec.callE [] 25 rfl en54 (ref06_Stripes_c a0 (gO_t hx2 (not_t hb))) (HasAll.cons (Has.fl (Has.cv (Has.u rfl hb) (Cv.trans (Cv.flds (CvL.cons Cv.fl (CvL.cons Cv.fl (CvL.cons Cv.fl (CvL.cons Cv.fl (CvL.cons Cv.fl (CvL.cons Cv.fl CvL.nil))))))) (Cv.close (T := []) (chConfig a0))))) HasAll.nil)) ?_
  refine wg rfl rfl (fun hb => Spec.geqI (Has.u rfl hb) (Has.u rfl hb)) ?_
  refine wo (Spec.or (Has.s rfl) (fun h => Has.u rfl h)) ?_
  refine Walk.nil ?_
  refine Leaf.thenN ?_
  refine CWalk.cond rfl (fun hb => ?_) (fun hb => ?_)
  ·have hm := cond_t hb hm
   refine CWalk.seq ?_
   refine CWalk.region ?_
   refine wo (Spec.build (us := []) (ls' := [(false, 1, Fact.rep [] ((0 : Int) : Int)), (false, 1, Fact.nilv), (false, 1, Fact.nilv), (false, 1, Fact.rep [] ((0 : UInt8) : UInt8)), (false, 1, Fact.rep [] (false : Bool)), (false, 1, Fact.rep [] ((0 : UInt32) : UInt32))]) bd28 rfl BP.nil) ?_
   refine ws (Step.storeObj (ls := [(false, 1, Fact.rep [] ((0 : Int) : Int)), (false, 1, Fact.nilv), (false, 1, Fact.nilv), (false, 1, Fact.rep [] ((0 : UInt8) : UInt8)), (false, 1, Fact.rep [] (false : Bool)), (false, 1, Fact.rep [] ((0 : UInt32) : UInt32))]) rfl ty28 rfl rfl (Has.s rfl) rfl (HasL.flds (Has.s rfl)) rfl) ?_
   refine wo (Spec.assign Has.int) ?_
   refine Walk.nil ?_
   refine Leaf.thenN ?_
   refine CWalk.ret ?_
   refine Leaf.thenR ?_
   obtain rfl := Option.some.inj hm
   exact Leaf.retC2 rfl (HasR.cv (HasR.obj (ls := [(false, 1, Fact.rep [] ((0 : Int) : Int)), (false, 1, Fact.nilv), (false, 1, Fact.nilv), (false, 1, Fact.rep [] ((0 : UInt8) : UInt8)), (false, 1, Fact.rep [] (false : Bool)), (false, 1, Fact.rep [] ((0 : UInt32) : UInt32))]) ty28 rfl rfl (Has.s rfl) rfl (HasGs.cons (HasG.s rfl) (HasGs.cons (HasG.s rfl) (HasGs.cons (HasG.s rfl) (HasGs.cons (HasG.s rfl) (HasGs.cons (HasG.s rfl) (HasGs.cons (HasG.s rfl) HasGs.nil))))))) (Cv.flds (CvL.cons Cv.fl (CvL.cons (Cv.trans Cv.nilOw (Cv.owM (T := []) (te := []) rfl rfl)) (CvL.cons (Cv.trans Cv.nilOw (Cv.owF (T := []) (te := []) rfl)) (CvL.cons Cv.fl (CvL.cons Cv.fl (CvL.cons Cv.fl CvL.nil)))))))) (HasR.cv (HasR.tmp (Has.s rfl)) Cv.fl)
  ·have hm := cond_f hb hm
   refine CWalk.skip ?_
   refine Leaf.thenN ?_
   refine CWalk.seq ?_
   refine CWalk.region ?_
   refine wo (Spec.loadObj (ls := [(false, 1, Fact.rep [] (a0.Id : UInt32)), (false, 1, Fact.rep [] (a0.Members : Int)), (false, 1, Fact.rep [] (a0.Chunk : Int)), (false, 1, Fact.rep [] (a0.Rows : Int)), (false, 1, Fact.rep [] (a0.Log : Int)), (false, 1, Fact.rep [] (a0.Heads : Int))]) ty24 rfl rfl (Has.s rfl) rfl (HasGs.cons (HasG.s rfl) (HasGs.cons (HasG.s rfl) (HasGs.cons (HasG.s rfl) (HasGs.cons (HasG.s rfl) (HasGs.cons (HasG.s rfl) (HasGs.cons (HasG.s rfl) HasGs.nil))))))) ?_
   refine mv ?_
   obtain ⟨x3, hx3, hm⟩ := bind_some hm
   refine wo (f := Fact.flds [(false, 1, Fact.rep [] (x3.Stripe : Int)), (false, 1, Fact.ow [26] [] 31 (x3.Blocks : List (List UInt8))), (false, 1, Fact.ow [27] [] 4 (x3.Dirty : List Bool)), (false, 1, Fact.rep [] (x3.Phase : UInt8)), (false, 1, Fact.rep [] (x3.Deals : Bool)), (false, 1, Fact.rep [] (x3.Seq : UInt32))]) (Spec.callE [] 26 rfl en55 (ref16_Blank_c a0 a1 hx3) (HasAll.cons (Has.fl (Has.cv (Has.s rfl) (Cv.trans (Cv.flds (CvL.cons Cv.fl (CvL.cons Cv.fl (CvL.cons Cv.fl (CvL.cons Cv.fl (CvL.cons Cv.fl (CvL.cons Cv.fl CvL.nil))))))) (Cv.close (T := []) (chConfig a0))))) (HasAll.cons (Has.fl (Has.s rfl)) HasAll.nil))) ?_
   refine ws (Step.storeObj (ls := [(false, 1, Fact.rep [] (x3.Stripe : Int)), (false, 1, Fact.ow [26] [] 31 (x3.Blocks : List (List UInt8))), (false, 1, Fact.ow [27] [] 4 (x3.Dirty : List Bool)), (false, 1, Fact.rep [] (x3.Phase : UInt8)), (false, 1, Fact.rep [] (x3.Deals : Bool)), (false, 1, Fact.rep [] (x3.Seq : UInt32))]) rfl ty28 rfl rfl (Has.s rfl) rfl (HasL.flds (Has.s rfl)) rfl) ?_
   refine wo (Spec.assign Has.int) ?_
   refine Walk.nil ?_
   refine Leaf.thenN ?_
   refine CWalk.ret ?_
   obtain rfl := Option.some.inj hm
   exact Leaf.retC2 rfl (HasR.cv (HasR.obj (ls := [(false, 1, Fact.rep [] (x3.Stripe : Int)), (false, 1, Fact.ow [26] [] 31 (x3.Blocks : List (List UInt8))), (false, 1, Fact.ow [27] [] 4 (x3.Dirty : List Bool)), (false, 1, Fact.rep [] (x3.Phase : UInt8)), (false, 1, Fact.rep [] (x3.Deals : Bool)), (false, 1, Fact.rep [] (x3.Seq : UInt32))]) ty28 rfl rfl (Has.s rfl) rfl (HasGs.cons (HasG.s rfl) (HasGs.cons (HasG.s rfl) (HasGs.cons (HasG.s rfl) (HasGs.cons (HasG.s rfl) (HasGs.cons (HasG.s rfl) (HasGs.cons (HasG.s rfl) HasGs.nil))))))) (Cv.flds (CvL.cons Cv.fl (CvL.cons (Cv.owM (T := [26]) (te := []) rfl rfl) (CvL.cons (Cv.owF (T := [27]) (te := []) rfl) (CvL.cons Cv.fl (CvL.cons Cv.fl (CvL.cons Cv.fl CvL.nil)))))))) (HasR.cv (HasR.tmp (Has.s rfl)) Cv.fl)

def ref16_Same_L1 (a0 : Head) (a1 : Head) (s1 : Int) : Option (Ctl (Int) ((Unit) ⊕ (Unit))) :=
  (bif (decide (s1 < ((a0.Blocks).length : Int))) then Option.bind (idx a0.Blocks s1) (fun x3 => Option.bind (idx a1.Blocks s1) (fun x4 => (bif (!((Str.mk x3).s == (Str.mk x4).s)) then some (Ctl.brk (Sum.inr ())) else some (Ctl.next (wI (s1 + (1 : Int))))))) else some (Ctl.brk (Sum.inl ())))
def ref16_Same_L2 (a0 : Head) (a1 : Head) (s7 : Int) : Option (Ctl (Int) ((Unit) ⊕ (Unit))) :=
  (bif (decide (s7 < ((a0.Dirty).length : Int))) then Option.bind (idx a0.Dirty s7) (fun x9 => Option.bind (idx a1.Dirty s7) (fun x10 => (bif (x9 != x10) then some (Ctl.brk (Sum.inr ())) else some (Ctl.next (wI (s7 + (1 : Int))))))) else some (Ctl.brk (Sum.inl ())))
/-- freeboard/freeboardref16.Same -/
def ref16_Same (a0 : Head) (a1 : Head) : Option (Bool) :=
  (bif ((((((a0.Stripe != a1.Stripe) || (a0.Phase != a1.Phase)) || (a0.Deals != a1.Deals)) || ((a0.Seq.toNat : Int) != (a1.Seq.toNat : Int))) || (((a0.Blocks).length : Int) != ((a1.Blocks).length : Int))) || (((a0.Dirty).length : Int) != ((a1.Dirty).length : Int))) then some false else Option.bind (loopM (fun s : Int => ref16_Same_L1 a0 a1 s) FUEL (0 : Int)) (fun b5 => Sum.elim (fun b6 => Option.bind (loopM (fun s : Int => ref16_Same_L2 a0 a1 s) FUEL (0 : Int)) (fun b11 => Sum.elim (fun b12 => some true) (fun b13 => some false) b11)) (fun b14 => some false) b5))
set_option maxRecDepth 100000 in
set_option maxHeartbeats 2000000 in
theorem ref16_Same_c (a0 : Head) (a1 : Head) {r : Bool} (hm : ref16_Same a0 a1 = some r) : Ctr Try.prog 16 [.rep 0 a0, .rep 0 a1] (.fl r) [] := by
 refine ctr_of_walk [[]] 89 Try.func16 rfl rfl rfl rfl (fun w0 om => ?_)
 unfold ref16_Same at hm
 refine CWalk.sub (G' := [.fact 0 (Fact.rep [0] (a0 : Head)), .fact 1 (Fact.rep [0] (a1 : Head))]) (sn (sn Sub.nil)) ?_
 refine CWalk.seq ?_
 refine CWalk.region ?_
 refine ws (Step.boxObj (ls := [(false, 1, Fact.rep [] (a0.Stripe : Int)), (false, 1, Fact.rep [0] (a0.Blocks : List (List UInt8))), (false, 1, Fact.rep [0] (a0.Dirty : List Bool)), (false, 1, Fact.rep [] (a0.Phase : UInt8)), (false, 1, Fact.rep [] (a0.Deals : Bool)), (false, 1, Fact.rep [] (a0.Seq : UInt32))]) 10 rfl rfl rfl rfl (HasL.flds (Has.cv (Has.s rfl) (Cv.trans (Cv.opens (chHead a0)) (Cv.flds (CvL.cons Cv.fl (CvL.cons Cv.refl (CvL.cons Cv.refl (CvL.cons Cv.fl (CvL.cons Cv.fl (CvL.cons Cv.fl CvL.nil))))))))))) ?_
 refine ws (Step.boxObj (ls := [(false, 1, Fact.rep [] (a1.Stripe : Int)), (false, 1, Fact.rep [0] (a1.Blocks : List (List UInt8))), (false, 1, Fact.rep [0] (a1.Dirty : List Bool)), (false, 1, Fact.rep [] (a1.Phase : UInt8)), (false, 1, Fact.rep [] (a1.Deals : Bool)), (false, 1, Fact.rep [] (a1.Seq : UInt32))]) 17 rfl rfl rfl rfl (HasL.flds (Has.cv (Has.s rfl) (Cv.trans (Cv.opens (chHead a1)) (Cv.flds (CvL.cons Cv.fl (CvL.cons Cv.refl (CvL.cons Cv.refl (CvL.cons Cv.fl (CvL.cons Cv.fl (CvL.cons Cv.fl CvL.nil))))))))))) ?_
 refine wo (Spec.assign Has.bool) ?_
 refine Walk.nil ?_
 refine Leaf.thenN ?_
 refine CWalk.seq ?_
 refine CWalk.seq ?_
 refine CWalk.region ?_
 refine wo (Spec.fieldAddrO fd28_0 (Has.cv (Has.s rfl) (Cv.isvP rfl))) ?_
 refine wo (Spec.loadF (i := 0) ty3 rfl (Has.s rfl) rfl (HasG.s rfl)) ?_
 refine wo (Spec.fieldAddrO fd28_0 (Has.cv (Has.s rfl) (Cv.isvP rfl))) ?_
 refine wo (Spec.loadF (i := 0) ty3 rfl (Has.s rfl) rfl (HasG.s rfl)) ?_
 refine wo (Spec.neqI (Has.s rfl) (Has.s rfl)) ?_
 refine mv ?_
 refine wg rfl rfl (fun hb => Spec.fieldAddrO fd28_3 (Has.cv (Has.s rfl) (Cv.isvP rfl))) ?_
 refine wg rfl rfl (fun hb => Spec.loadF (i := 3) ty5 rfl (Has.u rfl hb) rfl (HasG.s rfl)) ?_
 refine wg rfl rfl (fun hb => Spec.fieldAddrO fd28_3 (Has.cv (Has.s rfl) (Cv.isvP rfl))) ?_
 refine wg rfl rfl (fun hb => Spec.loadF (i := 3) ty5 rfl (Has.u rfl hb) rfl (HasG.s rfl)) ?_
 refine wg rfl rfl (fun hb => Spec.neqB (Has.u rfl hb) (Has.u rfl hb)) ?_
 refine wo (Spec.or (Has.s rfl) (fun h => Has.u rfl h)) ?_
 refine mv ?_
 refine wg rfl rfl (fun hb => Spec.fieldAddrO fd28_4 (Has.cv (Has.s rfl) (Cv.isvP rfl))) ?_
 refine wg rfl rfl (fun hb => Spec.loadF (i := 4) ty4 rfl (Has.u rfl hb) rfl (HasG.s rfl)) ?_
 refine wg rfl rfl (fun hb => Spec.fieldAddrO fd28_4 (Has.cv (Has.s rfl) (Cv.isvP rfl))) ?_
 refine wg rfl rfl (fun hb => Spec.loadF (i := 4) ty4 rfl (Has.u rfl hb) rfl (HasG.s rfl)) ?_
 refine wg rfl rfl (fun hb => Spec.neqT (Has.u rfl hb) (Has.u rfl hb) Try.underlying4) ?_
 refine wo (Spec.or (Has.s rfl) (fun h => Has.u rfl h)) ?_
 refine mv ?_
 refine wg rfl rfl (fun hb => Spec.fieldAddrO fd28_5 (Has.cv (Has.s rfl) (Cv.isvP rfl))) ?_
 refine wg rfl rfl (fun hb => Spec.loadF (i := 5) ty22 rfl (Has.u rfl hb) rfl (HasG.s rfl)) ?_
 refine wg rfl rfl (fun hb => Spec.fieldAddrO fd28_5 (Has.cv (Has.s rfl) (Cv.isvP rfl))) ?_
 refine wg rfl rfl (fun hb => Spec.loadF (i := 5) ty22 rfl (Has.u rfl hb) rfl (HasG.s rfl)) ?_
 refine wg rfl rfl (fun hb => Spec.neqN (α := UInt32) (Has.u rfl hb) (Has.u rfl hb)) ?_
 refine wo (Spec.or (Has.s rfl) (fun h => Has.u rfl h)) ?_
 refine mv ?_
 refine wg rfl rfl (fun hb => Spec.fieldAddrO fd28_1 (Has.cv (Has.s rfl) (Cv.isvP rfl))) ?_
 refine wg rfl rfl (fun hb => Spec.loadF (i := 1) ty25 rfl (Has.u rfl hb) rfl (HasG.s rfl)) ?_
 refine wg rfl rfl (fun hb => Spec.len (Has.u rfl hb) Try.underlying25) ?_
 refine wg rfl rfl (fun hb => Spec.fieldAddrO fd28_1 (Has.cv (Has.s rfl) (Cv.isvP rfl))) ?_
 refine wg rfl rfl (fun hb => Spec.loadF (i := 1) ty25 rfl (Has.u rfl hb) rfl (HasG.s rfl)) ?_
 refine wg rfl rfl (fun hb => Spec.len (Has.u rfl hb) Try.underlying25) ?_
 refine wg rfl rfl (fun hb => Spec.neqI (Has.u rfl hb) (Has.u rfl hb)) ?_
 refine wo (Spec.or (Has.s rfl) (fun h => Has.u rfl h)) ?_
 refine mv ?_
 refine wg rfl rfl (fun hb => Spec.fieldAddrO fd28_2 (Has.cv (Has.s rfl) (Cv.isvP rfl))) ?_
 refine wg rfl rfl (fun hb => Spec.loadF (i := 2) ty26 rfl (Has.u rfl hb) rfl (HasG.s rfl)) ?_
 refine wg rfl rfl (fun hb => Spec.len (Has.u rfl hb) Try.underlying26) ?_
 refine wg rfl rfl (fun hb => Spec.fieldAddrO fd28_2 (Has.cv (Has.s rfl) (Cv.isvP rfl))) ?_
 refine wg rfl rfl (fun hb => Spec.loadF (i := 2) ty26 rfl (Has.u rfl hb) rfl (HasG.s rfl)) ?_
 refine wg rfl rfl (fun hb => Spec.len (Has.u rfl hb) Try.underlying26) ?_
 refine wg rfl rfl (fun hb => Spec.neqI (Has.u rfl hb) (Has.u rfl hb)) ?_
 refine wo (Spec.or (Has.s rfl) (fun h => Has.u rfl h)) ?_
 refine Walk.nil ?_
 refine Leaf.thenN ?_
 refine CWalk.cond rfl (fun hb => ?_) (fun hb => ?_)
 ·have hm := cond_t hb hm
  refine CWalk.seq ?_
  refine CWalk.region ?_
  refine wo (Spec.assign Has.bool) ?_
  refine Walk.nil ?_
  refine Leaf.thenN ?_
  refine CWalk.ret ?_
  refine Leaf.thenR ?_
  obtain rfl := Option.some.inj hm
  exact Leaf.retC1 rfl (HasR.cv (HasR.tmp (Has.s rfl)) Cv.fl)
 ·have hm := cond_f hb hm
  refine CWalk.skip ?_
  refine Leaf.thenN ?_
  refine CWalk.seq ?_
  refine CWalk.seq ?_
  refine CWalk.region ?_
  refine wo (Spec.assign Has.int) ?_
  refine Walk.nil ?_
  refine Leaf.thenN ?_
  refine CWalk.block ?_
  obtain ⟨b5, hb5, hm⟩ := bind_some hm
  refine CWalk.loop (fun s : Int => [.fact 2 (Fact.isv 10), .fact 3 (Fact.isv 17), .fact 5 (Fact.rep [] (s : Int)), .fact 100011 (Fact.at 11 (Fact.rep [] (a0.Stripe : Int))), .fact 100012 (Fact.at 12 (Fact.rep [0] (a0.Blocks : List (List UInt8)))), .fact 100013 (Fact.at 13 (Fact.rep [0] (a0.Dirty : List Bool))), .fact 100014 (Fact.at 14 (Fact.rep [] (a0.Phase : UInt8))), .fact 100015 (Fact.at 15 (Fact.rep [] (a0.Deals : Bool))), .fact 100016 (Fact.at 16 (Fact.rep [] (a0.Seq : UInt32))), .fact 100018 (Fact.at 18 (Fact.rep [] (a1.Stripe : Int))), .fact 100019 (Fact.at 19 (Fact.rep [0] (a1.Blocks : List (List UInt8)))), .fact 100020 (Fact.at 20 (Fact.rep [0] (a1.Dirty : List Bool))), .fact 100021 (Fact.at 21 (Fact.rep [] (a1.Phase : UInt8))), .fact 100022 (Fact.at 22 (Fact.rep [] (a1.Deals : Bool))), .fact 100023 (Fact.at 23 (Fact.rep [] (a1.Seq : UInt32))), .fact 100010 (Fact.obj 10 [(false, 1), (false, 1), (false, 1), (false, 1), (false, 1), (false, 1)]), .fact 100017 (Fact.obj 17 [(false, 1), (false, 1), (false, 1), (false, 1), (false, 1), (false, 1)])]) (fun b : (Unit) ⊕ (Unit) => Sum.elim (fun b => (Exit.exit 0, [.fact 2 (Fact.isv 10), .fact 3 (Fact.isv 17), .fact 100011 (Fact.at 11 (Fact.rep [] (a0.Stripe : Int))), .fact 100012 (Fact.at 12 (Fact.rep [0] (a0.Blocks : List (List UInt8)))), .fact 100013 (Fact.at 13 (Fact.rep [0] (a0.Dirty : List Bool))), .fact 100014 (Fact.at 14 (Fact.rep [] (a0.Phase : UInt8))), .fact 100015 (Fact.at 15 (Fact.rep [] (a0.Deals : Bool))), .fact 100016 (Fact.at 16 (Fact.rep [] (a0.Seq : UInt32))), .fact 100018 (Fact.at 18 (Fact.rep [] (a1.Stripe : Int))), .fact 100019 (Fact.at 19 (Fact.rep [0] (a1.Blocks : List (List UInt8)))), .fact 100020 (Fact.at 20 (Fact.rep [0] (a1.Dirty : List Bool))), .fact 100021 (Fact.at 21 (Fact.rep [] (a1.Phase : UInt8))), .fact 100022 (Fact.at 22 (Fact.rep [] (a1.Deals : Bool))), .fact 100023 (Fact.at 23 (Fact.rep [] (a1.Seq : UInt32))), .fact 100010 (Fact.obj 10 [(false, 1), (false, 1), (false, 1), (false, 1), (false, 1), (false, 1)]), .fact 100017 (Fact.obj 17 [(false, 1), (false, 1), (false, 1), (false, 1), (false, 1), (false, 1)])])) (fun b => (Exit.ret, [.fact 4 (Fact.rep [] (false : Bool))])) b) hb5 (sn (sn (st (sf (sm (sm (sf (sf (sf (sf (sm (sm (sf (sf (sf (sn (sn Sub.nil))))))))))))))))) ?_ ?_
  ·rintro s1 c2 hm
   replace hm : ref16_Same_L1 a0 a1 s1 = some c2 := hm
   unfold ref16_Same_L1 at hm
   show CWalk _ [.fact 2 (Fact.isv 10), .fact 3 (Fact.isv 17), .fact 5 (Fact.rep [] (s1 : Int)), .fact 100011 (Fact.at 11 (Fact.rep [] (a0.Stripe : Int))), .fact 100012 (Fact.at 12 (Fact.rep [0] (a0.Blocks : List (List UInt8)))), .fact 100013 (Fact.at 13 (Fact.rep [0] (a0.Dirty : List Bool))), .fact 100014 (Fact.at 14 (Fact.rep [] (a0.Phase : UInt8))), .fact 100015 (Fact.at 15 (Fact.rep [] (a0.Deals : Bool))), .fact 100016 (Fact.at 16 (Fact.rep [] (a0.Seq : UInt32))), .fact 100018 (Fact.at 18 (Fact.rep [] (a1.Stripe : Int))), .fact 100019 (Fact.at 19 (Fact.rep [0] (a1.Blocks : List (List UInt8)))), .fact 100020 (Fact.at 20 (Fact.rep [0] (a1.Dirty : List Bool))), .fact 100021 (Fact.at 21 (Fact.rep [] (a1.Phase : UInt8))), .fact 100022 (Fact.at 22 (Fact.rep [] (a1.Deals : Bool))), .fact 100023 (Fact.at 23 (Fact.rep [] (a1.Seq : UInt32))), .fact 100010 (Fact.obj 10 [(false, 1), (false, 1), (false, 1), (false, 1), (false, 1), (false, 1)]), .fact 100017 (Fact.obj 17 [(false, 1), (false, 1), (false, 1), (false, 1), (false, 1), (false, 1)])] _ _
   refine CWalk.seq ?_
   refine CWalk.seq ?_
   refine CWalk.region ?_
   refine mv ?_
   refine wo (Spec.fieldAddrO fd28_1 (Has.cv (Has.s rfl) (Cv.isvP rfl))) ?_
   refine wo (Spec.loadF (i := 1) ty25 rfl (Has.s rfl) rfl (HasG.s rfl)) ?_
   refine wo (Spec.len (Has.s rfl) Try.underlying25) ?_
   refine wo (Spec.lssI (Has.s rfl) (Has.s rfl)) ?_
   refine Walk.nil ?_
   refine Leaf.thenN ?_
   refine CWalk.cond rfl (fun hb => ?_) (fun hb => ?_)
   ·have hm := cond_t hb hm
    refine CWalk.skip ?_
    refine Leaf.thenN ?_
    refine CWalk.seq ?_
    refine CWalk.block ?_
    refine CWalk.seq ?_
    obtain ⟨x3, hx3, hm⟩ := bind_some hm
    obtain ⟨x4, hx4, hm⟩ := bind_some hm
    refine CWalk.drawM [[], [0], [], [0, 1, 2], [0, 1, 2, 3], [0, 1, 2, 3, 4], [], [6], [], [6, 7, 8], [6, 7, 8, 9], [6, 7, 8, 9, 10], [0, 1, 2, 3, 4, 5, 6, 7, 8, 9, 10, 11]] [[.fact 58 (Fact.pto 10 1)], [.fact 59 (Fact.rep [0] (a0.Blocks : List (List UInt8)))], [.fact 60 (Fact.rep [] (s1 : Int))], [.fact 61 (Fact.ptr [0] (x3 : List UInt8))], [.fact 62 (Fact.rep [0] (x3 : List UInt8))], [.fact 63 (Fact.rep [] ((Str.mk x3) : Str))], [.fact 64 (Fact.pto 17 1)], [.fact 65 (Fact.rep [0] (a1.Blocks : List (List UInt8)))], [.fact 66 (Fact.rep [] (s1 : Int))], [.fact 67 (Fact.ptr [0] (x4 : List UInt8))], [.fact 68 (Fact.rep [0] (x4 : List UInt8))], [.fact 69 (Fact.rep [] ((Str.mk x4) : Str))], [.fact 70 (Fact.rep [] ((!((Str.mk x3).s == (Str.mk x4).s)) : Bool))]] mixed (by kernel_rfl) (ao (so (Spec.fieldAddrO fd28_1 (Has.cv (Has.s rfl) (Cv.isvP rfl)))) (ao (so (Spec.loadF (i := 1) ty25 rfl (Has.s rfl) rfl (HasG.s rfl))) (ao (so (Spec.move (Has.s rfl))) (ao (so (Spec.indexAddr hx3 sl25 (Has.s rfl) (Has.s rfl))) (ao (so (Spec.load ty31 (Has.s rfl))) (ao (so (Spec.toStr Try.underlying31 Try.underlying5 Try.underlying9 (Has.s rfl))) (ao (so (Spec.fieldAddrO fd28_1 (Has.cv (Has.s rfl) (Cv.isvP rfl)))) (ao (so (Spec.loadF (i := 1) ty25 rfl (Has.s rfl) rfl (HasG.s rfl))) (ao (so (Spec.move (Has.s rfl))) (ao (so (Spec.indexAddr hx4 sl25 (Has.s rfl) (Has.s rfl))) (ao (so (Spec.load ty31 (Has.s rfl))) (ao (so (Spec.toStr Try.underlying31 Try.underlying5 Try.underlying9 (Has.s rfl))) (ao (so (Spec.neqS (Has.s rfl) (Has.s rfl))) AllM.nil))))))))))))) ?_
    refine Leaf.thenN ?_
    refine CWalk.cond rfl (fun hb => ?_) (fun hb => ?_)
    ·have hm := cond_t hb hm
     refine CWalk.seq ?_
     refine CWalk.region ?_
     refine wo (Spec.assign Has.bool) ?_
     refine Walk.nil ?_
     refine Leaf.thenN ?_
     refine CWalk.ret ?_
     refine Leaf.blockR ?_
     refine Leaf.thenR ?_
     exact Leaf.brk hm (fun h => nomatch h) rfl (st Sub.nil)
    ·have hm := cond_f hb hm
     refine CWalk.skip ?_
     refine Leaf.blockN ?_
     refine Leaf.thenN ?_
     refine CWalk.region ?_
     refine mv ?_
     refine wo (Spec.addI (Has.s rfl) Has.int) ?_
     refine wo (Spec.assign (Has.s rfl)) ?_
     refine Walk.nil ?_
     exact Leaf.next hm (sn (sn (st (sf (sm (sm (sf (sf (sf (sf (sm (sm (sf (sf (sf (sn (sn Sub.nil)))))))))))))))))
   ·have hm := cond_f hb hm
    refine CWalk.exit ?_
    refine Leaf.thenE ?_
    exact Leaf.brk hm (fun h => nomatch h) rfl (sn (sn (sf (sm (sm (sf (sf (sf (sf (sm (sm (sf (sf (sf (sn (sn Sub.nil))))))))))))))))
  ·intro _
   rcases b5 with b6 | b14
   ·have hm := selim_l hm
    refine Leaf.blockE ?_
    refine Leaf.thenN ?_
    refine CWalk.seq ?_
    refine CWalk.seq ?_
    refine CWalk.region ?_
    refine wo (Spec.assign Has.int) ?_
    refine Walk.nil ?_
    refine Leaf.thenN ?_
    refine CWalk.block ?_
    obtain ⟨b11, hb11, hm⟩ := bind_some hm
    refine CWalk.loop (fun s : Int => [.fact 2 (Fact.isv 10), .fact 3 (Fact.isv 17), .fact 6 (Fact.rep [] (s : Int)), .fact 100011 (Fact.at 11 (Fact.rep [] (a0.Stripe : Int))), .fact 100012 (Fact.at 12 (Fact.rep [0] (a0.Blocks : List (List UInt8)))), .fact 100013 (Fact.at 13 (Fact.rep [0] (a0.Dirty : List Bool))), .fact 100014 (Fact.at 14 (Fact.rep [] (a0.Phase : UInt8))), .fact 100015 (Fact.at 15 (Fact.rep [] (a0.Deals : Bool))), .fact 100016 (Fact.at 16 (Fact.rep [] (a0.Seq : UInt32))), .fact 100018 (Fact.at 18 (Fact.rep [] (a1.Stripe : Int))), .fact 100019 (Fact.at 19 (Fact.rep [0] (a1.Blocks : List (List UInt8)))), .fact 100020 (Fact.at 20 (Fact.rep [0] (a1.Dirty : List Bool))), .fact 100021 (Fact.at 21 (Fact.rep [] (a1.Phase : UInt8))), .fact 100022 (Fact.at 22 (Fact.rep [] (a1.Deals : Bool))), .fact 100023 (Fact.at 23 (Fact.rep [] (a1.Seq : UInt32))), .fact 100010 (Fact.obj 10 [(false, 1), (false, 1), (false, 1), (false, 1), (false, 1), (false, 1)]), .fact 100017 (Fact.obj 17 [(false, 1), (false, 1), (false, 1), (false, 1), (false, 1), (false, 1)])]) (fun b : (Unit) ⊕ (Unit) => Sum.elim (fun b => (Exit.exit 2, [])) (fun b => (Exit.ret, [.fact 4 (Fact.rep [] (false : Bool))])) b) hb11 (sn (sn (st (sf (sm (sm (sf (sf (sf (sf (sm (sm (sf (sf (sf (sn (sn Sub.nil))))))))))))))))) ?_ ?_
    ·rintro s7 c8 hm
     replace hm : ref16_Same_L2 a0 a1 s7 = some c8 := hm
     unfold ref16_Same_L2 at hm
     show CWalk _ [.fact 2 (Fact.isv 10), .fact 3 (Fact.isv 17), .fact 6 (Fact.rep [] (s7 : Int)), .fact 100011 (Fact.at 11 (Fact.rep [] (a0.Stripe : Int))), .fact 100012 (Fact.at 12 (Fact.rep [0] (a0.Blocks : List (List UInt8)))), .fact 100013 (Fact.at 13 (Fact.rep [0] (a0.Dirty : List Bool))), .fact 100014 (Fact.at 14 (Fact.rep [] (a0.Phase : UInt8))), .fact 100015 (Fact.at 15 (Fact.rep [] (a0.Deals : Bool))), .fact 100016 (Fact.at 16 (Fact.rep [] (a0.Seq : UInt32))), .fact 100018 (Fact.at 18 (Fact.rep [] (a1.Stripe : Int))), .fact 100019 (Fact.at 19 (Fact.rep [0] (a1.Blocks : List (List UInt8)))), .fact 100020 (Fact.at 20 (Fact.rep [0] (a1.Dirty : List Bool))), .fact 100021 (Fact.at 21 (Fact.rep [] (a1.Phase : UInt8))), .fact 100022 (Fact.at 22 (Fact.rep [] (a1.Deals : Bool))), .fact 100023 (Fact.at 23 (Fact.rep [] (a1.Seq : UInt32))), .fact 100010 (Fact.obj 10 [(false, 1), (false, 1), (false, 1), (false, 1), (false, 1), (false, 1)]), .fact 100017 (Fact.obj 17 [(false, 1), (false, 1), (false, 1), (false, 1), (false, 1), (false, 1)])] _ _
     refine CWalk.seq ?_
     refine CWalk.seq ?_
     refine CWalk.region ?_
     refine mv ?_
     refine wo (Spec.fieldAddrO fd28_2 (Has.cv (Has.s rfl) (Cv.isvP rfl))) ?_
     refine wo (Spec.loadF (i := 2) ty26 rfl (Has.s rfl) rfl (HasG.s rfl)) ?_
     refine wo (Spec.len (Has.s rfl) Try.underlying26) ?_
     refine wo (Spec.lssI (Has.s rfl) (Has.s rfl)) ?_
     refine Walk.nil ?_
     refine Leaf.thenN ?_
     refine CWalk.cond rfl (fun hb => ?_) (fun hb => ?_)
     ·have hm := cond_t hb hm
      refine CWalk.skip ?_
      refine Leaf.thenN ?_
      refine CWalk.seq ?_
      refine CWalk.block ?_
      refine CWalk.seq ?_
      obtain ⟨x9, hx9, hm⟩ := bind_some hm
      obtain ⟨x10, hx10, hm⟩ := bind_some hm
      refine CWalk.drawM [[], [0], [], [0, 1, 2], [0, 1, 2, 3], [], [5], [], [5, 6, 7], [5, 6, 7, 8], [0, 1, 2, 3, 4, 5, 6, 7, 8, 9]] [[.fact 78 (Fact.pto 10 2)], [.fact 79 (Fact.rep [0] (a0.Dirty : List Bool))], [.fact 80 (Fact.rep [] (s7 : Int))], [.fact 81 (Fact.ptr [0] (x9 : Bool))], [.fact 82 (Fact.rep [] (x9 : Bool))], [.fact 83 (Fact.pto 17 2)], [.fact 84 (Fact.rep [0] (a1.Dirty : List Bool))], [.fact 85 (Fact.rep [] (s7 : Int))], [.fact 86 (Fact.ptr [0] (x10 : Bool))], [.fact 87 (Fact.rep [] (x10 : Bool))], [.fact 88 (Fact.rep [] ((x9 != x10) : Bool))]] mixed (by kernel_rfl) (ao (so (Spec.fieldAddrO fd28_2 (Has.cv (Has.s rfl) (Cv.isvP rfl)))) (ao (so (Spec.loadF (i := 2) ty26 rfl (Has.s rfl) rfl (HasG.s rfl))) (ao (so (Spec.move (Has.s rfl))) (ao (so (Spec.indexAddr hx9 sl26 (Has.s rfl) (Has.s rfl))) (ao (so ((Spec.load ty4 (Has.s rfl)).flat (T' := []))) (ao (so (Spec.fieldAddrO fd28_2 (Has.cv (Has.s rfl) (Cv.isvP rfl)))) (ao (so (Spec.loadF (i := 2) ty26 rfl (Has.s rfl) rfl (HasG.s rfl))) (ao (so (Spec.move (Has.s rfl))) (ao (so (Spec.indexAddr hx10 sl26 (Has.s rfl) (Has.s rfl))) (ao (so ((Spec.load ty4 (Has.s rfl)).flat (T' := []))) (ao (so (Spec.neqT (Has.s rfl) (Has.s rfl) Try.underlying4)) AllM.nil))))))))))) ?_
      refine Leaf.thenN ?_
      refine CWalk.cond rfl (fun hb => ?_) (fun hb => ?_)
      ·have hm := cond_t hb hm
       refine CWalk.seq ?_
       refine CWalk.region ?_
       refine wo (Spec.assign Has.bool) ?_
       refine Walk.nil ?_
       refine Leaf.thenN ?_
       refine CWalk.ret ?_
       refine Leaf.blockR ?_
       refine Leaf.thenR ?_
       exact Leaf.brk hm (fun h => nomatch h) rfl (st Sub.nil)
      ·have hm := cond_f hb hm
       refine CWalk.skip ?_
       refine Leaf.blockN ?_
       refine Leaf.thenN ?_
       refine CWalk.region ?_
       refine mv ?_
       refine wo (Spec.addI (Has.s rfl) Has.int) ?_
       refine wo (Spec.assign (Has.s rfl)) ?_
       refine Walk.nil ?_
       exact Leaf.next hm (sn (sn (st (sf (sm (sm (sf (sf (sf (sf (sm (sm (sf (sf (sf (sn (sn Sub.nil)))))))))))))))))
     ·have hm := cond_f hb hm
      refine CWalk.exit ?_
      refine Leaf.thenE ?_
      exact Leaf.brk hm (fun h => nomatch h) rfl (Sub.nil)
    ·intro _
     rcases b11 with b12 | b13
     ·have hm := selim_l hm
      refine Leaf.blockE ?_
      refine Leaf.thenN ?_
      refine CWalk.seq ?_
      refine CWalk.region ?_
      refine wo (Spec.assign Has.bool) ?_
      refine Walk.nil ?_
      refine Leaf.thenN ?_
      refine CWalk.ret ?_
      obtain rfl := Option.some.inj hm
      exact Leaf.retC1 rfl (HasR.cv (HasR.tmp (Has.s rfl)) Cv.fl)
     ·have hm := selim_r hm
      refine Leaf.blockR ?_
      refine Leaf.thenR ?_
      obtain rfl := Option.some.inj hm
      exact Leaf.retC1 rfl (HasR.cv (HasR.tmp (Has.s rfl)) Cv.fl)
   ·have hm := selim_r hm
    refine Leaf.blockR ?_
    refine Leaf.thenR ?_
    obtain rfl := Option.some.inj hm
    exact Leaf.retC1 rfl (HasR.cv (HasR.tmp (Has.s rfl)) Cv.fl)

def slices_Equal_bool_bool_L1 (a0 : List Bool) (a1 : List Bool) (s1 : Int) : Option (Ctl (Int) ((Unit) ⊕ (Unit))) :=
  (bif (decide (s1 < ((a0).length : Int))) then Option.bind (idx a0 s1) (fun x3 => Option.bind (idx a1 s1) (fun x4 => (bif (x3 != x4) then some (Ctl.brk (Sum.inr ())) else some (Ctl.next (wI (s1 + (1 : Int))))))) else some (Ctl.brk (Sum.inl ())))
/-- slices.Equal[[]bool,bool] -/
def slices_Equal_bool_bool (a0 : List Bool) (a1 : List Bool) : Option (Bool) :=
  (bif (((a0).length : Int) != ((a1).length : Int)) then some false else Option.bind (loopM (fun s : Int => slices_Equal_bool_bool_L1 a0 a1 s) FUEL (0 : Int)) (fun b5 => Sum.elim (fun b6 => some true) (fun b7 => some false) b5))
set_option maxRecDepth 100000 in
set_option maxHeartbeats 2000000 in
theorem slices_Equal_bool_bool_c (a0 : List Bool) (a1 : List Bool) {r : Bool} (hm : slices_Equal_bool_bool a0 a1 = some r) : Ctr Try.prog 60 [.rep 0 a0, .rep 0 a1] (.fl r) [] := by
 refine ctr_of_walk [[]] 26 Try.func60 rfl rfl rfl rfl (fun w0 om => ?_)
 unfold slices_Equal_bool_bool at hm
 refine CWalk.sub (G' := [.fact 0 (Fact.rep [0] (a0 : List Bool)), .fact 1 (Fact.rep [0] (a1 : List Bool))]) (sn (sn Sub.nil)) ?_
 refine CWalk.seq ?_
 refine CWalk.region ?_
 refine wo (Spec.assign Has.bool) ?_
 refine Walk.nil ?_
 refine Leaf.thenN ?_
 refine CWalk.seq ?_
 refine CWalk.seq ?_
 refine CWalk.region ?_
 refine mv ?_
 refine wo (Spec.len (Has.s rfl) Try.underlying26) ?_
 refine mv ?_
 refine wo (Spec.len (Has.s rfl) Try.underlying26) ?_
 refine wo (Spec.neqI (Has.s rfl) (Has.s rfl)) ?_
 refine Walk.nil ?_
 refine Leaf.thenN ?_
 refine CWalk.cond rfl (fun hb => ?_) (fun hb => ?_)
 ·have hm := cond_t hb hm
  refine CWalk.seq ?_
  refine CWalk.region ?_
  refine wo (Spec.assign Has.bool) ?_
  refine Walk.nil ?_
  refine Leaf.thenN ?_
  refine CWalk.ret ?_
  refine Leaf.thenR ?_
  obtain rfl := Option.some.inj hm
  exact Leaf.retC1 rfl (HasR.cv (HasR.tmp (Has.s rfl)) Cv.fl)
 ·have hm := cond_f hb hm
  refine CWalk.skip ?_
  refine Leaf.thenN ?_
  refine CWalk.seq ?_
  refine CWalk.seq ?_
  refine CWalk.region ?_
  refine mv ?_
  refine wo (Spec.len (Has.s rfl) Try.underlying26) ?_
  refine wo (Spec.move Has.int) ?_
  refine Walk.nil ?_
  refine Leaf.thenN ?_
  refine CWalk.block ?_
  obtain ⟨b5, hb5, hm⟩ := bind_some hm
  refine CWalk.loop (fun s : Int => [.fact 0 (Fact.rep [0] (a0 : List Bool)), .fact 1 (Fact.rep [0] (a1 : List Bool)), .fact 12 (Fact.rep [] (((a0).length : Int) : Int)), .fact 13 (Fact.rep [] (s : Int))]) (fun b : (Unit) ⊕ (Unit) => Sum.elim (fun b => (Exit.exit 0, [])) (fun b => (Exit.ret, [.fact 4 (Fact.rep [] (false : Bool))])) b) hb5 (su (su (st (st Sub.nil)))) ?_ ?_
  ·rintro s1 c2 hm
   replace hm : slices_Equal_bool_bool_L1 a0 a1 s1 = some c2 := hm
   unfold slices_Equal_bool_bool_L1 at hm
   show CWalk _ [.fact 0 (Fact.rep [0] (a0 : List Bool)), .fact 1 (Fact.rep [0] (a1 : List Bool)), .fact 12 (Fact.rep [] (((a0).length : Int) : Int)), .fact 13 (Fact.rep [] (s1 : Int))] _ _
   refine CWalk.seq ?_
   refine CWalk.region ?_
   refine wo (Spec.lssI (Has.s rfl) (Has.s rfl)) ?_
   refine Walk.nil ?_
   refine Leaf.thenN ?_
   refine CWalk.seq ?_
   refine CWalk.cond rfl (fun hb => ?_) (fun hb => ?_)
   ·have hm := cond_t hb hm
    refine CWalk.skip ?_
    refine Leaf.thenN ?_
    refine CWalk.seq ?_
    refine CWalk.block ?_
    refine CWalk.seq ?_
    refine CWalk.region ?_
    refine mv ?_
    refine wo (Spec.assign (Has.s rfl)) ?_
    refine Walk.nil ?_
    refine Leaf.thenN ?_
    refine CWalk.seq ?_
    obtain ⟨x3, hx3, hm⟩ := bind_some hm
    obtain ⟨x4, hx4, hm⟩ := bind_some hm
    refine CWalk.drawM [[], [], [0, 1], [0, 1, 2], [], [], [4, 5], [4, 5, 6], [0, 1, 2, 3, 4, 5, 6, 7]] [[.fact 16 (Fact.rep [0] (a0 : List Bool))], [.fact 17 (Fact.rep [] (s1 : Int))], [.fact 18 (Fact.ptr [0] (x3 : Bool))], [.fact 19 (Fact.rep [] (x3 : Bool))], [.fact 20 (Fact.rep [0] (a1 : List Bool))], [.fact 21 (Fact.rep [] (s1 : Int))], [.fact 22 (Fact.ptr [0] (x4 : Bool))], [.fact 23 (Fact.rep [] (x4 : Bool))], [.fact 24 (Fact.rep [] ((x3 != x4) : Bool))]] mixed (by kernel_rfl) (ao (so (Spec.move (Has.s rfl))) (ao (so (Spec.move (Has.s rfl))) (ao (so (Spec.indexAddr hx3 sl26 (Has.s rfl) (Has.s rfl))) (ao (so ((Spec.load ty4 (Has.s rfl)).flat (T' := []))) (ao (so (Spec.move (Has.s rfl))) (ao (so (Spec.move (Has.s rfl))) (ao (so (Spec.indexAddr hx4 sl26 (Has.s rfl) (Has.s rfl))) (ao (so ((Spec.load ty4 (Has.s rfl)).flat (T' := []))) (ao (so (Spec.neqT (Has.s rfl) (Has.s rfl) Try.underlying4)) AllM.nil))))))))) ?_
    refine Leaf.thenN ?_
    refine CWalk.cond rfl (fun hb => ?_) (fun hb => ?_)
    ·have hm := cond_t hb hm
     refine CWalk.seq ?_
     refine CWalk.region ?_
     refine wo (Spec.assign Has.bool) ?_
     refine Walk.nil ?_
     refine Leaf.thenN ?_
     refine CWalk.ret ?_
     refine Leaf.blockR ?_
     refine Leaf.thenR ?_
     exact Leaf.brk hm (fun h => nomatch h) rfl (st Sub.nil)
    ·have hm := cond_f hb hm
     refine CWalk.skip ?_
     refine Leaf.blockN ?_
     refine Leaf.thenN ?_
     refine CWalk.region ?_
     refine wo (Spec.addI (Has.s rfl) Has.int) ?_
     refine mv ?_
     refine Walk.nil ?_
     exact Leaf.next hm (su (su (st (st Sub.nil))))
   ·have hm := cond_f hb hm
    refine CWalk.exit ?_
    refine Leaf.thenE ?_
    exact Leaf.brk hm (fun h => nomatch h) rfl (Sub.nil)
  ·intro _
   rcases b5 with b6 | b7
   ·have hm := selim_l hm
    refine Leaf.blockE ?_
    refine Leaf.thenN ?_
    refine CWalk.seq ?_
    refine CWalk.region ?_
    refine wo (Spec.assign Has.bool) ?_
    refine Walk.nil ?_
    refine Leaf.thenN ?_
    refine CWalk.ret ?_
    obtain rfl := Option.some.inj hm
    exact Leaf.retC1 rfl (HasR.cv (HasR.tmp (Has.s rfl)) Cv.fl)
   ·have hm := selim_r hm
    refine Leaf.blockR ?_
    refine Leaf.thenR ?_
    obtain rfl := Option.some.inj hm
    exact Leaf.retC1 rfl (HasR.cv (HasR.tmp (Has.s rfl)) Cv.fl)

def slices_EqualFunc_byte_byte_byte_byte_L1 (a0 : List (List UInt8)) (a1 : List (List UInt8)) (a2 : ((List UInt8) × (List UInt8)) → Option Bool) (s1 : Int) : Option (Ctl (Int) ((Unit) ⊕ (Unit))) :=
  (bif (decide (s1 < ((a0).length : Int))) then Option.bind (idx a0 s1) (fun x3 => Option.bind (idx a1 s1) (fun x4 => Option.bind (a2 (x3, x4)) (fun x5 => (bif (!x5) then some (Ctl.brk (Sum.inr ())) else some (Ctl.next (wI (s1 + (1 : Int)))))))) else some (Ctl.brk (Sum.inl ())))
/-- slices.EqualFunc[[][]byte,[][]byte,[]byte,[]byte] -/
def slices_EqualFunc_byte_byte_byte_byte (a0 : List (List UInt8)) (a1 : List (List UInt8)) (a2 : ((List UInt8) × (List UInt8)) → Option Bool) : Option (Bool) :=
  (bif (((a0).length : Int) != ((a1).length : Int)) then some false else Option.bind (loopM (fun s : Int => slices_EqualFunc_byte_byte_byte_byte_L1 a0 a1 a2 s) FUEL (0 : Int)) (fun b6 => Sum.elim (fun b7 => some true) (fun b8 => some false) b6))
set_option maxRecDepth 100000 in
set_option maxHeartbeats 2000000 in
theorem slices_EqualFunc_byte_byte_byte_byte_c (a0 : List (List UInt8)) (a1 : List (List UInt8)) (a2 : ((List UInt8) × (List UInt8)) → Option Bool) {r : Bool} (hm : slices_EqualFunc_byte_byte_byte_byte a0 a1 a2 = some r) : Ctr Try.prog 61 [.rep 0 a0, .rep 0 a1, .fn Try.prog pre2 0 a2] (.fl r) [] := by
 refine ctr_of_walk [[]] 32 Try.func61 rfl rfl rfl rfl (fun w0 om => ?_)
 unfold slices_EqualFunc_byte_byte_byte_byte at hm
 refine CWalk.sub (G' := [.fact 0 (Fact.rep [0] (a0 : List (List UInt8))), .fact 1 (Fact.rep [0] (a1 : List (List UInt8))), .fact 2 (Fact.fn Try.prog pre2 [0] (a2))]) (sn (sn (sn Sub.nil))) ?_
 refine CWalk.seq ?_
 refine CWalk.region ?_
 refine wo (Spec.assign Has.bool) ?_
 refine Walk.nil ?_
 refine Leaf.thenN ?_
 refine CWalk.seq ?_
 refine CWalk.seq ?_
 refine CWalk.region ?_
 refine mv ?_
 refine wo (Spec.len (Has.s rfl) Try.underlying25) ?_
 refine mv ?_
 refine wo (Spec.len (Has.s rfl) Try.underlying25) ?_
 refine wo (Spec.neqI (Has.s rfl) (Has.s rfl)) ?_
 refine Walk.nil ?_
 refine Leaf.thenN ?_
 refine CWalk.cond rfl (fun hb => ?_) (fun hb => ?_)
 ·have hm := cond_t hb hm
  refine CWalk.seq ?_
  refine CWalk.region ?_
  refine wo (Spec.assign Has.bool) ?_
  refine Walk.nil ?_
  refine Leaf.thenN ?_
  refine CWalk.ret ?_
  refine Leaf.thenR ?_
  obtain rfl := Option.some.inj hm
  exact Leaf.retC1 rfl (HasR.cv (HasR.tmp (Has.s rfl)) Cv.fl)
 ·have hm := cond_f hb hm
  refine CWalk.skip ?_
  refine Leaf.thenN ?_
  refine CWalk.seq ?_
  refine CWalk.seq ?_
  refine CWalk.region ?_
  refine mv ?_
  refine wo (Spec.len (Has.s rfl) Try.underlying25) ?_
  refine wo (Spec.move Has.int) ?_
  refine Walk.nil ?_
  refine Leaf.thenN ?_
  refine CWalk.block ?_
  obtain ⟨b6, hb6, hm⟩ := bind_some hm
  refine CWalk.loop (fun s : Int => [.fact 1 (Fact.rep [0] (a1 : List (List UInt8))), .fact 2 (Fact.fn Try.prog pre2 [0] (a2)), .fact 15 (Fact.rep [0] (a0 : List (List UInt8))), .fact 16 (Fact.rep [] (((a0).length : Int) : Int)), .fact 17 (Fact.rep [] (s : Int))]) (fun b : (Unit) ⊕ (Unit) => Sum.elim (fun b => (Exit.exit 0, [])) (fun b => (Exit.ret, [.fact 6 (Fact.rep [] (false : Bool))])) b) hb6 (su (sn (su (st (st Sub.nil))))) ?_ ?_
  ·rintro s1 c2 hm
   replace hm : slices_EqualFunc_byte_byte_byte_byte_L1 a0 a1 a2 s1 = some c2 := hm
   unfold slices_EqualFunc_byte_byte_byte_byte_L1 at hm
   show CWalk _ [.fact 1 (Fact.rep [0] (a1 : List (List UInt8))), .fact 2 (Fact.fn Try.prog pre2 [0] (a2)), .fact 15 (Fact.rep [0] (a0 : List (List UInt8))), .fact 16 (Fact.rep [] (((a0).length : Int) : Int)), .fact 17 (Fact.rep [] (s1 : Int))] _ _
   refine CWalk.seq ?_
   refine CWalk.region ?_
   refine wo (Spec.lssI (Has.s rfl) (Has.s rfl)) ?_
   refine Walk.nil ?_
   refine Leaf.thenN ?_
   refine CWalk.seq ?_
   refine CWalk.cond rfl (fun hb => ?_) (fun hb => ?_)
   ·have hm := cond_t hb hm
    refine CWalk.skip ?_
    refine Leaf.thenN ?_
    refine CWalk.seq ?_
    refine CWalk.block ?_
    refine CWalk.seq ?_
    refine CWalk.region ?_
    refine mv ?_
    obtain ⟨x3, hx3, hm⟩ := bind_some hm
    refine wo (Spec.indexAddr hx3 sl25 (Has.s rfl) (Has.s rfl)) ?_
    refine wo (Spec.load ty31 (Has.s rfl)) ?_
    refine wo (Spec.assign (Has.s rfl)) ?_
    refine wo (Spec.assign (Has.s rfl)) ?_
    refine Walk.nil ?_
    refine Leaf.thenN ?_
    refine CWalk.seq ?_
    refine CWalk.region ?_
    refine mv ?_
    refine mv ?_
    obtain ⟨x4, hx4, hm⟩ := bind_some hm
    refine wo (Spec.indexAddr hx4 sl25 (Has.s rfl) (Has.s rfl)) ?_
    refine wo (Spec.load ty31 (Has.s rfl)) ?_
    refine wo (Spec.assign (Has.s rfl)) ?_
    refine Walk.nil ?_
    refine Leaf.thenN ?_
    refine CWalk.seq ?_
    refine CWalk.region ?_
    refine mv ?_
    refine mv ?_
    refine mv ?_
    obtain ⟨x5, hx5, hm⟩ := bind_some hm
    refine wo (Spec.callFn (xs := [.tmp 27, .tmp 28]) (x := (x3, x4)) [0] 10 rfl hx5 (Has.s rfl) (HasAll.cons (Has.m (Has.s rfl) rfl) (HasAll.cons (Has.m (Has.s rfl) rfl) HasAll.nil))) ?_
    refine wo (Spec.not (Has.s rfl)) ?_
    refine Walk.nil ?_
    refine Leaf.thenN ?_
    refine CWalk.cond rfl (fun hb => ?_) (fun hb => ?_)
    ·have hm := cond_t hb hm
     refine CWalk.seq ?_
     refine CWalk.region ?_
     refine wo (Spec.assign Has.bool) ?_
     refine Walk.nil ?_
     refine Leaf.thenN ?_
     refine CWalk.ret ?_
     refine Leaf.blockR ?_
     refine Leaf.thenR ?_
     exact Leaf.brk hm (fun h => nomatch h) rfl (st Sub.nil)
    ·have hm := cond_f hb hm
     refine CWalk.skip ?_
     refine Leaf.blockN ?_
     refine Leaf.thenN ?_
     refine CWalk.region ?_
     refine wo (Spec.addI (Has.s rfl) Has.int) ?_
     refine mv ?_
     refine Walk.nil ?_
     exact Leaf.next hm (su (sn (su (st (st Sub.nil)))))
   ·have hm := cond_f hb hm
    refine CWalk.exit ?_
    refine Leaf.thenE ?_
    exact Leaf.brk hm (fun h => nomatch h) rfl (Sub.nil)
  ·intro _
   rcases b6 with b7 | b8
   ·have hm := selim_l hm
    refine Leaf.blockE ?_
    refine Leaf.thenN ?_
    refine CWalk.seq ?_
    refine CWalk.region ?_
    refine wo (Spec.assign Has.bool) ?_
    refine Walk.nil ?_
    refine Leaf.thenN ?_
    refine CWalk.ret ?_
    obtain rfl := Option.some.inj hm
    exact Leaf.retC1 rfl (HasR.cv (HasR.tmp (Has.s rfl)) Cv.fl)
   ·have hm := selim_r hm
    refine Leaf.blockR ?_
    refine Leaf.thenR ?_
    obtain rfl := Option.some.inj hm
    exact Leaf.retC1 rfl (HasR.cv (HasR.tmp (Has.s rfl)) Cv.fl)

/-- bytes.Equal -/
def bytes_Equal (a0 : List UInt8) (a1 : List UInt8) : Option (Bool) :=
  some ((Str.mk a0).s == (Str.mk a1).s)
set_option maxRecDepth 100000 in
set_option maxHeartbeats 2000000 in
theorem bytes_Equal_c (a0 : List UInt8) (a1 : List UInt8) {r : Bool} (hm : bytes_Equal a0 a1 = some r) : Ctr Try.prog 62 [.rep 0 a0, .rep 0 a1] (.fl r) [] := by
 refine ctr_of_walk [[]] 10 Try.func62 rfl rfl rfl rfl (fun w0 om => ?_)
 unfold bytes_Equal at hm
 refine CWalk.sub (G' := [.fact 0 (Fact.rep [0] (a0 : List UInt8)), .fact 1 (Fact.rep [0] (a1 : List UInt8))]) (sn (sn Sub.nil)) ?_
 refine CWalk.seq ?_
 refine CWalk.region ?_
 refine wo (Spec.assign Has.bool) ?_
 refine Walk.nil ?_
 refine Leaf.thenN ?_
 refine CWalk.seq ?_
 refine CWalk.region ?_
 refine mv ?_
 refine wo (Spec.toStr Try.underlying31 Try.underlying5 Try.underlying9 (Has.s rfl)) ?_
 refine mv ?_
 refine wo (Spec.toStr Try.underlying31 Try.underlying5 Try.underlying9 (Has.s rfl)) ?_
 refine wo (Spec.eqlS (Has.s rfl) (Has.s rfl)) ?_
 refine wo (Spec.assign (Has.s rfl)) ?_
 refine Walk.nil ?_
 refine Leaf.thenN ?_
 refine CWalk.ret ?_
 obtain rfl := Option.some.inj hm
 exact Leaf.retC1 rfl (HasR.cv (HasR.tmp (Has.s rfl)) Cv.fl)

/-- freeboard/head.Same -/
def head_Same (a0 : Head) (a1 : Head) : Option (Bool) :=
  Option.bind (gO (((((a0.Stripe == a1.Stripe) && (a0.Phase == a1.Phase)) && (a0.Deals == a1.Deals)) && ((a0.Seq.toNat : Int) == (a1.Seq.toNat : Int)))) (slices_Equal_bool_bool a0.Dirty a1.Dirty)) (fun x1 => Option.bind (gO ((((((a0.Stripe == a1.Stripe) && (a0.Phase == a1.Phase)) && (a0.Deals == a1.Deals)) && ((a0.Seq.toNat : Int) == (a1.Seq.toNat : Int))) && x1)) (slices_EqualFunc_byte_byte_byte_byte a0.Blocks a1.Blocks (fun y => bytes_Equal y.1 y.2))) (fun x2 => some ((((((a0.Stripe == a1.Stripe) && (a0.Phase == a1.Phase)) && (a0.Deals == a1.Deals)) && ((a0.Seq.toNat : Int) == (a1.Seq.toNat : Int))) && x1) && x2)))
set_option maxRecDepth 100000 in
set_option maxHeartbeats 2000000 in
theorem head_Same_c (a0 : Head) (a1 : Head) {r : Bool} (hm : head_Same a0 a1 = some r) : Ctr Try.prog 26 [.rep 0 a0, .rep 0 a1] (.fl r) [] := by
 refine ctr_of_walk [[]] 45 Try.func26 rfl rfl rfl rfl (fun w0 om => ?_)
 unfold head_Same at hm
 refine CWalk.sub (G' := [.fact 0 (Fact.rep [0] (a0 : Head)), .fact 1 (Fact.rep [0] (a1 : Head))]) (sn (sn Sub.nil)) ?_
 refine CWalk.seq ?_
 refine CWalk.region ?_
 refine ws (Step.boxObj (ls := [(false, 1, Fact.rep [] (a0.Stripe : Int)), (false, 1, Fact.rep [0] (a0.Blocks : List (List UInt8))), (false, 1, Fact.rep [0] (a0.Dirty : List Bool)), (false, 1, Fact.rep [] (a0.Phase : UInt8)), (false, 1, Fact.rep [] (a0.Deals : Bool)), (false, 1, Fact.rep [] (a0.Seq : UInt32))]) 10 rfl rfl rfl rfl (HasL.flds (Has.cv (Has.s rfl) (Cv.trans (Cv.opens (chHead a0)) (Cv.flds (CvL.cons Cv.fl (CvL.cons Cv.refl (CvL.cons Cv.refl (CvL.cons Cv.fl (CvL.cons Cv.fl (CvL.cons Cv.fl CvL.nil))))))))))) ?_
 refine ws (Step.boxObj (ls := [(false, 1, Fact.rep [] (a1.Stripe : Int)), (false, 1, Fact.rep [0] (a1.Blocks : List (List UInt8))), (false, 1, Fact.rep [0] (a1.Dirty : List Bool)), (false, 1, Fact.rep [] (a1.Phase : UInt8)), (false, 1, Fact.rep [] (a1.Deals : Bool)), (false, 1, Fact.rep [] (a1.Seq : UInt32))]) 17 rfl rfl rfl rfl (HasL.flds (Has.cv (Has.s rfl) (Cv.trans (Cv.opens (chHead a1)) (Cv.flds (CvL.cons Cv.fl (CvL.cons Cv.refl (CvL.cons Cv.refl (CvL.cons Cv.fl (CvL.cons Cv.fl (CvL.cons Cv.fl CvL.nil))))))))))) ?_
 refine wo (Spec.assign Has.bool) ?_
 refine Walk.nil ?_
 refine Leaf.thenN ?_
 refine CWalk.seq ?_
 refine CWalk.region ?_
 refine wo (Spec.fieldAddrO fd28_0 (Has.cv (Has.s rfl) (Cv.isvP rfl))) ?_
 refine wo (Spec.loadF (i := 0) ty3 rfl (Has.s rfl) rfl (HasG.s rfl)) ?_
 refine wo (Spec.fieldAddrO fd28_0 (Has.cv (Has.s rfl) (Cv.isvP rfl))) ?_
 refine wo (Spec.loadF (i := 0) ty3 rfl (Has.s rfl) rfl (HasG.s rfl)) ?_
 refine wo (Spec.eqlI (Has.s rfl) (Has.s rfl)) ?_
 refine mv ?_
 refine wg rfl rfl (fun hb => Spec.fieldAddrO fd28_3 (Has.cv (Has.s rfl) (Cv.isvP rfl))) ?_
 refine wg rfl rfl (fun hb => Spec.loadF (i := 3) ty5 rfl (Has.u rfl hb) rfl (HasG.s rfl)) ?_
 refine wg rfl rfl (fun hb => Spec.fieldAddrO fd28_3 (Has.cv (Has.s rfl) (Cv.isvP rfl))) ?_
 refine wg rfl rfl (fun hb => Spec.loadF (i := 3) ty5 rfl (Has.u rfl hb) rfl (HasG.s rfl)) ?_
 refine wg rfl rfl (fun hb => Spec.eqlB (Has.u rfl hb) (Has.u rfl hb)) ?_
 refine wo (Spec.and (Has.s rfl) (fun h => Has.u rfl h)) ?_
 refine mv ?_
 refine wg rfl rfl (fun hb => Spec.fieldAddrO fd28_4 (Has.cv (Has.s rfl) (Cv.isvP rfl))) ?_
 refine wg rfl rfl (fun hb => Spec.loadF (i := 4) ty4 rfl (Has.u rfl hb) rfl (HasG.s rfl)) ?_
 refine wg rfl rfl (fun hb => Spec.fieldAddrO fd28_4 (Has.cv (Has.s rfl) (Cv.isvP rfl))) ?_
 refine wg rfl rfl (fun hb => Spec.loadF (i := 4) ty4 rfl (Has.u rfl hb) rfl (HasG.s rfl)) ?_
 refine wg rfl rfl (fun hb => Spec.eqlT (Has.u rfl hb) (Has.u rfl hb) Try.underlying4) ?_
 refine wo (Spec.and (Has.s rfl) (fun h => Has.u rfl h)) ?_
 refine mv ?_
 refine wg rfl rfl (fun hb => Spec.fieldAddrO fd28_5 (Has.cv (Has.s rfl) (Cv.isvP rfl))) ?_
 refine wg rfl rfl (fun hb => Spec.loadF (i := 5) ty22 rfl (Has.u rfl hb) rfl (HasG.s rfl)) ?_
 refine wg rfl rfl (fun hb => Spec.fieldAddrO fd28_5 (Has.cv (Has.s rfl) (Cv.isvP rfl))) ?_
 refine wg rfl rfl (fun hb => Spec.loadF (i := 5) ty22 rfl (Has.u rfl hb) rfl (HasG.s rfl)) ?_
 refine wg rfl rfl (fun hb => Spec.eqlN (α := UInt32) (Has.u rfl hb) (Has.u rfl hb)) ?_
 refine wo (Spec.and (Has.s rfl) (fun h => Has.u rfl h)) ?_
 refine mv ?_
 refine wg rfl rfl (fun hb => Spec.fieldAddrO fd28_2 (Has.cv (Has.s rfl) (Cv.isvP rfl))) ?_
 refine wg rfl rfl (fun hb => Spec.loadF (i := 2) ty26 rfl (Has.u rfl hb) rfl (HasG.s rfl)) ?_
 refine wg rfl rfl (fun hb => Spec.fieldAddrO fd28_2 (Has.cv (Has.s rfl) (Cv.isvP rfl))) ?_
 refine wg rfl rfl (fun hb => Spec.loadF (i := 2) ty26 rfl (Has.u rfl hb) rfl (HasG.s rfl)) ?_
 obtain ⟨x1, hx1, hm⟩ := bind_some hm
 refine wg (f := Fact.rep [] (x1 : Bool)) rfl rfl (fun hb => Spec.callE [0] 24 rfl en60 (slices_Equal_bool_bool_c a0.Dirty a1.Dirty (gO_t hx1 hb)) (HasAll.cons (Has.m (Has.u rfl hb) rfl) (HasAll.cons (Has.m (Has.u rfl hb) rfl) HasAll.nil))) ?_
 refine wo (Spec.and (Has.s rfl) (fun h => Has.u rfl h)) ?_
 refine mv ?_
 refine wg rfl rfl (fun hb => Spec.fieldAddrO fd28_1 (Has.cv (Has.s rfl) (Cv.isvP rfl))) ?_
 refine wg rfl rfl (fun hb => Spec.loadF (i := 1) ty25 rfl (Has.u rfl hb) rfl (HasG.s rfl)) ?_
 refine wg rfl rfl (fun hb => Spec.fieldAddrO fd28_1 (Has.cv (Has.s rfl) (Cv.isvP rfl))) ?_
 refine wg rfl rfl (fun hb => Spec.loadF (i := 1) ty25 rfl (Has.u rfl hb) rfl (HasG.s rfl)) ?_
 obtain ⟨x2, hx2, hm⟩ := bind_some hm
 refine wg (f := Fact.rep [] (x2 : Bool)) rfl rfl (fun hb => Spec.callE [0] 25 rfl en61 (slices_EqualFunc_byte_byte_byte_byte_c a0.Blocks a1.Blocks (fun y => bytes_Equal y.1 y.2) (gO_t hx2 hb)) (HasAll.cons (Has.m (Has.u rfl hb) rfl) (HasAll.cons (Has.m (Has.u rfl hb) rfl) (HasAll.cons (Has.cv Has.func (Cv.fn (pu := []) (pc := []) (shc := []) en62 CvF.nil CvF.nil (fun y r h => bytes_Equal_c y.1 y.2 h))) HasAll.nil)))) ?_
 refine wo (Spec.and (Has.s rfl) (fun h => Has.u rfl h)) ?_
 refine wo (Spec.assign (Has.s rfl)) ?_
 refine Walk.nil ?_
 refine Leaf.thenN ?_
 refine CWalk.ret ?_
 obtain rfl := Option.some.inj hm
 exact Leaf.retC1 rfl (HasR.cv (HasR.tmp (Has.s rfl)) Cv.fl)

def law16_HeadTurns_J3 (a1 : Head) (x3 : Head) (x4 : Head × Int) (x5 : Head × Int) (x6 : Head × Int) (x7 : Head × Int) (x8 : Head × Int) (x9 : Head × Int) (x11 : Bool) (x12 : Bool) (x13 : Bool) (x14 : Int) (x15 : Int) (x16 : Bool) (x17 : Bool) (x18 : Bool) (x19 : Bool) : Option (Bool) :=
  Option.bind (gO (((((((x11 && (x4.2 == x5.2)) && x12) && (x6.2 == x7.2)) && x13) && (x8.2 == x9.2)) && ((((x14 == x15) && x16) && (x17 == x18)) && x19))) (ref16_Same x3 a1)) (fun x20 => some (((((((x11 && (x4.2 == x5.2)) && x12) && (x6.2 == x7.2)) && x13) && (x8.2 == x9.2)) && ((((x14 == x15) && x16) && (x17 == x18)) && x19)) && x20))
def law16_HeadTurns_L5 (x10 : Head) (s21 : Int) (s23 : Int) : Option (Ctl (Int) (Unit)) :=
  Option.bind (idx x10.Blocks s21) (fun x25 => (bif (decide (s23 < ((x25).length : Int))) then Option.bind (idx x10.Blocks s21) (fun x26 => Option.bind (idx x26 s23) (fun x27 => Option.bind (idx x26 s23) (fun x28 => some (Ctl.next (wI (s23 + (1 : Int))))))) else some (Ctl.brk ())))
def law16_HeadTurns_L4 (x10 : Head) (s21 : Int) : Option (Ctl (Int) (Unit)) :=
  (bif (decide (s21 < ((x10.Blocks).length : Int))) then Option.bind (loopM (fun s : Int => law16_HeadTurns_L5 x10 s21 s) FUEL (0 : Int)) (fun b29 => some (Ctl.next (wI (s21 + (1 : Int))))) else some (Ctl.brk ()))
def law16_HeadTurns_L6 (x10 : Head) (s31 : Int) : Option (Ctl (Int) (Unit)) :=
  (bif (decide (s31 < ((x10.Dirty).length : Int))) then Option.bind (idx x10.Dirty s31) (fun x33 => Option.bind (idx x10.Dirty s31) (fun x34 => some (Ctl.next (wI (s31 + (1 : Int)))))) else some (Ctl.brk ()))
def law16_HeadTurns_J2 (a1 : Head) (x3 : Head) (x4 : Head × Int) (x5 : Head × Int) (x6 : Head × Int) (x7 : Head × Int) (x8 : Head × Int) (x9 : Head × Int) (x10 : Head) (x11 : Bool) (x12 : Bool) (x13 : Bool) (x14 : Int) (x15 : Int) (x16 : Bool) (x17 : Bool) (x18 : Bool) (x19 : Bool) : Option (Bool) :=
  Option.bind (loopM (fun s : Int => law16_HeadTurns_L4 x10 s) FUEL (0 : Int)) (fun b30 => Option.bind (loopM (fun s : Int => law16_HeadTurns_L6 x10 s) FUEL (0 : Int)) (fun b35 => (law16_HeadTurns_J3 a1 x3 x4 x5 x6 x7 x8 x9 x11 x12 x13 x14 x15 x16 x17 x18 x19)))
def law16_HeadTurns_L8 (x6 : Head × Int) (s36 : Int) (s38 : Int) : Option (Ctl (Int) (Unit)) :=
  Option.bind (idx x6.1.Blocks s36) (fun x40 => (bif (decide (s38 < ((x40).length : Int))) then Option.bind (idx x6.1.Blocks s36) (fun x41 => Option.bind (idx x41 s38) (fun x42 => Option.bind (idx x41 s38) (fun x43 => some (Ctl.next (wI (s38 + (1 : Int))))))) else some (Ctl.brk ())))
def law16_HeadTurns_L7 (x6 : Head × Int) (s36 : Int) : Option (Ctl (Int) (Unit)) :=
  (bif (decide (s36 < ((x6.1.Blocks).length : Int))) then Option.bind (loopM (fun s : Int => law16_HeadTurns_L8 x6 s36 s) FUEL (0 : Int)) (fun b44 => some (Ctl.next (wI (s36 + (1 : Int))))) else some (Ctl.brk ()))
def law16_HeadTurns_L9 (x6 : Head × Int) (s46 : Int) : Option (Ctl (Int) (Unit)) :=
  (bif (decide (s46 < ((x6.1.Dirty).length : Int))) then Option.bind (idx x6.1.Dirty s46) (fun x48 => Option.bind (idx x6.1.Dirty s46) (fun x49 => some (Ctl.next (wI (s46 + (1 : Int)))))) else some (Ctl.brk ()))
def law16_HeadTurns_J1 (a1 : Head) (x3 : Head) (x4 : Head × Int) (x5 : Head × Int) (x6 : Head × Int) (x7 : Head × Int) (x8 : Head × Int) (x9 : Head × Int) (x10 : Head) (x11 : Bool) (x12 : Bool) (x13 : Bool) (x14 : Int) (x15 : Int) (x16 : Bool) (x17 : Bool) (x18 : Bool) (x19 : Bool) : Option (Bool) :=
  Option.bind (loopM (fun s : Int => law16_HeadTurns_L7 x6 s) FUEL (0 : Int)) (fun b45 => Option.bind (loopM (fun s : Int => law16_HeadTurns_L9 x6 s) FUEL (0 : Int)) (fun b50 => (law16_HeadTurns_J2 a1 x3 x4 x5 x6 x7 x8 x9 x10 x11 x12 x13 x14 x15 x16 x17 x18 x19)))
def law16_HeadTurns_L11 (x4 : Head × Int) (s51 : Int) (s53 : Int) : Option (Ctl (Int) (Unit)) :=
  Option.bind (idx x4.1.Blocks s51) (fun x55 => (bif (decide (s53 < ((x55).length : Int))) then Option.bind (idx x4.1.Blocks s51) (fun x56 => Option.bind (idx x56 s53) (fun x57 => Option.bind (idx x56 s53) (fun x58 => some (Ctl.next (wI (s53 + (1 : Int))))))) else some (Ctl.brk ())))
def law16_HeadTurns_L10 (x4 : Head × Int) (s51 : Int) : Option (Ctl (Int) (Unit)) :=
  (bif (decide (s51 < ((x4.1.Blocks).length : Int))) then Option.bind (loopM (fun s : Int => law16_HeadTurns_L11 x4 s51 s) FUEL (0 : Int)) (fun b59 => some (Ctl.next (wI (s51 + (1 : Int))))) else some (Ctl.brk ()))
def law16_HeadTurns_L12 (x4 : Head × Int) (s61 : Int) : Option (Ctl (Int) (Unit)) :=
  (bif (decide (s61 < ((x4.1.Dirty).length : Int))) then Option.bind (idx x4.1.Dirty s61) (fun x63 => Option.bind (idx x4.1.Dirty s61) (fun x64 => some (Ctl.next (wI (s61 + (1 : Int)))))) else some (Ctl.brk ()))
/-- freeboard/freeboardlaw16.HeadTurns -/
def law16_HeadTurns (a0 : Config) (a1 : Head) (a2 : Head) (a3 : Int) (a4 : List UInt8) : Option (Bool) :=
  Option.bind (ref16_Great a1) (fun x1 => Option.bind (gO (!x1) (ref16_Great a2)) (fun x2 => (bif ((x1 || x2) || (decide (((a4).length : Int) > (1000 : Int)))) then some true else Option.bind (ref16_Twin a1) (fun x3 => Option.bind (head_Take a0 x3 a3 a4) (fun x4 => Option.bind (ref16_Take a0 a1 a3 a4) (fun x5 => Option.bind (head_Know a0 x3 a3 a4) (fun x6 => Option.bind (ref16_Know a0 a1 a3 a4) (fun x7 => Option.bind (head_New a0 a3) (fun x8 => Option.bind (ref16_New a0 a3) (fun x9 => Option.bind (head_Twin x3) (fun x10 => Option.bind (ref16_Same x4.1 x5.1) (fun x11 => Option.bind (gO ((x11 && (x4.2 == x5.2))) (ref16_Same x6.1 x7.1)) (fun x12 => Option.bind (gO ((((x11 && (x4.2 == x5.2)) && x12) && (x6.2 == x7.2))) (ref16_Same x8.1 x9.1)) (fun x13 => Option.bind (head_Check a0 x3) (fun x14 => Option.bind (ref16_Check a0 a1) (fun x15 => Option.bind (gO ((x14 == x15)) (ref16_Same x10 a1)) (fun x16 => Option.bind (gO (((x14 == x15) && x16)) (head_Same a1 a2)) (fun x17 => Option.bind (gO (((x14 == x15) && x16)) (ref16_Same a1 a2)) (fun x18 => Option.bind (gO ((((x14 == x15) && x16) && (x17 == x18))) (head_Same x3 a1)) (fun x19 => Option.bind (loopM (fun s : Int => law16_HeadTurns_L10 x4 s) FUEL (0 : Int)) (fun b60 => Option.bind (loopM (fun s : Int => law16_HeadTurns_L12 x4 s) FUEL (0 : Int)) (fun b65 => (law16_HeadTurns_J1 a1 x3 x4 x5 x6 x7 x8 x9 x10 x11 x12 x13 x14 x15 x16 x17 x18 x19)))))))))))))))))))))))
set_option maxRecDepth 100000 in
set_option maxHeartbeats 2000000 in
theorem law16_HeadTurns_c (a0 : Config) (a1 : Head) (a2 : Head) (a3 : Int) (a4 : List UInt8) {r : Bool} (hm : law16_HeadTurns a0 a1 a2 a3 a4 = some r) : Ctr Try.prog 4 [.rep 0 a0, .rep 0 a1, .rep 0 a2, .rep 0 a3, .rep 0 a4] (.fl r) [] := by
 refine ctr_of_walk [[]] 155 Try.func4 rfl rfl rfl rfl (fun w0 om => ?_)
 unfold law16_HeadTurns at hm
 refine CWalk.sub (G' := [.fact 0 (Fact.rep [] (a0 : Config)), .fact 1 (Fact.rep [0] (a1 : Head)), .fact 2 (Fact.rep [0] (a2 : Head)), .fact 3 (Fact.rep [] (a3 : Int)), .fact 4 (Fact.rep [0] (a4 : List UInt8))]) (Sub.cons (Has.fl (Has.s rfl)) (sn (sn (Sub.cons (Has.fl (Has.s rfl)) (sn Sub.nil))))) ?_
 refine CWalk.seq ?_
 refine CWalk.region ?_
 refine ws (Step.boxObj (ls := [(false, 1, Fact.rep [] (a0.Id : UInt32)), (false, 1, Fact.rep [] (a0.Members : Int)), (false, 1, Fact.rep [] (a0.Chunk : Int)), (false, 1, Fact.rep [] (a0.Rows : Int)), (false, 1, Fact.rep [] (a0.Log : Int)), (false, 1, Fact.rep [] (a0.Heads : Int))]) 10 rfl rfl rfl rfl (HasL.flds (Has.cv (Has.s rfl) (Cv.trans (Cv.opens (chConfig a0)) (Cv.flds (CvL.cons Cv.fl (CvL.cons Cv.fl (CvL.cons Cv.fl (CvL.cons Cv.fl (CvL.cons Cv.fl (CvL.cons Cv.fl CvL.nil))))))))))) ?_
 refine ws (Step.boxObj (ls := [(false, 1, Fact.rep [] (a1.Stripe : Int)), (false, 1, Fact.rep [0] (a1.Blocks : List (List UInt8))), (false, 1, Fact.rep [0] (a1.Dirty : List Bool)), (false, 1, Fact.rep [] (a1.Phase : UInt8)), (false, 1, Fact.rep [] (a1.Deals : Bool)), (false, 1, Fact.rep [] (a1.Seq : UInt32))]) 17 rfl rfl rfl rfl (HasL.flds (Has.cv (Has.s rfl) (Cv.trans (Cv.opens (chHead a1)) (Cv.flds (CvL.cons Cv.fl (CvL.cons Cv.refl (CvL.cons Cv.refl (CvL.cons Cv.fl (CvL.cons Cv.fl (CvL.cons Cv.fl CvL.nil))))))))))) ?_
 refine ws (Step.boxObj (ls := [(false, 1, Fact.rep [] (a2.Stripe : Int)), (false, 1, Fact.rep [0] (a2.Blocks : List (List UInt8))), (false, 1, Fact.rep [0] (a2.Dirty : List Bool)), (false, 1, Fact.rep [] (a2.Phase : UInt8)), (false, 1, Fact.rep [] (a2.Deals : Bool)), (false, 1, Fact.rep [] (a2.Seq : UInt32))]) 24 rfl rfl rfl rfl (HasL.flds (Has.cv (Has.s rfl) (Cv.trans (Cv.opens (chHead a2)) (Cv.flds (CvL.cons Cv.fl (CvL.cons Cv.refl (CvL.cons Cv.refl (CvL.cons Cv.fl (CvL.cons Cv.fl (CvL.cons Cv.fl CvL.nil))))))))))) ?_
 refine wo (Spec.assign Has.bool) ?_
 refine Walk.nil ?_
 refine Leaf.thenN ?_
 refine CWalk.seq ?_
 refine CWalk.seq ?_
 refine CWalk.region ?_
 refine wo (Spec.loadObj (ls := [(false, 1, Fact.rep [] (a1.Stripe : Int)), (false, 1, Fact.rep [0] (a1.Blocks : List (List UInt8))), (false, 1, Fact.rep [0] (a1.Dirty : List Bool)), (false, 1, Fact.rep [] (a1.Phase : UInt8)), (false, 1, Fact.rep [] (a1.Deals : Bool)), (false, 1, Fact.rep [] (a1.Seq : UInt32))]) ty28 rfl rfl (Has.s rfl) rfl (HasGs.cons (HasG.s rfl) (HasGs.cons (HasG.s rfl) (HasGs.cons (HasG.s rfl) (HasGs.cons (HasG.s rfl) (HasGs.cons (HasG.s rfl) (HasGs.cons (HasG.s rfl) HasGs.nil))))))) ?_
 obtain ⟨x1, hx1, hm⟩ := bind_some hm
 refine wo (f := Fact.rep [] (x1 : Bool)) (Spec.callE [0] 31 rfl en9 (ref16_Great_c a1 hx1) (HasAll.cons (Has.m (Has.cv (Has.s rfl) (Cv.trans (Cv.flds (CvL.cons Cv.fl (CvL.cons (Cv.m rfl) (CvL.cons (Cv.m rfl) (CvL.cons Cv.fl (CvL.cons Cv.fl (CvL.cons Cv.fl CvL.nil))))))) (Cv.close (T := [0]) (chHead a1)))) rfl) HasAll.nil)) ?_
 refine mv ?_
 refine wg rfl rfl (fun hb => Spec.loadObj (ls := [(false, 1, Fact.rep [] (a2.Stripe : Int)), (false, 1, Fact.rep [0] (a2.Blocks : List (List UInt8))), (false, 1, Fact.rep [0] (a2.Dirty : List Bool)), (false, 1, Fact.rep [] (a2.Phase : UInt8)), (false, 1, Fact.rep [] (a2.Deals : Bool)), (false, 1, Fact.rep [] (a2.Seq : UInt32))]) ty28 rfl rfl (Has.s rfl) rfl (HasGs.cons (HasG.s rfl) (HasGs.cons (HasG.s rfl) (HasGs.cons (HasG.s rfl) (HasGs.cons (HasG.s rfl) (HasGs.cons (HasG.s rfl) (HasGs.cons (HasG.s rfl) HasGs.nil))))))) ?_
 obtain ⟨x2, hx2, hm⟩ := bind_some hm
 refine wg (f := Fact.rep [] (x2 : Bool)) rfl rfl (fun hb => Spec.callE [0] 32 rfl en9 (ref16_Great_c a2 (gO_t hx2 (not_t hb))) (HasAll.cons (Has.m (Has.cv (Has.u rfl hb) (Cv.trans (Cv.flds (CvL.cons Cv.fl (CvL.cons (Cv.m rfl) (CvL.cons (Cv.m rfl) (CvL.cons Cv.fl (CvL.cons Cv.fl (CvL.cons Cv.fl CvL.nil))))))) (Cv.close (T := [0]) (chHead a2)))) rfl) HasAll.nil)) ?_
 refine wo (Spec.or (Has.s rfl) (fun h => Has.u rfl h)) ?_
 refine mv ?_
 refine wg rfl rfl (fun hb => Spec.move (Has.s rfl)) ?_
 refine wg rfl rfl (fun hb => Spec.len (Has.u rfl hb) Try.underlying31) ?_
 refine wg rfl rfl (fun hb => Spec.gtrI (Has.u rfl hb) Has.int) ?_
 refine wo (Spec.or (Has.s rfl) (fun h => Has.u rfl h)) ?_
 refine Walk.nil ?_
 refine Leaf.thenN ?_
 refine CWalk.cond rfl (fun hb => ?_) (fun hb => ?_)
 ·have hm := cond_t hb hm
  refine CWalk.seq ?_
  refine CWalk.region ?_
  refine wo (Spec.assign Has.bool) ?_
  refine Walk.nil ?_
  refine Leaf.thenN ?_
  refine CWalk.ret ?_
  refine Leaf.thenR ?_
  obtain rfl := Option.some.inj hm
  exact Leaf.retC1 rfl (HasR.cv (HasR.tmp (Has.s rfl)) Cv.fl)
 ·have hm := cond_f hb hm
  refine CWalk.skip ?_
  refine Leaf.thenN ?_
  refine CWalk.seq ?_
  refine CWalk.region ?_
  refine wo (Spec.loadObj (ls := [(false, 1, Fact.rep [] (a1.Stripe : Int)), (false, 1, Fact.rep [0] (a1.Blocks : List (List UInt8))), (false, 1, Fact.rep [0] (a1.Dirty : List Bool)), (false, 1, Fact.rep [] (a1.Phase : UInt8)), (false, 1, Fact.rep [] (a1.Deals : Bool)), (false, 1, Fact.rep [] (a1.Seq : UInt32))]) ty28 rfl rfl (Has.s rfl) rfl (HasGs.cons (HasG.s rfl) (HasGs.cons (HasG.s rfl) (HasGs.cons (HasG.s rfl) (HasGs.cons (HasG.s rfl) (HasGs.cons (HasG.s rfl) (HasGs.cons (HasG.s rfl) HasGs.nil))))))) ?_
  obtain ⟨x3, hx3, hm⟩ := bind_some hm
  refine wo (f := Fact.flds [(false, 1, Fact.rep [] (x3.Stripe : Int)), (false, 1, Fact.ow [33] [34] 31 (x3.Blocks : List (List UInt8))), (false, 1, Fact.ow [35] [] 4 (x3.Dirty : List Bool)), (false, 1, Fact.rep [] (x3.Phase : UInt8)), (false, 1, Fact.rep [] (x3.Deals : Bool)), (false, 1, Fact.rep [] (x3.Seq : UInt32))]) (Spec.callE [0] 33 rfl en10 (ref16_Twin_c a1 hx3) (HasAll.cons (Has.m (Has.cv (Has.s rfl) (Cv.trans (Cv.flds (CvL.cons Cv.fl (CvL.cons (Cv.m rfl) (CvL.cons (Cv.m rfl) (CvL.cons Cv.fl (CvL.cons Cv.fl (CvL.cons Cv.fl CvL.nil))))))) (Cv.close (T := [0]) (chHead a1)))) rfl) HasAll.nil)) ?_
  refine ws (Step.allocObj (ls := [(false, 1, Fact.rep [] ((0 : Int) : Int)), (false, 1, Fact.nilv), (false, 1, Fact.nilv), (false, 1, Fact.rep [] ((0 : UInt8) : UInt8)), (false, 1, Fact.rep [] (false : Bool)), (false, 1, Fact.rep [] ((0 : UInt32) : UInt32))]) 36 rfl rfl rfl rfl zl28) ?_
  refine ws (Step.storeObj (ls := [(false, 1, Fact.rep [] (x3.Stripe : Int)), (false, 1, Fact.ow [33] [34] 31 (x3.Blocks : List (List UInt8))), (false, 1, Fact.ow [35] [] 4 (x3.Dirty : List Bool)), (false, 1, Fact.rep [] (x3.Phase : UInt8)), (false, 1, Fact.rep [] (x3.Deals : Bool)), (false, 1, Fact.rep [] (x3.Seq : UInt32))]) rfl ty28 rfl rfl (Has.s rfl) rfl (HasL.flds (Has.s rfl)) rfl) ?_
  refine Walk.nil ?_
  refine Leaf.thenN ?_
  refine CWalk.seq ?_
  refine CWalk.region ?_
  refine wo (Spec.loadObj (ls := [(false, 1, Fact.rep [] (a0.Id : UInt32)), (false, 1, Fact.rep [] (a0.Members : Int)), (false, 1, Fact.rep [] (a0.Chunk : Int)), (false, 1, Fact.rep [] (a0.Rows : Int)), (false, 1, Fact.rep [] (a0.Log : Int)), (false, 1, Fact.rep [] (a0.Heads : Int))]) ty24 rfl rfl (Has.s rfl) rfl (HasGs.cons (HasG.s rfl) (HasGs.cons (HasG.s rfl) (HasGs.cons (HasG.s rfl) (HasGs.cons (HasG.s rfl) (HasGs.cons (HasG.s rfl) (HasGs.cons (HasG.s rfl) HasGs.nil))))))) ?_
  refine wo (Spec.loadObj (ls := [(false, 1, Fact.rep [] (x3.Stripe : Int)), (false, 1, Fact.ow [33] [34] 31 (x3.Blocks : List (List UInt8))), (false, 1, Fact.ow [35] [] 4 (x3.Dirty : List Bool)), (false, 1, Fact.rep [] (x3.Phase : UInt8)), (false, 1, Fact.rep [] (x3.Deals : Bool)), (false, 1, Fact.rep [] (x3.Seq : UInt32))]) ty28 rfl rfl (Has.s rfl) rfl (HasGs.cons (HasG.s rfl) (HasGs.cons (HasG.s rfl) (HasGs.cons (HasG.s rfl) (HasGs.cons (HasG.s rfl) (HasGs.cons (HasG.s rfl) (HasGs.cons (HasG.s rfl) HasGs.nil))))))) ?_
  refine mv ?_
  refine mv ?_
  obtain ⟨x4, hx4, hm⟩ := bind_some hm
  refine wo (f := Fact.tup2 (Fact.flds [(false, 1, Fact.rep [] (x4.1.Stripe : Int)), (false, 1, Fact.ow [43] [44] 31 (x4.1.Blocks : List (List UInt8))), (false, 1, Fact.ow [45] [] 4 (x4.1.Dirty : List Bool)), (false, 1, Fact.rep [] (x4.1.Phase : UInt8)), (false, 1, Fact.rep [] (x4.1.Deals : Bool)), (false, 1, Fact.rep [] (x4.1.Seq : UInt32))]) (Fact.rep [] (x4.2 : Int))) (Spec.callE [0, 33, 34, 35] 43 rfl en17 (head_Take_c a0 x3 a3 a4 hx4) (HasAll.cons (Has.fl (Has.cv (Has.s rfl) (Cv.trans (Cv.flds (CvL.cons Cv.fl (CvL.cons Cv.fl (CvL.cons Cv.fl (CvL.cons Cv.fl (CvL.cons Cv.fl (CvL.cons Cv.fl CvL.nil))))))) (Cv.close (T := []) (chConfig a0))))) (HasAll.cons (Has.m (Has.cv (Has.s rfl) (Cv.trans (Cv.flds (CvL.cons Cv.fl (CvL.cons (Cv.trans (Cv.trans Cv.owSl (Cv.slRep (T' := [33, 34]) rfl rfl)) (Cv.m rfl)) (CvL.cons (Cv.trans (Cv.trans Cv.owSl (Cv.slRep (T' := [35]) rfl rfl)) (Cv.m rfl)) (CvL.cons Cv.fl (CvL.cons Cv.fl (CvL.cons Cv.fl CvL.nil))))))) (Cv.close (T := [33, 34, 35]) (chHead x3)))) rfl) (HasAll.cons (Has.fl (Has.s rfl)) (HasAll.cons (Has.m (Has.s rfl) rfl) HasAll.nil))))) ?_
  refine mv ?_
  refine wo (Spec.ext0 (Has.s rfl)) ?_
  refine wo (Spec.ext1 (Has.s rfl)) ?_
  refine ws (Step.allocObj (ls := [(false, 1, Fact.rep [] ((0 : Int) : Int)), (false, 1, Fact.nilv), (false, 1, Fact.nilv), (false, 1, Fact.rep [] ((0 : UInt8) : UInt8)), (false, 1, Fact.rep [] (false : Bool)), (false, 1, Fact.rep [] ((0 : UInt32) : UInt32))]) 46 rfl rfl rfl rfl zl28) ?_
  refine ws (Step.storeObj (ls := [(false, 1, Fact.rep [] (x4.1.Stripe : Int)), (false, 1, Fact.ow [43] [44] 31 (x4.1.Blocks : List (List UInt8))), (false, 1, Fact.ow [45] [] 4 (x4.1.Dirty : List Bool)), (false, 1, Fact.rep [] (x4.1.Phase : UInt8)), (false, 1, Fact.rep [] (x4.1.Deals : Bool)), (false, 1, Fact.rep [] (x4.1.Seq : UInt32))]) rfl ty28 rfl rfl (Has.s rfl) rfl (HasL.flds (Has.s rfl)) rfl) ?_
  refine wo (Spec.assign (Has.s rfl)) ?_
  refine Walk.nil ?_
  refine Leaf.thenN ?_
  refine CWalk.seq ?_
  refine CWalk.region ?_
  refine wo (Spec.loadObj (ls := [(false, 1, Fact.rep [] (a0.Id : UInt32)), (false, 1, Fact.rep [] (a0.Members : Int)), (false, 1, Fact.rep [] (a0.Chunk : Int)), (false, 1, Fact.rep [] (a0.Rows : Int)), (false, 1, Fact.rep [] (a0.Log : Int)), (false, 1, Fact.rep [] (a0.Heads : Int))]) ty24 rfl rfl (Has.s rfl) rfl (HasGs.cons (HasG.s rfl) (HasGs.cons (HasG.s rfl) (HasGs.cons (HasG.s rfl) (HasGs.cons (HasG.s rfl) (HasGs.cons (HasG.s rfl) (HasGs.cons (HasG.s rfl) HasGs.nil))))))) ?_
  refine wo (Spec.loadObj (ls := [(false, 1, Fact.rep [] (a1.Stripe : Int)), (false, 1, Fact.rep [0] (a1.Blocks : List (List UInt8))), (false, 1, Fact.rep [0] (a1.Dirty : List Bool)), (false, 1, Fact.rep [] (a1.Phase : UInt8)), (false, 1, Fact.rep [] (a1.Deals : Bool)), (false, 1, Fact.rep [] (a1.Seq : UInt32))]) ty28 rfl rfl (Has.s rfl) rfl (HasGs.cons (HasG.s rfl) (HasGs.cons (HasG.s rfl) (HasGs.cons (HasG.s rfl) (HasGs.cons (HasG.s rfl) (HasGs.cons (HasG.s rfl) (HasGs.cons (HasG.s rfl) HasGs.nil))))))) ?_
  refine mv ?_
  refine mv ?_
  obtain ⟨x5, hx5, hm⟩ := bind_some hm
  refine wo (f := Fact.tup2 (Fact.flds [(false, 1, Fact.rep [] (x5.1.Stripe : Int)), (false, 1, Fact.ow [53] [54] 31 (x5.1.Blocks : List (List UInt8))), (false, 1, Fact.ow [55] [] 4 (x5.1.Dirty : List Bool)), (false, 1, Fact.rep [] (x5.1.Phase : UInt8)), (false, 1, Fact.rep [] (x5.1.Deals : Bool)), (false, 1, Fact.rep [] (x5.1.Seq : UInt32))]) (Fact.rep [] (x5.2 : Int))) (Spec.callE [0] 53 rfl en18 (ref16_Take_c a0 a1 a3 a4 hx5) (HasAll.cons (Has.fl (Has.cv (Has.s rfl) (Cv.trans (Cv.flds (CvL.cons Cv.fl (CvL.cons Cv.fl (CvL.cons Cv.fl (CvL.cons Cv.fl (CvL.cons Cv.fl (CvL.cons Cv.fl CvL.nil))))))) (Cv.close (T := []) (chConfig a0))))) (HasAll.cons (Has.m (Has.cv (Has.s rfl) (Cv.trans (Cv.flds (CvL.cons Cv.fl (CvL.cons (Cv.m rfl) (CvL.cons (Cv.m rfl) (CvL.cons Cv.fl (CvL.cons Cv.fl (CvL.cons Cv.fl CvL.nil))))))) (Cv.close (T := [0]) (chHead a1)))) rfl) (HasAll.cons (Has.fl (Has.s rfl)) (HasAll.cons (Has.m (Has.s rfl) rfl) HasAll.nil))))) ?_
  refine mv ?_
  refine wo (Spec.ext0 (Has.s rfl)) ?_
  refine wo (Spec.ext1 (Has.s rfl)) ?_
  refine ws (Step.allocObj (ls := [(false, 1, Fact.rep [] ((0 : Int) : Int)), (false, 1, Fact.nilv), (false, 1, Fact.nilv), (false, 1, Fact.rep [] ((0 : UInt8) : UInt8)), (false, 1, Fact.rep [] (false : Bool)), (false, 1, Fact.rep [] ((0 : UInt32) : UInt32))]) 56 rfl rfl rfl rfl zl28) ?_
  refine ws (Step.storeObj (ls := [(false, 1, Fact.rep [] (x5.1.Stripe : Int)), (false, 1, Fact.ow [53] [54] 31 (x5.1.Blocks : List (List UInt8))), (false, 1, Fact.ow [55] [] 4 (x5.1.Dirty : List Bool)), (false, 1, Fact.rep [] (x5.1.Phase : UInt8)), (false, 1, Fact.rep [] (x5.1.Deals : Bool)), (false, 1, Fact.rep [] (x5.1.Seq : UInt32))]) rfl ty28 rfl rfl (Has.s rfl) rfl (HasL.flds (Has.s rfl)) rfl) ?_
  refine wo (Spec.assign (Has.s rfl)) ?_
  refine Walk.nil ?_
  refine Leaf.thenN ?_
  refine CWalk.seq ?_
  refine CWalk.region ?_
  refine wo (Spec.loadObj (ls := [(false, 1, Fact.rep [] (a0.Id : UInt32)), (false, 1, Fact.rep [] (a0.Members : Int)), (false, 1, Fact.rep [] (a0.Chunk : Int)), (false, 1, Fact.rep [] (a0.Rows : Int)), (false, 1, Fact.rep [] (a0.Log : Int)), (false, 1, Fact.rep [] (a0.Heads : Int))]) ty24 rfl rfl (Has.s rfl) rfl (HasGs.cons (HasG.s rfl) (HasGs.cons (HasG.s rfl) (HasGs.cons (HasG.s rfl) (HasGs.cons (HasG.s rfl) (HasGs.cons (HasG.s rfl) (HasGs.cons (HasG.s rfl) HasGs.nil))))))) ?_
  refine wo (Spec.loadObj (ls := [(false, 1, Fact.rep [] (x3.Stripe : Int)), (false, 1, Fact.ow [33] [34] 31 (x3.Blocks : List (List UInt8))), (false, 1, Fact.ow [35] [] 4 (x3.Dirty : List Bool)), (false, 1, Fact.rep [] (x3.Phase : UInt8)), (false, 1, Fact.rep [] (x3.Deals : Bool)), (false, 1, Fact.rep [] (x3.Seq : UInt32))]) ty28 rfl rfl (Has.s rfl) rfl (HasGs.cons (HasG.s rfl) (HasGs.cons (HasG.s rfl) (HasGs.cons (HasG.s rfl) (HasGs.cons (HasG.s rfl) (HasGs.cons (HasG.s rfl) (HasGs.cons (HasG.s rfl) HasGs.nil))))))) ?_
  refine mv ?_
  refine mv ?_
  obtain ⟨x6, hx6, hm⟩ := bind_some hm
  refine wo (f := Fact.tup2 (Fact.flds [(false, 1, Fact.rep [] (x6.1.Stripe : Int)), (false, 1, Fact.ow [63] [64] 31 (x6.1.Blocks : List (List UInt8))), (false, 1, Fact.ow [65] [] 4 (x6.1.Dirty : List Bool)), (false, 1, Fact.rep [] (x6.1.Phase : UInt8)), (false, 1, Fact.rep [] (x6.1.Deals : Bool)), (false, 1, Fact.rep [] (x6.1.Seq : UInt32))]) (Fact.rep [] (x6.2 : Int))) (Spec.callE [0, 33, 34, 35] 63 rfl en19 (head_Know_c a0 x3 a3 a4 hx6) (HasAll.cons (Has.fl (Has.cv (Has.s rfl) (Cv.trans (Cv.flds (CvL.cons Cv.fl (CvL.cons Cv.fl (CvL.cons Cv.fl (CvL.cons Cv.fl (CvL.cons Cv.fl (CvL.cons Cv.fl CvL.nil))))))) (Cv.close (T := []) (chConfig a0))))) (HasAll.cons (Has.m (Has.cv (Has.s rfl) (Cv.trans (Cv.flds (CvL.cons Cv.fl (CvL.cons (Cv.trans (Cv.trans Cv.owSl (Cv.slRep (T' := [33, 34]) rfl rfl)) (Cv.m rfl)) (CvL.cons (Cv.trans (Cv.trans Cv.owSl (Cv.slRep (T' := [35]) rfl rfl)) (Cv.m rfl)) (CvL.cons Cv.fl (CvL.cons Cv.fl (CvL.cons Cv.fl CvL.nil))))))) (Cv.close (T := [33, 34, 35]) (chHead x3)))) rfl) (HasAll.cons (Has.fl (Has.s rfl)) (HasAll.cons (Has.m (Has.s rfl) rfl) HasAll.nil))))) ?_
  refine mv ?_
  refine wo (Spec.ext0 (Has.s rfl)) ?_
  refine wo (Spec.ext1 (Has.s rfl)) ?_
  refine ws (Step.allocObj (ls := [(false, 1, Fact.rep [] ((0 : Int) : Int)), (false, 1, Fact.nilv), (false, 1, Fact.nilv), (false, 1, Fact.rep [] ((0 : UInt8) : UInt8)), (false, 1, Fact.rep [] (false : Bool)), (false, 1, Fact.rep [] ((0 : UInt32) : UInt32))]) 66 rfl rfl rfl rfl zl28) ?_
  refine ws (Step.storeObj (ls := [(false, 1, Fact.rep [] (x6.1.Stripe : Int)), (false, 1, Fact.ow [63] [64] 31 (x6.1.Blocks : List (List UInt8))), (false, 1, Fact.ow [65] [] 4 (x6.1.Dirty : List Bool)), (false, 1, Fact.rep [] (x6.1.Phase : UInt8)), (false, 1, Fact.rep [] (x6.1.Deals : Bool)), (false, 1, Fact.rep [] (x6.1.Seq : UInt32))]) rfl ty28 rfl rfl (Has.s rfl) rfl (HasL.flds (Has.s rfl)) rfl) ?_
  refine wo (Spec.assign (Has.s rfl)) ?_
  refine Walk.nil ?_
  refine Leaf.thenN ?_
  refine CWalk.seq ?_
  refine CWalk.region ?_
  refine wo (Spec.loadObj (ls := [(false, 1, Fact.rep [] (a0.Id : UInt32)), (false, 1, Fact.rep [] (a0.Members : Int)), (false, 1, Fact.rep [] (a0.Chunk : Int)), (false, 1, Fact.rep [] (a0.Rows : Int)), (false, 1, Fact.rep [] (a0.Log : Int)), (false, 1, Fact.rep [] (a0.Heads : Int))]) ty24 rfl rfl (Has.s rfl) rfl (HasGs.cons (HasG.s rfl) (HasGs.cons (HasG.s rfl) (HasGs.cons (HasG.s rfl) (HasGs.cons (HasG.s rfl) (HasGs.cons (HasG.s rfl) (HasGs.cons (HasG.s rfl) HasGs.nil))))))) ?_
  refine wo (Spec.loadObj (ls := [(false, 1, Fact.rep [] (a1.Stripe : Int)), (false, 1, Fact.rep [0] (a1.Blocks : List (List UInt8))), (false, 1, Fact.rep [0] (a1.Dirty : List Bool)), (false, 1, Fact.rep [] (a1.Phase : UInt8)), (false, 1, Fact.rep [] (a1.Deals : Bool)), (false, 1, Fact.rep [] (a1.Seq : UInt32))]) ty28 rfl rfl (Has.s rfl) rfl (HasGs.cons (HasG.s rfl) (HasGs.cons (HasG.s rfl) (HasGs.cons (HasG.s rfl) (HasGs.cons (HasG.s rfl) (HasGs.cons (HasG.s rfl) (HasGs.cons (HasG.s rfl) HasGs.nil))))))) ?_
  refine mv ?_
  refine mv ?_
  obtain ⟨x7, hx7, hm⟩ := bind_some hm
  refine wo (f := Fact.tup2 (Fact.flds [(false, 1, Fact.rep [] (x7.1.Stripe : Int)), (false, 1, Fact.ow [73] [74] 31 (x7.1.Blocks : List (List UInt8))), (false, 1, Fact.ow [75] [] 4 (x7.1.Dirty : List Bool)), (false, 1, Fact.rep [] (x7.1.Phase : UInt8)), (false, 1, Fact.rep [] (x7.1.Deals : Bool)), (false, 1, Fact.rep [] (x7.1.Seq : UInt32))]) (Fact.rep [] (x7.2 : Int))) (Spec.callE [0] 73 rfl en20 (ref16_Know_c a0 a1 a3 a4 hx7) (HasAll.cons (Has.fl (Has.cv (Has.s rfl) (Cv.trans (Cv.flds (CvL.cons Cv.fl (CvL.cons Cv.fl (CvL.cons Cv.fl (CvL.cons Cv.fl (CvL.cons Cv.fl (CvL.cons Cv.fl CvL.nil))))))) (Cv.close (T := []) (chConfig a0))))) (HasAll.cons (Has.m (Has.cv (Has.s rfl) (Cv.trans (Cv.flds (CvL.cons Cv.fl (CvL.cons (Cv.m rfl) (CvL.cons (Cv.m rfl) (CvL.cons Cv.fl (CvL.cons Cv.fl (CvL.cons Cv.fl CvL.nil))))))) (Cv.close (T := [0]) (chHead a1)))) rfl) (HasAll.cons (Has.fl (Has.s rfl)) (HasAll.cons (Has.m (Has.s rfl) rfl) HasAll.nil))))) ?_
  refine mv ?_
  refine wo (Spec.ext0 (Has.s rfl)) ?_
  refine wo (Spec.ext1 (Has.s rfl)) ?_
  refine ws (Step.allocObj (ls := [(false, 1, Fact.rep [] ((0 : Int) : Int)), (false, 1, Fact.nilv), (false, 1, Fact.nilv), (false, 1, Fact.rep [] ((0 : UInt8) : UInt8)), (false, 1, Fact.rep [] (false : Bool)), (false, 1, Fact.rep [] ((0 : UInt32) : UInt32))]) 76 rfl rfl rfl rfl zl28) ?_
  refine ws (Step.storeObj (ls := [(false, 1, Fact.rep [] (x7.1.Stripe : Int)), (false, 1, Fact.ow [73] [74] 31 (x7.1.Blocks : List (List UInt8))), (false, 1, Fact.ow [75] [] 4 (x7.1.Dirty : List Bool)), (false, 1, Fact.rep [] (x7.1.Phase : UInt8)), (false, 1, Fact.rep [] (x7.1.Deals : Bool)), (false, 1, Fact.rep [] (x7.1.Seq : UInt32))]) rfl ty28 rfl rfl (Has.s rfl) rfl (HasL.flds (Has.s rfl)) rfl) ?_
  refine wo (Spec.assign (Has.s rfl)) ?_
  refine Walk.nil ?_
  refine Leaf.thenN ?_
  refine CWalk.seq ?_
  refine CWalk.region ?_
  refine wo (Spec.loadObj (ls := [(false, 1, Fact.rep [] (a0.Id : UInt32)), (false, 1, Fact.rep [] (a0.Members : Int)), (false, 1, Fact.rep [] (a0.Chunk : Int)), (false, 1, Fact.rep [] (a0.Rows : Int)), (false, 1, Fact.rep [] (a0.Log : Int)), (false, 1, Fact.rep [] (a0.Heads : Int))]) ty24 rfl rfl (Has.s rfl) rfl (HasGs.cons (HasG.s rfl) (HasGs.cons (HasG.s rfl) (HasGs.cons (HasG.s rfl) (HasGs.cons (HasG.s rfl) (HasGs.cons (HasG.s rfl) (HasGs.cons (HasG.s rfl) HasGs.nil))))))) ?_
  refine mv ?_
  obtain ⟨x8, hx8, hm⟩ := bind_some hm
  refine wo (f := Fact.tup2 (Fact.flds [(false, 1, Fact.rep [] (x8.1.Stripe : Int)), (false, 1, Fact.ow [83] [] 31 (x8.1.Blocks : List (List UInt8))), (false, 1, Fact.ow [84] [] 4 (x8.1.Dirty : List Bool)), (false, 1, Fact.rep [] (x8.1.Phase : UInt8)), (false, 1, Fact.rep [] (x8.1.Deals : Bool)), (false, 1, Fact.rep [] (x8.1.Seq : UInt32))]) (Fact.rep [] (x8.2 : Int))) (Spec.callE [] 83 rfl en21 (head_New_c a0 a3 hx8) (HasAll.cons (Has.fl (Has.cv (Has.s rfl) (Cv.trans (Cv.flds (CvL.cons Cv.fl (CvL.cons Cv.fl (CvL.cons Cv.fl (CvL.cons Cv.fl (CvL.cons Cv.fl (CvL.cons Cv.fl CvL.nil))))))) (Cv.close (T := []) (chConfig a0))))) (HasAll.cons (Has.fl (Has.s rfl)) HasAll.nil))) ?_
  refine mv ?_
  refine wo (Spec.ext0 (Has.s rfl)) ?_
  refine wo (Spec.ext1 (Has.s rfl)) ?_
  refine ws (Step.allocObj (ls := [(false, 1, Fact.rep [] ((0 : Int) : Int)), (false, 1, Fact.nilv), (false, 1, Fact.nilv), (false, 1, Fact.rep [] ((0 : UInt8) : UInt8)), (false, 1, Fact.rep [] (false : Bool)), (false, 1, Fact.rep [] ((0 : UInt32) : UInt32))]) 85 rfl rfl rfl rfl zl28) ?_
  refine ws (Step.storeObj (ls := [(false, 1, Fact.rep [] (x8.1.Stripe : Int)), (false, 1, Fact.ow [83] [] 31 (x8.1.Blocks : List (List UInt8))), (false, 1, Fact.ow [84] [] 4 (x8.1.Dirty : List Bool)), (false, 1, Fact.rep [] (x8.1.Phase : UInt8)), (false, 1, Fact.rep [] (x8.1.Deals : Bool)), (false, 1, Fact.rep [] (x8.1.Seq : UInt32))]) rfl ty28 rfl rfl (Has.s rfl) rfl (HasL.flds (Has.s rfl)) rfl) ?_
  refine wo (Spec.assign (Has.s rfl)) ?_
  refine Walk.nil ?_
  refine Leaf.thenN ?_
  refine CWalk.seq ?_
  refine CWalk.region ?_
  refine wo (Spec.loadObj (ls := [(false, 1, Fact.rep [] (a0.Id : UInt32)), (false, 1, Fact.rep [] (a0.Members : Int)), (false, 1, Fact.rep [] (a0.Chunk : Int)), (false, 1, Fact.rep [] (a0.Rows : Int)), (false, 1, Fact.rep [] (a0.Log : Int)), (false, 1, Fact.rep [] (a0.Heads : Int))]) ty24 rfl rfl (Has.s rfl) rfl (HasGs.cons (HasG.s rfl) (HasGs.cons (HasG.s rfl) (HasGs.cons (HasG.s rfl) (HasGs.cons (HasG.s rfl) (HasGs.cons (HasG.s rfl) (HasGs.cons (HasG.s rfl) HasGs.nil))))))) ?_
  refine mv ?_
  obtain ⟨x9, hx9, hm⟩ := bind_some hm
  refine wo (f := Fact.tup2 (Fact.flds [(false, 1, Fact.rep [] (x9.1.Stripe : Int)), (false, 1, Fact.ow [92] [] 31 (x9.1.Blocks : List (List UInt8))), (false, 1, Fact.ow [93] [] 4 (x9.1.Dirty : List Bool)), (false, 1, Fact.rep [] (x9.1.Phase : UInt8)), (false, 1, Fact.rep [] (x9.1.Deals : Bool)), (false, 1, Fact.rep [] (x9.1.Seq : UInt32))]) (Fact.rep [] (x9.2 : Int))) (Spec.callE [] 92 rfl en22 (ref16_New_c a0 a3 hx9) (HasAll.cons (Has.fl (Has.cv (Has.s rfl) (Cv.trans (Cv.flds (CvL.cons Cv.fl (CvL.cons Cv.fl (CvL.cons Cv.fl (CvL.cons Cv.fl (CvL.cons Cv.fl (CvL.cons Cv.fl CvL.nil))))))) (Cv.close (T := []) (chConfig a0))))) (HasAll.cons (Has.fl (Has.s rfl)) HasAll.nil))) ?_
  refine mv ?_
  refine wo (Spec.ext0 (Has.s rfl)) ?_
  refine wo (Spec.ext1 (Has.s rfl)) ?_
  refine ws (Step.allocObj (ls := [(false, 1, Fact.rep [] ((0 : Int) : Int)), (false, 1, Fact.nilv), (false, 1, Fact.nilv), (false, 1, Fact.rep [] ((0 : UInt8) : UInt8)), (false, 1, Fact.rep [] (false : Bool)), (false, 1, Fact.rep [] ((0 : UInt32) : UInt32))]) 94 rfl rfl rfl rfl zl28) ?_
  refine ws (Step.storeObj (ls := [(false, 1, Fact.rep [] (x9.1.Stripe : Int)), (false, 1, Fact.ow [92] [] 31 (x9.1.Blocks : List (List UInt8))), (false, 1, Fact.ow [93] [] 4 (x9.1.Dirty : List Bool)), (false, 1, Fact.rep [] (x9.1.Phase : UInt8)), (false, 1, Fact.rep [] (x9.1.Deals : Bool)), (false, 1, Fact.rep [] (x9.1.Seq : UInt32))]) rfl ty28 rfl rfl (Has.s rfl) rfl (HasL.flds (Has.s rfl)) rfl) ?_
  refine wo (Spec.assign (Has.s rfl)) ?_
  refine Walk.nil ?_
  refine Leaf.thenN ?_
  refine CWalk.seq ?_
  refine CWalk.region ?_
  refine wo (Spec.loadObj (ls := [(false, 1, Fact.rep [] (x3.Stripe : Int)), (false, 1, Fact.ow [33] [34] 31 (x3.Blocks : List (List UInt8))), (false, 1, Fact.ow [35] [] 4 (x3.Dirty : List Bool)), (false, 1, Fact.rep [] (x3.Phase : UInt8)), (false, 1, Fact.rep [] (x3.Deals : Bool)), (false, 1, Fact.rep [] (x3.Seq : UInt32))]) ty28 rfl rfl (Has.s rfl) rfl (HasGs.cons (HasG.s rfl) (HasGs.cons (HasG.s rfl) (HasGs.cons (HasG.s rfl) (HasGs.cons (HasG.s rfl) (HasGs.cons (HasG.s rfl) (HasGs.cons (HasG.s rfl) HasGs.nil))))))) ?_
  obtain ⟨x10, hx10, hm⟩ := bind_some hm
  refine wo (f := Fact.flds [(false, 1, Fact.rep [] (x10.Stripe : Int)), (false, 1, Fact.ow [101] [102] 31 (x10.Blocks : List (List UInt8))), (false, 1, Fact.ow [103] [] 4 (x10.Dirty : List Bool)), (false, 1, Fact.rep [] (x10.Phase : UInt8)), (false, 1, Fact.rep [] (x10.Deals : Bool)), (false, 1, Fact.rep [] (x10.Seq : UInt32))]) (Spec.callE [33, 34, 35] 101 rfl en23 (head_Twin_c x3 hx10) (HasAll.cons (Has.m (Has.cv (Has.s rfl) (Cv.trans (Cv.flds (CvL.cons Cv.fl (CvL.cons (Cv.trans (Cv.trans Cv.owSl (Cv.slRep (T' := [33, 34]) rfl rfl)) (Cv.m rfl)) (CvL.cons (Cv.trans (Cv.trans Cv.owSl (Cv.slRep (T' := [35]) rfl rfl)) (Cv.m rfl)) (CvL.cons Cv.fl (CvL.cons Cv.fl (CvL.cons Cv.fl CvL.nil))))))) (Cv.close (T := [33, 34, 35]) (chHead x3)))) rfl) HasAll.nil)) ?_
  refine ws (Step.allocObj (ls := [(false, 1, Fact.rep [] ((0 : Int) : Int)), (false, 1, Fact.nilv), (false, 1, Fact.nilv), (false, 1, Fact.rep [] ((0 : UInt8) : UInt8)), (false, 1, Fact.rep [] (false : Bool)), (false, 1, Fact.rep [] ((0 : UInt32) : UInt32))]) 104 rfl rfl rfl rfl zl28) ?_
  refine ws (Step.storeObj (ls := [(false, 1, Fact.rep [] (x10.Stripe : Int)), (false, 1, Fact.ow [101] [102] 31 (x10.Blocks : List (List UInt8))), (false, 1, Fact.ow [103] [] 4 (x10.Dirty : List Bool)), (false, 1, Fact.rep [] (x10.Phase : UInt8)), (false, 1, Fact.rep [] (x10.Deals : Bool)), (false, 1, Fact.rep [] (x10.Seq : UInt32))]) rfl ty28 rfl rfl (Has.s rfl) rfl (HasL.flds (Has.s rfl)) rfl) ?_
  refine Walk.nil ?_
  refine Leaf.thenN ?_
  refine CWalk.seq ?_
  refine CWalk.region ?_
  refine wo (Spec.loadObj (ls := [(false, 1, Fact.rep [] (x4.1.Stripe : Int)), (false, 1, Fact.ow [43] [44] 31 (x4.1.Blocks : List (List UInt8))), (false, 1, Fact.ow [45] [] 4 (x4.1.Dirty : List Bool)), (false, 1, Fact.rep [] (x4.1.Phase : UInt8)), (false, 1, Fact.rep [] (x4.1.Deals : Bool)), (false, 1, Fact.rep [] (x4.1.Seq : UInt32))]) ty28 rfl rfl (Has.s rfl) rfl (HasGs.cons (HasG.s rfl) (HasGs.cons (HasG.s rfl) (HasGs.cons (HasG.s rfl) (HasGs.cons (HasG.s rfl) (HasGs.cons (HasG.s rfl) (HasGs.cons (HasG.s rfl) HasGs.nil))))))) ?_
  refine wo (Spec.loadObj (ls := [(false, 1, Fact.rep [] (x5.1.Stripe : Int)), (false, 1, Fact.ow [53] [54] 31 (x5.1.Blocks : List (List UInt8))), (false, 1, Fact.ow [55] [] 4 (x5.1.Dirty : List Bool)), (false, 1, Fact.rep [] (x5.1.Phase : UInt8)), (false, 1, Fact.rep [] (x5.1.Deals : Bool)), (false, 1, Fact.rep [] (x5.1.Seq : UInt32))]) ty28 rfl rfl (Has.s rfl) rfl (HasGs.cons (HasG.s rfl) (HasGs.cons (HasG.s rfl) (HasGs.cons (HasG.s rfl) (HasGs.cons (HasG.s rfl) (HasGs.cons (HasG.s rfl) (HasGs.cons (HasG.s rfl) HasGs.nil))))))) ?_
  obtain ⟨x11, hx11, hm⟩ := bind_some hm
  refine wo (f := Fact.rep [] (x11 : Bool)) (Spec.callE [43, 44, 45, 53, 54, 55] 111 rfl en16 (ref16_Same_c x4.1 x5.1 hx11) (HasAll.cons (Has.m (Has.cv (Has.s rfl) (Cv.trans (Cv.flds (CvL.cons Cv.fl (CvL.cons (Cv.trans (Cv.trans Cv.owSl (Cv.slRep (T' := [43, 44]) rfl rfl)) (Cv.m rfl)) (CvL.cons (Cv.trans (Cv.trans Cv.owSl (Cv.slRep (T' := [45]) rfl rfl)) (Cv.m rfl)) (CvL.cons Cv.fl (CvL.cons Cv.fl (CvL.cons Cv.fl CvL.nil))))))) (Cv.close (T := [43, 44, 45]) (chHead x4.1)))) rfl) (HasAll.cons (Has.m (Has.cv (Has.s rfl) (Cv.trans (Cv.flds (CvL.cons Cv.fl (CvL.cons (Cv.trans (Cv.trans Cv.owSl (Cv.slRep (T' := [53, 54]) rfl rfl)) (Cv.m rfl)) (CvL.cons (Cv.trans (Cv.trans Cv.owSl (Cv.slRep (T' := [55]) rfl rfl)) (Cv.m rfl)) (CvL.cons Cv.fl (CvL.cons Cv.fl (CvL.cons Cv.fl CvL.nil))))))) (Cv.close (T := [53, 54, 55]) (chHead x5.1)))) rfl) HasAll.nil))) ?_
  refine mv ?_
  refine wg rfl rfl (fun hb => Spec.move (Has.s rfl)) ?_
  refine wg rfl rfl (fun hb => Spec.move (Has.s rfl)) ?_
  refine wg rfl rfl (fun hb => Spec.eqlI (Has.u rfl hb) (Has.u rfl hb)) ?_
  refine wo (Spec.and (Has.s rfl) (fun h => Has.u rfl h)) ?_
  refine mv ?_
  refine wg rfl rfl (fun hb => Spec.loadObj (ls := [(false, 1, Fact.rep [] (x6.1.Stripe : Int)), (false, 1, Fact.ow [63] [64] 31 (x6.1.Blocks : List (List UInt8))), (false, 1, Fact.ow [65] [] 4 (x6.1.Dirty : List Bool)), (false, 1, Fact.rep [] (x6.1.Phase : UInt8)), (false, 1, Fact.rep [] (x6.1.Deals : Bool)), (false, 1, Fact.rep [] (x6.1.Seq : UInt32))]) ty28 rfl rfl (Has.s rfl) rfl (HasGs.cons (HasG.s rfl) (HasGs.cons (HasG.s rfl) (HasGs.cons (HasG.s rfl) (HasGs.cons (HasG.s rfl) (HasGs.cons (HasG.s rfl) (HasGs.cons (HasG.s rfl) HasGs.nil))))))) ?_
  refine wg rfl rfl (fun hb => Spec.loadObj (ls := [(false, 1, Fact.rep [] (x7.1.Stripe : Int)), (false, 1, Fact.ow [73] [74] 31 (x7.1.Blocks : List (List UInt8))), (false, 1, Fact.ow [75] [] 4 (x7.1.Dirty : List Bool)), (false, 1, Fact.rep [] (x7.1.Phase : UInt8)), (false, 1, Fact.rep [] (x7.1.Deals : Bool)), (false, 1, Fact.rep [] (x7.1.Seq : UInt32))]) ty28 rfl rfl (Has.s rfl) rfl (HasGs.cons (HasG.s rfl) (HasGs.cons (HasG.s rfl) (HasGs.cons (HasG.s rfl) (HasGs.cons (HasG.s rfl) (HasGs.cons (HasG.s rfl) (HasGs.cons (HasG.s rfl) HasGs.nil))))))) ?_
  obtain ⟨x12, hx12, hm⟩ := bind_some hm
  refine wg (f := Fact.rep [] (x12 : Bool)) rfl rfl (fun hb => Spec.callE [63, 64, 65, 73, 74, 75] 112 rfl en16 (ref16_Same_c x6.1 x7.1 (gO_t hx12 hb)) (HasAll.cons (Has.m (Has.cv (Has.u rfl hb) (Cv.trans (Cv.flds (CvL.cons Cv.fl (CvL.cons (Cv.trans (Cv.trans Cv.owSl (Cv.slRep (T' := [63, 64]) rfl rfl)) (Cv.m rfl)) (CvL.cons (Cv.trans (Cv.trans Cv.owSl (Cv.slRep (T' := [65]) rfl rfl)) (Cv.m rfl)) (CvL.cons Cv.fl (CvL.cons Cv.fl (CvL.cons Cv.fl CvL.nil))))))) (Cv.close (T := [63, 64, 65]) (chHead x6.1)))) rfl) (HasAll.cons (Has.m (Has.cv (Has.u rfl hb) (Cv.trans (Cv.flds (CvL.cons Cv.fl (CvL.cons (Cv.trans (Cv.trans Cv.owSl (Cv.slRep (T' := [73, 74]) rfl rfl)) (Cv.m rfl)) (CvL.cons (Cv.trans (Cv.trans Cv.owSl (Cv.slRep (T' := [75]) rfl rfl)) (Cv.m rfl)) (CvL.cons Cv.fl (CvL.cons Cv.fl (CvL.cons Cv.fl CvL.nil))))))) (Cv.close (T := [73, 74, 75]) (chHead x7.1)))) rfl) HasAll.nil))) ?_
  refine wo (Spec.and (Has.s rfl) (fun h => Has.u rfl h)) ?_
  refine mv ?_
  refine wg rfl rfl (fun hb => Spec.move (Has.s rfl)) ?_
  refine wg rfl rfl (fun hb => Spec.move (Has.s rfl)) ?_
  refine wg rfl rfl (fun hb => Spec.eqlI (Has.u rfl hb) (Has.u rfl hb)) ?_
  refine wo (Spec.and (Has.s rfl) (fun h => Has.u rfl h)) ?_
  refine mv ?_
  refine wg rfl rfl (fun hb => Spec.loadObj (ls := [(false, 1, Fact.rep [] (x8.1.Stripe : Int)), (false, 1, Fact.ow [83] [] 31 (x8.1.Blocks : List (List UInt8))), (false, 1, Fact.ow [84] [] 4 (x8.1.Dirty : List Bool)), (false, 1, Fact.rep [] (x8.1.Phase : UInt8)), (false, 1, Fact.rep [] (x8.1.Deals : Bool)), (false, 1, Fact.rep [] (x8.1.Seq : UInt32))]) ty28 rfl rfl (Has.s rfl) rfl (HasGs.cons (HasG.s rfl) (HasGs.cons (HasG.s rfl) (HasGs.cons (HasG.s rfl) (HasGs.cons (HasG.s rfl) (HasGs.cons (HasG.s rfl) (HasGs.cons (HasG.s rfl) HasGs.nil))))))) ?_
  refine wg rfl rfl (fun hb => Spec.loadObj (ls := [(false, 1, Fact.rep [] (x9.1.Stripe : Int)), (false, 1, Fact.ow [92] [] 31 (x9.1.Blocks : List (List UInt8))), (false, 1, Fact.ow [93] [] 4 (x9.1.Dirty : List Bool)), (false, 1, Fact.rep [] (x9.1.Phase : UInt8)), (false, 1, Fact.rep [] (x9.1.Deals : Bool)), (false, 1, Fact.rep [] (x9.1.Seq : UInt32))]) ty28 rfl rfl (Has.s rfl) rfl (HasGs.cons (HasG.s rfl) (HasGs.cons (HasG.s rfl) (HasGs.cons (HasG.s rfl) (HasGs.cons (HasG.s rfl) (HasGs.cons (HasG.s rfl) (HasGs.cons (HasG.s rfl) HasGs.nil))))))) ?_
  obtain ⟨x13, hx13, hm⟩ := bind_some hm
  refine wg (f := Fact.rep [] (x13 : Bool)) rfl rfl (fun hb => Spec.callE [83, 84, 92, 93] 113 rfl en16 (ref16_Same_c x8.1 x9.1 (gO_t hx13 hb)) (HasAll.cons (Has.m (Has.cv (Has.u rfl hb) (Cv.trans (Cv.flds (CvL.cons Cv.fl (CvL.cons (Cv.trans (Cv.trans Cv.owSl (Cv.slRep (T' := [83]) rfl rfl)) (Cv.m rfl)) (CvL.cons (Cv.trans (Cv.trans Cv.owSl (Cv.slRep (T' := [84]) rfl rfl)) (Cv.m rfl)) (CvL.cons Cv.fl (CvL.cons Cv.fl (CvL.cons Cv.fl CvL.nil))))))) (Cv.close (T := [83, 84]) (chHead x8.1)))) rfl) (HasAll.cons (Has.m (Has.cv (Has.u rfl hb) (Cv.trans (Cv.flds (CvL.cons Cv.fl (CvL.cons (Cv.trans (Cv.trans Cv.owSl (Cv.slRep (T' := [92]) rfl rfl)) (Cv.m rfl)) (CvL.cons (Cv.trans (Cv.trans Cv.owSl (Cv.slRep (T' := [93]) rfl rfl)) (Cv.m rfl)) (CvL.cons Cv.fl (CvL.cons Cv.fl (CvL.cons Cv.fl CvL.nil))))))) (Cv.close (T := [92, 93]) (chHead x9.1)))) rfl) HasAll.nil))) ?_
  refine wo (Spec.and (Has.s rfl) (fun h => Has.u rfl h)) ?_
  refine mv ?_
  refine wg rfl rfl (fun hb => Spec.move (Has.s rfl)) ?_
  refine wg rfl rfl (fun hb => Spec.move (Has.s rfl)) ?_
  refine wg rfl rfl (fun hb => Spec.eqlI (Has.u rfl hb) (Has.u rfl hb)) ?_
  refine wo (Spec.and (Has.s rfl) (fun h => Has.u rfl h)) ?_
  refine wo (Spec.assign (Has.s rfl)) ?_
  refine Walk.nil ?_
  refine Leaf.thenN ?_
  refine CWalk.seq ?_
  obtain ⟨x14, hx14, hm⟩ := bind_some hm
  obtain ⟨x15, hx15, hm⟩ := bind_some hm
  obtain ⟨x16, hx16, hm⟩ := bind_some hm
  obtain ⟨x17, hx17, hm⟩ := bind_some hm
  obtain ⟨x18, hx18, hm⟩ := bind_some hm
  obtain ⟨x19, hx19, hm⟩ := bind_some hm
  refine CWalk.drawM [[], [], [0, 1], [], [], [0, 1, 2, 3, 4], [0, 1, 2, 3, 4, 5], [0, 1, 2, 3, 4, 5, 6], [0, 1, 2, 3, 4, 5, 6, 7], [0, 1, 2, 3, 4, 5, 6, 7], [0, 1, 2, 3, 4, 5, 6, 7, 8, 9], [0, 1, 2, 3, 4, 5, 6, 7, 8, 9, 10], [0, 1, 2, 3, 4, 5, 6, 7, 8, 9, 10, 11], [0, 1, 2, 3, 4, 5, 6, 7, 8, 9, 10, 11, 12], [0, 1, 2, 3, 4, 5, 6, 7, 8, 9, 10, 11, 12], [0, 1, 2, 3, 4, 5, 6, 7, 8, 9, 10, 11, 12, 13, 14], [0, 1, 2, 3, 4, 5, 6, 7, 8, 9, 10, 11, 12], [0, 1, 2, 3, 4, 5, 6, 7, 8, 9, 10, 11, 12], [0, 1, 2, 3, 4, 5, 6, 7, 8, 9, 10, 11, 12, 13, 14, 15, 16, 17], [0, 1, 2, 3, 4, 5, 6, 7, 8, 9, 10, 11, 12, 13, 14, 15, 16, 17, 18], [0, 1, 2, 3, 4, 5, 6, 7, 8, 9, 10, 11, 12, 13, 14, 15, 16, 17, 18, 19], [0, 1, 2, 3, 4, 5, 6, 7, 8, 9, 10, 11, 12, 13, 14, 15, 16, 17, 18, 19, 20], [0, 1, 2, 3, 4, 5, 6, 7, 8, 9, 10, 11, 12, 13, 14, 15, 16, 17, 18, 19, 20, 21], [0, 1, 2, 3, 4, 5, 6, 7, 8, 9, 10, 11, 12, 13, 14, 15, 16, 17, 18, 19, 20, 21], [0, 1, 2, 3, 4, 5, 6, 7, 8, 9, 10, 11, 12, 13, 14, 15, 16, 17, 18, 19, 20, 21, 22, 23], [0, 1, 2, 3, 4, 5, 6, 7, 8, 9, 10, 11, 12, 13, 14, 15, 16, 17, 18, 19, 20, 21, 22, 23, 24], [0, 1, 2, 3, 4, 5, 6, 7, 8, 9, 10, 11, 12, 13, 14, 15, 16, 17, 18, 19, 20, 21, 22, 23, 24, 25]] [[.fact 114 (Fact.flds [(false, 1, Fact.rep [] (a0.Id : UInt32)), (false, 1, Fact.rep [] (a0.Members : Int)), (false, 1, Fact.rep [] (a0.Chunk : Int)), (false, 1, Fact.rep [] (a0.Rows : Int)), (false, 1, Fact.rep [] (a0.Log : Int)), (false, 1, Fact.rep [] (a0.Heads : Int))])], [.fact 115 (Fact.flds [(false, 1, Fact.rep [] (x3.Stripe : Int)), (false, 1, Fact.ow [33] [34] 31 (x3.Blocks : List (List UInt8))), (false, 1, Fact.ow [35] [] 4 (x3.Dirty : List Bool)), (false, 1, Fact.rep [] (x3.Phase : UInt8)), (false, 1, Fact.rep [] (x3.Deals : Bool)), (false, 1, Fact.rep [] (x3.Seq : UInt32))])], [.fact 116 (Fact.rep [] (x14 : Int))], [.fact 117 (Fact.flds [(false, 1, Fact.rep [] (a0.Id : UInt32)), (false, 1, Fact.rep [] (a0.Members : Int)), (false, 1, Fact.rep [] (a0.Chunk : Int)), (false, 1, Fact.rep [] (a0.Rows : Int)), (false, 1, Fact.rep [] (a0.Log : Int)), (false, 1, Fact.rep [] (a0.Heads : Int))])], [.fact 118 (Fact.flds [(false, 1, Fact.rep [] (a1.Stripe : Int)), (false, 1, Fact.rep [0] (a1.Blocks : List (List UInt8))), (false, 1, Fact.rep [0] (a1.Dirty : List Bool)), (false, 1, Fact.rep [] (a1.Phase : UInt8)), (false, 1, Fact.rep [] (a1.Deals : Bool)), (false, 1, Fact.rep [] (a1.Seq : UInt32))])], [.fact 119 (Fact.rep [] (x15 : Int))], [.fact 120 (Fact.rep [] ((x14 == x15) : Bool))], [.fact 121 (Fact.rep [] ((x14 == x15) : Bool))], [.fact 122 (Fact.under ((x14 == x15) = true) (.flds [(false, 1, Fact.rep [] (x10.Stripe : Int)), (false, 1, Fact.ow [101] [102] 31 (x10.Blocks : List (List UInt8))), (false, 1, Fact.ow [103] [] 4 (x10.Dirty : List Bool)), (false, 1, Fact.rep [] (x10.Phase : UInt8)), (false, 1, Fact.rep [] (x10.Deals : Bool)), (false, 1, Fact.rep [] (x10.Seq : UInt32))]))], [.fact 123 (Fact.under ((x14 == x15) = true) (.flds [(false, 1, Fact.rep [] (a1.Stripe : Int)), (false, 1, Fact.rep [0] (a1.Blocks : List (List UInt8))), (false, 1, Fact.rep [0] (a1.Dirty : List Bool)), (false, 1, Fact.rep [] (a1.Phase : UInt8)), (false, 1, Fact.rep [] (a1.Deals : Bool)), (false, 1, Fact.rep [] (a1.Seq : UInt32))]))], [.fact 124 (Fact.under ((x14 == x15) = true) (.rep [] (x16 : Bool)))], [.fact 125 (Fact.rep [] (((x14 == x15) && x16) : Bool))], [.fact 126 (Fact.rep [] (((x14 == x15) && x16) : Bool))], [.fact 127 (Fact.under (((x14 == x15) && x16) = true) (.flds [(false, 1, Fact.rep [] (a1.Stripe : Int)), (false, 1, Fact.rep [0] (a1.Blocks : List (List UInt8))), (false, 1, Fact.rep [0] (a1.Dirty : List Bool)), (false, 1, Fact.rep [] (a1.Phase : UInt8)), (false, 1, Fact.rep [] (a1.Deals : Bool)), (false, 1, Fact.rep [] (a1.Seq : UInt32))]))], [.fact 128 (Fact.under (((x14 == x15) && x16) = true) (.flds [(false, 1, Fact.rep [] (a2.Stripe : Int)), (false, 1, Fact.rep [0] (a2.Blocks : List (List UInt8))), (false, 1, Fact.rep [0] (a2.Dirty : List Bool)), (false, 1, Fact.rep [] (a2.Phase : UInt8)), (false, 1, Fact.rep [] (a2.Deals : Bool)), (false, 1, Fact.rep [] (a2.Seq : UInt32))]))], [.fact 129 (Fact.under (((x14 == x15) && x16) = true) (.rep [] (x17 : Bool)))], [.fact 130 (Fact.under (((x14 == x15) && x16) = true) (.flds [(false, 1, Fact.rep [] (a1.Stripe : Int)), (false, 1, Fact.rep [0] (a1.Blocks : List (List UInt8))), (false, 1, Fact.rep [0] (a1.Dirty : List Bool)), (false, 1, Fact.rep [] (a1.Phase : UInt8)), (false, 1, Fact.rep [] (a1.Deals : Bool)), (false, 1, Fact.rep [] (a1.Seq : UInt32))]))], [.fact 131 (Fact.under (((x14 == x15) && x16) = true) (.flds [(false, 1, Fact.rep [] (a2.Stripe : Int)), (false, 1, Fact.rep [0] (a2.Blocks : List (List UInt8))), (false, 1, Fact.rep [0] (a2.Dirty : List Bool)), (false, 1, Fact.rep [] (a2.Phase : UInt8)), (false, 1, Fact.rep [] (a2.Deals : Bool)), (false, 1, Fact.rep [] (a2.Seq : UInt32))]))], [.fact 132 (Fact.under (((x14 == x15) && x16) = true) (.rep [] (x18 : Bool)))], [.fact 133 (Fact.under (((x14 == x15) && x16) = true) (.rep [] ((x17 == x18) : Bool)))], [.fact 134 (Fact.rep [] ((((x14 == x15) && x16) && (x17 == x18)) : Bool))], [.fact 135 (Fact.rep [] ((((x14 == x15) && x16) && (x17 == x18)) : Bool))], [.fact 136 (Fact.under ((((x14 == x15) && x16) && (x17 == x18)) = true) (.flds [(false, 1, Fact.rep [] (x3.Stripe : Int)), (false, 1, Fact.ow [33] [34] 31 (x3.Blocks : List (List UInt8))), (false, 1, Fact.ow [35] [] 4 (x3.Dirty : List Bool)), (false, 1, Fact.rep [] (x3.Phase : UInt8)), (false, 1, Fact.rep [] (x3.Deals : Bool)), (false, 1, Fact.rep [] (x3.Seq : UInt32))]))], [.fact 137 (Fact.under ((((x14 == x15) && x16) && (x17 == x18)) = true) (.flds [(false, 1, Fact.rep [] (a1.Stripe : Int)), (false, 1, Fact.rep [0] (a1.Blocks : List (List UInt8))), (false, 1, Fact.rep [0] (a1.Dirty : List Bool)), (false, 1, Fact.rep [] (a1.Phase : UInt8)), (false, 1, Fact.rep [] (a1.Deals : Bool)), (false, 1, Fact.rep [] (a1.Seq : UInt32))]))], [.fact 138 (Fact.under ((((x14 == x15) && x16) && (x17 == x18)) = true) (.rep [] (x19 : Bool)))], [.fact 139 (Fact.rep [] (((((x14 == x15) && x16) && (x17 == x18)) && x19) : Bool))], [.fact 26 (Fact.rep [] (((((x14 == x15) && x16) && (x17 == x18)) && x19) : Bool))]] mixed (by kernel_rfl) (ao (so (Spec.loadObj (ls := [(false, 1, Fact.rep [] (a0.Id : UInt32)), (false, 1, Fact.rep [] (a0.Members : Int)), (false, 1, Fact.rep [] (a0.Chunk : Int)), (false, 1, Fact.rep [] (a0.Rows : Int)), (false, 1, Fact.rep [] (a0.Log : Int)), (false, 1, Fact.rep [] (a0.Heads : Int))]) ty24 rfl rfl (Has.s rfl) rfl (HasGs.cons (HasG.s rfl) (HasGs.cons (HasG.s rfl) (HasGs.cons (HasG.s rfl) (HasGs.cons (HasG.s rfl) (HasGs.cons (HasG.s rfl) (HasGs.cons (HasG.s rfl) HasGs.nil)))))))) (ao (so (Spec.loadObj (ls := [(false, 1, Fact.rep [] (x3.Stripe : Int)), (false, 1, Fact.ow [33] [34] 31 (x3.Blocks : List (List UInt8))), (false, 1, Fact.ow [35] [] 4 (x3.Dirty : List Bool)), (false, 1, Fact.rep [] (x3.Phase : UInt8)), (false, 1, Fact.rep [] (x3.Deals : Bool)), (false, 1, Fact.rep [] (x3.Seq : UInt32))]) ty28 rfl rfl (Has.s rfl) rfl (HasGs.cons (HasG.s rfl) (HasGs.cons (HasG.s rfl) (HasGs.cons (HasG.s rfl) (HasGs.cons (HasG.s rfl) (HasGs.cons (HasG.s rfl) (HasGs.cons (HasG.s rfl) HasGs.nil)))))))) (ao (so (Spec.callE [33, 34, 35] 114 rfl en24 (head_Check_c a0 x3 hx14) (HasAll.cons (Has.fl (Has.cv (Has.s rfl) (Cv.trans (Cv.flds (CvL.cons Cv.fl (CvL.cons Cv.fl (CvL.cons Cv.fl (CvL.cons Cv.fl (CvL.cons Cv.fl (CvL.cons Cv.fl CvL.nil))))))) (Cv.close (T := []) (chConfig a0))))) (HasAll.cons (Has.m (Has.cv (Has.s rfl) (Cv.trans (Cv.flds (CvL.cons Cv.fl (CvL.cons (Cv.trans (Cv.trans Cv.owSl (Cv.slRep (T' := [33, 34]) rfl rfl)) (Cv.m rfl)) (CvL.cons (Cv.trans (Cv.trans Cv.owSl (Cv.slRep (T' := [35]) rfl rfl)) (Cv.m rfl)) (CvL.cons Cv.fl (CvL.cons Cv.fl (CvL.cons Cv.fl CvL.nil))))))) (Cv.close (T := [33, 34, 35]) (chHead x3)))) rfl) HasAll.nil)))) (ao (so (Spec.loadObj (ls := [(false, 1, Fact.rep [] (a0.Id : UInt32)), (false, 1, Fact.rep [] (a0.Members : Int)), (false, 1, Fact.rep [] (a0.Chunk : Int)), (false, 1, Fact.rep [] (a0.Rows : Int)), (false, 1, Fact.rep [] (a0.Log : Int)), (false, 1, Fact.rep [] (a0.Heads : Int))]) ty24 rfl rfl (Has.s rfl) rfl (HasGs.cons (HasG.s rfl) (HasGs.cons (HasG.s rfl) (HasGs.cons (HasG.s rfl) (HasGs.cons (HasG.s rfl) (HasGs.cons (HasG.s rfl) (HasGs.cons (HasG.s rfl) HasGs.nil)))))))) (ao (so (Spec.loadObj (ls := [(false, 1, Fact.rep [] (a1.Stripe : Int)), (false, 1, Fact.rep [0] (a1.Blocks : List (List UInt8))), (false, 1, Fact.rep [0] (a1.Dirty : List Bool)), (false, 1, Fact.rep [] (a1.Phase : UInt8)), (false, 1, Fact.rep [] (a1.Deals : Bool)), (false, 1, Fact.rep [] (a1.Seq : UInt32))]) ty28 rfl rfl (Has.s rfl) rfl (HasGs.cons (HasG.s rfl) (HasGs.cons (HasG.s rfl) (HasGs.cons (HasG.s rfl) (HasGs.cons (HasG.s rfl) (HasGs.cons (HasG.s rfl) (HasGs.cons (HasG.s rfl) HasGs.nil)))))))) (ao (so (Spec.callE [0] 115 rfl en25 (ref16_Check_c a0 a1 hx15) (HasAll.cons (Has.fl (Has.cv (Has.s rfl) (Cv.trans (Cv.flds (CvL.cons Cv.fl (CvL.cons Cv.fl (CvL.cons Cv.fl (CvL.cons Cv.fl (CvL.cons Cv.fl (CvL.cons Cv.fl CvL.nil))))))) (Cv.close (T := []) (chConfig a0))))) (HasAll.cons (Has.m (Has.cv (Has.s rfl) (Cv.trans (Cv.flds (CvL.cons Cv.fl (CvL.cons (Cv.m rfl) (CvL.cons (Cv.m rfl) (CvL.cons Cv.fl (CvL.cons Cv.fl (CvL.cons Cv.fl CvL.nil))))))) (Cv.close (T := [0]) (chHead a1)))) rfl) HasAll.nil)))) (ao (so (Spec.eqlI (Has.s rfl) (Has.s rfl))) (ao (so (Spec.move (Has.s rfl))) (ao (StepG.opg rfl rfl rfl (fun hb => Spec.loadObj (ls := [(false, 1, Fact.rep [] (x10.Stripe : Int)), (false, 1, Fact.ow [101] [102] 31 (x10.Blocks : List (List UInt8))), (false, 1, Fact.ow [103] [] 4 (x10.Dirty : List Bool)), (false, 1, Fact.rep [] (x10.Phase : UInt8)), (false, 1, Fact.rep [] (x10.Deals : Bool)), (false, 1, Fact.rep [] (x10.Seq : UInt32))]) ty28 rfl rfl (Has.s rfl) rfl (HasGs.cons (HasG.s rfl) (HasGs.cons (HasG.s rfl) (HasGs.cons (HasG.s rfl) (HasGs.cons (HasG.s rfl) (HasGs.cons (HasG.s rfl) (HasGs.cons (HasG.s rfl) HasGs.nil)))))))) (ao (StepG.opg rfl rfl rfl (fun hb => Spec.loadObj (ls := [(false, 1, Fact.rep [] (a1.Stripe : Int)), (false, 1, Fact.rep [0] (a1.Blocks : List (List UInt8))), (false, 1, Fact.rep [0] (a1.Dirty : List Bool)), (false, 1, Fact.rep [] (a1.Phase : UInt8)), (false, 1, Fact.rep [] (a1.Deals : Bool)), (false, 1, Fact.rep [] (a1.Seq : UInt32))]) ty28 rfl rfl (Has.s rfl) rfl (HasGs.cons (HasG.s rfl) (HasGs.cons (HasG.s rfl) (HasGs.cons (HasG.s rfl) (HasGs.cons (HasG.s rfl) (HasGs.cons (HasG.s rfl) (HasGs.cons (HasG.s rfl) HasGs.nil)))))))) (ao (StepG.opg rfl rfl rfl (fun hb => Spec.callE [0, 101, 102, 103] 116 rfl en16 (ref16_Same_c x10 a1 (gO_t hx16 hb)) (HasAll.cons (Has.m (Has.cv (Has.u rfl hb) (Cv.trans (Cv.flds (CvL.cons Cv.fl (CvL.cons (Cv.trans (Cv.trans Cv.owSl (Cv.slRep (T' := [101, 102]) rfl rfl)) (Cv.m rfl)) (CvL.cons (Cv.trans (Cv.trans Cv.owSl (Cv.slRep (T' := [103]) rfl rfl)) (Cv.m rfl)) (CvL.cons Cv.fl (CvL.cons Cv.fl (CvL.cons Cv.fl CvL.nil))))))) (Cv.close (T := [101, 102, 103]) (chHead x10)))) rfl) (HasAll.cons (Has.m (Has.cv (Has.u rfl hb) (Cv.trans (Cv.flds (CvL.cons Cv.fl (CvL.cons (Cv.m rfl) (CvL.cons (Cv.m rfl) (CvL.cons Cv.fl (CvL.cons Cv.fl (CvL.cons Cv.fl CvL.nil))))))) (Cv.close (T := [0]) (chHead a1)))) rfl) HasAll.nil)))) (ao (so (Spec.and (Has.s rfl) (fun h => Has.u rfl h))) (ao (so (Spec.move (Has.s rfl))) (ao (StepG.opg rfl rfl rfl (fun hb => Spec.loadObj (ls := [(false, 1, Fact.rep [] (a1.Stripe : Int)), (false, 1, Fact.rep [0] (a1.Blocks : List (List UInt8))), (false, 1, Fact.rep [0] (a1.Dirty : List Bool)), (false, 1, Fact.rep [] (a1.Phase : UInt8)), (false, 1, Fact.rep [] (a1.Deals : Bool)), (false, 1, Fact.rep [] (a1.Seq : UInt32))]) ty28 rfl rfl (Has.s rfl) rfl (HasGs.cons (HasG.s rfl) (HasGs.cons (HasG.s rfl) (HasGs.cons (HasG.s rfl) (HasGs.cons (HasG.s rfl) (HasGs.cons (HasG.s rfl) (HasGs.cons (HasG.s rfl) HasGs.nil)))))))) (ao (StepG.opg rfl rfl rfl (fun hb => Spec.loadObj (ls := [(false, 1, Fact.rep [] (a2.Stripe : Int)), (false, 1, Fact.rep [0] (a2.Blocks : List (List UInt8))), (false, 1, Fact.rep [0] (a2.Dirty : List Bool)), (false, 1, Fact.rep [] (a2.Phase : UInt8)), (false, 1, Fact.rep [] (a2.Deals : Bool)), (false, 1, Fact.rep [] (a2.Seq : UInt32))]) ty28 rfl rfl (Has.s rfl) rfl (HasGs.cons (HasG.s rfl) (HasGs.cons (HasG.s rfl) (HasGs.cons (HasG.s rfl) (HasGs.cons (HasG.s rfl) (HasGs.cons (HasG.s rfl) (HasGs.cons (HasG.s rfl) HasGs.nil)))))))) (ao (StepG.opg rfl rfl rfl (fun hb => Spec.callE [0] 117 rfl en26 (head_Same_c a1 a2 (gO_t hx17 hb)) (HasAll.cons (Has.m (Has.cv (Has.u rfl hb) (Cv.trans (Cv.flds (CvL.cons Cv.fl (CvL.cons (Cv.m rfl) (CvL.cons (Cv.m rfl) (CvL.cons Cv.fl (CvL.cons Cv.fl (CvL.cons Cv.fl CvL.nil))))))) (Cv.close (T := [0]) (chHead a1)))) rfl) (HasAll.cons (Has.m (Has.cv (Has.u rfl hb) (Cv.trans (Cv.flds (CvL.cons Cv.fl (CvL.cons (Cv.m rfl) (CvL.cons (Cv.m rfl) (CvL.cons Cv.fl (CvL.cons Cv.fl (CvL.cons Cv.fl CvL.nil))))))) (Cv.close (T := [0]) (chHead a2)))) rfl) HasAll.nil)))) (ao (StepG.opg rfl rfl rfl (fun hb => Spec.loadObj (ls := [(false, 1, Fact.rep [] (a1.Stripe : Int)), (false, 1, Fact.rep [0] (a1.Blocks : List (List UInt8))), (false, 1, Fact.rep [0] (a1.Dirty : List Bool)), (false, 1, Fact.rep [] (a1.Phase : UInt8)), (false, 1, Fact.rep [] (a1.Deals : Bool)), (false, 1, Fact.rep [] (a1.Seq : UInt32))]) ty28 rfl rfl (Has.s rfl) rfl (HasGs.cons (HasG.s rfl) (HasGs.cons (HasG.s rfl) (HasGs.cons (HasG.s rfl) (HasGs.cons (HasG.s rfl) (HasGs.cons (HasG.s rfl) (HasGs.cons (HasG.s rfl) HasGs.nil)))))))) (ao (StepG.opg rfl rfl rfl (fun hb => Spec.loadObj (ls := [(false, 1, Fact.rep [] (a2.Stripe : Int)), (false, 1, Fact.rep [0] (a2.Blocks : List (List UInt8))), (false, 1, Fact.rep [0] (a2.Dirty : List Bool)), (false, 1, Fact.rep [] (a2.Phase : UInt8)), (false, 1, Fact.rep [] (a2.Deals : Bool)), (false, 1, Fact.rep [] (a2.Seq : UInt32))]) ty28 rfl rfl (Has.s rfl) rfl (HasGs.cons (HasG.s rfl) (HasGs.cons (HasG.s rfl) (HasGs.cons (HasG.s rfl) (HasGs.cons (HasG.s rfl) (HasGs.cons (HasG.s rfl) (HasGs.cons (HasG.s rfl) HasGs.nil)))))))) (ao (StepG.opg rfl rfl rfl (fun hb => Spec.callE [0] 118 rfl en16 (ref16_Same_c a1 a2 (gO_t hx18 hb)) (HasAll.cons (Has.m (Has.cv (Has.u rfl hb) (Cv.trans (Cv.flds (CvL.cons Cv.fl (CvL.cons (Cv.m rfl) (CvL.cons (Cv.m rfl) (CvL.cons Cv.fl (CvL.cons Cv.fl (CvL.cons Cv.fl CvL.nil))))))) (Cv.close (T := [0]) (chHead a1)))) rfl) (HasAll.cons (Has.m (Has.cv (Has.u rfl hb) (Cv.trans (Cv.flds (CvL.cons Cv.fl (CvL.cons (Cv.m rfl) (CvL.cons (Cv.m rfl) (CvL.cons Cv.fl (CvL.cons Cv.fl (CvL.cons Cv.fl CvL.nil))))))) (Cv.close (T := [0]) (chHead a2)))) rfl) HasAll.nil)))) (ao (StepG.opg rfl rfl rfl (fun hb => Spec.eqlT (Has.u rfl hb) (Has.u rfl hb) Try.underlying4)) (ao (so (Spec.and (Has.s rfl) (fun h => Has.u rfl h))) (ao (so (Spec.move (Has.s rfl))) (ao (StepG.opg rfl rfl rfl (fun hb => Spec.loadObj (ls := [(false, 1, Fact.rep [] (x3.Stripe : Int)), (false, 1, Fact.ow [33] [34] 31 (x3.Blocks : List (List UInt8))), (false, 1, Fact.ow [35] [] 4 (x3.Dirty : List Bool)), (false, 1, Fact.rep [] (x3.Phase : UInt8)), (false, 1, Fact.rep [] (x3.Deals : Bool)), (false, 1, Fact.rep [] (x3.Seq : UInt32))]) ty28 rfl rfl (Has.s rfl) rfl (HasGs.cons (HasG.s rfl) (HasGs.cons (HasG.s rfl) (HasGs.cons (HasG.s rfl) (HasGs.cons (HasG.s rfl) (HasGs.cons (HasG.s rfl) (HasGs.cons (HasG.s rfl) HasGs.nil)))))))) (ao (StepG.opg rfl rfl rfl (fun hb => Spec.loadObj (ls := [(false, 1, Fact.rep [] (a1.Stripe : Int)), (false, 1, Fact.rep [0] (a1.Blocks : List (List UInt8))), (false, 1, Fact.rep [0] (a1.Dirty : List Bool)), (false, 1, Fact.rep [] (a1.Phase : UInt8)), (false, 1, Fact.rep [] (a1.Deals : Bool)), (false, 1, Fact.rep [] (a1.Seq : UInt32))]) ty28 rfl rfl (Has.s rfl) rfl (HasGs.cons (HasG.s rfl) (HasGs.cons (HasG.s rfl) (HasGs.cons (HasG.s rfl) (HasGs.cons (HasG.s rfl) (HasGs.cons (HasG.s rfl) (HasGs.cons (HasG.s rfl) HasGs.nil)))))))) (ao (StepG.opg rfl rfl rfl (fun hb => Spec.callE [0, 33, 34, 35] 119 rfl en26 (head_Same_c x3 a1 (gO_t hx19 hb)) (HasAll.cons (Has.m (Has.cv (Has.u rfl hb) (Cv.trans (Cv.flds (CvL.cons Cv.fl (CvL.cons (Cv.trans (Cv.trans Cv.owSl (Cv.slRep (T' := [33, 34]) rfl rfl)) (Cv.m rfl)) (CvL.cons (Cv.trans (Cv.trans Cv.owSl (Cv.slRep (T' := [35]) rfl rfl)) (Cv.m rfl)) (CvL.cons Cv.fl (CvL.cons Cv.fl (CvL.cons Cv.fl CvL.nil))))))) (Cv.close (T := [33, 34, 35]) (chHead x3)))) rfl) (HasAll.cons (Has.m (Has.cv (Has.u rfl hb) (Cv.trans (Cv.flds (CvL.cons Cv.fl (CvL.cons (Cv.m rfl) (CvL.cons (Cv.m rfl) (CvL.cons Cv.fl (CvL.cons Cv.fl (CvL.cons Cv.fl CvL.nil))))))) (Cv.close (T := [0]) (chHead a1)))) rfl) HasAll.nil)))) (ao (so (Spec.and (Has.s rfl) (fun h => Has.u rfl h))) (ao (so (Spec.assign (Has.s rfl))) AllM.nil))))))))))))))))))))))))))) ?_
  refine Leaf.thenN ?_
  refine CWalk.seq ?_
  refine CWalk.region ?_
  refine wo (Spec.loadObj (ls := [(false, 1, Fact.rep [] (x4.1.Stripe : Int)), (false, 1, Fact.ow [43] [44] 31 (x4.1.Blocks : List (List UInt8))), (false, 1, Fact.ow [45] [] 4 (x4.1.Dirty : List Bool)), (false, 1, Fact.rep [] (x4.1.Phase : UInt8)), (false, 1, Fact.rep [] (x4.1.Deals : Bool)), (false, 1, Fact.rep [] (x4.1.Seq : UInt32))]) ty28 rfl rfl (Has.s rfl) rfl (HasGs.cons (HasG.s rfl) (HasGs.cons (HasG.s rfl) (HasGs.cons (HasG.s rfl) (HasGs.cons (HasG.s rfl) (HasGs.cons (HasG.s rfl) (HasGs.cons (HasG.s rfl) HasGs.nil))))))) ?_
  refine Walk.inline (S := Unit) (fun p : Unit => [.fact 6 (Fact.isv 17), .fact 11 (Fact.isv 36), .fact 16 (Fact.isv 66), .fact 24 (Fact.isv 104), .fact 25 (Fact.rep [] ((((((x11 && (x4.2 == x5.2)) && x12) && (x6.2 == x7.2)) && x13) && (x8.2 == x9.2)) : Bool)), .fact 26 (Fact.rep [] (((((x14 == x15) && x16) && (x17 == x18)) && x19) : Bool)), .fact 141 (Fact.top), .fact 100018 (Fact.at 18 (Fact.rep [] (a1.Stripe : Int))), .fact 100019 (Fact.at 19 (Fact.rep [0] (a1.Blocks : List (List UInt8)))), .fact 100020 (Fact.at 20 (Fact.rep [0] (a1.Dirty : List Bool))), .fact 100021 (Fact.at 21 (Fact.rep [] (a1.Phase : UInt8))), .fact 100022 (Fact.at 22 (Fact.rep [] (a1.Deals : Bool))), .fact 100023 (Fact.at 23 (Fact.rep [] (a1.Seq : UInt32))), .fact 100037 (Fact.at 37 (Fact.rep [] (x3.Stripe : Int))), .fact 100038 (Fact.at 38 (Fact.ow [33] [34] 31 (x3.Blocks : List (List UInt8)))), .fact 100039 (Fact.at 39 (Fact.ow [35] [] 4 (x3.Dirty : List Bool))), .fact 100040 (Fact.at 40 (Fact.rep [] (x3.Phase : UInt8))), .fact 100041 (Fact.at 41 (Fact.rep [] (x3.Deals : Bool))), .fact 100042 (Fact.at 42 (Fact.rep [] (x3.Seq : UInt32))), .fact 100067 (Fact.at 67 (Fact.rep [] (x6.1.Stripe : Int))), .fact 100068 (Fact.at 68 (Fact.ow [63] [64] 31 (x6.1.Blocks : List (List UInt8)))), .fact 100069 (Fact.at 69 (Fact.ow [65] [] 4 (x6.1.Dirty : List Bool))), .fact 100070 (Fact.at 70 (Fact.rep [] (x6.1.Phase : UInt8))), .fact 100071 (Fact.at 71 (Fact.rep [] (x6.1.Deals : Bool))), .fact 100072 (Fact.at 72 (Fact.rep [] (x6.1.Seq : UInt32))), .fact 100105 (Fact.at 105 (Fact.rep [] (x10.Stripe : Int))), .fact 100106 (Fact.at 106 (Fact.ow [101] [102] 31 (x10.Blocks : List (List UInt8)))), .fact 100107 (Fact.at 107 (Fact.ow [103] [] 4 (x10.Dirty : List Bool))), .fact 100108 (Fact.at 108 (Fact.rep [] (x10.Phase : UInt8))), .fact 100109 (Fact.at 109 (Fact.rep [] (x10.Deals : Bool))), .fact 100110 (Fact.at 110 (Fact.rep [] (x10.Seq : UInt32))), .fact 100017 (Fact.obj 17 [(false, 1), (false, 1), (false, 1), (false, 1), (false, 1), (false, 1)]), .fact 100036 (Fact.obj 36 [(false, 1), (false, 1), (false, 1), (false, 1), (false, 1), (false, 1)]), .fact 100066 (Fact.obj 66 [(false, 1), (false, 1), (false, 1), (false, 1), (false, 1), (false, 1)]), .fact 100104 (Fact.obj 104 [(false, 1), (false, 1), (false, 1), (false, 1), (false, 1), (false, 1)])]) (fun p : Unit => law16_HeadTurns_J1 a1 x3 x4 x5 x6 x7 x8 x9 x10 x11 x12 x13 x14 x15 x16 x17 x18 x19 = some r) (fun u1 => [.fact 100018 (Fact.at 18 (Fact.rep [] (a1.Stripe : Int))), .fact 100019 (Fact.at 19 (Fact.rep [0] (a1.Blocks : List (List UInt8)))), .fact 100020 (Fact.at 20 (Fact.rep [0] (a1.Dirty : List Bool))), .fact 100021 (Fact.at 21 (Fact.rep [] (a1.Phase : UInt8))), .fact 100022 (Fact.at 22 (Fact.rep [] (a1.Deals : Bool))), .fact 100023 (Fact.at 23 (Fact.rep [] (a1.Seq : UInt32))), .fact 100037 (Fact.at 37 (Fact.rep [] (x3.Stripe : Int))), .fact 100038 (Fact.at 38 (Fact.ow [33] [34] 31 (x3.Blocks : List (List UInt8)))), .fact 100039 (Fact.at 39 (Fact.ow [35] [] 4 (x3.Dirty : List Bool))), .fact 100040 (Fact.at 40 (Fact.rep [] (x3.Phase : UInt8))), .fact 100041 (Fact.at 41 (Fact.rep [] (x3.Deals : Bool))), .fact 100042 (Fact.at 42 (Fact.rep [] (x3.Seq : UInt32))), .fact 100067 (Fact.at 67 (Fact.rep [] (x6.1.Stripe : Int))), .fact 100068 (Fact.at 68 (Fact.ow [63] [64] 31 (x6.1.Blocks : List (List UInt8)))), .fact 100069 (Fact.at 69 (Fact.ow [65] [] 4 (x6.1.Dirty : List Bool))), .fact 100070 (Fact.at 70 (Fact.rep [] (x6.1.Phase : UInt8))), .fact 100071 (Fact.at 71 (Fact.rep [] (x6.1.Deals : Bool))), .fact 100072 (Fact.at 72 (Fact.rep [] (x6.1.Seq : UInt32))), .fact 100105 (Fact.at 105 (Fact.rep [] (x10.Stripe : Int))), .fact 100106 (Fact.at 106 (Fact.ow [101] [102] 31 (x10.Blocks : List (List UInt8)))), .fact 100107 (Fact.at 107 (Fact.ow [103] [] 4 (x10.Dirty : List Bool))), .fact 100108 (Fact.at 108 (Fact.rep [] (x10.Phase : UInt8))), .fact 100109 (Fact.at 109 (Fact.rep [] (x10.Deals : Bool))), .fact 100110 (Fact.at 110 (Fact.rep [] (x10.Seq : UInt32))), .fact 902006 (Fact.cst (u1 6) (Fact.isv 17)), .fact 902011 (Fact.cst (u1 11) (Fact.isv 36)), .fact 902016 (Fact.cst (u1 16) (Fact.isv 66)), .fact 902024 (Fact.cst (u1 24) (Fact.isv 104)), .fact 902025 (Fact.cst (u1 25) (Fact.rep [] ((((((x11 && (x4.2 == x5.2)) && x12) && (x6.2 == x7.2)) && x13) && (x8.2 == x9.2)) : Bool))), .fact 902026 (Fact.cst (u1 26) (Fact.rep [] (((((x14 == x15) && x16) && (x17 == x18)) && x19) : Bool))), .fact 100017 (Fact.obj 17 [(false, 1), (false, 1), (false, 1), (false, 1), (false, 1), (false, 1)]), .fact 100036 (Fact.obj 36 [(false, 1), (false, 1), (false, 1), (false, 1), (false, 1), (false, 1)]), .fact 100066 (Fact.obj 66 [(false, 1), (false, 1), (false, 1), (false, 1), (false, 1), (false, 1)]), .fact 100104 (Fact.obj 104 [(false, 1), (false, 1), (false, 1), (false, 1), (false, 1), (false, 1)])]) (FA := [Fact.flds [(false, 1, Fact.rep [] (x4.1.Stripe : Int)), (false, 1, Fact.ow [43] [44] 31 (x4.1.Blocks : List (List UInt8))), (false, 1, Fact.ow [45] [] 4 (x4.1.Dirty : List Bool)), (false, 1, Fact.rep [] (x4.1.Phase : UInt8)), (false, 1, Fact.rep [] (x4.1.Deals : Bool)), (false, 1, Fact.rep [] (x4.1.Seq : UInt32))]]) rfl Try.func27 rfl rfl rfl (CallOk.fn en27 (HasF.cons (Has.s rfl) HasF.nil)) (fun u1 => (ck (ck (ck (ck (ck (ck (ck (ck (ck (ck (ck (ck (ck (ck (ck (ck (ck (ck (ck (ck (ck (ck (ck (ck (cs 902000 6 (cs 902000 11 (cs 902000 16 (cs 902000 24 (cs 902000 25 (cs 902000 26 (ck (ck (ck (ck Carry.nil))))))))))))))))))))))))))))))))))) (fun u1 => ?_) ?_
  ·refine CWalk.seq ?_
   refine CWalk.region ?_
   refine ws (Step.boxObj (ls := [(false, 1, Fact.rep [] (x4.1.Stripe : Int)), (false, 1, Fact.ow [43] [44] 31 (x4.1.Blocks : List (List UInt8))), (false, 1, Fact.ow [45] [] 4 (x4.1.Dirty : List Bool)), (false, 1, Fact.rep [] (x4.1.Phase : UInt8)), (false, 1, Fact.rep [] (x4.1.Deals : Bool)), (false, 1, Fact.rep [] (x4.1.Seq : UInt32))]) 120 rfl rfl rfl rfl (HasL.flds (Has.s rfl))) ?_
   refine Walk.nil ?_
   refine Leaf.thenN ?_
   refine CWalk.seq ?_
   refine CWalk.seq ?_
   refine CWalk.region ?_
   refine wo (Spec.assign Has.int) ?_
   refine Walk.nil ?_
   refine Leaf.thenN ?_
   refine CWalk.block ?_
   obtain ⟨b60, hb60, hm⟩ := bind_some hm
   refine CWalk.loop (fun s : Int => [.fact 1 (Fact.isv 120), .fact 2 (Fact.rep [] (s : Int)), .fact 902006 (Fact.cst (u1 6) (Fact.isv 17)), .fact 902011 (Fact.cst (u1 11) (Fact.isv 36)), .fact 902016 (Fact.cst (u1 16) (Fact.isv 66)), .fact 902024 (Fact.cst (u1 24) (Fact.isv 104)), .fact 902025 (Fact.cst (u1 25) (Fact.rep [] ((((((x11 && (x4.2 == x5.2)) && x12) && (x6.2 == x7.2)) && x13) && (x8.2 == x9.2)) : Bool))), .fact 902026 (Fact.cst (u1 26) (Fact.rep [] (((((x14 == x15) && x16) && (x17 == x18)) && x19) : Bool))), .fact 100121 (Fact.at 121 (Fact.rep [] (x4.1.Stripe : Int))), .fact 100122 (Fact.at 122 (Fact.lo [43, 44] (x4.1.Blocks : List (List UInt8)))), .fact 100123 (Fact.at 123 (Fact.ow [45] [] 4 (x4.1.Dirty : List Bool))), .fact 100124 (Fact.at 124 (Fact.rep [] (x4.1.Phase : UInt8))), .fact 100125 (Fact.at 125 (Fact.rep [] (x4.1.Deals : Bool))), .fact 100126 (Fact.at 126 (Fact.rep [] (x4.1.Seq : UInt32))), .fact 100018 (Fact.at 18 (Fact.rep [] (a1.Stripe : Int))), .fact 100019 (Fact.at 19 (Fact.rep [0] (a1.Blocks : List (List UInt8)))), .fact 100020 (Fact.at 20 (Fact.rep [0] (a1.Dirty : List Bool))), .fact 100021 (Fact.at 21 (Fact.rep [] (a1.Phase : UInt8))), .fact 100022 (Fact.at 22 (Fact.rep [] (a1.Deals : Bool))), .fact 100023 (Fact.at 23 (Fact.rep [] (a1.Seq : UInt32))), .fact 100037 (Fact.at 37 (Fact.rep [] (x3.Stripe : Int))), .fact 100038 (Fact.at 38 (Fact.ow [33] [34] 31 (x3.Blocks : List (List UInt8)))), .fact 100039 (Fact.at 39 (Fact.ow [35] [] 4 (x3.Dirty : List Bool))), .fact 100040 (Fact.at 40 (Fact.rep [] (x3.Phase : UInt8))), .fact 100041 (Fact.at 41 (Fact.rep [] (x3.Deals : Bool))), .fact 100042 (Fact.at 42 (Fact.rep [] (x3.Seq : UInt32))), .fact 100067 (Fact.at 67 (Fact.rep [] (x6.1.Stripe : Int))), .fact 100068 (Fact.at 68 (Fact.ow [63] [64] 31 (x6.1.Blocks : List (List UInt8)))), .fact 100069 (Fact.at 69 (Fact.ow [65] [] 4 (x6.1.Dirty : List Bool))), .fact 100070 (Fact.at 70 (Fact.rep [] (x6.1.Phase : UInt8))), .fact 100071 (Fact.at 71 (Fact.rep [] (x6.1.Deals : Bool))), .fact 100072 (Fact.at 72 (Fact.rep [] (x6.1.Seq : UInt32))), .fact 100105 (Fact.at 105 (Fact.rep [] (x10.Stripe : Int))), .fact 100106 (Fact.at 106 (Fact.ow [101] [102] 31 (x10.Blocks : List (List UInt8)))), .fact 100107 (Fact.at 107 (Fact.ow [103] [] 4 (x10.Dirty : List Bool))), .fact 100108 (Fact.at 108 (Fact.rep [] (x10.Phase : UInt8))), .fact 100109 (Fact.at 109 (Fact.rep [] (x10.Deals : Bool))), .fact 100110 (Fact.at 110 (Fact.rep [] (x10.Seq : UInt32))), .fact 100120 (Fact.obj 120 [(false, 1), (false, 1), (false, 1), (false, 1), (false, 1), (false, 1)]), .fact 100017 (Fact.obj 17 [(false, 1), (false, 1), (false, 1), (false, 1), (false, 1), (false, 1)]), .fact 100036 (Fact.obj 36 [(false, 1), (false, 1), (false, 1), (false, 1), (false, 1), (false, 1)]), .fact 100066 (Fact.obj 66 [(false, 1), (false, 1), (false, 1), (false, 1), (false, 1), (false, 1)]), .fact 100104 (Fact.obj 104 [(false, 1), (false, 1), (false, 1), (false, 1), (false, 1), (false, 1)])]) (fun b : Unit => (Exit.exit 0, [.fact 1 (Fact.isv 120), .fact 902006 (Fact.cst (u1 6) (Fact.isv 17)), .fact 902011 (Fact.cst (u1 11) (Fact.isv 36)), .fact 902016 (Fact.cst (u1 16) (Fact.isv 66)), .fact 902024 (Fact.cst (u1 24) (Fact.isv 104)), .fact 902025 (Fact.cst (u1 25) (Fact.rep [] ((((((x11 && (x4.2 == x5.2)) && x12) && (x6.2 == x7.2)) && x13) && (x8.2 == x9.2)) : Bool))), .fact 902026 (Fact.cst (u1 26) (Fact.rep [] (((((x14 == x15) && x16) && (x17 == x18)) && x19) : Bool))), .fact 100121 (Fact.at 121 (Fact.rep [] (x4.1.Stripe : Int))), .fact 100122 (Fact.at 122 (Fact.lo [43, 44] (x4.1.Blocks : List (List UInt8)))), .fact 100123 (Fact.at 123 (Fact.ow [45] [] 4 (x4.1.Dirty : List Bool))), .fact 100124 (Fact.at 124 (Fact.rep [] (x4.1.Phase : UInt8))), .fact 100125 (Fact.at 125 (Fact.rep [] (x4.1.Deals : Bool))), .fact 100126 (Fact.at 126 (Fact.rep [] (x4.1.Seq : UInt32))), .fact 100018 (Fact.at 18 (Fact.rep [] (a1.Stripe : Int))), .fact 100019 (Fact.at 19 (Fact.rep [0] (a1.Blocks : List (List UInt8)))), .fact 100020 (Fact.at 20 (Fact.rep [0] (a1.Dirty : List Bool))), .fact 100021 (Fact.at 21 (Fact.rep [] (a1.Phase : UInt8))), .fact 100022 (Fact.at 22 (Fact.rep [] (a1.Deals : Bool))), .fact 100023 (Fact.at 23 (Fact.rep [] (a1.Seq : UInt32))), .fact 100037 (Fact.at 37 (Fact.rep [] (x3.Stripe : Int))), .fact 100038 (Fact.at 38 (Fact.ow [33] [34] 31 (x3.Blocks : List (List UInt8)))), .fact 100039 (Fact.at 39 (Fact.ow [35] [] 4 (x3.Dirty : List Bool))), .fact 100040 (Fact.at 40 (Fact.rep [] (x3.Phase : UInt8))), .fact 100041 (Fact.at 41 (Fact.rep [] (x3.Deals : Bool))), .fact 100042 (Fact.at 42 (Fact.rep [] (x3.Seq : UInt32))), .fact 100067 (Fact.at 67 (Fact.rep [] (x6.1.Stripe : Int))), .fact 100068 (Fact.at 68 (Fact.ow [63] [64] 31 (x6.1.Blocks : List (List UInt8)))), .fact 100069 (Fact.at 69 (Fact.ow [65] [] 4 (x6.1.Dirty : List Bool))), .fact 100070 (Fact.at 70 (Fact.rep [] (x6.1.Phase : UInt8))), .fact 100071 (Fact.at 71 (Fact.rep [] (x6.1.Deals : Bool))), .fact 100072 (Fact.at 72 (Fact.rep [] (x6.1.Seq : UInt32))), .fact 100105 (Fact.at 105 (Fact.rep [] (x10.Stripe : Int))), .fact 100106 (Fact.at 106 (Fact.ow [101] [102] 31 (x10.Blocks : List (List UInt8)))), .fact 100107 (Fact.at 107 (Fact.ow [103] [] 4 (x10.Dirty : List Bool))), .fact 100108 (Fact.at 108 (Fact.rep [] (x10.Phase : UInt8))), .fact 100109 (Fact.at 109 (Fact.rep [] (x10.Deals : Bool))), .fact 100110 (Fact.at 110 (Fact.rep [] (x10.Seq : UInt32))), .fact 100120 (Fact.obj 120 [(false, 1), (false, 1), (false, 1), (false, 1), (false, 1), (false, 1)]), .fact 100017 (Fact.obj 17 [(false, 1), (false, 1), (false, 1), (false, 1), (false, 1), (false, 1)]), .fact 100036 (Fact.obj 36 [(false, 1), (false, 1), (false, 1), (false, 1), (false, 1), (false, 1)]), .fact 100066 (Fact.obj 66 [(false, 1), (false, 1), (false, 1), (false, 1), (false, 1), (false, 1)]), .fact 100104 (Fact.obj 104 [(false, 1), (false, 1), (false, 1), (false, 1), (false, 1), (false, 1)])])) hb60 (sn (st (sc (sc (sc (sc (Sub.cons (Has.cst (HasC.cv (HasC.s (s := 902025) rfl) Cv.fl)) (Sub.cons (Has.cst (HasC.cv (HasC.s (s := 902026) rfl) Cv.fl)) (sf (Sub.cons (Has.at (HasG.cv (HasG.s rfl) (Cv.trans (Cv.trans Cv.owSl (Cv.slRep (T' := [43, 44]) rfl rfl)) (Cv.lo rfl)))) (Sub.cons (Has.at (HasG.cv (HasG.s rfl) (Cv.owF (T := [45]) (te := []) rfl))) (sf (sf (sf (sf (sm (sm (sf (sf (sf (sf (Sub.cons (Has.at (HasG.cv (HasG.s rfl) (Cv.owM (T := [33]) (te := [34]) rfl rfl))) (Sub.cons (Has.at (HasG.cv (HasG.s rfl) (Cv.owF (T := [35]) (te := []) rfl))) (sf (sf (sf (sf (Sub.cons (Has.at (HasG.cv (HasG.s rfl) (Cv.owM (T := [63]) (te := [64]) rfl rfl))) (Sub.cons (Has.at (HasG.cv (HasG.s rfl) (Cv.owF (T := [65]) (te := []) rfl))) (sf (sf (sf (sf (Sub.cons (Has.at (HasG.cv (HasG.s rfl) (Cv.owM (T := [101]) (te := [102]) rfl rfl))) (Sub.cons (Has.at (HasG.cv (HasG.s rfl) (Cv.owF (T := [103]) (te := []) rfl))) (sf (sf (sf (sn (sn (sn (sn (sn Sub.nil))))))))))))))))))))))))))))))))))))))))))) ?_ ?_
   ·rintro s51 c52 hm
    replace hm : law16_HeadTurns_L10 x4 s51 = some c52 := hm
    unfold law16_HeadTurns_L10 at hm
    show CWalk _ [.fact 1 (Fact.isv 120), .fact 2 (Fact.rep [] (s51 : Int)), .fact 902006 (Fact.cst (u1 6) (Fact.isv 17)), .fact 902011 (Fact.cst (u1 11) (Fact.isv 36)), .fact 902016 (Fact.cst (u1 16) (Fact.isv 66)), .fact 902024 (Fact.cst (u1 24) (Fact.isv 104)), .fact 902025 (Fact.cst (u1 25) (Fact.rep [] ((((((x11 && (x4.2 == x5.2)) && x12) && (x6.2 == x7.2)) && x13) && (x8.2 == x9.2)) : Bool))), .fact 902026 (Fact.cst (u1 26) (Fact.rep [] (((((x14 == x15) && x16) && (x17 == x18)) && x19) : Bool))), .fact 100121 (Fact.at 121 (Fact.rep [] (x4.1.Stripe : Int))), .fact 100122 (Fact.at 122 (Fact.lo [43, 44] (x4.1.Blocks : List (List UInt8)))), .fact 100123 (Fact.at 123 (Fact.ow [45] [] 4 (x4.1.Dirty : List Bool))), .fact 100124 (Fact.at 124 (Fact.rep [] (x4.1.Phase : UInt8))), .fact 100125 (Fact.at 125 (Fact.rep [] (x4.1.Deals : Bool))), .fact 100126 (Fact.at 126 (Fact.rep [] (x4.1.Seq : UInt32))), .fact 100018 (Fact.at 18 (Fact.rep [] (a1.Stripe : Int))), .fact 100019 (Fact.at 19 (Fact.rep [0] (a1.Blocks : List (List UInt8)))), .fact 100020 (Fact.at 20 (Fact.rep [0] (a1.Dirty : List Bool))), .fact 100021 (Fact.at 21 (Fact.rep [] (a1.Phase : UInt8))), .fact 100022 (Fact.at 22 (Fact.rep [] (a1.Deals : Bool))), .fact 100023 (Fact.at 23 (Fact.rep [] (a1.Seq : UInt32))), .fact 100037 (Fact.at 37 (Fact.rep [] (x3.Stripe : Int))), .fact 100038 (Fact.at 38 (Fact.ow [33] [34] 31 (x3.Blocks : List (List UInt8)))), .fact 100039 (Fact.at 39 (Fact.ow [35] [] 4 (x3.Dirty : List Bool))), .fact 100040 (Fact.at 40 (Fact.rep [] (x3.Phase : UInt8))), .fact 100041 (Fact.at 41 (Fact.rep [] (x3.Deals : Bool))), .fact 100042 (Fact.at 42 (Fact.rep [] (x3.Seq : UInt32))), .fact 100067 (Fact.at 67 (Fact.rep [] (x6.1.Stripe : Int))), .fact 100068 (Fact.at 68 (Fact.ow [63] [64] 31 (x6.1.Blocks : List (List UInt8)))), .fact 100069 (Fact.at 69 (Fact.ow [65] [] 4 (x6.1.Dirty : List Bool))), .fact 100070 (Fact.at 70 (Fact.rep [] (x6.1.Phase : UInt8))), .fact 100071 (Fact.at 71 (Fact.rep [] (x6.1.Deals : Bool))), .fact 100072 (Fact.at 72 (Fact.rep [] (x6.1.Seq : UInt32))), .fact 100105 (Fact.at 105 (Fact.rep [] (x10.Stripe : Int))), .fact 100106 (Fact.at 106 (Fact.ow [101] [102] 31 (x10.Blocks : List (List UInt8)))), .fact 100107 (Fact.at 107 (Fact.ow [103] [] 4 (x10.Dirty : List Bool))), .fact 100108 (Fact.at 108 (Fact.rep [] (x10.Phase : UInt8))), .fact 100109 (Fact.at 109 (Fact.rep [] (x10.Deals : Bool))), .fact 100110 (Fact.at 110 (Fact.rep [] (x10.Seq : UInt32))), .fact 100120 (Fact.obj 120 [(false, 1), (false, 1), (false, 1), (false, 1), (false, 1), (false, 1)]), .fact 100017 (Fact.obj 17 [(false, 1), (false, 1), (false, 1), (false, 1), (false, 1), (false, 1)]), .fact 100036 (Fact.obj 36 [(false, 1), (false, 1), (false, 1), (false, 1), (false, 1), (false, 1)]), .fact 100066 (Fact.obj 66 [(false, 1), (false, 1), (false, 1), (false, 1), (false, 1), (false, 1)]), .fact 100104 (Fact.obj 104 [(false, 1), (false, 1), (false, 1), (false, 1), (false, 1), (false, 1)])] _ _
    refine CWalk.seq ?_
    refine CWalk.seq ?_
    refine CWalk.region ?_
    refine mv ?_
    refine wo (Spec.fieldAddrO fd28_1 (Has.cv (Has.s rfl) (Cv.isvP rfl))) ?_
    refine wo (Spec.loadF (i := 1) ty25 rfl (Has.s rfl) rfl (HasG.s rfl)) ?_
    refine wo (Spec.lenLo (Has.s rfl) Try.underlying25) ?_
    refine wo (Spec.lssI (Has.s rfl) (Has.s rfl)) ?_
    refine Walk.nil ?_
    refine Leaf.thenN ?_
    refine CWalk.cond rfl (fun hb => ?_) (fun hb => ?_)
    ·have hm := cond_t hb hm
     refine CWalk.skip ?_
     refine Leaf.thenN ?_
     refine CWalk.seq ?_
     refine CWalk.block ?_
     refine CWalk.seq ?_
     refine CWalk.region ?_
     refine wo (Spec.assign Has.int) ?_
     refine Walk.nil ?_
     refine Leaf.thenN ?_
     refine CWalk.block ?_
     obtain ⟨b59, hb59, hm⟩ := bind_some hm
     refine CWalk.loop (fun s : Int => [.fact 1 (Fact.isv 120), .fact 2 (Fact.rep [] (s51 : Int)), .fact 3 (Fact.rep [] (s : Int)), .fact 902006 (Fact.cst (u1 6) (Fact.isv 17)), .fact 902011 (Fact.cst (u1 11) (Fact.isv 36)), .fact 902016 (Fact.cst (u1 16) (Fact.isv 66)), .fact 902024 (Fact.cst (u1 24) (Fact.isv 104)), .fact 902025 (Fact.cst (u1 25) (Fact.rep [] ((((((x11 && (x4.2 == x5.2)) && x12) && (x6.2 == x7.2)) && x13) && (x8.2 == x9.2)) : Bool))), .fact 902026 (Fact.cst (u1 26) (Fact.rep [] (((((x14 == x15) && x16) && (x17 == x18)) && x19) : Bool))), .fact 100121 (Fact.at 121 (Fact.rep [] (x4.1.Stripe : Int))), .fact 100122 (Fact.at 122 (Fact.lo [43, 44] (x4.1.Blocks : List (List UInt8)))), .fact 100123 (Fact.at 123 (Fact.ow [45] [] 4 (x4.1.Dirty : List Bool))), .fact 100124 (Fact.at 124 (Fact.rep [] (x4.1.Phase : UInt8))), .fact 100125 (Fact.at 125 (Fact.rep [] (x4.1.Deals : Bool))), .fact 100126 (Fact.at 126 (Fact.rep [] (x4.1.Seq : UInt32))), .fact 100018 (Fact.at 18 (Fact.rep [] (a1.Stripe : Int))), .fact 100019 (Fact.at 19 (Fact.rep [0] (a1.Blocks : List (List UInt8)))), .fact 100020 (Fact.at 20 (Fact.rep [0] (a1.Dirty : List Bool))), .fact 100021 (Fact.at 21 (Fact.rep [] (a1.Phase : UInt8))), .fact 100022 (Fact.at 22 (Fact.rep [] (a1.Deals : Bool))), .fact 100023 (Fact.at 23 (Fact.rep [] (a1.Seq : UInt32))), .fact 100037 (Fact.at 37 (Fact.rep [] (x3.Stripe : Int))), .fact 100038 (Fact.at 38 (Fact.ow [33] [34] 31 (x3.Blocks : List (List UInt8)))), .fact 100039 (Fact.at 39 (Fact.ow [35] [] 4 (x3.Dirty : List Bool))), .fact 100040 (Fact.at 40 (Fact.rep [] (x3.Phase : UInt8))), .fact 100041 (Fact.at 41 (Fact.rep [] (x3.Deals : Bool))), .fact 100042 (Fact.at 42 (Fact.rep [] (x3.Seq : UInt32))), .fact 100067 (Fact.at 67 (Fact.rep [] (x6.1.Stripe : Int))), .fact 100068 (Fact.at 68 (Fact.ow [63] [64] 31 (x6.1.Blocks : List (List UInt8)))), .fact 100069 (Fact.at 69 (Fact.ow [65] [] 4 (x6.1.Dirty : List Bool))), .fact 100070 (Fact.at 70 (Fact.rep [] (x6.1.Phase : UInt8))), .fact 100071 (Fact.at 71 (Fact.rep [] (x6.1.Deals : Bool))), .fact 100072 (Fact.at 72 (Fact.rep [] (x6.1.Seq : UInt32))), .fact 100105 (Fact.at 105 (Fact.rep [] (x10.Stripe : Int))), .fact 100106 (Fact.at 106 (Fact.ow [101] [102] 31 (x10.Blocks : List (List UInt8)))), .fact 100107 (Fact.at 107 (Fact.ow [103] [] 4 (x10.Dirty : List Bool))), .fact 100108 (Fact.at 108 (Fact.rep [] (x10.Phase : UInt8))), .fact 100109 (Fact.at 109 (Fact.rep [] (x10.Deals : Bool))), .fact 100110 (Fact.at 110 (Fact.rep [] (x10.Seq : UInt32))), .fact 100120 (Fact.obj 120 [(false, 1), (false, 1), (false, 1), (false, 1), (false, 1), (false, 1)]), .fact 100017 (Fact.obj 17 [(false, 1), (false, 1), (false, 1), (false, 1), (false, 1), (false, 1)]), .fact 100036 (Fact.obj 36 [(false, 1), (false, 1), (false, 1), (false, 1), (false, 1), (false, 1)]), .fact 100066 (Fact.obj 66 [(false, 1), (false, 1), (false, 1), (false, 1), (false, 1), (false, 1)]), .fact 100104 (Fact.obj 104 [(false, 1), (false, 1), (false, 1), (false, 1), (false, 1), (false, 1)])]) (fun b : Unit => (Exit.exit 2, [.fact 1 (Fact.isv 120), .fact 2 (Fact.rep [] (s51 : Int)), .fact 902006 (Fact.cst (u1 6) (Fact.isv 17)), .fact 902011 (Fact.cst (u1 11) (Fact.isv 36)), .fact 902016 (Fact.cst (u1 16) (Fact.isv 66)), .fact 902024 (Fact.cst (u1 24) (Fact.isv 104)), .fact 902025 (Fact.cst (u1 25) (Fact.rep [] ((((((x11 && (x4.2 == x5.2)) && x12) && (x6.2 == x7.2)) && x13) && (x8.2 == x9.2)) : Bool))), .fact 902026 (Fact.cst (u1 26) (Fact.rep [] (((((x14 == x15) && x16) && (x17 == x18)) && x19) : Bool))), .fact 100121 (Fact.at 121 (Fact.rep [] (x4.1.Stripe : Int))), .fact 100122 (Fact.at 122 (Fact.lo [43, 44] (x4.1.Blocks : List (List UInt8)))), .fact 100123 (Fact.at 123 (Fact.ow [45] [] 4 (x4.1.Dirty : List Bool))), .fact 100124 (Fact.at 124 (Fact.rep [] (x4.1.Phase : UInt8))), .fact 100125 (Fact.at 125 (Fact.rep [] (x4.1.Deals : Bool))), .fact 100126 (Fact.at 126 (Fact.rep [] (x4.1.Seq : UInt32))), .fact 100018 (Fact.at 18 (Fact.rep [] (a1.Stripe : Int))), .fact 100019 (Fact.at 19 (Fact.rep [0] (a1.Blocks : List (List UInt8)))), .fact 100020 (Fact.at 20 (Fact.rep [0] (a1.Dirty : List Bool))), .fact 100021 (Fact.at 21 (Fact.rep [] (a1.Phase : UInt8))), .fact 100022 (Fact.at 22 (Fact.rep [] (a1.Deals : Bool))), .fact 100023 (Fact.at 23 (Fact.rep [] (a1.Seq : UInt32))), .fact 100037 (Fact.at 37 (Fact.rep [] (x3.Stripe : Int))), .fact 100038 (Fact.at 38 (Fact.ow [33] [34] 31 (x3.Blocks : List (List UInt8)))), .fact 100039 (Fact.at 39 (Fact.ow [35] [] 4 (x3.Dirty : List Bool))), .fact 100040 (Fact.at 40 (Fact.rep [] (x3.Phase : UInt8))), .fact 100041 (Fact.at 41 (Fact.rep [] (x3.Deals : Bool))), .fact 100042 (Fact.at 42 (Fact.rep [] (x3.Seq : UInt32))), .fact 100067 (Fact.at 67 (Fact.rep [] (x6.1.Stripe : Int))), .fact 100068 (Fact.at 68 (Fact.ow [63] [64] 31 (x6.1.Blocks : List (List UInt8)))), .fact 100069 (Fact.at 69 (Fact.ow [65] [] 4 (x6.1.Dirty : List Bool))), .fact 100070 (Fact.at 70 (Fact.rep [] (x6.1.Phase : UInt8))), .fact 100071 (Fact.at 71 (Fact.rep [] (x6.1.Deals : Bool))), .fact 100072 (Fact.at 72 (Fact.rep [] (x6.1.Seq : UInt32))), .fact 100105 (Fact.at 105 (Fact.rep [] (x10.Stripe : Int))), .fact 100106 (Fact.at 106 (Fact.ow [101] [102] 31 (x10.Blocks : List (List UInt8)))), .fact 100107 (Fact.at 107 (Fact.ow [103] [] 4 (x10.Dirty : List Bool))), .fact 100108 (Fact.at 108 (Fact.rep [] (x10.Phase : UInt8))), .fact 100109 (Fact.at 109 (Fact.rep [] (x10.Deals : Bool))), .fact 100110 (Fact.at 110 (Fact.rep [] (x10.Seq : UInt32))), .fact 100120 (Fact.obj 120 [(false, 1), (false, 1), (false, 1), (false, 1), (false, 1), (false, 1)]), .fact 100017 (Fact.obj 17 [(false, 1), (false, 1), (false, 1), (false, 1), (false, 1), (false, 1)]), .fact 100036 (Fact.obj 36 [(false, 1), (false, 1), (false, 1), (false, 1), (false, 1), (false, 1)]), .fact 100066 (Fact.obj 66 [(false, 1), (false, 1), (false, 1), (false, 1), (false, 1), (false, 1)]), .fact 100104 (Fact.obj 104 [(false, 1), (false, 1), (false, 1), (false, 1), (false, 1), (false, 1)])])) hb59 (sn (st (st (sc (sc (sc (sc (Sub.cons (Has.cst (HasC.cv (HasC.s (s := 902025) rfl) Cv.fl)) (Sub.cons (Has.cst (HasC.cv (HasC.s (s := 902026) rfl) Cv.fl)) (sf (sg (Sub.cons (Has.at (HasG.cv (HasG.s rfl) (Cv.owF (T := [45]) (te := []) rfl))) (sf (sf (sf (sf (sm (sm (sf (sf (sf (sf (Sub.cons (Has.at (HasG.cv (HasG.s rfl) (Cv.owM (T := [33]) (te := [34]) rfl rfl))) (Sub.cons (Has.at (HasG.cv (HasG.s rfl) (Cv.owF (T := [35]) (te := []) rfl))) (sf (sf (sf (sf (Sub.cons (Has.at (HasG.cv (HasG.s rfl) (Cv.owM (T := [63]) (te := [64]) rfl rfl))) (Sub.cons (Has.at (HasG.cv (HasG.s rfl) (Cv.owF (T := [65]) (te := []) rfl))) (sf (sf (sf (sf (Sub.cons (Has.at (HasG.cv (HasG.s rfl) (Cv.owM (T := [101]) (te := [102]) rfl rfl))) (Sub.cons (Has.at (HasG.cv (HasG.s rfl) (Cv.owF (T := [103]) (te := []) rfl))) (sf (sf (sf (sn (sn (sn (sn (sn Sub.nil)))))))))))))))))))))))))))))))))))))))))))) ?_ ?_
     ·rintro s53 c54 hm
      replace hm : law16_HeadTurns_L11 x4 s51 s53 = some c54 := hm
      unfold law16_HeadTurns_L11 at hm
      show CWalk _ [.fact 1 (Fact.isv 120), .fact 2 (Fact.rep [] (s51 : Int)), .fact 3 (Fact.rep [] (s53 : Int)), .fact 902006 (Fact.cst (u1 6) (Fact.isv 17)), .fact 902011 (Fact.cst (u1 11) (Fact.isv 36)), .fact 902016 (Fact.cst (u1 16) (Fact.isv 66)), .fact 902024 (Fact.cst (u1 24) (Fact.isv 104)), .fact 902025 (Fact.cst (u1 25) (Fact.rep [] ((((((x11 && (x4.2 == x5.2)) && x12) && (x6.2 == x7.2)) && x13) && (x8.2 == x9.2)) : Bool))), .fact 902026 (Fact.cst (u1 26) (Fact.rep [] (((((x14 == x15) && x16) && (x17 == x18)) && x19) : Bool))), .fact 100121 (Fact.at 121 (Fact.rep [] (x4.1.Stripe : Int))), .fact 100122 (Fact.at 122 (Fact.lo [43, 44] (x4.1.Blocks : List (List UInt8)))), .fact 100123 (Fact.at 123 (Fact.ow [45] [] 4 (x4.1.Dirty : List Bool))), .fact 100124 (Fact.at 124 (Fact.rep [] (x4.1.Phase : UInt8))), .fact 100125 (Fact.at 125 (Fact.rep [] (x4.1.Deals : Bool))), .fact 100126 (Fact.at 126 (Fact.rep [] (x4.1.Seq : UInt32))), .fact 100018 (Fact.at 18 (Fact.rep [] (a1.Stripe : Int))), .fact 100019 (Fact.at 19 (Fact.rep [0] (a1.Blocks : List (List UInt8)))), .fact 100020 (Fact.at 20 (Fact.rep [0] (a1.Dirty : List Bool))), .fact 100021 (Fact.at 21 (Fact.rep [] (a1.Phase : UInt8))), .fact 100022 (Fact.at 22 (Fact.rep [] (a1.Deals : Bool))), .fact 100023 (Fact.at 23 (Fact.rep [] (a1.Seq : UInt32))), .fact 100037 (Fact.at 37 (Fact.rep [] (x3.Stripe : Int))), .fact 100038 (Fact.at 38 (Fact.ow [33] [34] 31 (x3.Blocks : List (List UInt8)))), .fact 100039 (Fact.at 39 (Fact.ow [35] [] 4 (x3.Dirty : List Bool))), .fact 100040 (Fact.at 40 (Fact.rep [] (x3.Phase : UInt8))), .fact 100041 (Fact.at 41 (Fact.rep [] (x3.Deals : Bool))), .fact 100042 (Fact.at 42 (Fact.rep [] (x3.Seq : UInt32))), .fact 100067 (Fact.at 67 (Fact.rep [] (x6.1.Stripe : Int))), .fact 100068 (Fact.at 68 (Fact.ow [63] [64] 31 (x6.1.Blocks : List (List UInt8)))), .fact 100069 (Fact.at 69 (Fact.ow [65] [] 4 (x6.1.Dirty : List Bool))), .fact 100070 (Fact.at 70 (Fact.rep [] (x6.1.Phase : UInt8))), .fact 100071 (Fact.at 71 (Fact.rep [] (x6.1.Deals : Bool))), .fact 100072 (Fact.at 72 (Fact.rep [] (x6.1.Seq : UInt32))), .fact 100105 (Fact.at 105 (Fact.rep [] (x10.Stripe : Int))), .fact 100106 (Fact.at 106 (Fact.ow [101] [102] 31 (x10.Blocks : List (List UInt8)))), .fact 100107 (Fact.at 107 (Fact.ow [103] [] 4 (x10.Dirty : List Bool))), .fact 100108 (Fact.at 108 (Fact.rep [] (x10.Phase : UInt8))), .fact 100109 (Fact.at 109 (Fact.rep [] (x10.Deals : Bool))), .fact 100110 (Fact.at 110 (Fact.rep [] (x10.Seq : UInt32))), .fact 100120 (Fact.obj 120 [(false, 1), (false, 1), (false, 1), (false, 1), (false, 1), (false, 1)]), .fact 100017 (Fact.obj 17 [(false, 1), (false, 1), (false, 1), (false, 1), (false, 1), (false, 1)]), .fact 100036 (Fact.obj 36 [(false, 1), (false, 1), (false, 1), (false, 1), (false, 1), (false, 1)]), .fact 100066 (Fact.obj 66 [(false, 1), (false, 1), (false, 1), (false, 1), (false, 1), (false, 1)]), .fact 100104 (Fact.obj 104 [(false, 1), (false, 1), (false, 1), (false, 1), (false, 1), (false, 1)])] _ _
      refine CWalk.seq ?_
      refine CWalk.seq ?_
      refine CWalk.region ?_
      refine mv ?_
      refine wo (Spec.fieldAddrO fd28_1 (Has.cv (Has.s rfl) (Cv.isvP rfl))) ?_
      refine wo (Spec.loadF (i := 1) ty25 rfl (Has.s rfl) rfl (HasG.s rfl)) ?_
      refine mv ?_
      obtain ⟨x55, hx55, hm⟩ := bind_some hm
      refine wo (Spec.idxLo hx55 sl25 (Has.s rfl) (Has.s rfl)) ?_
      refine wo (Spec.loadLo ty31 (Has.s rfl)) ?_
      refine wo (Spec.lenLo (Has.s rfl) Try.underlying31) ?_
      refine wo (Spec.lssI (Has.s rfl) (Has.s rfl)) ?_
      refine Walk.nil ?_
      refine Leaf.thenN ?_
      refine CWalk.cond rfl (fun hb => ?_) (fun hb => ?_)
      ·have hm := cond_t hb hm
       refine CWalk.skip ?_
       refine Leaf.thenN ?_
       refine CWalk.seq ?_
       refine CWalk.block ?_
       refine CWalk.region ?_
       refine wo (Spec.fieldAddrO fd28_1 (Has.cv (Has.s rfl) (Cv.isvP rfl))) ?_
       refine wo (Spec.loadF (i := 1) ty25 rfl (Has.s rfl) rfl (HasG.s rfl)) ?_
       refine mv ?_
       obtain ⟨x56, hx56, hm⟩ := bind_some hm
       refine wo (Spec.idxLo hx56 sl25 (Has.s rfl) (Has.s rfl)) ?_
       refine wo (Spec.loadLo ty31 (Has.s rfl)) ?_
       refine mv ?_
       obtain ⟨x57, hx57, hm⟩ := bind_some hm
       refine wo (Spec.idxLo hx57 sl31 (Has.s rfl) (Has.s rfl)) ?_
       refine wo (Spec.loadLo ty5 (Has.s rfl)) ?_
       refine wo (Spec.add8Lo (Has.s rfl) (Has.u8 1 rfl)) ?_
       obtain ⟨x58, hx58, hm⟩ := bind_some hm
       refine wo (Spec.idxLo hx58 sl31 (Has.s rfl) (Has.s rfl)) ?_
       refine ws (Step.storeL (T := [43, 44]) (LL := [.fact 14 (Fact.lo [43, 44] (x4.1.Blocks : List (List UInt8))), .fact 16 (Fact.lptr [43, 44] (x55 : List UInt8)), .fact 17 (Fact.lo [43, 44] (x55 : List UInt8)), .fact 23 (Fact.lo [43, 44] (x4.1.Blocks : List (List UInt8))), .fact 25 (Fact.lptr [43, 44] (x56 : List UInt8)), .fact 26 (Fact.lo [43, 44] (x56 : List UInt8)), .fact 28 (Fact.lptr [43, 44] (x57 : UInt8)), .fact 29 (Fact.lo [43, 44] (x57 : UInt8)), .fact 100122 (Fact.at 122 (Fact.lo [43, 44] (x4.1.Blocks : List (List UInt8))))]) rfl ty5 (Has.s rfl) (Has.s rfl) (LooseL.lo rfl (LooseL.lptr rfl (LooseL.lo rfl (LooseL.lo rfl (LooseL.lptr rfl (LooseL.lo rfl (LooseL.lptr rfl (LooseL.lo rfl (LooseL.loF rfl LooseL.nil)))))))))) ?_
       refine Walk.nil ?_
       refine Leaf.blockN ?_
       refine Leaf.thenN ?_
       refine CWalk.region ?_
       refine mv ?_
       refine wo (Spec.addI (Has.s rfl) Has.int) ?_
       refine wo (Spec.assign (Has.s rfl)) ?_
       refine Walk.nil ?_
       exact Leaf.next hm (sn (st (st (sc (sc (sc (sc (Sub.cons (Has.cst (HasC.cv (HasC.s (s := 902025) rfl) Cv.fl)) (Sub.cons (Has.cst (HasC.cv (HasC.s (s := 902026) rfl) Cv.fl)) (sf (sg (Sub.cons (Has.at (HasG.cv (HasG.s rfl) (Cv.owF (T := [45]) (te := []) rfl))) (sf (sf (sf (sf (sm (sm (sf (sf (sf (sf (Sub.cons (Has.at (HasG.cv (HasG.s rfl) (Cv.owM (T := [33]) (te := [34]) rfl rfl))) (Sub.cons (Has.at (HasG.cv (HasG.s rfl) (Cv.owF (T := [35]) (te := []) rfl))) (sf (sf (sf (sf (Sub.cons (Has.at (HasG.cv (HasG.s rfl) (Cv.owM (T := [63]) (te := [64]) rfl rfl))) (Sub.cons (Has.at (HasG.cv (HasG.s rfl) (Cv.owF (T := [65]) (te := []) rfl))) (sf (sf (sf (sf (Sub.cons (Has.at (HasG.cv (HasG.s rfl) (Cv.owM (T := [101]) (te := [102]) rfl rfl))) (Sub.cons (Has.at (HasG.cv (HasG.s rfl) (Cv.owF (T := [103]) (te := []) rfl))) (sf (sf (sf (sn (sn (sn (sn (sn Sub.nil))))))))))))))))))))))))))))))))))))))))))))
      ·have hm := cond_f hb hm
       refine CWalk.exit ?_
       refine Leaf.thenE ?_
       exact Leaf.brk hm (fun h => nomatch h) rfl (sn (st (sc (sc (sc (sc (Sub.cons (Has.cst (HasC.cv (HasC.s (s := 902025) rfl) Cv.fl)) (Sub.cons (Has.cst (HasC.cv (HasC.s (s := 902026) rfl) Cv.fl)) (sf (sg (Sub.cons (Has.at (HasG.cv (HasG.s rfl) (Cv.owF (T := [45]) (te := []) rfl))) (sf (sf (sf (sf (sm (sm (sf (sf (sf (sf (Sub.cons (Has.at (HasG.cv (HasG.s rfl) (Cv.owM (T := [33]) (te := [34]) rfl rfl))) (Sub.cons (Has.at (HasG.cv (HasG.s rfl) (Cv.owF (T := [35]) (te := []) rfl))) (sf (sf (sf (sf (Sub.cons (Has.at (HasG.cv (HasG.s rfl) (Cv.owM (T := [63]) (te := [64]) rfl rfl))) (Sub.cons (Has.at (HasG.cv (HasG.s rfl) (Cv.owF (T := [65]) (te := []) rfl))) (sf (sf (sf (sf (Sub.cons (Has.at (HasG.cv (HasG.s rfl) (Cv.owM (T := [101]) (te := [102]) rfl rfl))) (Sub.cons (Has.at (HasG.cv (HasG.s rfl) (Cv.owF (T := [103]) (te := []) rfl))) (sf (sf (sf (sn (sn (sn (sn (sn Sub.nil)))))))))))))))))))))))))))))))))))))))))))
     ·intro _
      refine Leaf.blockE ?_
      refine Leaf.blockN ?_
      refine Leaf.thenN ?_
      refine CWalk.region ?_
      refine mv ?_
      refine wo (Spec.addI (Has.s rfl) Has.int) ?_
      refine wo (Spec.assign (Has.s rfl)) ?_
      refine Walk.nil ?_
      exact Leaf.next hm (sn (st (sc (sc (sc (sc (Sub.cons (Has.cst (HasC.cv (HasC.s (s := 902025) rfl) Cv.fl)) (Sub.cons (Has.cst (HasC.cv (HasC.s (s := 902026) rfl) Cv.fl)) (sf (sg (Sub.cons (Has.at (HasG.cv (HasG.s rfl) (Cv.owF (T := [45]) (te := []) rfl))) (sf (sf (sf (sf (sm (sm (sf (sf (sf (sf (Sub.cons (Has.at (HasG.cv (HasG.s rfl) (Cv.owM (T := [33]) (te := [34]) rfl rfl))) (Sub.cons (Has.at (HasG.cv (HasG.s rfl) (Cv.owF (T := [35]) (te := []) rfl))) (sf (sf (sf (sf (Sub.cons (Has.at (HasG.cv (HasG.s rfl) (Cv.owM (T := [63]) (te := [64]) rfl rfl))) (Sub.cons (Has.at (HasG.cv (HasG.s rfl) (Cv.owF (T := [65]) (te := []) rfl))) (sf (sf (sf (sf (Sub.cons (Has.at (HasG.cv (HasG.s rfl) (Cv.owM (T := [101]) (te := [102]) rfl rfl))) (Sub.cons (Has.at (HasG.cv (HasG.s rfl) (Cv.owF (T := [103]) (te := []) rfl))) (sf (sf (sf (sn (sn (sn (sn (sn Sub.nil)))))))))))))))))))))))))))))))))))))))))))
    ·have hm := cond_f hb hm
     refine CWalk.exit ?_
     refine Leaf.thenE ?_
     exact Leaf.brk hm (fun h => nomatch h) rfl (sn (sc (sc (sc (sc (Sub.cons (Has.cst (HasC.cv (HasC.s (s := 902025) rfl) Cv.fl)) (Sub.cons (Has.cst (HasC.cv (HasC.s (s := 902026) rfl) Cv.fl)) (sf (sg (Sub.cons (Has.at (HasG.cv (HasG.s rfl) (Cv.owF (T := [45]) (te := []) rfl))) (sf (sf (sf (sf (sm (sm (sf (sf (sf (sf (Sub.cons (Has.at (HasG.cv (HasG.s rfl) (Cv.owM (T := [33]) (te := [34]) rfl rfl))) (Sub.cons (Has.at (HasG.cv (HasG.s rfl) (Cv.owF (T := [35]) (te := []) rfl))) (sf (sf (sf (sf (Sub.cons (Has.at (HasG.cv (HasG.s rfl) (Cv.owM (T := [63]) (te := [64]) rfl rfl))) (Sub.cons (Has.at (HasG.cv (HasG.s rfl) (Cv.owF (T := [65]) (te := []) rfl))) (sf (sf (sf (sf (Sub.cons (Has.at (HasG.cv (HasG.s rfl) (Cv.owM (T := [101]) (te := [102]) rfl rfl))) (Sub.cons (Has.at (HasG.cv (HasG.s rfl) (Cv.owF (T := [103]) (te := []) rfl))) (sf (sf (sf (sn (sn (sn (sn (sn Sub.nil))))))))))))))))))))))))))))))))))))))))))
   ·intro _
    refine Leaf.blockE ?_
    refine Leaf.thenN ?_
    refine CWalk.seq ?_
    refine CWalk.region ?_
    refine wo (Spec.assign Has.int) ?_
    refine Walk.nil ?_
    refine Leaf.thenN ?_
    refine CWalk.block ?_
    obtain ⟨b65, hb65, hm⟩ := bind_some hm
    refine CWalk.loop (fun s : Int => [.fact 1 (Fact.isv 120), .fact 4 (Fact.rep [] (s : Int)), .fact 902006 (Fact.cst (u1 6) (Fact.isv 17)), .fact 902011 (Fact.cst (u1 11) (Fact.isv 36)), .fact 902016 (Fact.cst (u1 16) (Fact.isv 66)), .fact 902024 (Fact.cst (u1 24) (Fact.isv 104)), .fact 902025 (Fact.cst (u1 25) (Fact.rep [] ((((((x11 && (x4.2 == x5.2)) && x12) && (x6.2 == x7.2)) && x13) && (x8.2 == x9.2)) : Bool))), .fact 902026 (Fact.cst (u1 26) (Fact.rep [] (((((x14 == x15) && x16) && (x17 == x18)) && x19) : Bool))), .fact 100121 (Fact.at 121 (Fact.rep [] (x4.1.Stripe : Int))), .fact 100122 (Fact.at 122 (Fact.lo [43, 44] (x4.1.Blocks : List (List UInt8)))), .fact 100123 (Fact.at 123 (Fact.lo [45] (x4.1.Dirty : List Bool))), .fact 100124 (Fact.at 124 (Fact.rep [] (x4.1.Phase : UInt8))), .fact 100125 (Fact.at 125 (Fact.rep [] (x4.1.Deals : Bool))), .fact 100126 (Fact.at 126 (Fact.rep [] (x4.1.Seq : UInt32))), .fact 100018 (Fact.at 18 (Fact.rep [] (a1.Stripe : Int))), .fact 100019 (Fact.at 19 (Fact.rep [0] (a1.Blocks : List (List UInt8)))), .fact 100020 (Fact.at 20 (Fact.rep [0] (a1.Dirty : List Bool))), .fact 100021 (Fact.at 21 (Fact.rep [] (a1.Phase : UInt8))), .fact 100022 (Fact.at 22 (Fact.rep [] (a1.Deals : Bool))), .fact 100023 (Fact.at 23 (Fact.rep [] (a1.Seq : UInt32))), .fact 100037 (Fact.at 37 (Fact.rep [] (x3.Stripe : Int))), .fact 100038 (Fact.at 38 (Fact.ow [33] [34] 31 (x3.Blocks : List (List UInt8)))), .fact 100039 (Fact.at 39 (Fact.ow [35] [] 4 (x3.Dirty : List Bool))), .fact 100040 (Fact.at 40 (Fact.rep [] (x3.Phase : UInt8))), .fact 100041 (Fact.at 41 (Fact.rep [] (x3.Deals : Bool))), .fact 100042 (Fact.at 42 (Fact.rep [] (x3.Seq : UInt32))), .fact 100067 (Fact.at 67 (Fact.rep [] (x6.1.Stripe : Int))), .fact 100068 (Fact.at 68 (Fact.ow [63] [64] 31 (x6.1.Blocks : List (List UInt8)))), .fact 100069 (Fact.at 69 (Fact.ow [65] [] 4 (x6.1.Dirty : List Bool))), .fact 100070 (Fact.at 70 (Fact.rep [] (x6.1.Phase : UInt8))), .fact 100071 (Fact.at 71 (Fact.rep [] (x6.1.Deals : Bool))), .fact 100072 (Fact.at 72 (Fact.rep [] (x6.1.Seq : UInt32))), .fact 100105 (Fact.at 105 (Fact.rep [] (x10.Stripe : Int))), .fact 100106 (Fact.at 106 (Fact.ow [101] [102] 31 (x10.Blocks : List (List UInt8)))), .fact 100107 (Fact.at 107 (Fact.ow [103] [] 4 (x10.Dirty : List Bool))), .fact 100108 (Fact.at 108 (Fact.rep [] (x10.Phase : UInt8))), .fact 100109 (Fact.at 109 (Fact.rep [] (x10.Deals : Bool))), .fact 100110 (Fact.at 110 (Fact.rep [] (x10.Seq : UInt32))), .fact 100120 (Fact.obj 120 [(false, 1), (false, 1), (false, 1), (false, 1), (false, 1), (false, 1)]), .fact 100017 (Fact.obj 17 [(false, 1), (false, 1), (false, 1), (false, 1), (false, 1), (false, 1)]), .fact 100036 (Fact.obj 36 [(false, 1), (false, 1), (false, 1), (false, 1), (false, 1), (false, 1)]), .fact 100066 (Fact.obj 66 [(false, 1), (false, 1), (false, 1), (false, 1), (false, 1), (false, 1)]), .fact 100104 (Fact.obj 104 [(false, 1), (false, 1), (false, 1), (false, 1), (false, 1), (false, 1)])]) (fun b : Unit => (Exit.exit 4, [.fact 902006 (Fact.cst (u1 6) (Fact.isv 17)), .fact 902011 (Fact.cst (u1 11) (Fact.isv 36)), .fact 902016 (Fact.cst (u1 16) (Fact.isv 66)), .fact 902024 (Fact.cst (u1 24) (Fact.isv 104)), .fact 902025 (Fact.cst (u1 25) (Fact.rep [] ((((((x11 && (x4.2 == x5.2)) && x12) && (x6.2 == x7.2)) && x13) && (x8.2 == x9.2)) : Bool))), .fact 902026 (Fact.cst (u1 26) (Fact.rep [] (((((x14 == x15) && x16) && (x17 == x18)) && x19) : Bool))), .fact 100018 (Fact.at 18 (Fact.rep [] (a1.Stripe : Int))), .fact 100019 (Fact.at 19 (Fact.rep [0] (a1.Blocks : List (List UInt8)))), .fact 100020 (Fact.at 20 (Fact.rep [0] (a1.Dirty : List Bool))), .fact 100021 (Fact.at 21 (Fact.rep [] (a1.Phase : UInt8))), .fact 100022 (Fact.at 22 (Fact.rep [] (a1.Deals : Bool))), .fact 100023 (Fact.at 23 (Fact.rep [] (a1.Seq : UInt32))), .fact 100037 (Fact.at 37 (Fact.rep [] (x3.Stripe : Int))), .fact 100038 (Fact.at 38 (Fact.ow [33] [34] 31 (x3.Blocks : List (List UInt8)))), .fact 100039 (Fact.at 39 (Fact.ow [35] [] 4 (x3.Dirty : List Bool))), .fact 100040 (Fact.at 40 (Fact.rep [] (x3.Phase : UInt8))), .fact 100041 (Fact.at 41 (Fact.rep [] (x3.Deals : Bool))), .fact 100042 (Fact.at 42 (Fact.rep [] (x3.Seq : UInt32))), .fact 100067 (Fact.at 67 (Fact.rep [] (x6.1.Stripe : Int))), .fact 100068 (Fact.at 68 (Fact.ow [63] [64] 31 (x6.1.Blocks : List (List UInt8)))), .fact 100069 (Fact.at 69 (Fact.ow [65] [] 4 (x6.1.Dirty : List Bool))), .fact 100070 (Fact.at 70 (Fact.rep [] (x6.1.Phase : UInt8))), .fact 100071 (Fact.at 71 (Fact.rep [] (x6.1.Deals : Bool))), .fact 100072 (Fact.at 72 (Fact.rep [] (x6.1.Seq : UInt32))), .fact 100105 (Fact.at 105 (Fact.rep [] (x10.Stripe : Int))), .fact 100106 (Fact.at 106 (Fact.ow [101] [102] 31 (x10.Blocks : List (List UInt8)))), .fact 100107 (Fact.at 107 (Fact.ow [103] [] 4 (x10.Dirty : List Bool))), .fact 100108 (Fact.at 108 (Fact.rep [] (x10.Phase : UInt8))), .fact 100109 (Fact.at 109 (Fact.rep [] (x10.Deals : Bool))), .fact 100110 (Fact.at 110 (Fact.rep [] (x10.Seq : UInt32))), .fact 100017 (Fact.obj 17 [(false, 1), (false, 1), (false, 1), (false, 1), (false, 1), (false, 1)]), .fact 100036 (Fact.obj 36 [(false, 1), (false, 1), (false, 1), (false, 1), (false, 1), (false, 1)]), .fact 100066 (Fact.obj 66 [(false, 1), (false, 1), (false, 1), (false, 1), (false, 1), (false, 1)]), .fact 100104 (Fact.obj 104 [(false, 1), (false, 1), (false, 1), (false, 1), (false, 1), (false, 1)])])) hb65 (sn (st (sc (sc (sc (sc (Sub.cons (Has.cst (HasC.cv (HasC.s (s := 902025) rfl) Cv.fl)) (Sub.cons (Has.cst (HasC.cv (HasC.s (s := 902026) rfl) Cv.fl)) (sf (sg (Sub.cons (Has.at (HasG.cv (HasG.s rfl) (Cv.trans (Cv.trans Cv.owSl (Cv.slRep (T' := [45]) rfl rfl)) (Cv.lo rfl)))) (sf (sf (sf (sf (sm (sm (sf (sf (sf (sf (Sub.cons (Has.at (HasG.cv (HasG.s rfl) (Cv.owM (T := [33]) (te := [34]) rfl rfl))) (Sub.cons (Has.at (HasG.cv (HasG.s rfl) (Cv.owF (T := [35]) (te := []) rfl))) (sf (sf (sf (sf (Sub.cons (Has.at (HasG.cv (HasG.s rfl) (Cv.owM (T := [63]) (te := [64]) rfl rfl))) (Sub.cons (Has.at (HasG.cv (HasG.s rfl) (Cv.owF (T := [65]) (te := []) rfl))) (sf (sf (sf (sf (Sub.cons (Has.at (HasG.cv (HasG.s rfl) (Cv.owM (T := [101]) (te := [102]) rfl rfl))) (Sub.cons (Has.at (HasG.cv (HasG.s rfl) (Cv.owF (T := [103]) (te := []) rfl))) (sf (sf (sf (sn (sn (sn (sn (sn Sub.nil))))))))))))))))))))))))))))))))))))))))))) ?_ ?_
    ·rintro s61 c62 hm
     replace hm : law16_HeadTurns_L12 x4 s61 = some c62 := hm
     unfold law16_HeadTurns_L12 at hm
     show CWalk _ [.fact 1 (Fact.isv 120), .fact 4 (Fact.rep [] (s61 : Int)), .fact 902006 (Fact.cst (u1 6) (Fact.isv 17)), .fact 902011 (Fact.cst (u1 11) (Fact.isv 36)), .fact 902016 (Fact.cst (u1 16) (Fact.isv 66)), .fact 902024 (Fact.cst (u1 24) (Fact.isv 104)), .fact 902025 (Fact.cst (u1 25) (Fact.rep [] ((((((x11 && (x4.2 == x5.2)) && x12) && (x6.2 == x7.2)) && x13) && (x8.2 == x9.2)) : Bool))), .fact 902026 (Fact.cst (u1 26) (Fact.rep [] (((((x14 == x15) && x16) && (x17 == x18)) && x19) : Bool))), .fact 100121 (Fact.at 121 (Fact.rep [] (x4.1.Stripe : Int))), .fact 100122 (Fact.at 122 (Fact.lo [43, 44] (x4.1.Blocks : List (List UInt8)))), .fact 100123 (Fact.at 123 (Fact.lo [45] (x4.1.Dirty : List Bool))), .fact 100124 (Fact.at 124 (Fact.rep [] (x4.1.Phase : UInt8))), .fact 100125 (Fact.at 125 (Fact.rep [] (x4.1.Deals : Bool))), .fact 100126 (Fact.at 126 (Fact.rep [] (x4.1.Seq : UInt32))), .fact 100018 (Fact.at 18 (Fact.rep [] (a1.Stripe : Int))), .fact 100019 (Fact.at 19 (Fact.rep [0] (a1.Blocks : List (List UInt8)))), .fact 100020 (Fact.at 20 (Fact.rep [0] (a1.Dirty : List Bool))), .fact 100021 (Fact.at 21 (Fact.rep [] (a1.Phase : UInt8))), .fact 100022 (Fact.at 22 (Fact.rep [] (a1.Deals : Bool))), .fact 100023 (Fact.at 23 (Fact.rep [] (a1.Seq : UInt32))), .fact 100037 (Fact.at 37 (Fact.rep [] (x3.Stripe : Int))), .fact 100038 (Fact.at 38 (Fact.ow [33] [34] 31 (x3.Blocks : List (List UInt8)))), .fact 100039 (Fact.at 39 (Fact.ow [35] [] 4 (x3.Dirty : List Bool))), .fact 100040 (Fact.at 40 (Fact.rep [] (x3.Phase : UInt8))), .fact 100041 (Fact.at 41 (Fact.rep [] (x3.Deals : Bool))), .fact 100042 (Fact.at 42 (Fact.rep [] (x3.Seq : UInt32))), .fact 100067 (Fact.at 67 (Fact.rep [] (x6.1.Stripe : Int))), .fact 100068 (Fact.at 68 (Fact.ow [63] [64] 31 (x6.1.Blocks : List (List UInt8)))), .fact 100069 (Fact.at 69 (Fact.ow [65] [] 4 (x6.1.Dirty : List Bool))), .fact 100070 (Fact.at 70 (Fact.rep [] (x6.1.Phase : UInt8))), .fact 100071 (Fact.at 71 (Fact.rep [] (x6.1.Deals : Bool))), .fact 100072 (Fact.at 72 (Fact.rep [] (x6.1.Seq : UInt32))), .fact 100105 (Fact.at 105 (Fact.rep [] (x10.Stripe : Int))), .fact 100106 (Fact.at 106 (Fact.ow [101] [102] 31 (x10.Blocks : List (List UInt8)))), .fact 100107 (Fact.at 107 (Fact.ow [103] [] 4 (x10.Dirty : List Bool))), .fact 100108 (Fact.at 108 (Fact.rep [] (x10.Phase : UInt8))), .fact 100109 (Fact.at 109 (Fact.rep [] (x10.Deals : Bool))), .fact 100110 (Fact.at 110 (Fact.rep [] (x10.Seq : UInt32))), .fact 100120 (Fact.obj 120 [(false, 1), (false, 1), (false, 1), (false, 1), (false, 1), (false, 1)]), .fact 100017 (Fact.obj 17 [(false, 1), (false, 1), (false, 1), (false, 1), (false, 1), (false, 1)]), .fact 100036 (Fact.obj 36 [(false, 1), (false, 1), (false, 1), (false, 1), (false, 1), (false, 1)]), .fact 100066 (Fact.obj 66 [(false, 1), (false, 1), (false, 1), (false, 1), (false, 1), (false, 1)]), .fact 100104 (Fact.obj 104 [(false, 1), (false, 1), (false, 1), (false, 1), (false, 1), (false, 1)])] _ _
     refine CWalk.seq ?_
     refine CWalk.seq ?_
     refine CWalk.region ?_
     refine mv ?_
     refine wo (Spec.fieldAddrO fd28_2 (Has.cv (Has.s rfl) (Cv.isvP rfl))) ?_
     refine wo (Spec.loadF (i := 2) ty26 rfl (Has.s rfl) rfl (HasG.s rfl)) ?_
     refine wo (Spec.lenLo (Has.s rfl) Try.underlying26) ?_
     refine wo (Spec.lssI (Has.s rfl) (Has.s rfl)) ?_
     refine Walk.nil ?_
     refine Leaf.thenN ?_
     refine CWalk.cond rfl (fun hb => ?_) (fun hb => ?_)
     ·have hm := cond_t hb hm
      refine CWalk.skip ?_
      refine Leaf.thenN ?_
      refine CWalk.seq ?_
      refine CWalk.block ?_
      obtain ⟨x63, hx63, hm⟩ := bind_some hm
      obtain ⟨x64, hx64, hm⟩ := bind_some hm
      refine CWalk.drawM [[], [0], [], [], [3], [], [3, 4, 5], [3, 4, 5, 6], [3, 4, 5, 6, 7], [0, 1, 2, 3, 4, 5, 6, 7, 8], [0, 1, 2, 3, 4, 5, 6, 7, 8, 9]] [[.fact 39 (Fact.pto 120 2)], [.fact 40 (Fact.lo [45] (x4.1.Dirty : List Bool))], [.fact 41 (Fact.rep [] (s61 : Int))], [.fact 42 (Fact.pto 120 2)], [.fact 43 (Fact.lo [45] (x4.1.Dirty : List Bool))], [.fact 44 (Fact.rep [] (s61 : Int))], [.fact 45 (Fact.lptr [45] (x63 : Bool))], [.fact 46 (Fact.lo [45] (x63 : Bool))], [.fact 47 (Fact.lo [] (false : Bool))], [.fact 48 (Fact.lptr [45] (x64 : Bool))], [.fact 34 (Fact.lo [45] (x4.1.Dirty : List Bool)), .fact 40 (Fact.lo [45] (x4.1.Dirty : List Bool)), .fact 43 (Fact.lo [45] (x4.1.Dirty : List Bool)), .fact 45 (Fact.lptr [45] (x63 : Bool)), .fact 46 (Fact.lo [45] (x63 : Bool)), .fact 100123 (Fact.at 123 (Fact.lo [45] (x4.1.Dirty : List Bool))), .kill 45]] mixed (by kernel_rfl) (ao (so (Spec.fieldAddrO fd28_2 (Has.cv (Has.s rfl) (Cv.isvP rfl)))) (ao (so (Spec.loadF (i := 2) ty26 rfl (Has.s rfl) rfl (HasG.s rfl))) (ao (so (Spec.move (Has.s rfl))) (ao (so (Spec.fieldAddrO fd28_2 (Has.cv (Has.s rfl) (Cv.isvP rfl)))) (ao (so (Spec.loadF (i := 2) ty26 rfl (Has.s rfl) rfl (HasG.s rfl))) (ao (so (Spec.move (Has.s rfl))) (ao (so (Spec.idxLo hx63 sl26 (Has.s rfl) (Has.s rfl))) (ao (so (Spec.loadLo ty4 (Has.s rfl))) (ao (so (Spec.notLo (Has.s rfl))) (ao (so (Spec.idxLo hx64 sl26 (Has.s rfl) (Has.s rfl))) (ao (StepG.stE (Step.storeL (T := [45]) (LL := [.fact 34 (Fact.lo [45] (x4.1.Dirty : List Bool)), .fact 40 (Fact.lo [45] (x4.1.Dirty : List Bool)), .fact 43 (Fact.lo [45] (x4.1.Dirty : List Bool)), .fact 45 (Fact.lptr [45] (x63 : Bool)), .fact 46 (Fact.lo [45] (x63 : Bool)), .fact 100123 (Fact.at 123 (Fact.lo [45] (x4.1.Dirty : List Bool)))]) rfl ty4 (Has.s rfl) (Has.s rfl) (LooseL.lo rfl (LooseL.lo rfl (LooseL.lo rfl (LooseL.lptr rfl (LooseL.lo rfl (LooseL.loF rfl LooseL.nil)))))))) AllM.nil))))))))))) ?_
      refine Leaf.blockN ?_
      refine Leaf.thenN ?_
      refine CWalk.region ?_
      refine mv ?_
      refine wo (Spec.addI (Has.s rfl) Has.int) ?_
      refine wo (Spec.assign (Has.s rfl)) ?_
      refine Walk.nil ?_
      exact Leaf.next hm (sn (st (sc (sc (sc (sc (Sub.cons (Has.cst (HasC.cv (HasC.s (s := 902025) rfl) Cv.fl)) (Sub.cons (Has.cst (HasC.cv (HasC.s (s := 902026) rfl) Cv.fl)) (sf (sg (sg (sf (sf (sf (sf (sm (sm (sf (sf (sf (sf (Sub.cons (Has.at (HasG.cv (HasG.s rfl) (Cv.owM (T := [33]) (te := [34]) rfl rfl))) (Sub.cons (Has.at (HasG.cv (HasG.s rfl) (Cv.owF (T := [35]) (te := []) rfl))) (sf (sf (sf (sf (Sub.cons (Has.at (HasG.cv (HasG.s rfl) (Cv.owM (T := [63]) (te := [64]) rfl rfl))) (Sub.cons (Has.at (HasG.cv (HasG.s rfl) (Cv.owF (T := [65]) (te := []) rfl))) (sf (sf (sf (sf (Sub.cons (Has.at (HasG.cv (HasG.s rfl) (Cv.owM (T := [101]) (te := [102]) rfl rfl))) (Sub.cons (Has.at (HasG.cv (HasG.s rfl) (Cv.owF (T := [103]) (te := []) rfl))) (sf (sf (sf (sn (sn (sn (sn (sn Sub.nil)))))))))))))))))))))))))))))))))))))))))))
     ·have hm := cond_f hb hm
      refine CWalk.exit ?_
      refine Leaf.thenE ?_
      exact Leaf.brk hm (fun h => nomatch h) rfl (sc (sc (sc (sc (Sub.cons (Has.cst (HasC.cv (HasC.s (s := 902025) rfl) Cv.fl)) (Sub.cons (Has.cst (HasC.cv (HasC.s (s := 902026) rfl) Cv.fl)) (sf (sm (sm (sf (sf (sf (sf (Sub.cons (Has.at (HasG.cv (HasG.s rfl) (Cv.owM (T := [33]) (te := [34]) rfl rfl))) (Sub.cons (Has.at (HasG.cv (HasG.s rfl) (Cv.owF (T := [35]) (te := []) rfl))) (sf (sf (sf (sf (Sub.cons (Has.at (HasG.cv (HasG.s rfl) (Cv.owM (T := [63]) (te := [64]) rfl rfl))) (Sub.cons (Has.at (HasG.cv (HasG.s rfl) (Cv.owF (T := [65]) (te := []) rfl))) (sf (sf (sf (sf (Sub.cons (Has.at (HasG.cv (HasG.s rfl) (Cv.owM (T := [101]) (te := [102]) rfl rfl))) (Sub.cons (Has.at (HasG.cv (HasG.s rfl) (Cv.owF (T := [103]) (te := []) rfl))) (sf (sf (sf (sn (sn (sn (sn Sub.nil))))))))))))))))))))))))))))))))))
    ·intro _
     refine Leaf.blockE ?_
     exact Leaf.inN (Leaf.in0 (f0 := Fact.top) () hm rfl rfl (fun _ _ => trivial) (ls 902006 (ls 902011 (ls 902016 (ls 902024 (Low.slot rfl (HasC.cv (HasC.s (s := 902025) rfl) Cv.fl) (Low.slot rfl (HasC.cv (HasC.s (s := 902026) rfl) Cv.fl) (Low.res (lf (lm (lm (lf (lf (lf (lf (Low.keepG (HasG.cv (HasG.s rfl) (Cv.owM (T := [33]) (te := [34]) rfl rfl)) (Low.keepG (HasG.cv (HasG.s rfl) (Cv.owF (T := [35]) (te := []) rfl)) (lf (lf (lf (lf (Low.keepG (HasG.cv (HasG.s rfl) (Cv.owM (T := [63]) (te := [64]) rfl rfl)) (Low.keepG (HasG.cv (HasG.s rfl) (Cv.owF (T := [65]) (te := []) rfl)) (lf (lf (lf (lf (Low.keepG (HasG.cv (HasG.s rfl) (Cv.owM (T := [101]) (te := [102]) rfl rfl)) (Low.keepG (HasG.cv (HasG.s rfl) (Cv.owF (T := [103]) (te := []) rfl)) (lf (lf (lf (lo (lo (lo (lo Low.nil))))))))))))))))))))))))))))))))))))
  ·rintro _ hm
   replace hm : law16_HeadTurns_J1 a1 x3 x4 x5 x6 x7 x8 x9 x10 x11 x12 x13 x14 x15 x16 x17 x18 x19 = some r := hm
   unfold law16_HeadTurns_J1 at hm
   show Walk _ _ _ [.fact 6 (Fact.isv 17), .fact 11 (Fact.isv 36), .fact 16 (Fact.isv 66), .fact 24 (Fact.isv 104), .fact 25 (Fact.rep [] ((((((x11 && (x4.2 == x5.2)) && x12) && (x6.2 == x7.2)) && x13) && (x8.2 == x9.2)) : Bool)), .fact 26 (Fact.rep [] (((((x14 == x15) && x16) && (x17 == x18)) && x19) : Bool)), .fact 141 (Fact.top), .fact 100018 (Fact.at 18 (Fact.rep [] (a1.Stripe : Int))), .fact 100019 (Fact.at 19 (Fact.rep [0] (a1.Blocks : List (List UInt8)))), .fact 100020 (Fact.at 20 (Fact.rep [0] (a1.Dirty : List Bool))), .fact 100021 (Fact.at 21 (Fact.rep [] (a1.Phase : UInt8))), .fact 100022 (Fact.at 22 (Fact.rep [] (a1.Deals : Bool))), .fact 100023 (Fact.at 23 (Fact.rep [] (a1.Seq : UInt32))), .fact 100037 (Fact.at 37 (Fact.rep [] (x3.Stripe : Int))), .fact 100038 (Fact.at 38 (Fact.ow [33] [34] 31 (x3.Blocks : List (List UInt8)))), .fact 100039 (Fact.at 39 (Fact.ow [35] [] 4 (x3.Dirty : List Bool))), .fact 100040 (Fact.at 40 (Fact.rep [] (x3.Phase : UInt8))), .fact 100041 (Fact.at 41 (Fact.rep [] (x3.Deals : Bool))), .fact 100042 (Fact.at 42 (Fact.rep [] (x3.Seq : UInt32))), .fact 100067 (Fact.at 67 (Fact.rep [] (x6.1.Stripe : Int))), .fact 100068 (Fact.at 68 (Fact.ow [63] [64] 31 (x6.1.Blocks : List (List UInt8)))), .fact 100069 (Fact.at 69 (Fact.ow [65] [] 4 (x6.1.Dirty : List Bool))), .fact 100070 (Fact.at 70 (Fact.rep [] (x6.1.Phase : UInt8))), .fact 100071 (Fact.at 71 (Fact.rep [] (x6.1.Deals : Bool))), .fact 100072 (Fact.at 72 (Fact.rep [] (x6.1.Seq : UInt32))), .fact 100105 (Fact.at 105 (Fact.rep [] (x10.Stripe : Int))), .fact 100106 (Fact.at 106 (Fact.ow [101] [102] 31 (x10.Blocks : List (List UInt8)))), .fact 100107 (Fact.at 107 (Fact.ow [103] [] 4 (x10.Dirty : List Bool))), .fact 100108 (Fact.at 108 (Fact.rep [] (x10.Phase : UInt8))), .fact 100109 (Fact.at 109 (Fact.rep [] (x10.Deals : Bool))), .fact 100110 (Fact.at 110 (Fact.rep [] (x10.Seq : UInt32))), .fact 100017 (Fact.obj 17 [(false, 1), (false, 1), (false, 1), (false, 1), (false, 1), (false, 1)]), .fact 100036 (Fact.obj 36 [(false, 1), (false, 1), (false, 1), (false, 1), (false, 1), (false, 1)]), .fact 100066 (Fact.obj 66 [(false, 1), (false, 1), (false, 1), (false, 1), (false, 1), (false, 1)]), .fact 100104 (Fact.obj 104 [(false, 1), (false, 1), (false, 1), (false, 1), (false, 1), (false, 1)])] _
   refine Walk.nil ?_
   refine Leaf.thenN ?_
   refine CWalk.seq ?_
   refine CWalk.region ?_
   refine wo (Spec.loadObj (ls := [(false, 1, Fact.rep [] (x6.1.Stripe : Int)), (false, 1, Fact.ow [63] [64] 31 (x6.1.Blocks : List (List UInt8))), (false, 1, Fact.ow [65] [] 4 (x6.1.Dirty : List Bool)), (false, 1, Fact.rep [] (x6.1.Phase : UInt8)), (false, 1, Fact.rep [] (x6.1.Deals : Bool)), (false, 1, Fact.rep [] (x6.1.Seq : UInt32))]) ty28 rfl rfl (Has.s rfl) rfl (HasGs.cons (HasG.s rfl) (HasGs.cons (HasG.s rfl) (HasGs.cons (HasG.s rfl) (HasGs.cons (HasG.s rfl) (HasGs.cons (HasG.s rfl) (HasGs.cons (HasG.s rfl) HasGs.nil))))))) ?_
   refine Walk.inline (S := Unit) (fun p : Unit => [.fact 6 (Fact.isv 17), .fact 11 (Fact.isv 36), .fact 24 (Fact.isv 104), .fact 25 (Fact.rep [] ((((((x11 && (x4.2 == x5.2)) && x12) && (x6.2 == x7.2)) && x13) && (x8.2 == x9.2)) : Bool)), .fact 26 (Fact.rep [] (((((x14 == x15) && x16) && (x17 == x18)) && x19) : Bool)), .fact 143 (Fact.top), .fact 100018 (Fact.at 18 (Fact.rep [] (a1.Stripe : Int))), .fact 100019 (Fact.at 19 (Fact.rep [0] (a1.Blocks : List (List UInt8)))), .fact 100020 (Fact.at 20 (Fact.rep [0] (a1.Dirty : List Bool))), .fact 100021 (Fact.at 21 (Fact.rep [] (a1.Phase : UInt8))), .fact 100022 (Fact.at 22 (Fact.rep [] (a1.Deals : Bool))), .fact 100023 (Fact.at 23 (Fact.rep [] (a1.Seq : UInt32))), .fact 100037 (Fact.at 37 (Fact.rep [] (x3.Stripe : Int))), .fact 100038 (Fact.at 38 (Fact.ow [33] [34] 31 (x3.Blocks : List (List UInt8)))), .fact 100039 (Fact.at 39 (Fact.ow [35] [] 4 (x3.Dirty : List Bool))), .fact 100040 (Fact.at 40 (Fact.rep [] (x3.Phase : UInt8))), .fact 100041 (Fact.at 41 (Fact.rep [] (x3.Deals : Bool))), .fact 100042 (Fact.at 42 (Fact.rep [] (x3.Seq : UInt32))), .fact 100105 (Fact.at 105 (Fact.rep [] (x10.Stripe : Int))), .fact 100106 (Fact.at 106 (Fact.ow [101] [102] 31 (x10.Blocks : List (List UInt8)))), .fact 100107 (Fact.at 107 (Fact.ow [103] [] 4 (x10.Dirty : List Bool))), .fact 100108 (Fact.at 108 (Fact.rep [] (x10.Phase : UInt8))), .fact 100109 (Fact.at 109 (Fact.rep [] (x10.Deals : Bool))), .fact 100110 (Fact.at 110 (Fact.rep [] (x10.Seq : UInt32))), .fact 100017 (Fact.obj 17 [(false, 1), (false, 1), (false, 1), (false, 1), (false, 1), (false, 1)]), .fact 100036 (Fact.obj 36 [(false, 1), (false, 1), (false, 1), (false, 1), (false, 1), (false, 1)]), .fact 100104 (Fact.obj 104 [(false, 1), (false, 1), (false, 1), (false, 1), (false, 1), (false, 1)])]) (fun p : Unit => law16_HeadTurns_J2 a1 x3 x4 x5 x6 x7 x8 x9 x10 x11 x12 x13 x14 x15 x16 x17 x18 x19 = some r) (fun u1 => [.fact 100018 (Fact.at 18 (Fact.rep [] (a1.Stripe : Int))), .fact 100019 (Fact.at 19 (Fact.rep [0] (a1.Blocks : List (List UInt8)))), .fact 100020 (Fact.at 20 (Fact.rep [0] (a1.Dirty : List Bool))), .fact 100021 (Fact.at 21 (Fact.rep [] (a1.Phase : UInt8))), .fact 100022 (Fact.at 22 (Fact.rep [] (a1.Deals : Bool))), .fact 100023 (Fact.at 23 (Fact.rep [] (a1.Seq : UInt32))), .fact 100037 (Fact.at 37 (Fact.rep [] (x3.Stripe : Int))), .fact 100038 (Fact.at 38 (Fact.ow [33] [34] 31 (x3.Blocks : List (List UInt8)))), .fact 100039 (Fact.at 39 (Fact.ow [35] [] 4 (x3.Dirty : List Bool))), .fact 100040 (Fact.at 40 (Fact.rep [] (x3.Phase : UInt8))), .fact 100041 (Fact.at 41 (Fact.rep [] (x3.Deals : Bool))), .fact 100042 (Fact.at 42 (Fact.rep [] (x3.Seq : UInt32))), .fact 100105 (Fact.at 105 (Fact.rep [] (x10.Stripe : Int))), .fact 100106 (Fact.at 106 (Fact.ow [101] [102] 31 (x10.Blocks : List (List UInt8)))), .fact 100107 (Fact.at 107 (Fact.ow [103] [] 4 (x10.Dirty : List Bool))), .fact 100108 (Fact.at 108 (Fact.rep [] (x10.Phase : UInt8))), .fact 100109 (Fact.at 109 (Fact.rep [] (x10.Deals : Bool))), .fact 100110 (Fact.at 110 (Fact.rep [] (x10.Seq : UInt32))), .fact 902006 (Fact.cst (u1 6) (Fact.isv 17)), .fact 902011 (Fact.cst (u1 11) (Fact.isv 36)), .fact 902024 (Fact.cst (u1 24) (Fact.isv 104)), .fact 902025 (Fact.cst (u1 25) (Fact.rep [] ((((((x11 && (x4.2 == x5.2)) && x12) && (x6.2 == x7.2)) && x13) && (x8.2 == x9.2)) : Bool))), .fact 902026 (Fact.cst (u1 26) (Fact.rep [] (((((x14 == x15) && x16) && (x17 == x18)) && x19) : Bool))), .fact 100017 (Fact.obj 17 [(false, 1), (false, 1), (false, 1), (false, 1), (false, 1), (false, 1)]), .fact 100036 (Fact.obj 36 [(false, 1), (false, 1), (false, 1), (false, 1), (false, 1), (false, 1)]), .fact 100104 (Fact.obj 104 [(false, 1), (false, 1), (false, 1), (false, 1), (false, 1), (false, 1)])]) (FA := [Fact.flds [(false, 1, Fact.rep [] (x6.1.Stripe : Int)), (false, 1, Fact.ow [63] [64] 31 (x6.1.Blocks : List (List UInt8))), (false, 1, Fact.ow [65] [] 4 (x6.1.Dirty : List Bool)), (false, 1, Fact.rep [] (x6.1.Phase : UInt8)), (false, 1, Fact.rep [] (x6.1.Deals : Bool)), (false, 1, Fact.rep [] (x6.1.Seq : UInt32))]]) rfl Try.func27 rfl rfl rfl (CallOk.fn en27 (HasF.cons (Has.s rfl) HasF.nil)) (fun u1 => (ck (ck (ck (ck (ck (ck (ck (ck (ck (ck (ck (ck (ck (ck (ck (ck (ck (ck (cs 902000 6 (cs 902000 11 (cs 902000 24 (cs 902000 25 (cs 902000 26 (ck (ck (ck Carry.nil))))))))))))))))))))))))))) (fun u1 => ?_) ?_
   ·refine CWalk.seq ?_
    refine CWalk.region ?_
    refine ws (Step.boxObj (ls := [(false, 1, Fact.rep [] (x6.1.Stripe : Int)), (false, 1, Fact.ow [63] [64] 31 (x6.1.Blocks : List (List UInt8))), (false, 1, Fact.ow [65] [] 4 (x6.1.Dirty : List Bool)), (false, 1, Fact.rep [] (x6.1.Phase : UInt8)), (false, 1, Fact.rep [] (x6.1.Deals : Bool)), (false, 1, Fact.rep [] (x6.1.Seq : UInt32))]) 127 rfl rfl rfl rfl (HasL.flds (Has.s rfl))) ?_
    refine Walk.nil ?_
    refine Leaf.thenN ?_
    refine CWalk.seq ?_
    refine CWalk.seq ?_
    refine CWalk.region ?_
    refine wo (Spec.assign Has.int) ?_
    refine Walk.nil ?_
    refine Leaf.thenN ?_
    refine CWalk.block ?_
    obtain ⟨b45, hb45, hm⟩ := bind_some hm
    refine CWalk.loop (fun s : Int => [.fact 1 (Fact.isv 127), .fact 2 (Fact.rep [] (s : Int)), .fact 902006 (Fact.cst (u1 6) (Fact.isv 17)), .fact 902011 (Fact.cst (u1 11) (Fact.isv 36)), .fact 902024 (Fact.cst (u1 24) (Fact.isv 104)), .fact 902025 (Fact.cst (u1 25) (Fact.rep [] ((((((x11 && (x4.2 == x5.2)) && x12) && (x6.2 == x7.2)) && x13) && (x8.2 == x9.2)) : Bool))), .fact 902026 (Fact.cst (u1 26) (Fact.rep [] (((((x14 == x15) && x16) && (x17 == x18)) && x19) : Bool))), .fact 100128 (Fact.at 128 (Fact.rep [] (x6.1.Stripe : Int))), .fact 100129 (Fact.at 129 (Fact.lo [63, 64] (x6.1.Blocks : List (List UInt8)))), .fact 100130 (Fact.at 130 (Fact.ow [65] [] 4 (x6.1.Dirty : List Bool))), .fact 100131 (Fact.at 131 (Fact.rep [] (x6.1.Phase : UInt8))), .fact 100132 (Fact.at 132 (Fact.rep [] (x6.1.Deals : Bool))), .fact 100133 (Fact.at 133 (Fact.rep [] (x6.1.Seq : UInt32))), .fact 100018 (Fact.at 18 (Fact.rep [] (a1.Stripe : Int))), .fact 100019 (Fact.at 19 (Fact.rep [0] (a1.Blocks : List (List UInt8)))), .fact 100020 (Fact.at 20 (Fact.rep [0] (a1.Dirty : List Bool))), .fact 100021 (Fact.at 21 (Fact.rep [] (a1.Phase : UInt8))), .fact 100022 (Fact.at 22 (Fact.rep [] (a1.Deals : Bool))), .fact 100023 (Fact.at 23 (Fact.rep [] (a1.Seq : UInt32))), .fact 100037 (Fact.at 37 (Fact.rep [] (x3.Stripe : Int))), .fact 100038 (Fact.at 38 (Fact.ow [33] [34] 31 (x3.Blocks : List (List UInt8)))), .fact 100039 (Fact.at 39 (Fact.ow [35] [] 4 (x3.Dirty : List Bool))), .fact 100040 (Fact.at 40 (Fact.rep [] (x3.Phase : UInt8))), .fact 100041 (Fact.at 41 (Fact.rep [] (x3.Deals : Bool))), .fact 100042 (Fact.at 42 (Fact.rep [] (x3.Seq : UInt32))), .fact 100105 (Fact.at 105 (Fact.rep [] (x10.Stripe : Int))), .fact 100106 (Fact.at 106 (Fact.ow [101] [102] 31 (x10.Blocks : List (List UInt8)))), .fact 100107 (Fact.at 107 (Fact.ow [103] [] 4 (x10.Dirty : List Bool))), .fact 100108 (Fact.at 108 (Fact.rep [] (x10.Phase : UInt8))), .fact 100109 (Fact.at 109 (Fact.rep [] (x10.Deals : Bool))), .fact 100110 (Fact.at 110 (Fact.rep [] (x10.Seq : UInt32))), .fact 100127 (Fact.obj 127 [(false, 1), (false, 1), (false, 1), (false, 1), (false, 1), (false, 1)]), .fact 100017 (Fact.obj 17 [(false, 1), (false, 1), (false, 1), (false, 1), (false, 1), (false, 1)]), .fact 100036 (Fact.obj 36 [(false, 1), (false, 1), (false, 1), (false, 1), (false, 1), (false, 1)]), .fact 100104 (Fact.obj 104 [(false, 1), (false, 1), (false, 1), (false, 1), (false, 1), (false, 1)])]) (fun b : Unit => (Exit.exit 0, [.fact 1 (Fact.isv 127), .fact 902006 (Fact.cst (u1 6) (Fact.isv 17)), .fact 902011 (Fact.cst (u1 11) (Fact.isv 36)), .fact 902024 (Fact.cst (u1 24) (Fact.isv 104)), .fact 902025 (Fact.cst (u1 25) (Fact.rep [] ((((((x11 && (x4.2 == x5.2)) && x12) && (x6.2 == x7.2)) && x13) && (x8.2 == x9.2)) : Bool))), .fact 902026 (Fact.cst (u1 26) (Fact.rep [] (((((x14 == x15) && x16) && (x17 == x18)) && x19) : Bool))), .fact 100128 (Fact.at 128 (Fact.rep [] (x6.1.Stripe : Int))), .fact 100129 (Fact.at 129 (Fact.lo [63, 64] (x6.1.Blocks : List (List UInt8)))), .fact 100130 (Fact.at 130 (Fact.ow [65] [] 4 (x6.1.Dirty : List Bool))), .fact 100131 (Fact.at 131 (Fact.rep [] (x6.1.Phase : UInt8))), .fact 100132 (Fact.at 132 (Fact.rep [] (x6.1.Deals : Bool))), .fact 100133 (Fact.at 133 (Fact.rep [] (x6.1.Seq : UInt32))), .fact 100018 (Fact.at 18 (Fact.rep [] (a1.Stripe : Int))), .fact 100019 (Fact.at 19 (Fact.rep [0] (a1.Blocks : List (List UInt8)))), .fact 100020 (Fact.at 20 (Fact.rep [0] (a1.Dirty : List Bool))), .fact 100021 (Fact.at 21 (Fact.rep [] (a1.Phase : UInt8))), .fact 100022 (Fact.at 22 (Fact.rep [] (a1.Deals : Bool))), .fact 100023 (Fact.at 23 (Fact.rep [] (a1.Seq : UInt32))), .fact 100037 (Fact.at 37 (Fact.rep [] (x3.Stripe : Int))), .fact 100038 (Fact.at 38 (Fact.ow [33] [34] 31 (x3.Blocks : List (List UInt8)))), .fact 100039 (Fact.at 39 (Fact.ow [35] [] 4 (x3.Dirty : List Bool))), .fact 100040 (Fact.at 40 (Fact.rep [] (x3.Phase : UInt8))), .fact 100041 (Fact.at 41 (Fact.rep [] (x3.Deals : Bool))), .fact 100042 (Fact.at 42 (Fact.rep [] (x3.Seq : UInt32))), .fact 100105 (Fact.at 105 (Fact.rep [] (x10.Stripe : Int))), .fact 100106 (Fact.at 106 (Fact.ow [101] [102] 31 (x10.Blocks : List (List UInt8)))), .fact 100107 (Fact.at 107 (Fact.ow [103] [] 4 (x10.Dirty : List Bool))), .fact 100108 (Fact.at 108 (Fact.rep [] (x10.Phase : UInt8))), .fact 100109 (Fact.at 109 (Fact.rep [] (x10.Deals : Bool))), .fact 100110 (Fact.at 110 (Fact.rep [] (x10.Seq : UInt32))), .fact 100127 (Fact.obj 127 [(false, 1), (false, 1), (false, 1), (false, 1), (false, 1), (false, 1)]), .fact 100017 (Fact.obj 17 [(false, 1), (false, 1), (false, 1), (false, 1), (false, 1), (false, 1)]), .fact 100036 (Fact.obj 36 [(false, 1), (false, 1), (false, 1), (false, 1), (false, 1), (false, 1)]), .fact 100104 (Fact.obj 104 [(false, 1), (false, 1), (false, 1), (false, 1), (false, 1), (false, 1)])])) hb45 (sn (st (sc (sc (sc (Sub.cons (Has.cst (HasC.cv (HasC.s (s := 902025) rfl) Cv.fl)) (Sub.cons (Has.cst (HasC.cv (HasC.s (s := 902026) rfl) Cv.fl)) (sf (Sub.cons (Has.at (HasG.cv (HasG.s rfl) (Cv.trans (Cv.trans Cv.owSl (Cv.slRep (T' := [63, 64]) rfl rfl)) (Cv.lo rfl)))) (Sub.cons (Has.at (HasG.cv (HasG.s rfl) (Cv.owF (T := [65]) (te := []) rfl))) (sf (sf (sf (sf (sm (sm (sf (sf (sf (sf (Sub.cons (Has.at (HasG.cv (HasG.s rfl) (Cv.owM (T := [33]) (te := [34]) rfl rfl))) (Sub.cons (Has.at (HasG.cv (HasG.s rfl) (Cv.owF (T := [35]) (te := []) rfl))) (sf (sf (sf (sf (Sub.cons (Has.at (HasG.cv (HasG.s rfl) (Cv.owM (T := [101]) (te := [102]) rfl rfl))) (Sub.cons (Has.at (HasG.cv (HasG.s rfl) (Cv.owF (T := [103]) (te := []) rfl))) (sf (sf (sf (sn (sn (sn (sn Sub.nil))))))))))))))))))))))))))))))))))) ?_ ?_
    ·rintro s36 c37 hm
     replace hm : law16_HeadTurns_L7 x6 s36 = some c37 := hm
     unfold law16_HeadTurns_L7 at hm
     show CWalk _ [.fact 1 (Fact.isv 127), .fact 2 (Fact.rep [] (s36 : Int)), .fact 902006 (Fact.cst (u1 6) (Fact.isv 17)), .fact 902011 (Fact.cst (u1 11) (Fact.isv 36)), .fact 902024 (Fact.cst (u1 24) (Fact.isv 104)), .fact 902025 (Fact.cst (u1 25) (Fact.rep [] ((((((x11 && (x4.2 == x5.2)) && x12) && (x6.2 == x7.2)) && x13) && (x8.2 == x9.2)) : Bool))), .fact 902026 (Fact.cst (u1 26) (Fact.rep [] (((((x14 == x15) && x16) && (x17 == x18)) && x19) : Bool))), .fact 100128 (Fact.at 128 (Fact.rep [] (x6.1.Stripe : Int))), .fact 100129 (Fact.at 129 (Fact.lo [63, 64] (x6.1.Blocks : List (List UInt8)))), .fact 100130 (Fact.at 130 (Fact.ow [65] [] 4 (x6.1.Dirty : List Bool))), .fact 100131 (Fact.at 131 (Fact.rep [] (x6.1.Phase : UInt8))), .fact 100132 (Fact.at 132 (Fact.rep [] (x6.1.Deals : Bool))), .fact 100133 (Fact.at 133 (Fact.rep [] (x6.1.Seq : UInt32))), .fact 100018 (Fact.at 18 (Fact.rep [] (a1.Stripe : Int))), .fact 100019 (Fact.at 19 (Fact.rep [0] (a1.Blocks : List (List UInt8)))), .fact 100020 (Fact.at 20 (Fact.rep [0] (a1.Dirty : List Bool))), .fact 100021 (Fact.at 21 (Fact.rep [] (a1.Phase : UInt8))), .fact 100022 (Fact.at 22 (Fact.rep [] (a1.Deals : Bool))), .fact 100023 (Fact.at 23 (Fact.rep [] (a1.Seq : UInt32))), .fact 100037 (Fact.at 37 (Fact.rep [] (x3.Stripe : Int))), .fact 100038 (Fact.at 38 (Fact.ow [33] [34] 31 (x3.Blocks : List (List UInt8)))), .fact 100039 (Fact.at 39 (Fact.ow [35] [] 4 (x3.Dirty : List Bool))), .fact 100040 (Fact.at 40 (Fact.rep [] (x3.Phase : UInt8))), .fact 100041 (Fact.at 41 (Fact.rep [] (x3.Deals : Bool))), .fact 100042 (Fact.at 42 (Fact.rep [] (x3.Seq : UInt32))), .fact 100105 (Fact.at 105 (Fact.rep [] (x10.Stripe : Int))), .fact 100106 (Fact.at 106 (Fact.ow [101] [102] 31 (x10.Blocks : List (List UInt8)))), .fact 100107 (Fact.at 107 (Fact.ow [103] [] 4 (x10.Dirty : List Bool))), .fact 100108 (Fact.at 108 (Fact.rep [] (x10.Phase : UInt8))), .fact 100109 (Fact.at 109 (Fact.rep [] (x10.Deals : Bool))), .fact 100110 (Fact.at 110 (Fact.rep [] (x10.Seq : UInt32))), .fact 100127 (Fact.obj 127 [(false, 1), (false, 1), (false, 1), (false, 1), (false, 1), (false, 1)]), .fact 100017 (Fact.obj 17 [(false, 1), (false, 1), (false, 1), (false, 1), (false, 1), (false, 1)]), .fact 100036 (Fact.obj 36 [(false, 1), (false, 1), (false, 1), (false, 1), (false, 1), (false, 1)]), .fact 100104 (Fact.obj 104 [(false, 1), (false, 1), (false, 1), (false, 1), (false, 1), (false, 1)])] _ _
     refine CWalk.seq ?_
     refine CWalk.seq ?_
     refine CWalk.region ?_
     refine mv ?_
     refine wo (Spec.fieldAddrO fd28_1 (Has.cv (Has.s rfl) (Cv.isvP rfl))) ?_
     refine wo (Spec.loadF (i := 1) ty25 rfl (Has.s rfl) rfl (HasG.s rfl)) ?_
     refine wo (Spec.lenLo (Has.s rfl) Try.underlying25) ?_
     refine wo (Spec.lssI (Has.s rfl) (Has.s rfl)) ?_
     refine Walk.nil ?_
     refine Leaf.thenN ?_
     refine CWalk.cond rfl (fun hb => ?_) (fun hb => ?_)
     ·have hm := cond_t hb hm
      refine CWalk.skip ?_
      refine Leaf.thenN ?_
      refine CWalk.seq ?_
      refine CWalk.block ?_
      refine CWalk.seq ?_
      refine CWalk.region ?_
      refine wo (Spec.assign Has.int) ?_
      refine Walk.nil ?_
      refine Leaf.thenN ?_
      refine CWalk.block ?_
      obtain ⟨b44, hb44, hm⟩ := bind_some hm
      refine CWalk.loop (fun s : Int => [.fact 1 (Fact.isv 127), .fact 2 (Fact.rep [] (s36 : Int)), .fact 3 (Fact.rep [] (s : Int)), .fact 902006 (Fact.cst (u1 6) (Fact.isv 17)), .fact 902011 (Fact.cst (u1 11) (Fact.isv 36)), .fact 902024 (Fact.cst (u1 24) (Fact.isv 104)), .fact 902025 (Fact.cst (u1 25) (Fact.rep [] ((((((x11 && (x4.2 == x5.2)) && x12) && (x6.2 == x7.2)) && x13) && (x8.2 == x9.2)) : Bool))), .fact 902026 (Fact.cst (u1 26) (Fact.rep [] (((((x14 == x15) && x16) && (x17 == x18)) && x19) : Bool))), .fact 100128 (Fact.at 128 (Fact.rep [] (x6.1.Stripe : Int))), .fact 100129 (Fact.at 129 (Fact.lo [63, 64] (x6.1.Blocks : List (List UInt8)))), .fact 100130 (Fact.at 130 (Fact.ow [65] [] 4 (x6.1.Dirty : List Bool))), .fact 100131 (Fact.at 131 (Fact.rep [] (x6.1.Phase : UInt8))), .fact 100132 (Fact.at 132 (Fact.rep [] (x6.1.Deals : Bool))), .fact 100133 (Fact.at 133 (Fact.rep [] (x6.1.Seq : UInt32))), .fact 100018 (Fact.at 18 (Fact.rep [] (a1.Stripe : Int))), .fact 100019 (Fact.at 19 (Fact.rep [0] (a1.Blocks : List (List UInt8)))), .fact 100020 (Fact.at 20 (Fact.rep [0] (a1.Dirty : List Bool))), .fact 100021 (Fact.at 21 (Fact.rep [] (a1.Phase : UInt8))), .fact 100022 (Fact.at 22 (Fact.rep [] (a1.Deals : Bool))), .fact 100023 (Fact.at 23 (Fact.rep [] (a1.Seq : UInt32))), .fact 100037 (Fact.at 37 (Fact.rep [] (x3.Stripe : Int))), .fact 100038 (Fact.at 38 (Fact.ow [33] [34] 31 (x3.Blocks : List (List UInt8)))), .fact 100039 (Fact.at 39 (Fact.ow [35] [] 4 (x3.Dirty : List Bool))), .fact 100040 (Fact.at 40 (Fact.rep [] (x3.Phase : UInt8))), .fact 100041 (Fact.at 41 (Fact.rep [] (x3.Deals : Bool))), .fact 100042 (Fact.at 42 (Fact.rep [] (x3.Seq : UInt32))), .fact 100105 (Fact.at 105 (Fact.rep [] (x10.Stripe : Int))), .fact 100106 (Fact.at 106 (Fact.ow [101] [102] 31 (x10.Blocks : List (List UInt8)))), .fact 100107 (Fact.at 107 (Fact.ow [103] [] 4 (x10.Dirty : List Bool))), .fact 100108 (Fact.at 108 (Fact.rep [] (x10.Phase : UInt8))), .fact 100109 (Fact.at 109 (Fact.rep [] (x10.Deals : Bool))), .fact 100110 (Fact.at 110 (Fact.rep [] (x10.Seq : UInt32))), .fact 100127 (Fact.obj 127 [(false, 1), (false, 1), (false, 1), (false, 1), (false, 1), (false, 1)]), .fact 100017 (Fact.obj 17 [(false, 1), (false, 1), (false, 1), (false, 1), (false, 1), (false, 1)]), .fact 100036 (Fact.obj 36 [(false, 1), (false, 1), (false, 1), (false, 1), (false, 1), (false, 1)]), .fact 100104 (Fact.obj 104 [(false, 1), (false, 1), (false, 1), (false, 1), (false, 1), (false, 1)])]) (fun b : Unit => (Exit.exit 2, [.fact 1 (Fact.isv 127), .fact 2 (Fact.rep [] (s36 : Int)), .fact 902006 (Fact.cst (u1 6) (Fact.isv 17)), .fact 902011 (Fact.cst (u1 11) (Fact.isv 36)), .fact 902024 (Fact.cst (u1 24) (Fact.isv 104)), .fact 902025 (Fact.cst (u1 25) (Fact.rep [] ((((((x11 && (x4.2 == x5.2)) && x12) && (x6.2 == x7.2)) && x13) && (x8.2 == x9.2)) : Bool))), .fact 902026 (Fact.cst (u1 26) (Fact.rep [] (((((x14 == x15) && x16) && (x17 == x18)) && x19) : Bool))), .fact 100128 (Fact.at 128 (Fact.rep [] (x6.1.Stripe : Int))), .fact 100129 (Fact.at 129 (Fact.lo [63, 64] (x6.1.Blocks : List (List UInt8)))), .fact 100130 (Fact.at 130 (Fact.ow [65] [] 4 (x6.1.Dirty : List Bool))), .fact 100131 (Fact.at 131 (Fact.rep [] (x6.1.Phase : UInt8))), .fact 100132 (Fact.at 132 (Fact.rep [] (x6.1.Deals : Bool))), .fact 100133 (Fact.at 133 (Fact.rep [] (x6.1.Seq : UInt32))), .fact 100018 (Fact.at 18 (Fact.rep [] (a1.Stripe : Int))), .fact 100019 (Fact.at 19 (Fact.rep [0] (a1.Blocks : List (List UInt8)))), .fact 100020 (Fact.at 20 (Fact.rep [0] (a1.Dirty : List Bool))), .fact 100021 (Fact.at 21 (Fact.rep [] (a1.Phase : UInt8))), .fact 100022 (Fact.at 22 (Fact.rep [] (a1.Deals : Bool))), .fact 100023 (Fact.at 23 (Fact.rep [] (a1.Seq : UInt32))), .fact 100037 (Fact.at 37 (Fact.rep [] (x3.Stripe : Int))), .fact 100038 (Fact.at 38 (Fact.ow [33] [34] 31 (x3.Blocks : List (List UInt8)))), .fact 100039 (Fact.at 39 (Fact.ow [35] [] 4 (x3.Dirty : List Bool))), .fact 100040 (Fact.at 40 (Fact.rep [] (x3.Phase : UInt8))), .fact 100041 (Fact.at 41 (Fact.rep [] (x3.Deals : Bool))), .fact 100042 (Fact.at 42 (Fact.rep [] (x3.Seq : UInt32))), .fact 100105 (Fact.at 105 (Fact.rep [] (x10.Stripe : Int))), .fact 100106 (Fact.at 106 (Fact.ow [101] [102] 31 (x10.Blocks : List (List UInt8)))), .fact 100107 (Fact.at 107 (Fact.ow [103] [] 4 (x10.Dirty : List Bool))), .fact 100108 (Fact.at 108 (Fact.rep [] (x10.Phase : UInt8))), .fact 100109 (Fact.at 109 (Fact.rep [] (x10.Deals : Bool))), .fact 100110 (Fact.at 110 (Fact.rep [] (x10.Seq : UInt32))), .fact 100127 (Fact.obj 127 [(false, 1), (false, 1), (false, 1), (false, 1), (false, 1), (false, 1)]), .fact 100017 (Fact.obj 17 [(false, 1), (false, 1), (false, 1), (false, 1), (false, 1), (false, 1)]), .fact 100036 (Fact.obj 36 [(false, 1), (false, 1), (false, 1), (false, 1), (false, 1), (false, 1)]), .fact 100104 (Fact.obj 104 [(false, 1), (false, 1), (false, 1), (false, 1), (false, 1), (false, 1)])])) hb44 (sn (st (st (sc (sc (sc (Sub.cons (Has.cst (HasC.cv (HasC.s (s := 902025) rfl) Cv.fl)) (Sub.cons (Has.cst (HasC.cv (HasC.s (s := 902026) rfl) Cv.fl)) (sf (sg (Sub.cons (Has.at (HasG.cv (HasG.s rfl) (Cv.owF (T := [65]) (te := []) rfl))) (sf (sf (sf (sf (sm (sm (sf (sf (sf (sf (Sub.cons (Has.at (HasG.cv (HasG.s rfl) (Cv.owM (T := [33]) (te := [34]) rfl rfl))) (Sub.cons (Has.at (HasG.cv (HasG.s rfl) (Cv.owF (T := [35]) (te := []) rfl))) (sf (sf (sf (sf (Sub.cons (Has.at (HasG.cv (HasG.s rfl) (Cv.owM (T := [101]) (te := [102]) rfl rfl))) (Sub.cons (Has.at (HasG.cv (HasG.s rfl) (Cv.owF (T := [103]) (te := []) rfl))) (sf (sf (sf (sn (sn (sn (sn Sub.nil)))))))))))))))))))))))))))))))))))) ?_ ?_
      ·rintro s38 c39 hm
       replace hm : law16_HeadTurns_L8 x6 s36 s38 = some c39 := hm
       unfold law16_HeadTurns_L8 at hm
       show CWalk _ [.fact 1 (Fact.isv 127), .fact 2 (Fact.rep [] (s36 : Int)), .fact 3 (Fact.rep [] (s38 : Int)), .fact 902006 (Fact.cst (u1 6) (Fact.isv 17)), .fact 902011 (Fact.cst (u1 11) (Fact.isv 36)), .fact 902024 (Fact.cst (u1 24) (Fact.isv 104)), .fact 902025 (Fact.cst (u1 25) (Fact.rep [] ((((((x11 && (x4.2 == x5.2)) && x12) && (x6.2 == x7.2)) && x13) && (x8.2 == x9.2)) : Bool))), .fact 902026 (Fact.cst (u1 26) (Fact.rep [] (((((x14 == x15) && x16) && (x17 == x18)) && x19) : Bool))), .fact 100128 (Fact.at 128 (Fact.rep [] (x6.1.Stripe : Int))), .fact 100129 (Fact.at 129 (Fact.lo [63, 64] (x6.1.Blocks : List (List UInt8)))), .fact 100130 (Fact.at 130 (Fact.ow [65] [] 4 (x6.1.Dirty : List Bool))), .fact 100131 (Fact.at 131 (Fact.rep [] (x6.1.Phase : UInt8))), .fact 100132 (Fact.at 132 (Fact.rep [] (x6.1.Deals : Bool))), .fact 100133 (Fact.at 133 (Fact.rep [] (x6.1.Seq : UInt32))), .fact 100018 (Fact.at 18 (Fact.rep [] (a1.Stripe : Int))), .fact 100019 (Fact.at 19 (Fact.rep [0] (a1.Blocks : List (List UInt8)))), .fact 100020 (Fact.at 20 (Fact.rep [0] (a1.Dirty : List Bool))), .fact 100021 (Fact.at 21 (Fact.rep [] (a1.Phase : UInt8))), .fact 100022 (Fact.at 22 (Fact.rep [] (a1.Deals : Bool))), .fact 100023 (Fact.at 23 (Fact.rep [] (a1.Seq : UInt32))), .fact 100037 (Fact.at 37 (Fact.rep [] (x3.Stripe : Int))), .fact 100038 (Fact.at 38 (Fact.ow [33] [34] 31 (x3.Blocks : List (List UInt8)))), .fact 100039 (Fact.at 39 (Fact.ow [35] [] 4 (x3.Dirty : List Bool))), .fact 100040 (Fact.at 40 (Fact.rep [] (x3.Phase : UInt8))), .fact 100041 (Fact.at 41 (Fact.rep [] (x3.Deals : Bool))), .fact 100042 (Fact.at 42 (Fact.rep [] (x3.Seq : UInt32))), .fact 100105 (Fact.at 105 (Fact.rep [] (x10.Stripe : Int))), .fact 100106 (Fact.at 106 (Fact.ow [101] [102] 31 (x10.Blocks : List (List UInt8)))), .fact 100107 (Fact.at 107 (Fact.ow [103] [] 4 (x10.Dirty : List Bool))), .fact 100108 (Fact.at 108 (Fact.rep [] (x10.Phase : UInt8))), .fact 100109 (Fact.at 109 (Fact.rep [] (x10.Deals : Bool))), .fact 100110 (Fact.at 110 (Fact.rep [] (x10.Seq : UInt32))), .fact 100127 (Fact.obj 127 [(false, 1), (false, 1), (false, 1), (false, 1), (false, 1), (false, 1)]), .fact 100017 (Fact.obj 17 [(false, 1), (false, 1), (false, 1), (false, 1), (false, 1), (false, 1)]), .fact 100036 (Fact.obj 36 [(false, 1), (false, 1), (false, 1), (false, 1), (false, 1), (false, 1)]), .fact 100104 (Fact.obj 104 [(false, 1), (false, 1), (false, 1), (false, 1), (false, 1), (false, 1)])] _ _
       refine CWalk.seq ?_
       refine CWalk.seq ?_
       refine CWalk.region ?_
       refine mv ?_
       refine wo (Spec.fieldAddrO fd28_1 (Has.cv (Has.s rfl) (Cv.isvP rfl))) ?_
       refine wo (Spec.loadF (i := 1) ty25 rfl (Has.s rfl) rfl (HasG.s rfl)) ?_
       refine mv ?_
       obtain ⟨x40, hx40, hm⟩ := bind_some hm
       refine wo (Spec.idxLo hx40 sl25 (Has.s rfl) (Has.s rfl)) ?_
       refine wo (Spec.loadLo ty31 (Has.s rfl)) ?_
       refine wo (Spec.lenLo (Has.s rfl) Try.underlying31) ?_
       refine wo (Spec.lssI (Has.s rfl) (Has.s rfl)) ?_
       refine Walk.nil ?_
       refine Leaf.thenN ?_
       refine CWalk.cond rfl (fun hb => ?_) (fun hb => ?_)
       ·have hm := cond_t hb hm
        refine CWalk.skip ?_
        refine Leaf.thenN ?_
        refine CWalk.seq ?_
        refine CWalk.block ?_
        refine CWalk.region ?_
        refine wo (Spec.fieldAddrO fd28_1 (Has.cv (Has.s rfl) (Cv.isvP rfl))) ?_
        refine wo (Spec.loadF (i := 1) ty25 rfl (Has.s rfl) rfl (HasG.s rfl)) ?_
        refine mv ?_
        obtain ⟨x41, hx41, hm⟩ := bind_some hm
        refine wo (Spec.idxLo hx41 sl25 (Has.s rfl) (Has.s rfl)) ?_
        refine wo (Spec.loadLo ty31 (Has.s rfl)) ?_
        refine mv ?_
        obtain ⟨x42, hx42, hm⟩ := bind_some hm
        refine wo (Spec.idxLo hx42 sl31 (Has.s rfl) (Has.s rfl)) ?_
        refine wo (Spec.loadLo ty5 (Has.s rfl)) ?_
        refine wo (Spec.add8Lo (Has.s rfl) (Has.u8 1 rfl)) ?_
        obtain ⟨x43, hx43, hm⟩ := bind_some hm
        refine wo (Spec.idxLo hx43 sl31 (Has.s rfl) (Has.s rfl)) ?_
        refine ws (Step.storeL (T := [63, 64]) (LL := [.fact 14 (Fact.lo [63, 64] (x6.1.Blocks : List (List UInt8))), .fact 16 (Fact.lptr [63, 64] (x40 : List UInt8)), .fact 17 (Fact.lo [63, 64] (x40 : List UInt8)), .fact 23 (Fact.lo [63, 64] (x6.1.Blocks : List (List UInt8))), .fact 25 (Fact.lptr [63, 64] (x41 : List UInt8)), .fact 26 (Fact.lo [63, 64] (x41 : List UInt8)), .fact 28 (Fact.lptr [63, 64] (x42 : UInt8)), .fact 29 (Fact.lo [63, 64] (x42 : UInt8)), .fact 100129 (Fact.at 129 (Fact.lo [63, 64] (x6.1.Blocks : List (List UInt8))))]) rfl ty5 (Has.s rfl) (Has.s rfl) (LooseL.lo rfl (LooseL.lptr rfl (LooseL.lo rfl (LooseL.lo rfl (LooseL.lptr rfl (LooseL.lo rfl (LooseL.lptr rfl (LooseL.lo rfl (LooseL.loF rfl LooseL.nil)))))))))) ?_
        refine Walk.nil ?_
        refine Leaf.blockN ?_
        refine Leaf.thenN ?_
        refine CWalk.region ?_
        refine mv ?_
        refine wo (Spec.addI (Has.s rfl) Has.int) ?_
        refine wo (Spec.assign (Has.s rfl)) ?_
        refine Walk.nil ?_
        exact Leaf.next hm (sn (st (st (sc (sc (sc (Sub.cons (Has.cst (HasC.cv (HasC.s (s := 902025) rfl) Cv.fl)) (Sub.cons (Has.cst (HasC.cv (HasC.s (s := 902026) rfl) Cv.fl)) (sf (sg (Sub.cons (Has.at (HasG.cv (HasG.s rfl) (Cv.owF (T := [65]) (te := []) rfl))) (sf (sf (sf (sf (sm (sm (sf (sf (sf (sf (Sub.cons (Has.at (HasG.cv (HasG.s rfl) (Cv.owM (T := [33]) (te := [34]) rfl rfl))) (Sub.cons (Has.at (HasG.cv (HasG.s rfl) (Cv.owF (T := [35]) (te := []) rfl))) (sf (sf (sf (sf (Sub.cons (Has.at (HasG.cv (HasG.s rfl) (Cv.owM (T := [101]) (te := [102]) rfl rfl))) (Sub.cons (Has.at (HasG.cv (HasG.s rfl) (Cv.owF (T := [103]) (te := []) rfl))) (sf (sf (sf (sn (sn (sn (sn Sub.nil))))))))))))))))))))))))))))))))))))
       ·have hm := cond_f hb hm
        refine CWalk.exit ?_
        refine Leaf.thenE ?_
        exact Leaf.brk hm (fun h => nomatch h) rfl (sn (st (sc (sc (sc (Sub.cons (Has.cst (HasC.cv (HasC.s (s := 902025) rfl) Cv.fl)) (Sub.cons (Has.cst (HasC.cv (HasC.s (s := 902026) rfl) Cv.fl)) (sf (sg (Sub.cons (Has.at (HasG.cv (HasG.s rfl) (Cv.owF (T := [65]) (te := []) rfl))) (sf (sf (sf (sf (sm (sm (sf (sf (sf (sf (Sub.cons (Has.at (HasG.cv (HasG.s rfl) (Cv.owM (T := [33]) (te := [34]) rfl rfl))) (Sub.cons (Has.at (HasG.cv (HasG.s rfl) (Cv.owF (T := [35]) (te := []) rfl))) (sf (sf (sf (sf (Sub.cons (Has.at (HasG.cv (HasG.s rfl) (Cv.owM (T := [101]) (te := [102]) rfl rfl))) (Sub.cons (Has.at (HasG.cv (HasG.s rfl) (Cv.owF (T := [103]) (te := []) rfl))) (sf (sf (sf (sn (sn (sn (sn Sub.nil)))))))))))))))))))))))))))))))))))
      ·intro _
       refine Leaf.blockE ?_
       refine Leaf.blockN ?_
       refine Leaf.thenN ?_
       refine CWalk.region ?_
       refine mv ?_
       refine wo (Spec.addI (Has.s rfl) Has.int) ?_
       refine wo (Spec.assign (Has.s rfl)) ?_
       refine Walk.nil ?_
       exact Leaf.next hm (sn (st (sc (sc (sc (Sub.cons (Has.cst (HasC.cv (HasC.s (s := 902025) rfl) Cv.fl)) (Sub.cons (Has.cst (HasC.cv (HasC.s (s := 902026) rfl) Cv.fl)) (sf (sg (Sub.cons (Has.at (HasG.cv (HasG.s rfl) (Cv.owF (T := [65]) (te := []) rfl))) (sf (sf (sf (sf (sm (sm (sf (sf (sf (sf (Sub.cons (Has.at (HasG.cv (HasG.s rfl) (Cv.owM (T := [33]) (te := [34]) rfl rfl))) (Sub.cons (Has.at (HasG.cv (HasG.s rfl) (Cv.owF (T := [35]) (te := []) rfl))) (sf (sf (sf (sf (Sub.cons (Has.at (HasG.cv (HasG.s rfl) (Cv.owM (T := [101]) (te := [102]) rfl rfl))) (Sub.cons (Has.at (HasG.cv (HasG.s rfl) (Cv.owF (T := [103]) (te := []) rfl))) (sf (sf (sf (sn (sn (sn (sn Sub.nil)))))))))))))))))))))))))))))))))))
     ·have hm := cond_f hb hm
      refine CWalk.exit ?_
      refine Leaf.thenE ?_
      exact Leaf.brk hm (fun h => nomatch h) rfl (sn (sc (sc (sc (Sub.cons (Has.cst (HasC.cv (HasC.s (s := 902025) rfl) Cv.fl)) (Sub.cons (Has.cst (HasC.cv (HasC.s (s := 902026) rfl) Cv.fl)) (sf (sg (Sub.cons (Has.at (HasG.cv (HasG.s rfl) (Cv.owF (T := [65]) (te := []) rfl))) (sf (sf (sf (sf (sm (sm (sf (sf (sf (sf (Sub.cons (Has.at (HasG.cv (HasG.s rfl) (Cv.owM (T := [33]) (te := [34]) rfl rfl))) (Sub.cons (Has.at (HasG.cv (HasG.s rfl) (Cv.owF (T := [35]) (te := []) rfl))) (sf (sf (sf (sf (Sub.cons (Has.at (HasG.cv (HasG.s rfl) (Cv.owM (T := [101]) (te := [102]) rfl rfl))) (Sub.cons (Has.at (HasG.cv (HasG.s rfl) (Cv.owF (T := [103]) (te := []) rfl))) (sf (sf (sf (sn (sn (sn (sn Sub.nil))))))))))))))))))))))))))))))))))
    ·intro _
     refine Leaf.blockE ?_
     refine Leaf.thenN ?_
     refine CWalk.seq ?_
     refine CWalk.region ?_
     refine wo (Spec.assign Has.int) ?_
     refine Walk.nil ?_
     refine Leaf.thenN ?_
     refine CWalk.block ?_
     obtain ⟨b50, hb50, hm⟩ := bind_some hm
     refine CWalk.loop (fun s : Int => [.fact 1 (Fact.isv 127), .fact 4 (Fact.rep [] (s : Int)), .fact 902006 (Fact.cst (u1 6) (Fact.isv 17)), .fact 902011 (Fact.cst (u1 11) (Fact.isv 36)), .fact 902024 (Fact.cst (u1 24) (Fact.isv 104)), .fact 902025 (Fact.cst (u1 25) (Fact.rep [] ((((((x11 && (x4.2 == x5.2)) && x12) && (x6.2 == x7.2)) && x13) && (x8.2 == x9.2)) : Bool))), .fact 902026 (Fact.cst (u1 26) (Fact.rep [] (((((x14 == x15) && x16) && (x17 == x18)) && x19) : Bool))), .fact 100128 (Fact.at 128 (Fact.rep [] (x6.1.Stripe : Int))), .fact 100129 (Fact.at 129 (Fact.lo [63, 64] (x6.1.Blocks : List (List UInt8)))), .fact 100130 (Fact.at 130 (Fact.lo [65] (x6.1.Dirty : List Bool))), .fact 100131 (Fact.at 131 (Fact.rep [] (x6.1.Phase : UInt8))), .fact 100132 (Fact.at 132 (Fact.rep [] (x6.1.Deals : Bool))), .fact 100133 (Fact.at 133 (Fact.rep [] (x6.1.Seq : UInt32))), .fact 100018 (Fact.at 18 (Fact.rep [] (a1.Stripe : Int))), .fact 100019 (Fact.at 19 (Fact.rep [0] (a1.Blocks : List (List UInt8)))), .fact 100020 (Fact.at 20 (Fact.rep [0] (a1.Dirty : List Bool))), .fact 100021 (Fact.at 21 (Fact.rep [] (a1.Phase : UInt8))), .fact 100022 (Fact.at 22 (Fact.rep [] (a1.Deals : Bool))), .fact 100023 (Fact.at 23 (Fact.rep [] (a1.Seq : UInt32))), .fact 100037 (Fact.at 37 (Fact.rep [] (x3.Stripe : Int))), .fact 100038 (Fact.at 38 (Fact.ow [33] [34] 31 (x3.Blocks : List (List UInt8)))), .fact 100039 (Fact.at 39 (Fact.ow [35] [] 4 (x3.Dirty : List Bool))), .fact 100040 (Fact.at 40 (Fact.rep [] (x3.Phase : UInt8))), .fact 100041 (Fact.at 41 (Fact.rep [] (x3.Deals : Bool))), .fact 100042 (Fact.at 42 (Fact.rep [] (x3.Seq : UInt32))), .fact 100105 (Fact.at 105 (Fact.rep [] (x10.Stripe : Int))), .fact 100106 (Fact.at 106 (Fact.ow [101] [102] 31 (x10.Blocks : List (List UInt8)))), .fact 100107 (Fact.at 107 (Fact.ow [103] [] 4 (x10.Dirty : List Bool))), .fact 100108 (Fact.at 108 (Fact.rep [] (x10.Phase : UInt8))), .fact 100109 (Fact.at 109 (Fact.rep [] (x10.Deals : Bool))), .fact 100110 (Fact.at 110 (Fact.rep [] (x10.Seq : UInt32))), .fact 100127 (Fact.obj 127 [(false, 1), (false, 1), (false, 1), (false, 1), (false, 1), (false, 1)]), .fact 100017 (Fact.obj 17 [(false, 1), (false, 1), (false, 1), (false, 1), (false, 1), (false, 1)]), .fact 100036 (Fact.obj 36 [(false, 1), (false, 1), (false, 1), (false, 1), (false, 1), (false, 1)]), .fact 100104 (Fact.obj 104 [(false, 1), (false, 1), (false, 1), (false, 1), (false, 1), (false, 1)])]) (fun b : Unit => (Exit.exit 4, [.fact 902006 (Fact.cst (u1 6) (Fact.isv 17)), .fact 902011 (Fact.cst (u1 11) (Fact.isv 36)), .fact 902024 (Fact.cst (u1 24) (Fact.isv 104)), .fact 902025 (Fact.cst (u1 25) (Fact.rep [] ((((((x11 && (x4.2 == x5.2)) && x12) && (x6.2 == x7.2)) && x13) && (x8.2 == x9.2)) : Bool))), .fact 902026 (Fact.cst (u1 26) (Fact.rep [] (((((x14 == x15) && x16) && (x17 == x18)) && x19) : Bool))), .fact 100018 (Fact.at 18 (Fact.rep [] (a1.Stripe : Int))), .fact 100019 (Fact.at 19 (Fact.rep [0] (a1.Blocks : List (List UInt8)))), .fact 100020 (Fact.at 20 (Fact.rep [0] (a1.Dirty : List Bool))), .fact 100021 (Fact.at 21 (Fact.rep [] (a1.Phase : UInt8))), .fact 100022 (Fact.at 22 (Fact.rep [] (a1.Deals : Bool))), .fact 100023 (Fact.at 23 (Fact.rep [] (a1.Seq : UInt32))), .fact 100037 (Fact.at 37 (Fact.rep [] (x3.Stripe : Int))), .fact 100038 (Fact.at 38 (Fact.ow [33] [34] 31 (x3.Blocks : List (List UInt8)))), .fact 100039 (Fact.at 39 (Fact.ow [35] [] 4 (x3.Dirty : List Bool))), .fact 100040 (Fact.at 40 (Fact.rep [] (x3.Phase : UInt8))), .fact 100041 (Fact.at 41 (Fact.rep [] (x3.Deals : Bool))), .fact 100042 (Fact.at 42 (Fact.rep [] (x3.Seq : UInt32))), .fact 100105 (Fact.at 105 (Fact.rep [] (x10.Stripe : Int))), .fact 100106 (Fact.at 106 (Fact.ow [101] [102] 31 (x10.Blocks : List (List UInt8)))), .fact 100107 (Fact.at 107 (Fact.ow [103] [] 4 (x10.Dirty : List Bool))), .fact 100108 (Fact.at 108 (Fact.rep [] (x10.Phase : UInt8))), .fact 100109 (Fact.at 109 (Fact.rep [] (x10.Deals : Bool))), .fact 100110 (Fact.at 110 (Fact.rep [] (x10.Seq : UInt32))), .fact 100017 (Fact.obj 17 [(false, 1), (false, 1), (false, 1), (false, 1), (false, 1), (false, 1)]), .fact 100036 (Fact.obj 36 [(false, 1), (false, 1), (false, 1), (false, 1), (false, 1), (false, 1)]), .fact 100104 (Fact.obj 104 [(false, 1), (false, 1), (false, 1), (false, 1), (false, 1), (false, 1)])])) hb50 (sn (st (sc (sc (sc (Sub.cons (Has.cst (HasC.cv (HasC.s (s := 902025) rfl) Cv.fl)) (Sub.cons (Has.cst (HasC.cv (HasC.s (s := 902026) rfl) Cv.fl)) (sf (sg (Sub.cons (Has.at (HasG.cv (HasG.s rfl) (Cv.trans (Cv.trans Cv.owSl (Cv.slRep (T' := [65]) rfl rfl)) (Cv.lo rfl)))) (sf (sf (sf (sf (sm (sm (sf (sf (sf (sf (Sub.cons (Has.at (HasG.cv (HasG.s rfl) (Cv.owM (T := [33]) (te := [34]) rfl rfl))) (Sub.cons (Has.at (HasG.cv (HasG.s rfl) (Cv.owF (T := [35]) (te := []) rfl))) (sf (sf (sf (sf (Sub.cons (Has.at (HasG.cv (HasG.s rfl) (Cv.owM (T := [101]) (te := [102]) rfl rfl))) (Sub.cons (Has.at (HasG.cv (HasG.s rfl) (Cv.owF (T := [103]) (te := []) rfl))) (sf (sf (sf (sn (sn (sn (sn Sub.nil))))))))))))))))))))))))))))))))))) ?_ ?_
     ·rintro s46 c47 hm
      replace hm : law16_HeadTurns_L9 x6 s46 = some c47 := hm
      unfold law16_HeadTurns_L9 at hm
      show CWalk _ [.fact 1 (Fact.isv 127), .fact 4 (Fact.rep [] (s46 : Int)), .fact 902006 (Fact.cst (u1 6) (Fact.isv 17)), .fact 902011 (Fact.cst (u1 11) (Fact.isv 36)), .fact 902024 (Fact.cst (u1 24) (Fact.isv 104)), .fact 902025 (Fact.cst (u1 25) (Fact.rep [] ((((((x11 && (x4.2 == x5.2)) && x12) && (x6.2 == x7.2)) && x13) && (x8.2 == x9.2)) : Bool))), .fact 902026 (Fact.cst (u1 26) (Fact.rep [] (((((x14 == x15) && x16) && (x17 == x18)) && x19) : Bool))), .fact 100128 (Fact.at 128 (Fact.rep [] (x6.1.Stripe : Int))), .fact 100129 (Fact.at 129 (Fact.lo [63, 64] (x6.1.Blocks : List (List UInt8)))), .fact 100130 (Fact.at 130 (Fact.lo [65] (x6.1.Dirty : List Bool))), .fact 100131 (Fact.at 131 (Fact.rep [] (x6.1.Phase : UInt8))), .fact 100132 (Fact.at 132 (Fact.rep [] (x6.1.Deals : Bool))), .fact 100133 (Fact.at 133 (Fact.rep [] (x6.1.Seq : UInt32))), .fact 100018 (Fact.at 18 (Fact.rep [] (a1.Stripe : Int))), .fact 100019 (Fact.at 19 (Fact.rep [0] (a1.Blocks : List (List UInt8)))), .fact 100020 (Fact.at 20 (Fact.rep [0] (a1.Dirty : List Bool))), .fact 100021 (Fact.at 21 (Fact.rep [] (a1.Phase : UInt8))), .fact 100022 (Fact.at 22 (Fact.rep [] (a1.Deals : Bool))), .fact 100023 (Fact.at 23 (Fact.rep [] (a1.Seq : UInt32))), .fact 100037 (Fact.at 37 (Fact.rep [] (x3.Stripe : Int))), .fact 100038 (Fact.at 38 (Fact.ow [33] [34] 31 (x3.Blocks : List (List UInt8)))), .fact 100039 (Fact.at 39 (Fact.ow [35] [] 4 (x3.Dirty : List Bool))), .fact 100040 (Fact.at 40 (Fact.rep [] (x3.Phase : UInt8))), .fact 100041 (Fact.at 41 (Fact.rep [] (x3.Deals : Bool))), .fact 100042 (Fact.at 42 (Fact.rep [] (x3.Seq : UInt32))), .fact 100105 (Fact.at 105 (Fact.rep [] (x10.Stripe : Int))), .fact 100106 (Fact.at 106 (Fact.ow [101] [102] 31 (x10.Blocks : List (List UInt8)))), .fact 100107 (Fact.at 107 (Fact.ow [103] [] 4 (x10.Dirty : List Bool))), .fact 100108 (Fact.at 108 (Fact.rep [] (x10.Phase : UInt8))), .fact 100109 (Fact.at 109 (Fact.rep [] (x10.Deals : Bool))), .fact 100110 (Fact.at 110 (Fact.rep [] (x10.Seq : UInt32))), .fact 100127 (Fact.obj 127 [(false, 1), (false, 1), (false, 1), (false, 1), (false, 1), (false, 1)]), .fact 100017 (Fact.obj 17 [(false, 1), (false, 1), (false, 1), (false, 1), (false, 1), (false, 1)]), .fact 100036 (Fact.obj 36 [(false, 1), (false, 1), (false, 1), (false, 1), (false, 1), (false, 1)]), .fact 100104 (Fact.obj 104 [(false, 1), (false, 1), (false, 1), (false, 1), (false, 1), (false, 1)])] _ _
      refine CWalk.seq ?_
      refine CWalk.seq ?_
      refine CWalk.region ?_
      refine mv ?_
      refine wo (Spec.fieldAddrO fd28_2 (Has.cv (Has.s rfl) (Cv.isvP rfl))) ?_
      refine wo (Spec.loadF (i := 2) ty26 rfl (Has.s rfl) rfl (HasG.s rfl)) ?_
      refine wo (Spec.lenLo (Has.s rfl) Try.underlying26) ?_
      refine wo (Spec.lssI (Has.s rfl) (Has.s rfl)) ?_
      refine Walk.nil ?_
      refine Leaf.thenN ?_
      refine CWalk.cond rfl (fun hb => ?_) (fun hb => ?_)
      ·have hm := cond_t hb hm
       refine CWalk.skip ?_
       refine Leaf.thenN ?_
       refine CWalk.seq ?_
       refine CWalk.block ?_
       obtain ⟨x48, hx48, hm⟩ := bind_some hm
       obtain ⟨x49, hx49, hm⟩ := bind_some hm
       refine CWalk.drawM [[], [0], [], [], [3], [], [3, 4, 5], [3, 4, 5, 6], [3, 4, 5, 6, 7], [0, 1, 2, 3, 4, 5, 6, 7, 8], [0, 1, 2, 3, 4, 5, 6, 7, 8, 9]] [[.fact 39 (Fact.pto 127 2)], [.fact 40 (Fact.lo [65] (x6.1.Dirty : List Bool))], [.fact 41 (Fact.rep [] (s46 : Int))], [.fact 42 (Fact.pto 127 2)], [.fact 43 (Fact.lo [65] (x6.1.Dirty : List Bool))], [.fact 44 (Fact.rep [] (s46 : Int))], [.fact 45 (Fact.lptr [65] (x48 : Bool))], [.fact 46 (Fact.lo [65] (x48 : Bool))], [.fact 47 (Fact.lo [] (false : Bool))], [.fact 48 (Fact.lptr [65] (x49 : Bool))], [.fact 34 (Fact.lo [65] (x6.1.Dirty : List Bool)), .fact 40 (Fact.lo [65] (x6.1.Dirty : List Bool)), .fact 43 (Fact.lo [65] (x6.1.Dirty : List Bool)), .fact 45 (Fact.lptr [65] (x48 : Bool)), .fact 46 (Fact.lo [65] (x48 : Bool)), .fact 100130 (Fact.at 130 (Fact.lo [65] (x6.1.Dirty : List Bool))), .kill 65]] mixed (by kernel_rfl) (ao (so (Spec.fieldAddrO fd28_2 (Has.cv (Has.s rfl) (Cv.isvP rfl)))) (ao (so (Spec.loadF (i := 2) ty26 rfl (Has.s rfl) rfl (HasG.s rfl))) (ao (so (Spec.move (Has.s rfl))) (ao (so (Spec.fieldAddrO fd28_2 (Has.cv (Has.s rfl) (Cv.isvP rfl)))) (ao (so (Spec.loadF (i := 2) ty26 rfl (Has.s rfl) rfl (HasG.s rfl))) (ao (so (Spec.move (Has.s rfl))) (ao (so (Spec.idxLo hx48 sl26 (Has.s rfl) (Has.s rfl))) (ao (so (Spec.loadLo ty4 (Has.s rfl))) (ao (so (Spec.notLo (Has.s rfl))) (ao (so (Spec.idxLo hx49 sl26 (Has.s rfl) (Has.s rfl))) (ao (StepG.stE (Step.storeL (T := [65]) (LL := [.fact 34 (Fact.lo [65] (x6.1.Dirty : List Bool)), .fact 40 (Fact.lo [65] (x6.1.Dirty : List Bool)), .fact 43 (Fact.lo [65] (x6.1.Dirty : List Bool)), .fact 45 (Fact.lptr [65] (x48 : Bool)), .fact 46 (Fact.lo [65] (x48 : Bool)), .fact 100130 (Fact.at 130 (Fact.lo [65] (x6.1.Dirty : List Bool)))]) rfl ty4 (Has.s rfl) (Has.s rfl) (LooseL.lo rfl (LooseL.lo rfl (LooseL.lo rfl (LooseL.lptr rfl (LooseL.lo rfl (LooseL.loF rfl LooseL.nil)))))))) AllM.nil))))))))))) ?_
       refine Leaf.blockN ?_
       refine Leaf.thenN ?_
       refine CWalk.region ?_
       refine mv ?_
       refine wo (Spec.addI (Has.s rfl) Has.int) ?_
       refine wo (Spec.assign (Has.s rfl)) ?_
       refine Walk.nil ?_
       exact Leaf.next hm (sn (st (sc (sc (sc (Sub.cons (Has.cst (HasC.cv (HasC.s (s := 902025) rfl) Cv.fl)) (Sub.cons (Has.cst (HasC.cv (HasC.s (s := 902026) rfl) Cv.fl)) (sf (sg (sg (sf (sf (sf (sf (sm (sm (sf (sf (sf (sf (Sub.cons (Has.at (HasG.cv (HasG.s rfl) (Cv.owM (T := [33]) (te := [34]) rfl rfl))) (Sub.cons (Has.at (HasG.cv (HasG.s rfl) (Cv.owF (T := [35]) (te := []) rfl))) (sf (sf (sf (sf (Sub.cons (Has.at (HasG.cv (HasG.s rfl) (Cv.owM (T := [101]) (te := [102]) rfl rfl))) (Sub.cons (Has.at (HasG.cv (HasG.s rfl) (Cv.owF (T := [103]) (te := []) rfl))) (sf (sf (sf (sn (sn (sn (sn Sub.nil)))))))))))))))))))))))))))))))))))
      ·have hm := cond_f hb hm
       refine CWalk.exit ?_
       refine Leaf.thenE ?_
       exact Leaf.brk hm (fun h => nomatch h) rfl (sc (sc (sc (Sub.cons (Has.cst (HasC.cv (HasC.s (s := 902025) rfl) Cv.fl)) (Sub.cons (Has.cst (HasC.cv (HasC.s (s := 902026) rfl) Cv.fl)) (sf (sm (sm (sf (sf (sf (sf (Sub.cons (Has.at (HasG.cv (HasG.s rfl) (Cv.owM (T := [33]) (te := [34]) rfl rfl))) (Sub.cons (Has.at (HasG.cv (HasG.s rfl) (Cv.owF (T := [35]) (te := []) rfl))) (sf (sf (sf (sf (Sub.cons (Has.at (HasG.cv (HasG.s rfl) (Cv.owM (T := [101]) (te := [102]) rfl rfl))) (Sub.cons (Has.at (HasG.cv (HasG.s rfl) (Cv.owF (T := [103]) (te := []) rfl))) (sf (sf (sf (sn (sn (sn Sub.nil))))))))))))))))))))))))))
     ·intro _
      refine Leaf.blockE ?_
      exact Leaf.inN (Leaf.in0 (f0 := Fact.top) () hm rfl rfl (fun _ _ => trivial) (ls 902006 (ls 902011 (ls 902024 (Low.slot rfl (HasC.cv (HasC.s (s := 902025) rfl) Cv.fl) (Low.slot rfl (HasC.cv (HasC.s (s := 902026) rfl) Cv.fl) (Low.res (lf (lm (lm (lf (lf (lf (lf (Low.keepG (HasG.cv (HasG.s rfl) (Cv.owM (T := [33]) (te := [34]) rfl rfl)) (Low.keepG (HasG.cv (HasG.s rfl) (Cv.owF (T := [35]) (te := []) rfl)) (lf (lf (lf (lf (Low.keepG (HasG.cv (HasG.s rfl) (Cv.owM (T := [101]) (te := [102]) rfl rfl)) (Low.keepG (HasG.cv (HasG.s rfl) (Cv.owF (T := [103]) (te := []) rfl)) (lf (lf (lf (lo (lo (lo Low.nil))))))))))))))))))))))))))))
   ·rintro _ hm
    replace hm : law16_HeadTurns_J2 a1 x3 x4 x5 x6 x7 x8 x9 x10 x11 x12 x13 x14 x15 x16 x17 x18 x19 = some r := hm
    unfold law16_HeadTurns_J2 at hm
    show Walk _ _ _ [.fact 6 (Fact.isv 17), .fact 11 (Fact.isv 36), .fact 24 (Fact.isv 104), .fact 25 (Fact.rep [] ((((((x11 && (x4.2 == x5.2)) && x12) && (x6.2 == x7.2)) && x13) && (x8.2 == x9.2)) : Bool)), .fact 26 (Fact.rep [] (((((x14 == x15) && x16) && (x17 == x18)) && x19) : Bool)), .fact 143 (Fact.top), .fact 100018 (Fact.at 18 (Fact.rep [] (a1.Stripe : Int))), .fact 100019 (Fact.at 19 (Fact.rep [0] (a1.Blocks : List (List UInt8)))), .fact 100020 (Fact.at 20 (Fact.rep [0] (a1.Dirty : List Bool))), .fact 100021 (Fact.at 21 (Fact.rep [] (a1.Phase : UInt8))), .fact 100022 (Fact.at 22 (Fact.rep [] (a1.Deals : Bool))), .fact 100023 (Fact.at 23 (Fact.rep [] (a1.Seq : UInt32))), .fact 100037 (Fact.at 37 (Fact.rep [] (x3.Stripe : Int))), .fact 100038 (Fact.at 38 (Fact.ow [33] [34] 31 (x3.Blocks : List (List UInt8)))), .fact 100039 (Fact.at 39 (Fact.ow [35] [] 4 (x3.Dirty : List Bool))), .fact 100040 (Fact.at 40 (Fact.rep [] (x3.Phase : UInt8))), .fact 100041 (Fact.at 41 (Fact.rep [] (x3.Deals : Bool))), .fact 100042 (Fact.at 42 (Fact.rep [] (x3.Seq : UInt32))), .fact 100105 (Fact.at 105 (Fact.rep [] (x10.Stripe : Int))), .fact 100106 (Fact.at 106 (Fact.ow [101] [102] 31 (x10.Blocks : List (List UInt8)))), .fact 100107 (Fact.at 107 (Fact.ow [103] [] 4 (x10.Dirty : List Bool))), .fact 100108 (Fact.at 108 (Fact.rep [] (x10.Phase : UInt8))), .fact 100109 (Fact.at 109 (Fact.rep [] (x10.Deals : Bool))), .fact 100110 (Fact.at 110 (Fact.rep [] (x10.Seq : UInt32))), .fact 100017 (Fact.obj 17 [(false, 1), (false, 1), (false, 1), (false, 1), (false, 1), (false, 1)]), .fact 100036 (Fact.obj 36 [(false, 1), (false, 1), (false, 1), (false, 1), (false, 1), (false, 1)]), .fact 100104 (Fact.obj 104 [(false, 1), (false, 1), (false, 1), (false, 1), (false, 1), (false, 1)])] _
    refine Walk.nil ?_
    refine Leaf.thenN ?_
    refine CWalk.seq ?_
    refine CWalk.region ?_
    refine wo (Spec.loadObj (ls := [(false, 1, Fact.rep [] (x10.Stripe : Int)), (false, 1, Fact.ow [101] [102] 31 (x10.Blocks : List (List UInt8))), (false, 1, Fact.ow [103] [] 4 (x10.Dirty : List Bool)), (false, 1, Fact.rep [] (x10.Phase : UInt8)), (false, 1, Fact.rep [] (x10.Deals : Bool)), (false, 1, Fact.rep [] (x10.Seq : UInt32))]) ty28 rfl rfl (Has.s rfl) rfl (HasGs.cons (HasG.s rfl) (HasGs.cons (HasG.s rfl) (HasGs.cons (HasG.s rfl) (HasGs.cons (HasG.s rfl) (HasGs.cons (HasG.s rfl) (HasGs.cons (HasG.s rfl) HasGs.nil))))))) ?_
    refine Walk.inline (S := Unit) (fun p : Unit => [.fact 6 (Fact.isv 17), .fact 11 (Fact.isv 36), .fact 25 (Fact.rep [] ((((((x11 && (x4.2 == x5.2)) && x12) && (x6.2 == x7.2)) && x13) && (x8.2 == x9.2)) : Bool)), .fact 26 (Fact.rep [] (((((x14 == x15) && x16) && (x17 == x18)) && x19) : Bool)), .fact 145 (Fact.top), .fact 100018 (Fact.at 18 (Fact.rep [] (a1.Stripe : Int))), .fact 100019 (Fact.at 19 (Fact.rep [0] (a1.Blocks : List (List UInt8)))), .fact 100020 (Fact.at 20 (Fact.rep [0] (a1.Dirty : List Bool))), .fact 100021 (Fact.at 21 (Fact.rep [] (a1.Phase : UInt8))), .fact 100022 (Fact.at 22 (Fact.rep [] (a1.Deals : Bool))), .fact 100023 (Fact.at 23 (Fact.rep [] (a1.Seq : UInt32))), .fact 100037 (Fact.at 37 (Fact.rep [] (x3.Stripe : Int))), .fact 100038 (Fact.at 38 (Fact.ow [33] [34] 31 (x3.Blocks : List (List UInt8)))), .fact 100039 (Fact.at 39 (Fact.ow [35] [] 4 (x3.Dirty : List Bool))), .fact 100040 (Fact.at 40 (Fact.rep [] (x3.Phase : UInt8))), .fact 100041 (Fact.at 41 (Fact.rep [] (x3.Deals : Bool))), .fact 100042 (Fact.at 42 (Fact.rep [] (x3.Seq : UInt32))), .fact 100017 (Fact.obj 17 [(false, 1), (false, 1), (false, 1), (false, 1), (false, 1), (false, 1)]), .fact 100036 (Fact.obj 36 [(false, 1), (false, 1), (false, 1), (false, 1), (false, 1), (false, 1)])]) (fun p : Unit => law16_HeadTurns_J3 a1 x3 x4 x5 x6 x7 x8 x9 x11 x12 x13 x14 x15 x16 x17 x18 x19 = some r) (fun u1 => [.fact 100018 (Fact.at 18 (Fact.rep [] (a1.Stripe : Int))), .fact 100019 (Fact.at 19 (Fact.rep [0] (a1.Blocks : List (List UInt8)))), .fact 100020 (Fact.at 20 (Fact.rep [0] (a1.Dirty : List Bool))), .fact 100021 (Fact.at 21 (Fact.rep [] (a1.Phase : UInt8))), .fact 100022 (Fact.at 22 (Fact.rep [] (a1.Deals : Bool))), .fact 100023 (Fact.at 23 (Fact.rep [] (a1.Seq : UInt32))), .fact 100037 (Fact.at 37 (Fact.rep [] (x3.Stripe : Int))), .fact 100038 (Fact.at 38 (Fact.ow [33] [34] 31 (x3.Blocks : List (List UInt8)))), .fact 100039 (Fact.at 39 (Fact.ow [35] [] 4 (x3.Dirty : List Bool))), .fact 100040 (Fact.at 40 (Fact.rep [] (x3.Phase : UInt8))), .fact 100041 (Fact.at 41 (Fact.rep [] (x3.Deals : Bool))), .fact 100042 (Fact.at 42 (Fact.rep [] (x3.Seq : UInt32))), .fact 902006 (Fact.cst (u1 6) (Fact.isv 17)), .fact 902011 (Fact.cst (u1 11) (Fact.isv 36)), .fact 902025 (Fact.cst (u1 25) (Fact.rep [] ((((((x11 && (x4.2 == x5.2)) && x12) && (x6.2 == x7.2)) && x13) && (x8.2 == x9.2)) : Bool))), .fact 902026 (Fact.cst (u1 26) (Fact.rep [] (((((x14 == x15) && x16) && (x17 == x18)) && x19) : Bool))), .fact 100017 (Fact.obj 17 [(false, 1), (false, 1), (false, 1), (false, 1), (false, 1), (false, 1)]), .fact 100036 (Fact.obj 36 [(false, 1), (false, 1), (false, 1), (false, 1), (false, 1), (false, 1)])]) (FA := [Fact.flds [(false, 1, Fact.rep [] (x10.Stripe : Int)), (false, 1, Fact.ow [101] [102] 31 (x10.Blocks : List (List UInt8))), (false, 1, Fact.ow [103] [] 4 (x10.Dirty : List Bool)), (false, 1, Fact.rep [] (x10.Phase : UInt8)), (false, 1, Fact.rep [] (x10.Deals : Bool)), (false, 1, Fact.rep [] (x10.Seq : UInt32))]]) rfl Try.func27 rfl rfl rfl (CallOk.fn en27 (HasF.cons (Has.s rfl) HasF.nil)) (fun u1 => (ck (ck (ck (ck (ck (ck (ck (ck (ck (ck (ck (ck (cs 902000 6 (cs 902000 11 (cs 902000 25 (cs 902000 26 (ck (ck Carry.nil))))))))))))))))))) (fun u1 => ?_) ?_
    ·refine CWalk.seq ?_
     refine CWalk.region ?_
     refine ws (Step.boxObj (ls := [(false, 1, Fact.rep [] (x10.Stripe : Int)), (false, 1, Fact.ow [101] [102] 31 (x10.Blocks : List (List UInt8))), (false, 1, Fact.ow [103] [] 4 (x10.Dirty : List Bool)), (false, 1, Fact.rep [] (x10.Phase : UInt8)), (false, 1, Fact.rep [] (x10.Deals : Bool)), (false, 1, Fact.rep [] (x10.Seq : UInt32))]) 134 rfl rfl rfl rfl (HasL.flds (Has.s rfl))) ?_
     refine Walk.nil ?_
     refine Leaf.thenN ?_
     refine CWalk.seq ?_
     refine CWalk.seq ?_
     refine CWalk.region ?_
     refine wo (Spec.assign Has.int) ?_
     refine Walk.nil ?_
     refine Leaf.thenN ?_
     refine CWalk.block ?_
     obtain ⟨b30, hb30, hm⟩ := bind_some hm
     refine CWalk.loop (fun s : Int => [.fact 1 (Fact.isv 134), .fact 2 (Fact.rep [] (s : Int)), .fact 902006 (Fact.cst (u1 6) (Fact.isv 17)), .fact 902011 (Fact.cst (u1 11) (Fact.isv 36)), .fact 902025 (Fact.cst (u1 25) (Fact.rep [] ((((((x11 && (x4.2 == x5.2)) && x12) && (x6.2 == x7.2)) && x13) && (x8.2 == x9.2)) : Bool))), .fact 902026 (Fact.cst (u1 26) (Fact.rep [] (((((x14 == x15) && x16) && (x17 == x18)) && x19) : Bool))), .fact 100135 (Fact.at 135 (Fact.rep [] (x10.Stripe : Int))), .fact 100136 (Fact.at 136 (Fact.lo [101, 102] (x10.Blocks : List (List UInt8)))), .fact 100137 (Fact.at 137 (Fact.ow [103] [] 4 (x10.Dirty : List Bool))), .fact 100138 (Fact.at 138 (Fact.rep [] (x10.Phase : UInt8))), .fact 100139 (Fact.at 139 (Fact.rep [] (x10.Deals : Bool))), .fact 100140 (Fact.at 140 (Fact.rep [] (x10.Seq : UInt32))), .fact 100018 (Fact.at 18 (Fact.rep [] (a1.Stripe : Int))), .fact 100019 (Fact.at 19 (Fact.rep [0] (a1.Blocks : List (List UInt8)))), .fact 100020 (Fact.at 20 (Fact.rep [0] (a1.Dirty : List Bool))), .fact 100021 (Fact.at 21 (Fact.rep [] (a1.Phase : UInt8))), .fact 100022 (Fact.at 22 (Fact.rep [] (a1.Deals : Bool))), .fact 100023 (Fact.at 23 (Fact.rep [] (a1.Seq : UInt32))), .fact 100037 (Fact.at 37 (Fact.rep [] (x3.Stripe : Int))), .fact 100038 (Fact.at 38 (Fact.ow [33] [34] 31 (x3.Blocks : List (List UInt8)))), .fact 100039 (Fact.at 39 (Fact.ow [35] [] 4 (x3.Dirty : List Bool))), .fact 100040 (Fact.at 40 (Fact.rep [] (x3.Phase : UInt8))), .fact 100041 (Fact.at 41 (Fact.rep [] (x3.Deals : Bool))), .fact 100042 (Fact.at 42 (Fact.rep [] (x3.Seq : UInt32))), .fact 100134 (Fact.obj 134 [(false, 1), (false, 1), (false, 1), (false, 1), (false, 1), (false, 1)]), .fact 100017 (Fact.obj 17 [(false, 1), (false, 1), (false, 1), (false, 1), (false, 1), (false, 1)]), .fact 100036 (Fact.obj 36 [(false, 1), (false, 1), (false, 1), (false, 1), (false, 1), (false, 1)])]) (fun b : Unit => (Exit.exit 0, [.fact 1 (Fact.isv 134), .fact 902006 (Fact.cst (u1 6) (Fact.isv 17)), .fact 902011 (Fact.cst (u1 11) (Fact.isv 36)), .fact 902025 (Fact.cst (u1 25) (Fact.rep [] ((((((x11 && (x4.2 == x5.2)) && x12) && (x6.2 == x7.2)) && x13) && (x8.2 == x9.2)) : Bool))), .fact 902026 (Fact.cst (u1 26) (Fact.rep [] (((((x14 == x15) && x16) && (x17 == x18)) && x19) : Bool))), .fact 100135 (Fact.at 135 (Fact.rep [] (x10.Stripe : Int))), .fact 100136 (Fact.at 136 (Fact.lo [101, 102] (x10.Blocks : List (List UInt8)))), .fact 100137 (Fact.at 137 (Fact.ow [103] [] 4 (x10.Dirty : List Bool))), .fact 100138 (Fact.at 138 (Fact.rep [] (x10.Phase : UInt8))), .fact 100139 (Fact.at 139 (Fact.rep [] (x10.Deals : Bool))), .fact 100140 (Fact.at 140 (Fact.rep [] (x10.Seq : UInt32))), .fact 100018 (Fact.at 18 (Fact.rep [] (a1.Stripe : Int))), .fact 100019 (Fact.at 19 (Fact.rep [0] (a1.Blocks : List (List UInt8)))), .fact 100020 (Fact.at 20 (Fact.rep [0] (a1.Dirty : List Bool))), .fact 100021 (Fact.at 21 (Fact.rep [] (a1.Phase : UInt8))), .fact 100022 (Fact.at 22 (Fact.rep [] (a1.Deals : Bool))), .fact 100023 (Fact.at 23 (Fact.rep [] (a1.Seq : UInt32))), .fact 100037 (Fact.at 37 (Fact.rep [] (x3.Stripe : Int))), .fact 100038 (Fact.at 38 (Fact.ow [33] [34] 31 (x3.Blocks : List (List UInt8)))), .fact 100039 (Fact.at 39 (Fact.ow [35] [] 4 (x3.Dirty : List Bool))), .fact 100040 (Fact.at 40 (Fact.rep [] (x3.Phase : UInt8))), .fact 100041 (Fact.at 41 (Fact.rep [] (x3.Deals : Bool))), .fact 100042 (Fact.at 42 (Fact.rep [] (x3.Seq : UInt32))), .fact 100134 (Fact.obj 134 [(false, 1), (false, 1), (false, 1), (false, 1), (false, 1), (false, 1)]), .fact 100017 (Fact.obj 17 [(false, 1), (false, 1), (false, 1), (false, 1), (false, 1), (false, 1)]), .fact 100036 (Fact.obj 36 [(false, 1), (false, 1), (false, 1), (false, 1), (false, 1), (false, 1)])])) hb30 (sn (st (sc (sc (Sub.cons (Has.cst (HasC.cv (HasC.s (s := 902025) rfl) Cv.fl)) (Sub.cons (Has.cst (HasC.cv (HasC.s (s := 902026) rfl) Cv.fl)) (sf (Sub.cons (Has.at (HasG.cv (HasG.s rfl) (Cv.trans (Cv.trans Cv.owSl (Cv.slRep (T' := [101, 102]) rfl rfl)) (Cv.lo rfl)))) (Sub.cons (Has.at (HasG.cv (HasG.s rfl) (Cv.owF (T := [103]) (te := []) rfl))) (sf (sf (sf (sf (sm (sm (sf (sf (sf (sf (Sub.cons (Has.at (HasG.cv (HasG.s rfl) (Cv.owM (T := [33]) (te := [34]) rfl rfl))) (Sub.cons (Has.at (HasG.cv (HasG.s rfl) (Cv.owF (T := [35]) (te := []) rfl))) (sf (sf (sf (sn (sn (sn Sub.nil))))))))))))))))))))))))))) ?_ ?_
     ·rintro s21 c22 hm
      replace hm : law16_HeadTurns_L4 x10 s21 = some c22 := hm
      unfold law16_HeadTurns_L4 at hm
      show CWalk _ [.fact 1 (Fact.isv 134), .fact 2 (Fact.rep [] (s21 : Int)), .fact 902006 (Fact.cst (u1 6) (Fact.isv 17)), .fact 902011 (Fact.cst (u1 11) (Fact.isv 36)), .fact 902025 (Fact.cst (u1 25) (Fact.rep [] ((((((x11 && (x4.2 == x5.2)) && x12) && (x6.2 == x7.2)) && x13) && (x8.2 == x9.2)) : Bool))), .fact 902026 (Fact.cst (u1 26) (Fact.rep [] (((((x14 == x15) && x16) && (x17 == x18)) && x19) : Bool))), .fact 100135 (Fact.at 135 (Fact.rep [] (x10.Stripe : Int))), .fact 100136 (Fact.at 136 (Fact.lo [101, 102] (x10.Blocks : List (List UInt8)))), .fact 100137 (Fact.at 137 (Fact.ow [103] [] 4 (x10.Dirty : List Bool))), .fact 100138 (Fact.at 138 (Fact.rep [] (x10.Phase : UInt8))), .fact 100139 (Fact.at 139 (Fact.rep [] (x10.Deals : Bool))), .fact 100140 (Fact.at 140 (Fact.rep [] (x10.Seq : UInt32))), .fact 100018 (Fact.at 18 (Fact.rep [] (a1.Stripe : Int))), .fact 100019 (Fact.at 19 (Fact.rep [0] (a1.Blocks : List (List UInt8)))), .fact 100020 (Fact.at 20 (Fact.rep [0] (a1.Dirty : List Bool))), .fact 100021 (Fact.at 21 (Fact.rep [] (a1.Phase : UInt8))), .fact 100022 (Fact.at 22 (Fact.rep [] (a1.Deals : Bool))), .fact 100023 (Fact.at 23 (Fact.rep [] (a1.Seq : UInt32))), .fact 100037 (Fact.at 37 (Fact.rep [] (x3.Stripe : Int))), .fact 100038 (Fact.at 38 (Fact.ow [33] [34] 31 (x3.Blocks : List (List UInt8)))), .fact 100039 (Fact.at 39 (Fact.ow [35] [] 4 (x3.Dirty : List Bool))), .fact 100040 (Fact.at 40 (Fact.rep [] (x3.Phase : UInt8))), .fact 100041 (Fact.at 41 (Fact.rep [] (x3.Deals : Bool))), .fact 100042 (Fact.at 42 (Fact.rep [] (x3.Seq : UInt32))), .fact 100134 (Fact.obj 134 [(false, 1), (false, 1), (false, 1), (false, 1), (false, 1), (false, 1)]), .fact 100017 (Fact.obj 17 [(false, 1), (false, 1), (false, 1), (false, 1), (false, 1), (false, 1)]), .fact 100036 (Fact.obj 36 [(false, 1), (false, 1), (false, 1), (false, 1), (false, 1), (false, 1)])] _ _
      refine CWalk.seq ?_
      refine CWalk.seq ?_
      refine CWalk.region ?_
      refine mv ?_
      refine wo (Spec.fieldAddrO fd28_1 (Has.cv (Has.s rfl) (Cv.isvP rfl))) ?_
      refine wo (Spec.loadF (i := 1) ty25 rfl (Has.s rfl) rfl (HasG.s rfl)) ?_
      refine wo (Spec.lenLo (Has.s rfl) Try.underlying25) ?_
      refine wo (Spec.lssI (Has.s rfl) (Has.s rfl)) ?_
      refine Walk.nil ?_
      refine Leaf.thenN ?_
      refine CWalk.cond rfl (fun hb => ?_) (fun hb => ?_)
      ·have hm := cond_t hb hm
       refine CWalk.skip ?_
       refine Leaf.thenN ?_
       refine CWalk.seq ?_
       refine CWalk.block ?_
       refine CWalk.seq ?_
       refine CWalk.region ?_
       refine wo (Spec.assign Has.int) ?_
       refine Walk.nil ?_
       refine Leaf.thenN ?_
       refine CWalk.block ?_
       obtain ⟨b29, hb29, hm⟩ := bind_some hm
       refine CWalk.loop (fun s : Int => [.fact 1 (Fact.isv 134), .fact 2 (Fact.rep [] (s21 : Int)), .fact 3 (Fact.rep [] (s : Int)), .fact 902006 (Fact.cst (u1 6) (Fact.isv 17)), .fact 902011 (Fact.cst (u1 11) (Fact.isv 36)), .fact 902025 (Fact.cst (u1 25) (Fact.rep [] ((((((x11 && (x4.2 == x5.2)) && x12) && (x6.2 == x7.2)) && x13) && (x8.2 == x9.2)) : Bool))), .fact 902026 (Fact.cst (u1 26) (Fact.rep [] (((((x14 == x15) && x16) && (x17 == x18)) && x19) : Bool))), .fact 100135 (Fact.at 135 (Fact.rep [] (x10.Stripe : Int))), .fact 100136 (Fact.at 136 (Fact.lo [101, 102] (x10.Blocks : List (List UInt8)))), .fact 100137 (Fact.at 137 (Fact.ow [103] [] 4 (x10.Dirty : List Bool))), .fact 100138 (Fact.at 138 (Fact.rep [] (x10.Phase : UInt8))), .fact 100139 (Fact.at 139 (Fact.rep [] (x10.Deals : Bool))), .fact 100140 (Fact.at 140 (Fact.rep [] (x10.Seq : UInt32))), .fact 100018 (Fact.at 18 (Fact.rep [] (a1.Stripe : Int))), .fact 100019 (Fact.at 19 (Fact.rep [0] (a1.Blocks : List (List UInt8)))), .fact 100020 (Fact.at 20 (Fact.rep [0] (a1.Dirty : List Bool))), .fact 100021 (Fact.at 21 (Fact.rep [] (a1.Phase : UInt8))), .fact 100022 (Fact.at 22 (Fact.rep [] (a1.Deals : Bool))), .fact 100023 (Fact.at 23 (Fact.rep [] (a1.Seq : UInt32))), .fact 100037 (Fact.at 37 (Fact.rep [] (x3.Stripe : Int))), .fact 100038 (Fact.at 38 (Fact.ow [33] [34] 31 (x3.Blocks : List (List UInt8)))), .fact 100039 (Fact.at 39 (Fact.ow [35] [] 4 (x3.Dirty : List Bool))), .fact 100040 (Fact.at 40 (Fact.rep [] (x3.Phase : UInt8))), .fact 100041 (Fact.at 41 (Fact.rep [] (x3.Deals : Bool))), .fact 100042 (Fact.at 42 (Fact.rep [] (x3.Seq : UInt32))), .fact 100134 (Fact.obj 134 [(false, 1), (false, 1), (false, 1), (false, 1), (false, 1), (false, 1)]), .fact 100017 (Fact.obj 17 [(false, 1), (false, 1), (false, 1), (false, 1), (false, 1), (false, 1)]), .fact 100036 (Fact.obj 36 [(false, 1), (false, 1), (false, 1), (false, 1), (false, 1), (false, 1)])]) (fun b : Unit => (Exit.exit 2, [.fact 1 (Fact.isv 134), .fact 2 (Fact.rep [] (s21 : Int)), .fact 902006 (Fact.cst (u1 6) (Fact.isv 17)), .fact 902011 (Fact.cst (u1 11) (Fact.isv 36)), .fact 902025 (Fact.cst (u1 25) (Fact.rep [] ((((((x11 && (x4.2 == x5.2)) && x12) && (x6.2 == x7.2)) && x13) && (x8.2 == x9.2)) : Bool))), .fact 902026 (Fact.cst (u1 26) (Fact.rep [] (((((x14 == x15) && x16) && (x17 == x18)) && x19) : Bool))), .fact 100135 (Fact.at 135 (Fact.rep [] (x10.Stripe : Int))), .fact 100136 (Fact.at 136 (Fact.lo [101, 102] (x10.Blocks : List (List UInt8)))), .fact 100137 (Fact.at 137 (Fact.ow [103] [] 4 (x10.Dirty : List Bool))), .fact 100138 (Fact.at 138 (Fact.rep [] (x10.Phase : UInt8))), .fact 100139 (Fact.at 139 (Fact.rep [] (x10.Deals : Bool))), .fact 100140 (Fact.at 140 (Fact.rep [] (x10.Seq : UInt32))), .fact 100018 (Fact.at 18 (Fact.rep [] (a1.Stripe : Int))), .fact 100019 (Fact.at 19 (Fact.rep [0] (a1.Blocks : List (List UInt8)))), .fact 100020 (Fact.at 20 (Fact.rep [0] (a1.Dirty : List Bool))), .fact 100021 (Fact.at 21 (Fact.rep [] (a1.Phase : UInt8))), .fact 100022 (Fact.at 22 (Fact.rep [] (a1.Deals : Bool))), .fact 100023 (Fact.at 23 (Fact.rep [] (a1.Seq : UInt32))), .fact 100037 (Fact.at 37 (Fact.rep [] (x3.Stripe : Int))), .fact 100038 (Fact.at 38 (Fact.ow [33] [34] 31 (x3.Blocks : List (List UInt8)))), .fact 100039 (Fact.at 39 (Fact.ow [35] [] 4 (x3.Dirty : List Bool))), .fact 100040 (Fact.at 40 (Fact.rep [] (x3.Phase : UInt8))), .fact 100041 (Fact.at 41 (Fact.rep [] (x3.Deals : Bool))), .fact 100042 (Fact.at 42 (Fact.rep [] (x3.Seq : UInt32))), .fact 100134 (Fact.obj 134 [(false, 1), (false, 1), (false, 1), (false, 1), (false, 1), (false, 1)]), .fact 100017 (Fact.obj 17 [(false, 1), (false, 1), (false, 1), (false, 1), (false, 1), (false, 1)]), .fact 100036 (Fact.obj 36 [(false, 1), (false, 1), (false, 1), (false, 1), (false, 1), (false, 1)])])) hb29 (sn (st (st (sc (sc (Sub.cons (Has.cst (HasC.cv (HasC.s (s := 902025) rfl) Cv.fl)) (Sub.cons (Has.cst (HasC.cv (HasC.s (s := 902026) rfl) Cv.fl)) (sf (sg (Sub.cons (Has.at (HasG.cv (HasG.s rfl) (Cv.owF (T := [103]) (te := []) rfl))) (sf (sf (sf (sf (sm (sm (sf (sf (sf (sf (Sub.cons (Has.at (HasG.cv (HasG.s rfl) (Cv.owM (T := [33]) (te := [34]) rfl rfl))) (Sub.cons (Has.at (HasG.cv (HasG.s rfl) (Cv.owF (T := [35]) (te := []) rfl))) (sf (sf (sf (sn (sn (sn Sub.nil)))))))))))))))))))))))))))) ?_ ?_
       ·rintro s23 c24 hm
        replace hm : law16_HeadTurns_L5 x10 s21 s23 = some c24 := hm
        unfold law16_HeadTurns_L5 at hm
        show CWalk _ [.fact 1 (Fact.isv 134), .fact 2 (Fact.rep [] (s21 : Int)), .fact 3 (Fact.rep [] (s23 : Int)), .fact 902006 (Fact.cst (u1 6) (Fact.isv 17)), .fact 902011 (Fact.cst (u1 11) (Fact.isv 36)), .fact 902025 (Fact.cst (u1 25) (Fact.rep [] ((((((x11 && (x4.2 == x5.2)) && x12) && (x6.2 == x7.2)) && x13) && (x8.2 == x9.2)) : Bool))), .fact 902026 (Fact.cst (u1 26) (Fact.rep [] (((((x14 == x15) && x16) && (x17 == x18)) && x19) : Bool))), .fact 100135 (Fact.at 135 (Fact.rep [] (x10.Stripe : Int))), .fact 100136 (Fact.at 136 (Fact.lo [101, 102] (x10.Blocks : List (List UInt8)))), .fact 100137 (Fact.at 137 (Fact.ow [103] [] 4 (x10.Dirty : List Bool))), .fact 100138 (Fact.at 138 (Fact.rep [] (x10.Phase : UInt8))), .fact 100139 (Fact.at 139 (Fact.rep [] (x10.Deals : Bool))), .fact 100140 (Fact.at 140 (Fact.rep [] (x10.Seq : UInt32))), .fact 100018 (Fact.at 18 (Fact.rep [] (a1.Stripe : Int))), .fact 100019 (Fact.at 19 (Fact.rep [0] (a1.Blocks : List (List UInt8)))), .fact 100020 (Fact.at 20 (Fact.rep [0] (a1.Dirty : List Bool))), .fact 100021 (Fact.at 21 (Fact.rep [] (a1.Phase : UInt8))), .fact 100022 (Fact.at 22 (Fact.rep [] (a1.Deals : Bool))), .fact 100023 (Fact.at 23 (Fact.rep [] (a1.Seq : UInt32))), .fact 100037 (Fact.at 37 (Fact.rep [] (x3.Stripe : Int))), .fact 100038 (Fact.at 38 (Fact.ow [33] [34] 31 (x3.Blocks : List (List UInt8)))), .fact 100039 (Fact.at 39 (Fact.ow [35] [] 4 (x3.Dirty : List Bool))), .fact 100040 (Fact.at 40 (Fact.rep [] (x3.Phase : UInt8))), .fact 100041 (Fact.at 41 (Fact.rep [] (x3.Deals : Bool))), .fact 100042 (Fact.at 42 (Fact.rep [] (x3.Seq : UInt32))), .fact 100134 (Fact.obj 134 [(false, 1), (false, 1), (false, 1), (false, 1), (false, 1), (false, 1)]), .fact 100017 (Fact.obj 17 [(false, 1), (false, 1), (false, 1), (false, 1), (false, 1), (false, 1)]), .fact 100036 (Fact.obj 36 [(false, 1), (false, 1), (false, 1), (false, 1), (false, 1), (false, 1)])] _ _
        refine CWalk.seq ?_
        refine CWalk.seq ?_
        refine CWalk.region ?_
        refine mv ?_
        refine wo (Spec.fieldAddrO fd28_1 (Has.cv (Has.s rfl) (Cv.isvP rfl))) ?_
        refine wo (Spec.loadF (i := 1) ty25 rfl (Has.s rfl) rfl (HasG.s rfl)) ?_
        refine mv ?_
        obtain ⟨x25, hx25, hm⟩ := bind_some hm
        refine wo (Spec.idxLo hx25 sl25 (Has.s rfl) (Has.s rfl)) ?_
        refine wo (Spec.loadLo ty31 (Has.s rfl)) ?_
        refine wo (Spec.lenLo (Has.s rfl) Try.underlying31) ?_
        refine wo (Spec.lssI (Has.s rfl) (Has.s rfl)) ?_
        refine Walk.nil ?_
        refine Leaf.thenN ?_
        refine CWalk.cond rfl (fun hb => ?_) (fun hb => ?_)
        ·have hm := cond_t hb hm
         refine CWalk.skip ?_
         refine Leaf.thenN ?_
         refine CWalk.seq ?_
         refine CWalk.block ?_
         refine CWalk.region ?_
         refine wo (Spec.fieldAddrO fd28_1 (Has.cv (Has.s rfl) (Cv.isvP rfl))) ?_
         refine wo (Spec.loadF (i := 1) ty25 rfl (Has.s rfl) rfl (HasG.s rfl)) ?_
         refine mv ?_
         obtain ⟨x26, hx26, hm⟩ := bind_some hm
         refine wo (Spec.idxLo hx26 sl25 (Has.s rfl) (Has.s rfl)) ?_
         refine wo (Spec.loadLo ty31 (Has.s rfl)) ?_
         refine mv ?_
         obtain ⟨x27, hx27, hm⟩ := bind_some hm
         refine wo (Spec.idxLo hx27 sl31 (Has.s rfl) (Has.s rfl)) ?_
         refine wo (Spec.loadLo ty5 (Has.s rfl)) ?_
         refine wo (Spec.add8Lo (Has.s rfl) (Has.u8 1 rfl)) ?_
         obtain ⟨x28, hx28, hm⟩ := bind_some hm
         refine wo (Spec.idxLo hx28 sl31 (Has.s rfl) (Has.s rfl)) ?_
         refine ws (Step.storeL (T := [101, 102]) (LL := [.fact 14 (Fact.lo [101, 102] (x10.Blocks : List (List UInt8))), .fact 16 (Fact.lptr [101, 102] (x25 : List UInt8)), .fact 17 (Fact.lo [101, 102] (x25 : List UInt8)), .fact 23 (Fact.lo [101, 102] (x10.Blocks : List (List UInt8))), .fact 25 (Fact.lptr [101, 102] (x26 : List UInt8)), .fact 26 (Fact.lo [101, 102] (x26 : List UInt8)), .fact 28 (Fact.lptr [101, 102] (x27 : UInt8)), .fact 29 (Fact.lo [101, 102] (x27 : UInt8)), .fact 100136 (Fact.at 136 (Fact.lo [101, 102] (x10.Blocks : List (List UInt8))))]) rfl ty5 (Has.s rfl) (Has.s rfl) (LooseL.lo rfl (LooseL.lptr rfl (LooseL.lo rfl (LooseL.lo rfl (LooseL.lptr rfl (LooseL.lo rfl (LooseL.lptr rfl (LooseL.lo rfl (LooseL.loF rfl LooseL.nil)))))))))) ?_
         refine Walk.nil ?_
         refine Leaf.blockN ?_
         refine Leaf.thenN ?_
         refine CWalk.region ?_
         refine mv ?_
         refine wo (Spec.addI (Has.s rfl) Has.int) ?_
         refine wo (Spec.assign (Has.s rfl)) ?_
         refine Walk.nil ?_
         exact Leaf.next hm (sn (st (st (sc (sc (Sub.cons (Has.cst (HasC.cv (HasC.s (s := 902025) rfl) Cv.fl)) (Sub.cons (Has.cst (HasC.cv (HasC.s (s := 902026) rfl) Cv.fl)) (sf (sg (Sub.cons (Has.at (HasG.cv (HasG.s rfl) (Cv.owF (T := [103]) (te := []) rfl))) (sf (sf (sf (sf (sm (sm (sf (sf (sf (sf (Sub.cons (Has.at (HasG.cv (HasG.s rfl) (Cv.owM (T := [33]) (te := [34]) rfl rfl))) (Sub.cons (Has.at (HasG.cv (HasG.s rfl) (Cv.owF (T := [35]) (te := []) rfl))) (sf (sf (sf (sn (sn (sn Sub.nil))))))))))))))))))))))))))))
        ·have hm := cond_f hb hm
         refine CWalk.exit ?_
         refine Leaf.thenE ?_
         exact Leaf.brk hm (fun h => nomatch h) rfl (sn (st (sc (sc (Sub.cons (Has.cst (HasC.cv (HasC.s (s := 902025) rfl) Cv.fl)) (Sub.cons (Has.cst (HasC.cv (HasC.s (s := 902026) rfl) Cv.fl)) (sf (sg (Sub.cons (Has.at (HasG.cv (HasG.s rfl) (Cv.owF (T := [103]) (te := []) rfl))) (sf (sf (sf (sf (sm (sm (sf (sf (sf (sf (Sub.cons (Has.at (HasG.cv (HasG.s rfl) (Cv.owM (T := [33]) (te := [34]) rfl rfl))) (Sub.cons (Has.at (HasG.cv (HasG.s rfl) (Cv.owF (T := [35]) (te := []) rfl))) (sf (sf (sf (sn (sn (sn Sub.nil)))))))))))))))))))))))))))
       ·intro _
        refine Leaf.blockE ?_
        refine Leaf.blockN ?_
        refine Leaf.thenN ?_
        refine CWalk.region ?_
        refine mv ?_
        refine wo (Spec.addI (Has.s rfl) Has.int) ?_
        refine wo (Spec.assign (Has.s rfl)) ?_
        refine Walk.nil ?_
        exact Leaf.next hm (sn (st (sc (sc (Sub.cons (Has.cst (HasC.cv (HasC.s (s := 902025) rfl) Cv.fl)) (Sub.cons (Has.cst (HasC.cv (HasC.s (s := 902026) rfl) Cv.fl)) (sf (sg (Sub.cons (Has.at (HasG.cv (HasG.s rfl) (Cv.owF (T := [103]) (te := []) rfl))) (sf (sf (sf (sf (sm (sm (sf (sf (sf (sf (Sub.cons (Has.at (HasG.cv (HasG.s rfl) (Cv.owM (T := [33]) (te := [34]) rfl rfl))) (Sub.cons (Has.at (HasG.cv (HasG.s rfl) (Cv.owF (T := [35]) (te := []) rfl))) (sf (sf (sf (sn (sn (sn Sub.nil)))))))))))))))))))))))))))
      ·have hm := cond_f hb hm
       refine CWalk.exit ?_
       refine Leaf.thenE ?_
       exact Leaf.brk hm (fun h => nomatch h) rfl (sn (sc (sc (Sub.cons (Has.cst (HasC.cv (HasC.s (s := 902025) rfl) Cv.fl)) (Sub.cons (Has.cst (HasC.cv (HasC.s (s := 902026) rfl) Cv.fl)) (sf (sg (Sub.cons (Has.at (HasG.cv (HasG.s rfl) (Cv.owF (T := [103]) (te := []) rfl))) (sf (sf (sf (sf (sm (sm (sf (sf (sf (sf (Sub.cons (Has.at (HasG.cv (HasG.s rfl) (Cv.owM (T := [33]) (te := [34]) rfl rfl))) (Sub.cons (Has.at (HasG.cv (HasG.s rfl) (Cv.owF (T := [35]) (te := []) rfl))) (sf (sf (sf (sn (sn (sn Sub.nil))))))))))))))))))))))))))
     ·intro _
      refine Leaf.blockE ?_
      refine Leaf.thenN ?_
      refine CWalk.seq ?_
      refine CWalk.region ?_
      refine wo (Spec.assign Has.int) ?_
      refine Walk.nil ?_
      refine Leaf.thenN ?_
      refine CWalk.block ?_
      obtain ⟨b35, hb35, hm⟩ := bind_some hm
      refine CWalk.loop (fun s : Int => [.fact 1 (Fact.isv 134), .fact 4 (Fact.rep [] (s : Int)), .fact 902006 (Fact.cst (u1 6) (Fact.isv 17)), .fact 902011 (Fact.cst (u1 11) (Fact.isv 36)), .fact 902025 (Fact.cst (u1 25) (Fact.rep [] ((((((x11 && (x4.2 == x5.2)) && x12) && (x6.2 == x7.2)) && x13) && (x8.2 == x9.2)) : Bool))), .fact 902026 (Fact.cst (u1 26) (Fact.rep [] (((((x14 == x15) && x16) && (x17 == x18)) && x19) : Bool))), .fact 100135 (Fact.at 135 (Fact.rep [] (x10.Stripe : Int))), .fact 100136 (Fact.at 136 (Fact.lo [101, 102] (x10.Blocks : List (List UInt8)))), .fact 100137 (Fact.at 137 (Fact.lo [103] (x10.Dirty : List Bool))), .fact 100138 (Fact.at 138 (Fact.rep [] (x10.Phase : UInt8))), .fact 100139 (Fact.at 139 (Fact.rep [] (x10.Deals : Bool))), .fact 100140 (Fact.at 140 (Fact.rep [] (x10.Seq : UInt32))), .fact 100018 (Fact.at 18 (Fact.rep [] (a1.Stripe : Int))), .fact 100019 (Fact.at 19 (Fact.rep [0] (a1.Blocks : List (List UInt8)))), .fact 100020 (Fact.at 20 (Fact.rep [0] (a1.Dirty : List Bool))), .fact 100021 (Fact.at 21 (Fact.rep [] (a1.Phase : UInt8))), .fact 100022 (Fact.at 22 (Fact.rep [] (a1.Deals : Bool))), .fact 100023 (Fact.at 23 (Fact.rep [] (a1.Seq : UInt32))), .fact 100037 (Fact.at 37 (Fact.rep [] (x3.Stripe : Int))), .fact 100038 (Fact.at 38 (Fact.ow [33] [34] 31 (x3.Blocks : List (List UInt8)))), .fact 100039 (Fact.at 39 (Fact.ow [35] [] 4 (x3.Dirty : List Bool))), .fact 100040 (Fact.at 40 (Fact.rep [] (x3.Phase : UInt8))), .fact 100041 (Fact.at 41 (Fact.rep [] (x3.Deals : Bool))), .fact 100042 (Fact.at 42 (Fact.rep [] (x3.Seq : UInt32))), .fact 100134 (Fact.obj 134 [(false, 1), (false, 1), (false, 1), (false, 1), (false, 1), (false, 1)]), .fact 100017 (Fact.obj 17 [(false, 1), (false, 1), (false, 1), (false, 1), (false, 1), (false, 1)]), .fact 100036 (Fact.obj 36 [(false, 1), (false, 1), (false, 1), (false, 1), (false, 1), (false, 1)])]) (fun b : Unit => (Exit.exit 4, [.fact 902006 (Fact.cst (u1 6) (Fact.isv 17)), .fact 902011 (Fact.cst (u1 11) (Fact.isv 36)), .fact 902025 (Fact.cst (u1 25) (Fact.rep [] ((((((x11 && (x4.2 == x5.2)) && x12) && (x6.2 == x7.2)) && x13) && (x8.2 == x9.2)) : Bool))), .fact 902026 (Fact.cst (u1 26) (Fact.rep [] (((((x14 == x15) && x16) && (x17 == x18)) && x19) : Bool))), .fact 100018 (Fact.at 18 (Fact.rep [] (a1.Stripe : Int))), .fact 100019 (Fact.at 19 (Fact.rep [0] (a1.Blocks : List (List UInt8)))), .fact 100020 (Fact.at 20 (Fact.rep [0] (a1.Dirty : List Bool))), .fact 100021 (Fact.at 21 (Fact.rep [] (a1.Phase : UInt8))), .fact 100022 (Fact.at 22 (Fact.rep [] (a1.Deals : Bool))), .fact 100023 (Fact.at 23 (Fact.rep [] (a1.Seq : UInt32))), .fact 100037 (Fact.at 37 (Fact.rep [] (x3.Stripe : Int))), .fact 100038 (Fact.at 38 (Fact.ow [33] [34] 31 (x3.Blocks : List (List UInt8)))), .fact 100039 (Fact.at 39 (Fact.ow [35] [] 4 (x3.Dirty : List Bool))), .fact 100040 (Fact.at 40 (Fact.rep [] (x3.Phase : UInt8))), .fact 100041 (Fact.at 41 (Fact.rep [] (x3.Deals : Bool))), .fact 100042 (Fact.at 42 (Fact.rep [] (x3.Seq : UInt32))), .fact 100017 (Fact.obj 17 [(false, 1), (false, 1), (false, 1), (false, 1), (false, 1), (false, 1)]), .fact 100036 (Fact.obj 36 [(false, 1), (false, 1), (false, 1), (false, 1), (false, 1), (false, 1)])])) hb35 (sn (st (sc (sc (Sub.cons (Has.cst (HasC.cv (HasC.s (s := 902025) rfl) Cv.fl)) (Sub.cons (Has.cst (HasC.cv (HasC.s (s := 902026) rfl) Cv.fl)) (sf (sg (Sub.cons (Has.at (HasG.cv (HasG.s rfl) (Cv.trans (Cv.trans Cv.owSl (Cv.slRep (T' := [103]) rfl rfl)) (Cv.lo rfl)))) (sf (sf (sf (sf (sm (sm (sf (sf (sf (sf (Sub.cons (Has.at (HasG.cv (HasG.s rfl) (Cv.owM (T := [33]) (te := [34]) rfl rfl))) (Sub.cons (Has.at (HasG.cv (HasG.s rfl) (Cv.owF (T := [35]) (te := []) rfl))) (sf (sf (sf (sn (sn (sn Sub.nil))))))))))))))))))))))))))) ?_ ?_
      ·rintro s31 c32 hm
       replace hm : law16_HeadTurns_L6 x10 s31 = some c32 := hm
       unfold law16_HeadTurns_L6 at hm
       show CWalk _ [.fact 1 (Fact.isv 134), .fact 4 (Fact.rep [] (s31 : Int)), .fact 902006 (Fact.cst (u1 6) (Fact.isv 17)), .fact 902011 (Fact.cst (u1 11) (Fact.isv 36)), .fact 902025 (Fact.cst (u1 25) (Fact.rep [] ((((((x11 && (x4.2 == x5.2)) && x12) && (x6.2 == x7.2)) && x13) && (x8.2 == x9.2)) : Bool))), .fact 902026 (Fact.cst (u1 26) (Fact.rep [] (((((x14 == x15) && x16) && (x17 == x18)) && x19) : Bool))), .fact 100135 (Fact.at 135 (Fact.rep [] (x10.Stripe : Int))), .fact 100136 (Fact.at 136 (Fact.lo [101, 102] (x10.Blocks : List (List UInt8)))), .fact 100137 (Fact.at 137 (Fact.lo [103] (x10.Dirty : List Bool))), .fact 100138 (Fact.at 138 (Fact.rep [] (x10.Phase : UInt8))), .fact 100139 (Fact.at 139 (Fact.rep [] (x10.Deals : Bool))), .fact 100140 (Fact.at 140 (Fact.rep [] (x10.Seq : UInt32))), .fact 100018 (Fact.at 18 (Fact.rep [] (a1.Stripe : Int))), .fact 100019 (Fact.at 19 (Fact.rep [0] (a1.Blocks : List (List UInt8)))), .fact 100020 (Fact.at 20 (Fact.rep [0] (a1.Dirty : List Bool))), .fact 100021 (Fact.at 21 (Fact.rep [] (a1.Phase : UInt8))), .fact 100022 (Fact.at 22 (Fact.rep [] (a1.Deals : Bool))), .fact 100023 (Fact.at 23 (Fact.rep [] (a1.Seq : UInt32))), .fact 100037 (Fact.at 37 (Fact.rep [] (x3.Stripe : Int))), .fact 100038 (Fact.at 38 (Fact.ow [33] [34] 31 (x3.Blocks : List (List UInt8)))), .fact 100039 (Fact.at 39 (Fact.ow [35] [] 4 (x3.Dirty : List Bool))), .fact 100040 (Fact.at 40 (Fact.rep [] (x3.Phase : UInt8))), .fact 100041 (Fact.at 41 (Fact.rep [] (x3.Deals : Bool))), .fact 100042 (Fact.at 42 (Fact.rep [] (x3.Seq : UInt32))), .fact 100134 (Fact.obj 134 [(false, 1), (false, 1), (false, 1), (false, 1), (false, 1), (false, 1)]), .fact 100017 (Fact.obj 17 [(false, 1), (false, 1), (false, 1), (false, 1), (false, 1), (false, 1)]), .fact 100036 (Fact.obj 36 [(false, 1), (false, 1), (false, 1), (false, 1), (false, 1), (false, 1)])] _ _
       refine CWalk.seq ?_
       refine CWalk.seq ?_
       refine CWalk.region ?_
       refine mv ?_
       refine wo (Spec.fieldAddrO fd28_2 (Has.cv (Has.s rfl) (Cv.isvP rfl))) ?_
       refine wo (Spec.loadF (i := 2) ty26 rfl (Has.s rfl) rfl (HasG.s rfl)) ?_
       refine wo (Spec.lenLo (Has.s rfl) Try.underlying26) ?_
       refine wo (Spec.lssI (Has.s rfl) (Has.s rfl)) ?_
       refine Walk.nil ?_
       refine Leaf.thenN ?_
       refine CWalk.cond rfl (fun hb => ?_) (fun hb => ?_)
       ·have hm := cond_t hb hm
        refine CWalk.skip ?_
        refine Leaf.thenN ?_
        refine CWalk.seq ?_
        refine CWalk.block ?_
        obtain ⟨x33, hx33, hm⟩ := bind_some hm
        obtain ⟨x34, hx34, hm⟩ := bind_some hm
        refine CWalk.drawM [[], [0], [], [], [3], [], [3, 4, 5], [3, 4, 5, 6], [3, 4, 5, 6, 7], [0, 1, 2, 3, 4, 5, 6, 7, 8], [0, 1, 2, 3, 4, 5, 6, 7, 8, 9]] [[.fact 39 (Fact.pto 134 2)], [.fact 40 (Fact.lo [103] (x10.Dirty : List Bool))], [.fact 41 (Fact.rep [] (s31 : Int))], [.fact 42 (Fact.pto 134 2)], [.fact 43 (Fact.lo [103] (x10.Dirty : List Bool))], [.fact 44 (Fact.rep [] (s31 : Int))], [.fact 45 (Fact.lptr [103] (x33 : Bool))], [.fact 46 (Fact.lo [103] (x33 : Bool))], [.fact 47 (Fact.lo [] (false : Bool))], [.fact 48 (Fact.lptr [103] (x34 : Bool))], [.fact 34 (Fact.lo [103] (x10.Dirty : List Bool)), .fact 40 (Fact.lo [103] (x10.Dirty : List Bool)), .fact 43 (Fact.lo [103] (x10.Dirty : List Bool)), .fact 45 (Fact.lptr [103] (x33 : Bool)), .fact 46 (Fact.lo [103] (x33 : Bool)), .fact 100137 (Fact.at 137 (Fact.lo [103] (x10.Dirty : List Bool))), .kill 103]] mixed (by kernel_rfl) (ao (so (Spec.fieldAddrO fd28_2 (Has.cv (Has.s rfl) (Cv.isvP rfl)))) (ao (so (Spec.loadF (i := 2) ty26 rfl (Has.s rfl) rfl (HasG.s rfl))) (ao (so (Spec.move (Has.s rfl))) (ao (so (Spec.fieldAddrO fd28_2 (Has.cv (Has.s rfl) (Cv.isvP rfl)))) (ao (so (Spec.loadF (i := 2) ty26 rfl (Has.s rfl) rfl (HasG.s rfl))) (ao (so (Spec.move (Has.s rfl))) (ao (so (Spec.idxLo hx33 sl26 (Has.s rfl) (Has.s rfl))) (ao (so (Spec.loadLo ty4 (Has.s rfl))) (ao (so (Spec.notLo (Has.s rfl))) (ao (so (Spec.idxLo hx34 sl26 (Has.s rfl) (Has.s rfl))) (ao (StepG.stE (Step.storeL (T := [103]) (LL := [.fact 34 (Fact.lo [103] (x10.Dirty : List Bool)), .fact 40 (Fact.lo [103] (x10.Dirty : List Bool)), .fact 43 (Fact.lo [103] (x10.Dirty : List Bool)), .fact 45 (Fact.lptr [103] (x33 : Bool)), .fact 46 (Fact.lo [103] (x33 : Bool)), .fact 100137 (Fact.at 137 (Fact.lo [103] (x10.Dirty : List Bool)))]) rfl ty4 (Has.s rfl) (Has.s rfl) (LooseL.lo rfl (LooseL.lo rfl (LooseL.lo rfl (LooseL.lptr rfl (LooseL.lo rfl (LooseL.loF rfl LooseL.nil)))))))) AllM.nil))))))))))) ?_
        refine Leaf.blockN ?_
        refine Leaf.thenN ?_
        refine CWalk.region ?_
        refine mv ?_
        refine wo (Spec.addI (Has.s rfl) Has.int) ?_
        refine wo (Spec.assign (Has.s rfl)) ?_
        refine Walk.nil ?_
        exact Leaf.next hm (sn (st (sc (sc (Sub.cons (Has.cst (HasC.cv (HasC.s (s := 902025) rfl) Cv.fl)) (Sub.cons (Has.cst (HasC.cv (HasC.s (s := 902026) rfl) Cv.fl)) (sf (sg (sg (sf (sf (sf (sf (sm (sm (sf (sf (sf (sf (Sub.cons (Has.at (HasG.cv (HasG.s rfl) (Cv.owM (T := [33]) (te := [34]) rfl rfl))) (Sub.cons (Has.at (HasG.cv (HasG.s rfl) (Cv.owF (T := [35]) (te := []) rfl))) (sf (sf (sf (sn (sn (sn Sub.nil)))))))))))))))))))))))))))
       ·have hm := cond_f hb hm
        refine CWalk.exit ?_
        refine Leaf.thenE ?_
        exact Leaf.brk hm (fun h => nomatch h) rfl (sc (sc (Sub.cons (Has.cst (HasC.cv (HasC.s (s := 902025) rfl) Cv.fl)) (Sub.cons (Has.cst (HasC.cv (HasC.s (s := 902026) rfl) Cv.fl)) (sf (sm (sm (sf (sf (sf (sf (Sub.cons (Has.at (HasG.cv (HasG.s rfl) (Cv.owM (T := [33]) (te := [34]) rfl rfl))) (Sub.cons (Has.at (HasG.cv (HasG.s rfl) (Cv.owF (T := [35]) (te := []) rfl))) (sf (sf (sf (sn (sn Sub.nil))))))))))))))))))
      ·intro _
       refine Leaf.blockE ?_
       exact Leaf.inN (Leaf.in0 (f0 := Fact.top) () hm rfl rfl (fun _ _ => trivial) (ls 902006 (ls 902011 (Low.slot rfl (HasC.cv (HasC.s (s := 902025) rfl) Cv.fl) (Low.slot rfl (HasC.cv (HasC.s (s := 902026) rfl) Cv.fl) (Low.res (lf (lm (lm (lf (lf (lf (lf (Low.keepG (HasG.cv (HasG.s rfl) (Cv.owM (T := [33]) (te := [34]) rfl rfl)) (Low.keepG (HasG.cv (HasG.s rfl) (Cv.owF (T := [35]) (te := []) rfl)) (lf (lf (lf (lo (lo Low.nil))))))))))))))))))))
    ·rintro _ hm
     replace hm : law16_HeadTurns_J3 a1 x3 x4 x5 x6 x7 x8 x9 x11 x12 x13 x14 x15 x16 x17 x18 x19 = some r := hm
     unfold law16_HeadTurns_J3 at hm
     show Walk _ _ _ [.fact 6 (Fact.isv 17), .fact 11 (Fact.isv 36), .fact 25 (Fact.rep [] ((((((x11 && (x4.2 == x5.2)) && x12) && (x6.2 == x7.2)) && x13) && (x8.2 == x9.2)) : Bool)), .fact 26 (Fact.rep [] (((((x14 == x15) && x16) && (x17 == x18)) && x19) : Bool)), .fact 145 (Fact.top), .fact 100018 (Fact.at 18 (Fact.rep [] (a1.Stripe : Int))), .fact 100019 (Fact.at 19 (Fact.rep [0] (a1.Blocks : List (List UInt8)))), .fact 100020 (Fact.at 20 (Fact.rep [0] (a1.Dirty : List Bool))), .fact 100021 (Fact.at 21 (Fact.rep [] (a1.Phase : UInt8))), .fact 100022 (Fact.at 22 (Fact.rep [] (a1.Deals : Bool))), .fact 100023 (Fact.at 23 (Fact.rep [] (a1.Seq : UInt32))), .fact 100037 (Fact.at 37 (Fact.rep [] (x3.Stripe : Int))), .fact 100038 (Fact.at 38 (Fact.ow [33] [34] 31 (x3.Blocks : List (List UInt8)))), .fact 100039 (Fact.at 39 (Fact.ow [35] [] 4 (x3.Dirty : List Bool))), .fact 100040 (Fact.at 40 (Fact.rep [] (x3.Phase : UInt8))), .fact 100041 (Fact.at 41 (Fact.rep [] (x3.Deals : Bool))), .fact 100042 (Fact.at 42 (Fact.rep [] (x3.Seq : UInt32))), .fact 100017 (Fact.obj 17 [(false, 1), (false, 1), (false, 1), (false, 1), (false, 1), (false, 1)]), .fact 100036 (Fact.obj 36 [(false, 1), (false, 1), (false, 1), (false, 1), (false, 1), (false, 1)])] _
     refine Walk.nil ?_
     refine Leaf.thenN ?_
     refine CWalk.seq ?_
     refine CWalk.region ?_
     refine mv ?_
     refine mv ?_
     refine wg rfl rfl (fun hb => Spec.move (Has.s rfl)) ?_
     refine wo (Spec.and (Has.s rfl) (fun h => Has.u rfl h)) ?_
     refine mv ?_
     refine wg rfl rfl (fun hb => Spec.loadObj (ls := [(false, 1, Fact.rep [] (x3.Stripe : Int)), (false, 1, Fact.ow [33] [34] 31 (x3.Blocks : List (List UInt8))), (false, 1, Fact.ow [35] [] 4 (x3.Dirty : List Bool)), (false, 1, Fact.rep [] (x3.Phase : UInt8)), (false, 1, Fact.rep [] (x3.Deals : Bool)), (false, 1, Fact.rep [] (x3.Seq : UInt32))]) ty28 rfl rfl (Has.s rfl) rfl (HasGs.cons (HasG.s rfl) (HasGs.cons (HasG.s rfl) (HasGs.cons (HasG.s rfl) (HasGs.cons (HasG.s rfl) (HasGs.cons (HasG.s rfl) (HasGs.cons (HasG.s rfl) HasGs.nil))))))) ?_
     refine wg rfl rfl (fun hb => Spec.loadObj (ls := [(false, 1, Fact.rep [] (a1.Stripe : Int)), (false, 1, Fact.rep [0] (a1.Blocks : List (List UInt8))), (false, 1, Fact.rep [0] (a1.Dirty : List Bool)), (false, 1, Fact.rep [] (a1.Phase : UInt8)), (false, 1, Fact.rep [] (a1.Deals : Bool)), (false, 1, Fact.rep [] (a1.Seq : UInt32))]) ty28 rfl rfl (Has.s rfl) rfl (HasGs.cons (HasG.s rfl) (HasGs.cons (HasG.s rfl) (HasGs.cons (HasG.s rfl) (HasGs.cons (HasG.s rfl) (HasGs.cons (HasG.s rfl) (HasGs.cons (HasG.s rfl) HasGs.nil))))))) ?_
     obtain ⟨x20, hx20, hm⟩ := bind_some hm
     refine wg (f := Fact.rep [] (x20 : Bool)) rfl rfl (fun hb => Spec.callE [0, 33, 34, 35] 141 rfl en16 (ref16_Same_c x3 a1 (gO_t hx20 hb)) (HasAll.cons (Has.m (Has.cv (Has.u rfl hb) (Cv.trans (Cv.flds (CvL.cons Cv.fl (CvL.cons (Cv.trans (Cv.trans Cv.owSl (Cv.slRep (T' := [33, 34]) rfl rfl)) (Cv.m rfl)) (CvL.cons (Cv.trans (Cv.trans Cv.owSl (Cv.slRep (T' := [35]) rfl rfl)) (Cv.m rfl)) (CvL.cons Cv.fl (CvL.cons Cv.fl (CvL.cons Cv.fl CvL.nil))))))) (Cv.close (T := [33, 34, 35]) (chHead x3)))) rfl) (HasAll.cons (Has.m (Has.cv (Has.u rfl hb) (Cv.trans (Cv.flds (CvL.cons Cv.fl (CvL.cons (Cv.m rfl) (CvL.cons (Cv.m rfl) (CvL.cons Cv.fl (CvL.cons Cv.fl (CvL.cons Cv.fl CvL.nil))))))) (Cv.close (T := [0]) (chHead a1)))) rfl) HasAll.nil))) ?_
     refine wo (Spec.and (Has.s rfl) (fun h => Has.u rfl h)) ?_
     refine wo (Spec.assign (Has.s rfl)) ?_
     refine Walk.nil ?_
     refine Leaf.thenN ?_
     refine CWalk.ret ?_
     obtain rfl := Option.some.inj hm
     exact Leaf.retC1 rfl (HasR.cv (HasR.tmp (Has.s rfl)) Cv.fl)

end Go.Proofs.Ytjefieckineneaa
