/- Printed by a program of ours: models of functions, and that calls do what they say. -/
import Derived.Test.YtgjibgklailenaaGll1
set_option linter.unusedVariables false
set_option linter.unusedSimpArgs false
set_option linter.unnecessarySimpa false
namespace Go.Proofs.Ytgjibgklailenaa
open Go GL
set_option linter.unusedVariables false

def law23_LossLabels_L2 (x1 : Loss × (List Act58) × Int) (s4 : Int) (s6 : Int) : Option (Ctl (Int) (Unit)) :=
  Option.bind (idx x1.2.1 s4) (fun x8 => (bif (decide (s6 < ((x8.Data).length : Int))) then Option.bind (idx x1.2.1 s4) (fun x9 => Option.bind (idx x9.Data s6) (fun x10 => Option.bind (idx x9.Data s6) (fun x11 => some (Ctl.next (wI (s6 + (1 : Int))))))) else some (Ctl.brk ())))
def law23_LossLabels_L1 (x1 : Loss × (List Act58) × Int) (s4 : Int) : Option (Ctl (Int) (Unit)) :=
  (bif (decide (s4 < ((x1.2.1).length : Int))) then Option.bind (loopM (fun s : Int => law23_LossLabels_L2 x1 s4 s) FUEL (0 : Int)) (fun b12 => some (Ctl.next (wI (s4 + (1 : Int))))) else some (Ctl.brk ()))
/-- freeboard/freeboardlaw23.LossLabels -/
def law23_LossLabels (a0 : Config) (a1 : Loss) (a2 : Bool) : Option (Bool) :=
  Option.bind (loss_Labels a0 a1 a2) (fun x1 => Option.bind (ref23_Labels a0 a1 a2) (fun x2 => Option.bind (gO (!(!decide (x1.1 = x2.1))) (ref05_Same x1.2.1 x2.2.1)) (fun x3 => (bif (((!decide (x1.1 = x2.1)) || (!x3)) || (x1.2.2 != x2.2.2)) then some false else Option.bind (loopM (fun s : Int => law23_LossLabels_L1 x1 s) FUEL (0 : Int)) (fun b13 => Option.bind (loss_Labels a0 a1 a2) (fun x14 => Option.bind (ref05_Same x14.2.1 x2.2.1) (fun x15 => some x15)))))))
set_option maxRecDepth 100000 in
set_option maxHeartbeats 2000000 in
theorem law23_LossLabels_c (a0 : Config) (a1 : Loss) (a2 : Bool) {r : Bool} (hm : law23_LossLabels a0 a1 a2 = some r) : Ctr Try.prog 5 [.rep 0 a0, .rep 0 a1, .rep 0 a2] (.fl r) [] := by
 refine ctr_of_walk [[]] 85 Try.func5 rfl rfl rfl rfl (fun w0 om => ?_)
 unfold law23_LossLabels at hm
 refine CWalk.sub (G' := [.fact 0 (.rep [] (a0 : Config)), .fact 1 (.rep [] (a1 : Loss)), .fact 2 (.rep [] (a2 : Bool))]) (Sub.cons (Has.fl (Has.s rfl)) (Sub.cons (Has.fl (Has.s rfl)) (Sub.cons (Has.fl (Has.s rfl)) Sub.nil))) ?_
 refine CWalk.seq ?_
 refine CWalk.region ?_
 refine ws (Step.boxObj (ls := [(false, 1, Fact.rep [] a0.Id), (false, 1, Fact.rep [] a0.Members), (false, 1, Fact.rep [] a0.Chunk), (false, 1, Fact.rep [] a0.Rows), (false, 1, Fact.rep [] a0.Log), (false, 1, Fact.rep [] a0.Heads)]) 10 rfl rfl rfl rfl (HasL.flds (Has.cv (Has.s rfl) (Cv.trans (Cv.opens (chConfig a0)) (Cv.flds (CvL.cons Cv.fl (CvL.cons Cv.fl (CvL.cons Cv.fl (CvL.cons Cv.fl (CvL.cons Cv.fl (CvL.cons Cv.fl CvL.nil))))))))))) ?_
 refine ws (Step.boxObj (ls := [(false, 1, Fact.rep [] a1.Events), (false, 1, Fact.rep [] a1.Lost), (false, 1, Fact.rep [] a1.Spare), (false, 1, Fact.rep [] a1.Pos), (false, 1, Fact.rep [] a1.Done), (false, 1, Fact.rep [] a1.NoLog), (false, 1, Fact.rep [] a1.Broken)]) 17 rfl rfl rfl rfl (HasL.flds (Has.cv (Has.s rfl) (Cv.trans (Cv.opens (chLoss a1)) (Cv.flds (CvL.cons Cv.fl (CvL.cons Cv.fl (CvL.cons Cv.fl (CvL.cons Cv.fl (CvL.cons Cv.fl (CvL.cons Cv.fl (CvL.cons Cv.fl CvL.nil)))))))))))) ?_
 refine wo (Spec.assign Has.bool) ?_
 refine Walk.nil ?_
 refine Leaf.thenN ?_
 refine CWalk.seq ?_
 refine CWalk.region ?_
 refine wo (Spec.loadObj (ls := [(false, 1, Fact.rep [] a0.Id), (false, 1, Fact.rep [] a0.Members), (false, 1, Fact.rep [] a0.Chunk), (false, 1, Fact.rep [] a0.Rows), (false, 1, Fact.rep [] a0.Log), (false, 1, Fact.rep [] a0.Heads)]) ty24 rfl rfl (Has.s rfl) rfl (HasGs.cons (HasG.s rfl) (HasGs.cons (HasG.s rfl) (HasGs.cons (HasG.s rfl) (HasGs.cons (HasG.s rfl) (HasGs.cons (HasG.s rfl) (HasGs.cons (HasG.s rfl) HasGs.nil))))))) ?_
 refine wo (Spec.loadObj (ls := [(false, 1, Fact.rep [] a1.Events), (false, 1, Fact.rep [] a1.Lost), (false, 1, Fact.rep [] a1.Spare), (false, 1, Fact.rep [] a1.Pos), (false, 1, Fact.rep [] a1.Done), (false, 1, Fact.rep [] a1.NoLog), (false, 1, Fact.rep [] a1.Broken)]) ty26 rfl rfl (Has.s rfl) rfl (HasGs.cons (HasG.s rfl) (HasGs.cons (HasG.s rfl) (HasGs.cons (HasG.s rfl) (HasGs.cons (HasG.s rfl) (HasGs.cons (HasG.s rfl) (HasGs.cons (HasG.s rfl) (HasGs.cons (HasG.s rfl) HasGs.nil)))))))) ?_
 refine mv ?_
 obtain ⟨x1, hx1, hm⟩ := bind_some hm
 refine wo (f := Fact.tup3 (Fact.rep [] x1.1) (Fact.ow [25] [26] 58 (x1.2.1 : List Act58)) (Fact.rep [] x1.2.2)) (Spec.callE [] 25 rfl en25 (loss_Labels_c a0 a1 a2 hx1) (HasAll.cons (Has.fl (Has.cv (Has.s rfl) (Cv.trans (Cv.flds (CvL.cons Cv.fl (CvL.cons Cv.fl (CvL.cons Cv.fl (CvL.cons Cv.fl (CvL.cons Cv.fl (CvL.cons Cv.fl CvL.nil))))))) (Cv.close (T := []) (chConfig a0))))) (HasAll.cons (Has.fl (Has.cv (Has.s rfl) (Cv.trans (Cv.flds (CvL.cons Cv.fl (CvL.cons Cv.fl (CvL.cons Cv.fl (CvL.cons Cv.fl (CvL.cons Cv.fl (CvL.cons Cv.fl (CvL.cons Cv.fl CvL.nil)))))))) (Cv.close (T := []) (chLoss a1))))) (HasAll.cons (Has.fl (Has.s rfl)) HasAll.nil)))) ?_
 refine mv ?_
 refine wo (Spec.ext0_3 (Has.s rfl)) ?_
 refine wo (Spec.ext1_3 (Has.s rfl)) ?_
 refine wo (Spec.ext2_3 (Has.s rfl)) ?_
 refine ws (Step.allocObj (ls := [(false, 1, Fact.rep [] ((0 : UInt32) : UInt32)), (false, 1, Fact.rep [] ((0 : Int) : Int)), (false, 1, Fact.rep [] (false : Bool)), (false, 1, Fact.rep [] ((0 : Int) : Int)), (false, 1, Fact.rep [] ((0 : Int) : Int)), (false, 1, Fact.rep [] (false : Bool)), (false, 1, Fact.rep [] (false : Bool))]) 27 rfl rfl rfl rfl zl26) ?_
 refine ws (Step.storeObj (ls := [(false, 1, Fact.rep [] x1.1.Events), (false, 1, Fact.rep [] x1.1.Lost), (false, 1, Fact.rep [] x1.1.Spare), (false, 1, Fact.rep [] x1.1.Pos), (false, 1, Fact.rep [] x1.1.Done), (false, 1, Fact.rep [] x1.1.NoLog), (false, 1, Fact.rep [] x1.1.Broken)]) rfl ty26 rfl rfl (Has.s rfl) rfl (HasL.flds (Has.cv (Has.s rfl) (Cv.trans (Cv.opens (chLoss x1.1)) (Cv.flds (CvL.cons Cv.fl (CvL.cons Cv.fl (CvL.cons Cv.fl (CvL.cons Cv.fl (CvL.cons Cv.fl (CvL.cons Cv.fl (CvL.cons Cv.fl CvL.nil))))))))))) rfl) ?_
 refine wo (Spec.assign (Has.s rfl)) ?_
 refine wo (Spec.assign (Has.s rfl)) ?_
 refine Walk.nil ?_
 refine Leaf.thenN ?_
 refine CWalk.seq ?_
 refine CWalk.region ?_
 refine wo (Spec.loadObj (ls := [(false, 1, Fact.rep [] a0.Id), (false, 1, Fact.rep [] a0.Members), (false, 1, Fact.rep [] a0.Chunk), (false, 1, Fact.rep [] a0.Rows), (false, 1, Fact.rep [] a0.Log), (false, 1, Fact.rep [] a0.Heads)]) ty24 rfl rfl (Has.s rfl) rfl (HasGs.cons (HasG.s rfl) (HasGs.cons (HasG.s rfl) (HasGs.cons (HasG.s rfl) (HasGs.cons (HasG.s rfl) (HasGs.cons (HasG.s rfl) (HasGs.cons (HasG.s rfl) HasGs.nil))))))) ?_
 refine wo (Spec.loadObj (ls := [(false, 1, Fact.rep [] a1.Events), (false, 1, Fact.rep [] a1.Lost), (false, 1, Fact.rep [] a1.Spare), (false, 1, Fact.rep [] a1.Pos), (false, 1, Fact.rep [] a1.Done), (false, 1, Fact.rep [] a1.NoLog), (false, 1, Fact.rep [] a1.Broken)]) ty26 rfl rfl (Has.s rfl) rfl (HasGs.cons (HasG.s rfl) (HasGs.cons (HasG.s rfl) (HasGs.cons (HasG.s rfl) (HasGs.cons (HasG.s rfl) (HasGs.cons (HasG.s rfl) (HasGs.cons (HasG.s rfl) (HasGs.cons (HasG.s rfl) HasGs.nil)))))))) ?_
 refine mv ?_
 obtain ⟨x2, hx2, hm⟩ := bind_some hm
 refine wo (f := Fact.tup3 (Fact.rep [] x2.1) (Fact.ow [35] [36] 58 (x2.2.1 : List Act58)) (Fact.rep [] x2.2.2)) (Spec.callE [] 35 rfl en26 (ref23_Labels_c a0 a1 a2 hx2) (HasAll.cons (Has.fl (Has.cv (Has.s rfl) (Cv.trans (Cv.flds (CvL.cons Cv.fl (CvL.cons Cv.fl (CvL.cons Cv.fl (CvL.cons Cv.fl (CvL.cons Cv.fl (CvL.cons Cv.fl CvL.nil))))))) (Cv.close (T := []) (chConfig a0))))) (HasAll.cons (Has.fl (Has.cv (Has.s rfl) (Cv.trans (Cv.flds (CvL.cons Cv.fl (CvL.cons Cv.fl (CvL.cons Cv.fl (CvL.cons Cv.fl (CvL.cons Cv.fl (CvL.cons Cv.fl (CvL.cons Cv.fl CvL.nil)))))))) (Cv.close (T := []) (chLoss a1))))) (HasAll.cons (Has.fl (Has.s rfl)) HasAll.nil)))) ?_
 refine mv ?_
 refine wo (Spec.ext0_3 (Has.s rfl)) ?_
 refine wo (Spec.ext1_3 (Has.s rfl)) ?_
 refine wo (Spec.ext2_3 (Has.s rfl)) ?_
 refine ws (Step.allocObj (ls := [(false, 1, Fact.rep [] ((0 : UInt32) : UInt32)), (false, 1, Fact.rep [] ((0 : Int) : Int)), (false, 1, Fact.rep [] (false : Bool)), (false, 1, Fact.rep [] ((0 : Int) : Int)), (false, 1, Fact.rep [] ((0 : Int) : Int)), (false, 1, Fact.rep [] (false : Bool)), (false, 1, Fact.rep [] (false : Bool))]) 37 rfl rfl rfl rfl zl26) ?_
 refine ws (Step.storeObj (ls := [(false, 1, Fact.rep [] x2.1.Events), (false, 1, Fact.rep [] x2.1.Lost), (false, 1, Fact.rep [] x2.1.Spare), (false, 1, Fact.rep [] x2.1.Pos), (false, 1, Fact.rep [] x2.1.Done), (false, 1, Fact.rep [] x2.1.NoLog), (false, 1, Fact.rep [] x2.1.Broken)]) rfl ty26 rfl rfl (Has.s rfl) rfl (HasL.flds (Has.cv (Has.s rfl) (Cv.trans (Cv.opens (chLoss x2.1)) (Cv.flds (CvL.cons Cv.fl (CvL.cons Cv.fl (CvL.cons Cv.fl (CvL.cons Cv.fl (CvL.cons Cv.fl (CvL.cons Cv.fl (CvL.cons Cv.fl CvL.nil))))))))))) rfl) ?_
 refine wo (Spec.assign (Has.s rfl)) ?_
 refine wo (Spec.assign (Has.s rfl)) ?_
 refine Walk.nil ?_
 refine Leaf.thenN ?_
 refine CWalk.seq ?_
 refine CWalk.seq ?_
 refine CWalk.region ?_
 refine wo (Spec.loadObj (ls := [(false, 1, Fact.rep [] x1.1.Events), (false, 1, Fact.rep [] x1.1.Lost), (false, 1, Fact.rep [] x1.1.Spare), (false, 1, Fact.rep [] x1.1.Pos), (false, 1, Fact.rep [] x1.1.Done), (false, 1, Fact.rep [] x1.1.NoLog), (false, 1, Fact.rep [] x1.1.Broken)]) ty26 rfl rfl (Has.s rfl) rfl (HasGs.cons (HasG.s rfl) (HasGs.cons (HasG.s rfl) (HasGs.cons (HasG.s rfl) (HasGs.cons (HasG.s rfl) (HasGs.cons (HasG.s rfl) (HasGs.cons (HasG.s rfl) (HasGs.cons (HasG.s rfl) HasGs.nil)))))))) ?_
 refine wo (Spec.loadObj (ls := [(false, 1, Fact.rep [] x2.1.Events), (false, 1, Fact.rep [] x2.1.Lost), (false, 1, Fact.rep [] x2.1.Spare), (false, 1, Fact.rep [] x2.1.Pos), (false, 1, Fact.rep [] x2.1.Done), (false, 1, Fact.rep [] x2.1.NoLog), (false, 1, Fact.rep [] x2.1.Broken)]) ty26 rfl rfl (Has.s rfl) rfl (HasGs.cons (HasG.s rfl) (HasGs.cons (HasG.s rfl) (HasGs.cons (HasG.s rfl) (HasGs.cons (HasG.s rfl) (HasGs.cons (HasG.s rfl) (HasGs.cons (HasG.s rfl) (HasGs.cons (HasG.s rfl) HasGs.nil)))))))) ?_
 refine wo (Spec.neqSt eqs26 eqg26 rfl (Has.cv (Has.s rfl) (Cv.trans (Cv.flds (CvL.cons Cv.fl (CvL.cons Cv.fl (CvL.cons Cv.fl (CvL.cons Cv.fl (CvL.cons Cv.fl (CvL.cons Cv.fl (CvL.cons Cv.fl CvL.nil)))))))) (Cv.close (T := []) (chLoss x1.1)))) (Has.cv (Has.s rfl) (Cv.trans (Cv.flds (CvL.cons Cv.fl (CvL.cons Cv.fl (CvL.cons Cv.fl (CvL.cons Cv.fl (CvL.cons Cv.fl (CvL.cons Cv.fl (CvL.cons Cv.fl CvL.nil)))))))) (Cv.close (T := []) (chLoss x2.1))))) ?_
 refine mv ?_
 refine wg rfl rfl (fun hb => Spec.move (Has.s rfl)) ?_
 refine wg rfl rfl (fun hb => Spec.move (Has.s rfl)) ?_
 obtain ⟨x3, hx3, hm⟩ := bind_some hm
 refine wg (f := Fact.rep [] (x3 : Bool)) rfl rfl (fun hb => Spec.callE [25, 26, 35, 36] 45 rfl en27 (ref05_Same_c x1.2.1 x2.2.1 (gO_t hx3 (not_t hb))) (HasAll.cons (Has.m (Has.cv (Has.u rfl hb) (Cv.trans Cv.owSl (Cv.slRep (T' := [25, 26]) rfl rfl))) rfl) (HasAll.cons (Has.m (Has.cv (Has.u rfl hb) (Cv.trans Cv.owSl (Cv.slRep (T' := [35, 36]) rfl rfl))) rfl) HasAll.nil))) ?_
 refine wg rfl rfl (fun hb => Spec.not (Has.u rfl hb)) ?_
 refine wo (Spec.or (Has.s rfl) (fun h => Has.u rfl h)) ?_
 refine mv ?_
 refine wg rfl rfl (fun hb => Spec.move (Has.s rfl)) ?_
 refine wg rfl rfl (fun hb => Spec.move (Has.s rfl)) ?_
 refine wg rfl rfl (fun hb => Spec.neqI (Has.u rfl hb) (Has.u rfl hb)) ?_
 refine wo (Spec.or (Has.s rfl) (fun h => Has.u rfl h)) ?_
 refine Walk.nil ?_
 refine Leaf.thenN ?_
 refine CWalk.cond rfl (fun hb => ?_) (fun hb => ?_)
 ·have hm := cond_t hb hm
  refine CWalk.seq ?_
  refine CWalk.region ?_
  refine wo (Spec.assign Has.bool) ?_
  refine Walk.nil ?_
  refine Leaf.thenN ?_
  refine CWalk.ret ?_
  refine Leaf.thenR ?_
  obtain rfl := Option.some.inj hm
  exact Leaf.retC1 rfl (HasR.cv (HasR.tmp (Has.s rfl)) Cv.fl)
 ·have hm := cond_f hb hm
  refine CWalk.skip ?_
  refine Leaf.thenN ?_
  refine CWalk.seq ?_
  refine CWalk.seq ?_
  refine CWalk.region ?_
  refine wo (Spec.assign Has.int) ?_
  refine Walk.nil ?_
  refine Leaf.thenN ?_
  refine CWalk.block ?_
  obtain ⟨b13, hb13, hm⟩ := bind_some hm
  refine CWalk.loop (fun s : Int => [.fact 2 (.rep [] (a2 : Bool)), .fact 3 (.isv 10), .fact 4 (.isv 17), .fact 8 (.lo [25, 26] x1.2.1), .fact 11 (.ow [35] [36] 58 (x2.2.1 : List Act58)), .fact 13 (.rep [] (s : Int)), .fact 100011 (.at 11 (.rep [] a0.Id)), .fact 100012 (.at 12 (.rep [] a0.Members)), .fact 100013 (.at 13 (.rep [] a0.Chunk)), .fact 100014 (.at 14 (.rep [] a0.Rows)), .fact 100015 (.at 15 (.rep [] a0.Log)), .fact 100016 (.at 16 (.rep [] a0.Heads)), .fact 100018 (.at 18 (.rep [] a1.Events)), .fact 100019 (.at 19 (.rep [] a1.Lost)), .fact 100020 (.at 20 (.rep [] a1.Spare)), .fact 100021 (.at 21 (.rep [] a1.Pos)), .fact 100022 (.at 22 (.rep [] a1.Done)), .fact 100023 (.at 23 (.rep [] a1.NoLog)), .fact 100024 (.at 24 (.rep [] a1.Broken)), .fact 100010 (.obj 10 [(false, 1), (false, 1), (false, 1), (false, 1), (false, 1), (false, 1)]), .fact 100017 (.obj 17 [(false, 1), (false, 1), (false, 1), (false, 1), (false, 1), (false, 1), (false, 1)])]) (fun b : Unit => (Exit.exit 0, [.fact 2 (.rep [] (a2 : Bool)), .fact 3 (.isv 10), .fact 4 (.isv 17), .fact 11 (.ow [35] [36] 58 (x2.2.1 : List Act58)), .fact 100011 (.at 11 (.rep [] a0.Id)), .fact 100012 (.at 12 (.rep [] a0.Members)), .fact 100013 (.at 13 (.rep [] a0.Chunk)), .fact 100014 (.at 14 (.rep [] a0.Rows)), .fact 100015 (.at 15 (.rep [] a0.Log)), .fact 100016 (.at 16 (.rep [] a0.Heads)), .fact 100018 (.at 18 (.rep [] a1.Events)), .fact 100019 (.at 19 (.rep [] a1.Lost)), .fact 100020 (.at 20 (.rep [] a1.Spare)), .fact 100021 (.at 21 (.rep [] a1.Pos)), .fact 100022 (.at 22 (.rep [] a1.Done)), .fact 100023 (.at 23 (.rep [] a1.NoLog)), .fact 100024 (.at 24 (.rep [] a1.Broken)), .fact 100010 (.obj 10 [(false, 1), (false, 1), (false, 1), (false, 1), (false, 1), (false, 1)]), .fact 100017 (.obj 17 [(false, 1), (false, 1), (false, 1), (false, 1), (false, 1), (false, 1), (false, 1)])])) hb13 (st (sn (sn (Sub.cons (Has.cv (Has.s rfl) (Cv.trans (Cv.trans Cv.owSl (Cv.slRep (T' := [25, 26]) rfl rfl)) (Cv.lo rfl))) (Sub.cons (Has.cv (Has.s rfl) (Cv.owM (T := [35]) (te := [36]) rfl rfl)) (st (sf (sf (sf (sf (sf (sf (sf (sf (sf (sf (sf (sf (sf (sn (sn Sub.nil))))))))))))))))))))) ?_ ?_
  ·rintro s4 c5 hm
   replace hm : law23_LossLabels_L1 x1 s4 = some c5 := hm
   unfold law23_LossLabels_L1 at hm
   show CWalk _ [.fact 2 (.rep [] (a2 : Bool)), .fact 3 (.isv 10), .fact 4 (.isv 17), .fact 8 (.lo [25, 26] x1.2.1), .fact 11 (.ow [35] [36] 58 (x2.2.1 : List Act58)), .fact 13 (.rep [] (s4 : Int)), .fact 100011 (.at 11 (.rep [] a0.Id)), .fact 100012 (.at 12 (.rep [] a0.Members)), .fact 100013 (.at 13 (.rep [] a0.Chunk)), .fact 100014 (.at 14 (.rep [] a0.Rows)), .fact 100015 (.at 15 (.rep [] a0.Log)), .fact 100016 (.at 16 (.rep [] a0.Heads)), .fact 100018 (.at 18 (.rep [] a1.Events)), .fact 100019 (.at 19 (.rep [] a1.Lost)), .fact 100020 (.at 20 (.rep [] a1.Spare)), .fact 100021 (.at 21 (.rep [] a1.Pos)), .fact 100022 (.at 22 (.rep [] a1.Done)), .fact 100023 (.at 23 (.rep [] a1.NoLog)), .fact 100024 (.at 24 (.rep [] a1.Broken)), .fact 100010 (.obj 10 [(false, 1), (false, 1), (false, 1), (false, 1), (false, 1), (false, 1)]), .fact 100017 (.obj 17 [(false, 1), (false, 1), (false, 1), (false, 1), (false, 1), (false, 1), (false, 1)])] _ _
   refine CWalk.seq ?_
   refine CWalk.seq ?_
   refine CWalk.region ?_
   refine mv ?_
   refine mv ?_
   refine wo (Spec.lenLo (Has.s rfl) Try.underlying50) ?_
   refine wo (Spec.lssI (Has.s rfl) (Has.s rfl)) ?_
   refine Walk.nil ?_
   refine Leaf.thenN ?_
   refine CWalk.cond rfl (fun hb => ?_) (fun hb => ?_)
   ·have hm := cond_t hb hm
    refine CWalk.skip ?_
    refine Leaf.thenN ?_
    refine CWalk.seq ?_
    refine CWalk.block ?_
    refine CWalk.seq ?_
    refine CWalk.region ?_
    refine wo (Spec.assign Has.int) ?_
    refine Walk.nil ?_
    refine Leaf.thenN ?_
    refine CWalk.block ?_
    obtain ⟨b12, hb12, hm⟩ := bind_some hm
    refine CWalk.loop (fun s : Int => [.fact 2 (.rep [] (a2 : Bool)), .fact 3 (.isv 10), .fact 4 (.isv 17), .fact 8 (.lo [25, 26] x1.2.1), .fact 11 (.ow [35] [36] 58 (x2.2.1 : List Act58)), .fact 13 (.rep [] (s4 : Int)), .fact 14 (.rep [] (s : Int)), .fact 100011 (.at 11 (.rep [] a0.Id)), .fact 100012 (.at 12 (.rep [] a0.Members)), .fact 100013 (.at 13 (.rep [] a0.Chunk)), .fact 100014 (.at 14 (.rep [] a0.Rows)), .fact 100015 (.at 15 (.rep [] a0.Log)), .fact 100016 (.at 16 (.rep [] a0.Heads)), .fact 100018 (.at 18 (.rep [] a1.Events)), .fact 100019 (.at 19 (.rep [] a1.Lost)), .fact 100020 (.at 20 (.rep [] a1.Spare)), .fact 100021 (.at 21 (.rep [] a1.Pos)), .fact 100022 (.at 22 (.rep [] a1.Done)), .fact 100023 (.at 23 (.rep [] a1.NoLog)), .fact 100024 (.at 24 (.rep [] a1.Broken)), .fact 100010 (.obj 10 [(false, 1), (false, 1), (false, 1), (false, 1), (false, 1), (false, 1)]), .fact 100017 (.obj 17 [(false, 1), (false, 1), (false, 1), (false, 1), (false, 1), (false, 1), (false, 1)])]) (fun b : Unit => (Exit.exit 2, [.fact 2 (.rep [] (a2 : Bool)), .fact 3 (.isv 10), .fact 4 (.isv 17), .fact 8 (.lo [25, 26] x1.2.1), .fact 11 (.ow [35] [36] 58 (x2.2.1 : List Act58)), .fact 13 (.rep [] (s4 : Int)), .fact 100011 (.at 11 (.rep [] a0.Id)), .fact 100012 (.at 12 (.rep [] a0.Members)), .fact 100013 (.at 13 (.rep [] a0.Chunk)), .fact 100014 (.at 14 (.rep [] a0.Rows)), .fact 100015 (.at 15 (.rep [] a0.Log)), .fact 100016 (.at 16 (.rep [] a0.Heads)), .fact 100018 (.at 18 (.rep [] a1.Events)), .fact 100019 (.at 19 (.rep [] a1.Lost)), .fact 100020 (.at 20 (.rep [] a1.Spare)), .fact 100021 (.at 21 (.rep [] a1.Pos)), .fact 100022 (.at 22 (.rep [] a1.Done)), .fact 100023 (.at 23 (.rep [] a1.NoLog)), .fact 100024 (.at 24 (.rep [] a1.Broken)), .fact 100010 (.obj 10 [(false, 1), (false, 1), (false, 1), (false, 1), (false, 1), (false, 1)]), .fact 100017 (.obj 17 [(false, 1), (false, 1), (false, 1), (false, 1), (false, 1), (false, 1), (false, 1)])])) hb12 (st (sn (sn (sn (Sub.cons (Has.cv (Has.s rfl) (Cv.owM (T := [35]) (te := [36]) rfl rfl)) (st (st (sf (sf (sf (sf (sf (sf (sf (sf (sf (sf (sf (sf (sf (sn (sn Sub.nil)))))))))))))))))))))) ?_ ?_
    ·rintro s6 c7 hm
     replace hm : law23_LossLabels_L2 x1 s4 s6 = some c7 := hm
     unfold law23_LossLabels_L2 at hm
     show CWalk _ [.fact 2 (.rep [] (a2 : Bool)), .fact 3 (.isv 10), .fact 4 (.isv 17), .fact 8 (.lo [25, 26] x1.2.1), .fact 11 (.ow [35] [36] 58 (x2.2.1 : List Act58)), .fact 13 (.rep [] (s4 : Int)), .fact 14 (.rep [] (s6 : Int)), .fact 100011 (.at 11 (.rep [] a0.Id)), .fact 100012 (.at 12 (.rep [] a0.Members)), .fact 100013 (.at 13 (.rep [] a0.Chunk)), .fact 100014 (.at 14 (.rep [] a0.Rows)), .fact 100015 (.at 15 (.rep [] a0.Log)), .fact 100016 (.at 16 (.rep [] a0.Heads)), .fact 100018 (.at 18 (.rep [] a1.Events)), .fact 100019 (.at 19 (.rep [] a1.Lost)), .fact 100020 (.at 20 (.rep [] a1.Spare)), .fact 100021 (.at 21 (.rep [] a1.Pos)), .fact 100022 (.at 22 (.rep [] a1.Done)), .fact 100023 (.at 23 (.rep [] a1.NoLog)), .fact 100024 (.at 24 (.rep [] a1.Broken)), .fact 100010 (.obj 10 [(false, 1), (false, 1), (false, 1), (false, 1), (false, 1), (false, 1)]), .fact 100017 (.obj 17 [(false, 1), (false, 1), (false, 1), (false, 1), (false, 1), (false, 1), (false, 1)])] _ _
     refine CWalk.seq ?_
     refine CWalk.seq ?_
     refine CWalk.region ?_
     refine mv ?_
     refine mv ?_
     refine mv ?_
     obtain ⟨x8, hx8, hm⟩ := bind_some hm
     refine wo (Spec.idxLo hx8 sl50 (Has.s rfl) (Has.s rfl)) ?_
     refine wo (Spec.fieldLo fd58_3 (loAct58_3 _) (Has.s rfl)) ?_
     refine wo (Spec.loadLo ty56 (Has.s rfl)) ?_
     refine wo (Spec.lenLo (Has.s rfl) Try.underlying56) ?_
     refine wo (Spec.lssI (Has.s rfl) (Has.s rfl)) ?_
     refine Walk.nil ?_
     refine Leaf.thenN ?_
     refine CWalk.cond rfl (fun hb => ?_) (fun hb => ?_)
     ·have hm := cond_t hb hm
      refine CWalk.skip ?_
      refine Leaf.thenN ?_
      refine CWalk.seq ?_
      refine CWalk.block ?_
      refine CWalk.region ?_
      refine mv ?_
      refine mv ?_
      obtain ⟨x9, hx9, hm⟩ := bind_some hm
      refine wo (Spec.idxLo hx9 sl50 (Has.s rfl) (Has.s rfl)) ?_
      refine wo (Spec.fieldLo fd58_3 (loAct58_3 _) (Has.s rfl)) ?_
      refine wo (Spec.loadLo ty56 (Has.s rfl)) ?_
      refine mv ?_
      obtain ⟨x10, hx10, hm⟩ := bind_some hm
      refine wo (Spec.idxLo hx10 sl56 (Has.s rfl) (Has.s rfl)) ?_
      refine wo (Spec.loadLo ty5 (Has.s rfl)) ?_
      refine wo (Spec.add8Lo (Has.s rfl) (Has.u8 1 rfl)) ?_
      obtain ⟨x11, hx11, hm⟩ := bind_some hm
      refine wo (Spec.idxLo hx11 sl56 (Has.s rfl) (Has.s rfl)) ?_
      refine ws (Step.storeL (T := [25, 26]) (LL := [.fact 8 (.lo [25, 26] x1.2.1)]) rfl ty5 (Has.s rfl) (Has.s rfl) (LooseL.lo rfl LooseL.nil)) ?_
      refine Walk.nil ?_
      refine Leaf.blockN ?_
      refine Leaf.thenN ?_
      refine CWalk.region ?_
      refine mv ?_
      refine wo (Spec.addI (Has.s rfl) Has.int) ?_
      refine wo (Spec.assign (Has.s rfl)) ?_
      refine Walk.nil ?_
      exact Leaf.next hm (st (sn (sn (sn (Sub.cons (Has.cv (Has.s rfl) (Cv.owM (T := [35]) (te := [36]) rfl rfl)) (st (st (sf (sf (sf (sf (sf (sf (sf (sf (sf (sf (sf (sf (sf (sn (sn Sub.nil))))))))))))))))))))))
     ·have hm := cond_f hb hm
      refine CWalk.exit ?_
      refine Leaf.thenE ?_
      exact Leaf.brk hm (fun h => nomatch h) rfl (st (sn (sn (sn (Sub.cons (Has.cv (Has.s rfl) (Cv.owM (T := [35]) (te := [36]) rfl rfl)) (st (sf (sf (sf (sf (sf (sf (sf (sf (sf (sf (sf (sf (sf (sn (sn Sub.nil)))))))))))))))))))))
    ·intro _
     refine Leaf.blockE ?_
     refine Leaf.blockN ?_
     refine Leaf.thenN ?_
     refine CWalk.region ?_
     refine mv ?_
     refine wo (Spec.addI (Has.s rfl) Has.int) ?_
     refine wo (Spec.assign (Has.s rfl)) ?_
     refine Walk.nil ?_
     exact Leaf.next hm (st (sn (sn (sn (Sub.cons (Has.cv (Has.s rfl) (Cv.owM (T := [35]) (te := [36]) rfl rfl)) (st (sf (sf (sf (sf (sf (sf (sf (sf (sf (sf (sf (sf (sf (sn (sn Sub.nil)))))))))))))))))))))
   ·have hm := cond_f hb hm
    refine CWalk.exit ?_
    refine Leaf.thenE ?_
    exact Leaf.brk hm (fun h => nomatch h) rfl (st (sn (sn (Sub.cons (Has.cv (Has.s rfl) (Cv.owM (T := [35]) (te := [36]) rfl rfl)) (sf (sf (sf (sf (sf (sf (sf (sf (sf (sf (sf (sf (sf (sn (sn Sub.nil)))))))))))))))))))
  ·intro _
   refine Leaf.blockE ?_
   refine Leaf.thenN ?_
   refine CWalk.seq ?_
   refine CWalk.region ?_
   refine wo (Spec.loadObj (ls := [(false, 1, Fact.rep [] a0.Id), (false, 1, Fact.rep [] a0.Members), (false, 1, Fact.rep [] a0.Chunk), (false, 1, Fact.rep [] a0.Rows), (false, 1, Fact.rep [] a0.Log), (false, 1, Fact.rep [] a0.Heads)]) ty24 rfl rfl (Has.s rfl) rfl (HasGs.cons (HasG.s rfl) (HasGs.cons (HasG.s rfl) (HasGs.cons (HasG.s rfl) (HasGs.cons (HasG.s rfl) (HasGs.cons (HasG.s rfl) (HasGs.cons (HasG.s rfl) HasGs.nil))))))) ?_
   refine wo (Spec.loadObj (ls := [(false, 1, Fact.rep [] a1.Events), (false, 1, Fact.rep [] a1.Lost), (false, 1, Fact.rep [] a1.Spare), (false, 1, Fact.rep [] a1.Pos), (false, 1, Fact.rep [] a1.Done), (false, 1, Fact.rep [] a1.NoLog), (false, 1, Fact.rep [] a1.Broken)]) ty26 rfl rfl (Has.s rfl) rfl (HasGs.cons (HasG.s rfl) (HasGs.cons (HasG.s rfl) (HasGs.cons (HasG.s rfl) (HasGs.cons (HasG.s rfl) (HasGs.cons (HasG.s rfl) (HasGs.cons (HasG.s rfl) (HasGs.cons (HasG.s rfl) HasGs.nil)))))))) ?_
   refine mv ?_
   obtain ⟨x14, hx14, hm⟩ := bind_some hm
   refine wo (f := Fact.tup3 (Fact.rep [] x14.1) (Fact.ow [46] [47] 58 (x14.2.1 : List Act58)) (Fact.rep [] x14.2.2)) (Spec.callE [] 46 rfl en25 (loss_Labels_c a0 a1 a2 hx14) (HasAll.cons (Has.fl (Has.cv (Has.s rfl) (Cv.trans (Cv.flds (CvL.cons Cv.fl (CvL.cons Cv.fl (CvL.cons Cv.fl (CvL.cons Cv.fl (CvL.cons Cv.fl (CvL.cons Cv.fl CvL.nil))))))) (Cv.close (T := []) (chConfig a0))))) (HasAll.cons (Has.fl (Has.cv (Has.s rfl) (Cv.trans (Cv.flds (CvL.cons Cv.fl (CvL.cons Cv.fl (CvL.cons Cv.fl (CvL.cons Cv.fl (CvL.cons Cv.fl (CvL.cons Cv.fl (CvL.cons Cv.fl CvL.nil)))))))) (Cv.close (T := []) (chLoss a1))))) (HasAll.cons (Has.fl (Has.s rfl)) HasAll.nil)))) ?_
   refine mv ?_
   refine wo (Spec.ext0_3 (Has.s rfl)) ?_
   refine wo (Spec.ext1_3 (Has.s rfl)) ?_
   refine wo (Spec.ext2_3 (Has.s rfl)) ?_
   refine ws (Step.allocObj (ls := [(false, 1, Fact.rep [] ((0 : UInt32) : UInt32)), (false, 1, Fact.rep [] ((0 : Int) : Int)), (false, 1, Fact.rep [] (false : Bool)), (false, 1, Fact.rep [] ((0 : Int) : Int)), (false, 1, Fact.rep [] ((0 : Int) : Int)), (false, 1, Fact.rep [] (false : Bool)), (false, 1, Fact.rep [] (false : Bool))]) 48 rfl rfl rfl rfl zl26) ?_
   refine ws (Step.storeObj (ls := [(false, 1, Fact.rep [] x14.1.Events), (false, 1, Fact.rep [] x14.1.Lost), (false, 1, Fact.rep [] x14.1.Spare), (false, 1, Fact.rep [] x14.1.Pos), (false, 1, Fact.rep [] x14.1.Done), (false, 1, Fact.rep [] x14.1.NoLog), (false, 1, Fact.rep [] x14.1.Broken)]) rfl ty26 rfl rfl (Has.s rfl) rfl (HasL.flds (Has.cv (Has.s rfl) (Cv.trans (Cv.opens (chLoss x14.1)) (Cv.flds (CvL.cons Cv.fl (CvL.cons Cv.fl (CvL.cons Cv.fl (CvL.cons Cv.fl (CvL.cons Cv.fl (CvL.cons Cv.fl (CvL.cons Cv.fl CvL.nil))))))))))) rfl) ?_
   refine wo (Spec.assign (Has.s rfl)) ?_
   refine wo (Spec.assign (Has.s rfl)) ?_
   refine Walk.nil ?_
   refine Leaf.thenN ?_
   refine CWalk.seq ?_
   refine CWalk.region ?_
   refine mv ?_
   refine mv ?_
   obtain ⟨x15, hx15, hm⟩ := bind_some hm
   refine wo (f := Fact.rep [] (x15 : Bool)) (Spec.callE [35, 36, 46, 47] 56 rfl en27 (ref05_Same_c x14.2.1 x2.2.1 hx15) (HasAll.cons (Has.m (Has.cv (Has.s rfl) (Cv.trans Cv.owSl (Cv.slRep (T' := [46, 47]) rfl rfl))) rfl) (HasAll.cons (Has.m (Has.cv (Has.s rfl) (Cv.trans Cv.owSl (Cv.slRep (T' := [35, 36]) rfl rfl))) rfl) HasAll.nil))) ?_
   refine wo (Spec.assign (Has.s rfl)) ?_
   refine Walk.nil ?_
   refine Leaf.thenN ?_
   refine CWalk.ret ?_
   obtain rfl := Option.some.inj hm
   exact Leaf.retC1 rfl (HasR.cv (HasR.tmp (Has.s rfl)) Cv.fl)

end Go.Proofs.Ytgjibgklailenaa
