/- Printed by a program of ours: models of functions, and that calls do what they say. -/
import Derived.Test.YtdlmgdfeeofmbaaGer1
namespace Go.Proofs.Ytdlmgdfeeofmbaa
open Go GL
set_option linter.unusedVariables false

/-- freeboard/disk.Write -/
def disk_Write (a0 : Disk) (a1 : Int) (a2 : List UInt8) : Option (Disk × Int) :=
  Option.bind (disk_write a0 a1 a2) (fun x1 => (bif (x1 != (0 : Int)) then some ((Disk.mk ([] : List (List UInt8)) ([] : List Write) false), x1) else (bif (((a0.Wait).length : Int) == (1024 : Int)) then some ((Disk.mk ([] : List (List UInt8)) ([] : List Write) false), (9 : Int)) else Option.bind (disk_Twin a0) (fun x2 => Option.bind (disk_block a2) (fun x3 => Option.bind (app x2.Wait ([(Write.mk a1 x3)])) (fun x4 => some ((Disk.mk x2.Blocks x4 x2.Dead), (0 : Int))))))))
set_option maxRecDepth 100000 in
set_option maxHeartbeats 2000000 in
theorem disk_Write_c (a0 : Disk) (a1 : Int) (a2 : List UInt8) {r : Disk × Int} (hm : disk_Write a0 a1 a2 = some r) : Ctr Try.prog 27 [.rep 0 a0, .rep 0 a1, .rep 0 a2] (.tup2 (.flds [(false, 1, (.own 0 (some 1) 45 r.1.Blocks)), (false, 1, (.own 2 (some 3) 66 r.1.Wait)), (false, 1, (.fl r.1.Dead))]) (.fl r.2)) [] := by
 refine ctr_of_walk [[19], [20], [21], [22, 23, 24]] 34 Try.func27 rfl rfl rfl rfl (fun w0 om => ?_)
 unfold disk_Write at hm
 refine CWalk.sub (G' := [.fact 0 (.rep [0] (a0 : Disk)), .fact 1 (.rep [] (a1 : Int)), .fact 2 (.rep [0] (a2 : List UInt8))]) (sn (Sub.cons (Has.fl (Has.s rfl)) (sn Sub.nil))) ?_
 refine CWalk.seq ?_
 refine CWalk.region ?_
 refine ws (Step.boxObj (ls := [(false, 1, Fact.rep [0] a0.Blocks), (false, 1, Fact.rep [0] a0.Wait), (false, 1, Fact.rep [] a0.Dead)]) 10 rfl rfl rfl rfl (HasL.flds (Has.cv (Has.s rfl) (Cv.trans (Cv.opens (chDisk a0)) (Cv.flds (CvL.cons Cv.refl (CvL.cons Cv.refl (CvL.cons Cv.fl CvL.nil)))))))) ?_
 refine ws (Step.allocObj (ls := [(false, 1, Fact.nilv), (false, 1, Fact.nilv), (false, 1, Fact.rep [] (false : Bool))]) 14 rfl rfl rfl rfl zl51) ?_
 refine wo (Spec.assign Has.int) ?_
 refine Walk.nil ?_
 refine Leaf.thenN ?_
 refine CWalk.seq ?_
 refine CWalk.seq ?_
 refine CWalk.region ?_
 refine wo (Spec.loadObj (ls := [(false, 1, Fact.rep [0] a0.Blocks), (false, 1, Fact.rep [0] a0.Wait), (false, 1, Fact.rep [] a0.Dead)]) ty51 rfl rfl (Has.s rfl) rfl (HasGs.cons (HasG.s rfl) (HasGs.cons (HasG.s rfl) (HasGs.cons (HasG.s rfl) HasGs.nil)))) ?_
 refine mv ?_
 refine mv ?_
 obtain ⟨x1, hx1, hm⟩ := bind_some hm
 refine wo (f := Fact.rep [] (x1 : Int)) (Spec.callE [0] 18 rfl en47 (disk_write_c a0 a1 a2 hx1) (HasAll.cons (Has.m (Has.cv (Has.s rfl) (Cv.trans (Cv.flds (CvL.cons (Cv.m rfl) (CvL.cons (Cv.m rfl) (CvL.cons Cv.fl CvL.nil)))) (Cv.close (T := [0]) (chDisk a0)))) rfl) (HasAll.cons (Has.fl (Has.s rfl)) (HasAll.cons (Has.m (Has.s rfl) rfl) HasAll.nil)))) ?_
 refine wo (Spec.assign (Has.s rfl)) ?_
 refine Walk.nil ?_
 refine Leaf.thenN ?_
 refine CWalk.seq ?_
 refine CWalk.region ?_
 refine mv ?_
 refine wo (Spec.neqI (Has.s rfl) Has.int) ?_
 refine Walk.nil ?_
 refine Leaf.thenN ?_
 refine CWalk.cond rfl (fun hb => ?_) (fun hb => ?_)
 ·have hm := cond_t hb hm
  refine CWalk.seq ?_
  refine CWalk.region ?_
  refine wo (Spec.build (us := []) (ls' := [(false, 1, Fact.nilv), (false, 1, Fact.nilv), (false, 1, Fact.rep [] (false : Bool))]) bd51 rfl BP.nil) ?_
  refine mv ?_
  refine ws (Step.storeObj (ls := [(false, 1, Fact.nilv), (false, 1, Fact.nilv), (false, 1, Fact.rep [] (false : Bool))]) rfl ty51 rfl rfl (Has.s rfl) rfl (HasL.flds (Has.s rfl)) rfl) ?_
  refine wo (Spec.assign (Has.s rfl)) ?_
  refine Walk.nil ?_
  refine Leaf.thenN ?_
  refine CWalk.ret ?_
  refine Leaf.thenR ?_
  obtain rfl := Option.some.inj hm
  exact Leaf.retC2 rfl (HasR.cv (HasR.obj (ls := [(false, 1, Fact.nilv), (false, 1, Fact.nilv), (false, 1, Fact.rep [] (false : Bool))]) ty51 rfl rfl (Has.s rfl) rfl (HasGs.cons (HasG.s rfl) (HasGs.cons (HasG.s rfl) (HasGs.cons (HasG.s rfl) HasGs.nil)))) (Cv.flds (CvL.cons (Cv.trans Cv.nilOw (Cv.owM (T := []) (te := []) rfl rfl)) (CvL.cons (Cv.trans Cv.nilOw (Cv.owM (T := []) (te := []) rfl rfl)) (CvL.cons Cv.fl CvL.nil))))) (HasR.cv (HasR.tmp (Has.s rfl)) Cv.fl)
 ·have hm := cond_f hb hm
  refine CWalk.skip ?_
  refine Leaf.thenN ?_
  refine CWalk.seq ?_
  refine CWalk.seq ?_
  refine CWalk.region ?_
  refine wo (Spec.fieldAddrO fd51_1 (Has.cv (Has.s rfl) (Cv.isvP rfl))) ?_
  refine wo (Spec.loadF (i := 1) ty49 rfl (Has.s rfl) rfl (HasG.s rfl)) ?_
  refine wo (Spec.len (Has.s rfl) Try.underlying49) ?_
  refine wo (Spec.eqlI (Has.s rfl) Has.int) ?_
  refine Walk.nil ?_
  refine Leaf.thenN ?_
  refine CWalk.cond rfl (fun hb => ?_) (fun hb => ?_)
  ·have hm := cond_t hb hm
   refine CWalk.seq ?_
   refine CWalk.region ?_
   refine wo (Spec.build (us := []) (ls' := [(false, 1, Fact.nilv), (false, 1, Fact.nilv), (false, 1, Fact.rep [] (false : Bool))]) bd51 rfl BP.nil) ?_
   refine ws (Step.storeObj (ls := [(false, 1, Fact.nilv), (false, 1, Fact.nilv), (false, 1, Fact.rep [] (false : Bool))]) rfl ty51 rfl rfl (Has.s rfl) rfl (HasL.flds (Has.s rfl)) rfl) ?_
   refine wo (Spec.assign Has.int) ?_
   refine Walk.nil ?_
   refine Leaf.thenN ?_
   refine CWalk.ret ?_
   refine Leaf.thenR ?_
   obtain rfl := Option.some.inj hm
   exact Leaf.retC2 rfl (HasR.cv (HasR.obj (ls := [(false, 1, Fact.nilv), (false, 1, Fact.nilv), (false, 1, Fact.rep [] (false : Bool))]) ty51 rfl rfl (Has.s rfl) rfl (HasGs.cons (HasG.s rfl) (HasGs.cons (HasG.s rfl) (HasGs.cons (HasG.s rfl) HasGs.nil)))) (Cv.flds (CvL.cons (Cv.trans Cv.nilOw (Cv.owM (T := []) (te := []) rfl rfl)) (CvL.cons (Cv.trans Cv.nilOw (Cv.owM (T := []) (te := []) rfl rfl)) (CvL.cons Cv.fl CvL.nil))))) (HasR.cv (HasR.tmp (Has.s rfl)) Cv.fl)
  ·have hm := cond_f hb hm
   refine CWalk.skip ?_
   refine Leaf.thenN ?_
   refine CWalk.seq ?_
   refine CWalk.region ?_
   refine wo (Spec.loadObj (ls := [(false, 1, Fact.rep [0] a0.Blocks), (false, 1, Fact.rep [0] a0.Wait), (false, 1, Fact.rep [] a0.Dead)]) ty51 rfl rfl (Has.s rfl) rfl (HasGs.cons (HasG.s rfl) (HasGs.cons (HasG.s rfl) (HasGs.cons (HasG.s rfl) HasGs.nil)))) ?_
   obtain ⟨x2, hx2, hm⟩ := bind_some hm
   refine wo (f := Fact.flds [(false, 1, Fact.ow [19] [20] 45 (x2.Blocks : List (List UInt8))), (false, 1, Fact.ow [21] [22] 66 (x2.Wait : List Write)), (false, 1, Fact.rep [] x2.Dead)]) (Spec.callE [0] 19 rfl en48 (disk_Twin_c a0 hx2) (HasAll.cons (Has.m (Has.cv (Has.s rfl) (Cv.trans (Cv.flds (CvL.cons (Cv.m rfl) (CvL.cons (Cv.m rfl) (CvL.cons Cv.fl CvL.nil)))) (Cv.close (T := [0]) (chDisk a0)))) rfl) HasAll.nil)) ?_
   refine ws (Step.storeObj (ls := [(false, 1, Fact.ow [19] [20] 45 (x2.Blocks : List (List UInt8))), (false, 1, Fact.ow [21] [22] 66 (x2.Wait : List Write)), (false, 1, Fact.rep [] x2.Dead)]) rfl ty51 rfl rfl (Has.s rfl) rfl (HasL.flds (Has.s rfl)) rfl) ?_
   refine Walk.nil ?_
   refine Leaf.thenN ?_
   refine CWalk.seq ?_
   obtain ⟨x3, hx3, hm⟩ := bind_some hm
   obtain ⟨x4, hx4, hm⟩ := bind_some hm
   refine CWalk.drawM [[], [0], [], [], [3], [2, 3, 4], [2, 3, 4, 5], [0, 1, 2, 3, 4, 5, 6], [0, 1, 2, 3, 4, 5, 6, 7], [0, 1, 2, 3, 4, 5, 6, 7, 8]] [[.fact 24 (.pto 10 1)], [.fact 25 (.ow [21] [22] 66 (x2.Wait : List Write))], [.fact 26 (.rep [] (a1 : Int))], [.fact 27 (.rep [0] (a2 : List UInt8))], [.fact 28 (.ow [23] [] 5 (x3 : List UInt8))], [.fact 29 (.flds [(false, 1, Fact.rep [] (a1 : Int)), (false, 1, Fact.ow [23] [] 5 (x3 : List UInt8))])], [.fact 30 (.rep [24, 23] ([(Write.mk a1 x3)] : List Write))], [.fact 31 (.ow [21] [22, 23, 24] 66 (x4 : List Write)), .kill 21], [.fact 32 (.pto 10 1)], [.fact 100012 (.at 12 (.ow [21] [22, 23, 24] 66 (x4 : List Write))), .fact 100010 (.obj 10 [(false, 1), (false, 1), (false, 1)]), .kill 10, .killId 12]] mixed (by kernel_rfl) (ao (so (Spec.fieldAddrO fd51_1 (Has.cv (Has.s rfl) (Cv.isvP rfl)))) (ao (so (Spec.loadF (i := 1) ty49 rfl (Has.s rfl) rfl (HasG.s rfl))) (ao (so (Spec.move (Has.s rfl))) (ao (so (Spec.move (Has.s rfl))) (ao (so (Spec.callE [0] 23 rfl en44 (disk_block_c a2 hx3) (HasAll.cons (Has.m (Has.s rfl) rfl) HasAll.nil))) (ao (so (Spec.build (us := [(0, .tmp 26), (1, .tmp 28)]) (ls' := [(false, 1, Fact.rep [] (a1 : Int)), (false, 1, Fact.ow [23] [] 5 (x3 : List UInt8))]) bd66 rfl (BP.cons rfl rfl (Has.s rfl) (Has.s rfl) (BP.cons rfl rfl (Has.cv (Has.s rfl) (Cv.trans Cv.owSl (Cv.slRep (T' := [23]) rfl rfl))) (Has.s rfl) BP.nil)))) (ao (so (Spec.lit (xs := [.tmp 29]) (T := [23]) 24 rfl ow49 rfl rfl rfl rfl (HasEach.cons (Has.m (Has.cv (Has.s rfl) (Cv.trans (Cv.flds (CvL.cons Cv.fl (CvL.cons (Cv.trans (Cv.trans Cv.owSl (Cv.slRep (T' := [23]) rfl rfl)) (Cv.m rfl)) CvL.nil))) (Cv.close (T := [23]) (chWrite (Write.mk a1 x3))))) rfl) HasEach.nil))) (ao (StepG.stE (Step.appendOw (T := [21]) (te' := [22, 23, 24]) hx4 rfl rfl rfl ow49 (Has.s rfl) (Has.s rfl) (ElKeeps.tags rfl rfl) (ElKeeps.tags rfl rfl))) (ao (so (Spec.fieldAddrO fd51_1 (Has.cv (Has.s rfl) (Cv.isvP rfl)))) (ao (StepG.stE (Step.storeF (i := 1) (f := Fact.ow [21] [22, 23, 24] 66 (x4 : List Write)) rfl ty49 rfl (Has.s rfl) rfl (Has.cv (Has.s rfl) (Cv.trans Cv.owSl (Cv.slRep (T' := [21, 22, 23, 24]) rfl rfl))) (Has.s rfl) rfl)) AllM.nil)))))))))) ?_
   refine Leaf.thenN ?_
   refine CWalk.seq ?_
   refine CWalk.region ?_
   refine wo (Spec.loadObj (ls := [(false, 1, Fact.ow [19] [20] 45 (x2.Blocks : List (List UInt8))), (false, 1, Fact.ow [21] [22, 23, 24] 66 (x4 : List Write)), (false, 1, Fact.rep [] x2.Dead)]) ty51 rfl rfl (Has.s rfl) rfl (HasGs.cons (HasG.s rfl) (HasGs.cons (HasG.s rfl) (HasGs.cons (HasG.s rfl) HasGs.nil)))) ?_
   refine ws (Step.storeObj (ls := [(false, 1, Fact.ow [19] [20] 45 (x2.Blocks : List (List UInt8))), (false, 1, Fact.ow [21] [22, 23, 24] 66 (x4 : List Write)), (false, 1, Fact.rep [] x2.Dead)]) rfl ty51 rfl rfl (Has.s rfl) rfl (HasL.flds (Has.s rfl)) rfl) ?_
   refine wo (Spec.assign Has.int) ?_
   refine Walk.nil ?_
   refine Leaf.thenN ?_
   refine CWalk.ret ?_
   obtain rfl := Option.some.inj hm
   exact Leaf.retC2 rfl (HasR.cv (HasR.obj (ls := [(false, 1, Fact.ow [19] [20] 45 (x2.Blocks : List (List UInt8))), (false, 1, Fact.ow [21] [22, 23, 24] 66 (x4 : List Write)), (false, 1, Fact.rep [] x2.Dead)]) ty51 rfl rfl (Has.s rfl) rfl (HasGs.cons (HasG.s rfl) (HasGs.cons (HasG.s rfl) (HasGs.cons (HasG.s rfl) HasGs.nil)))) (Cv.flds (CvL.cons (Cv.owM (T := [19]) (te := [20]) rfl rfl) (CvL.cons (Cv.owM (T := [21]) (te := [22, 23, 24]) rfl rfl) (CvL.cons Cv.fl CvL.nil))))) (HasR.cv (HasR.tmp (Has.s rfl)) Cv.fl)

def law22_others_J2 (s2 : Int) (j4 : List Int) : Option (Ctl ((List Int) × Int) ((List Int))) :=
  some (Ctl.next (j4, (wI (s2 + (1 : Int)))))
def law22_others_L1 (a0 : List Int) (a2 : Int) (s1 : List Int) (s2 : Int) : Option (Ctl ((List Int) × Int) ((List Int))) :=
  (bif (decide (s2 < ((a0).length : Int))) then Option.bind (idx a0 s2) (fun x5 => (bif (x5 != a2) then Option.bind (idx a0 s2) (fun x6 => Option.bind (app s1 ([x6])) (fun x7 => (law22_others_J2 s2 x7))) else (law22_others_J2 s2 s1))) else some (Ctl.brk s1))
def law22_others_J4 (s10 : Int) (j12 : List Int) : Option (Ctl ((List Int) × Int) ((List Int))) :=
  some (Ctl.next (j12, (wI (s10 + (1 : Int)))))
def law22_others_L3 (a1 : List Int) (a2 : Int) (s9 : List Int) (s10 : Int) : Option (Ctl ((List Int) × Int) ((List Int))) :=
  (bif (decide (s10 < ((a1).length : Int))) then Option.bind (idx a1 s10) (fun x13 => (bif (x13 != a2) then Option.bind (idx a1 s10) (fun x14 => Option.bind (app s9 ([x14])) (fun x15 => (law22_others_J4 s10 x15))) else (law22_others_J4 s10 s9))) else some (Ctl.brk s9))
/-- freeboard/freeboardlaw22.others -/
def law22_others (a0 : List Int) (a1 : List Int) (a2 : Int) : Option (Bool) :=
  Option.bind (loopM (fun s : (List Int) × Int => law22_others_L1 a0 a2 s.1 s.2) FUEL (([] : List Int), (0 : Int))) (fun b8 => Option.bind (loopM (fun s : (List Int) × Int => law22_others_L3 a1 a2 s.1 s.2) FUEL (([] : List Int), (0 : Int))) (fun b16 => Option.bind (ref22_SameInts b8 b16) (fun x17 => some x17)))
set_option maxRecDepth 100000 in
set_option maxHeartbeats 2000000 in
theorem law22_others_c (a0 : List Int) (a1 : List Int) (a2 : Int) {r : Bool} (hm : law22_others a0 a1 a2 = some r) : Ctr Try.prog 28 [.rep 0 a0, .rep 0 a1, .rep 0 a2] (.fl r) [] := by
 refine ctr_of_walk [[]] 52 Try.func28 rfl rfl rfl rfl (fun w0 om => ?_)
 unfold law22_others at hm
 refine CWalk.sub (G' := [.fact 0 (.rep [0] (a0 : List Int)), .fact 1 (.rep [0] (a1 : List Int)), .fact 2 (.rep [] (a2 : Int))]) (sn (sn (Sub.cons (Has.fl (Has.s rfl)) Sub.nil))) ?_
 refine CWalk.seq ?_
 refine CWalk.region ?_
 refine wo (Spec.assign Has.bool) ?_
 refine Walk.nil ?_
 refine Leaf.thenN ?_
 refine CWalk.seq ?_
 refine CWalk.region ?_
 refine wo (Spec.assign Has.nilv) ?_
 refine wo (Spec.assign Has.nilv) ?_
 refine Walk.nil ?_
 refine Leaf.thenN ?_
 refine CWalk.seq ?_
 refine CWalk.seq ?_
 refine CWalk.region ?_
 refine wo (Spec.assign Has.int) ?_
 refine Walk.nil ?_
 refine Leaf.thenN ?_
 refine CWalk.block ?_
 obtain ⟨b8, hb8, hm⟩ := bind_some hm
 refine CWalk.loop (fun s : (List Int) × Int => [.fact 0 (.rep [0] (a0 : List Int)), .fact 1 (.rep [0] (a1 : List Int)), .fact 2 (.rep [] (a2 : Int)), .fact 7 (.ow [11] [] 3 (s.1 : List Int)), .fact 8 (.nilv), .fact 9 (.rep [] s.2)]) (fun b : (List Int) => (Exit.exit 0, [.fact 1 (.rep [0] (a1 : List Int)), .fact 2 (.rep [] (a2 : Int)), .fact 7 (.ow [11] [] 3 (b : List Int)), .fact 8 (.nilv)])) hb8 (su (su (st (Sub.cons (Has.cv (Has.s rfl) (Cv.trans Cv.nilOw (Cv.owF (T := []) (te := []) rfl))) (sn (st Sub.nil)))))) ?_ ?_
 ·rintro ⟨s1, s2⟩ c3 hm
  replace hm : law22_others_L1 a0 a2 s1 s2 = some c3 := hm
  unfold law22_others_L1 at hm
  show CWalk _ [.fact 0 (.rep [0] (a0 : List Int)), .fact 1 (.rep [0] (a1 : List Int)), .fact 2 (.rep [] (a2 : Int)), .fact 7 (.ow [11] [] 3 (s1 : List Int)), .fact 8 (.nilv), .fact 9 (.rep [] (s2 : Int))] _ _
  refine CWalk.seq ?_
  refine CWalk.seq ?_
  refine CWalk.region ?_
  refine mv ?_
  refine mv ?_
  refine wo (Spec.len (Has.s rfl) Try.underlying33) ?_
  refine wo (Spec.lssI (Has.s rfl) (Has.s rfl)) ?_
  refine Walk.nil ?_
  refine Leaf.thenN ?_
  refine CWalk.cond rfl (fun hb => ?_) (fun hb => ?_)
  ·have hm := cond_t hb hm
   refine CWalk.skip ?_
   refine Leaf.thenN ?_
   refine CWalk.seqJ (fun p : (List Int) => [.fact 0 (.rep [0] (a0 : List Int)), .fact 1 (.rep [0] (a1 : List Int)), .fact 2 (.rep [] (a2 : Int)), .fact 7 (.ow [11] [] 3 (p : List Int)), .fact 8 (.nilv), .fact 9 (.rep [] (s2 : Int))]) (fun p : (List Int) => law22_others_J2 s2 p = some c3) ?_ ?_
   ·rintro j4 hm
    replace hm : law22_others_J2 s2 j4 = some c3 := hm
    unfold law22_others_J2 at hm
    show CWalk _ [.fact 0 (.rep [0] (a0 : List Int)), .fact 1 (.rep [0] (a1 : List Int)), .fact 2 (.rep [] (a2 : Int)), .fact 7 (.ow [11] [] 3 (j4 : List Int)), .fact 8 (.nilv), .fact 9 (.rep [] (s2 : Int))] _ _
    refine CWalk.region ?_
    refine mv ?_
    refine wo (Spec.addI (Has.s rfl) Has.int) ?_
    refine wo (Spec.assign (Has.s rfl)) ?_
    refine Walk.nil ?_
    exact Leaf.next hm (su (su (st (Sub.cons (Has.cv (Has.s rfl) (Cv.owF (T := [11]) (te := []) rfl)) (sn (st Sub.nil))))))
   ·refine CWalk.block ?_
    refine CWalk.seq ?_
    refine CWalk.region ?_
    refine mv ?_
    refine mv ?_
    obtain ⟨x5, hx5, hm⟩ := bind_some hm
    refine wo (Spec.indexAddr hx5 sl33 (Has.s rfl) (Has.s rfl)) ?_
    refine wo ((Spec.load ty3 (Has.s rfl)).flat (T' := [])) ?_
    refine mv ?_
    refine wo (Spec.neqI (Has.s rfl) (Has.s rfl)) ?_
    refine Walk.nil ?_
    refine Leaf.thenN ?_
    refine CWalk.cond rfl (fun hb => ?_) (fun hb => ?_)
    ·have hm := cond_t hb hm
     refine CWalk.region ?_
     refine mv ?_
     refine mv ?_
     refine mv ?_
     obtain ⟨x6, hx6, hm⟩ := bind_some hm
     refine wo (Spec.indexAddr hx6 sl33 (Has.s rfl) (Has.s rfl)) ?_
     refine wo ((Spec.load ty3 (Has.s rfl)).flat (T' := [])) ?_
     refine wo (Spec.lit (xs := [.tmp 27]) (T := []) 10 rfl ow33 rfl rfl rfl rfl (HasEach.cons (Has.fl (Has.s rfl)) HasEach.nil)) ?_
     obtain ⟨x7, hx7, hm⟩ := bind_some hm
     refine ws (Step.appendOw (T := [11]) (te' := []) hx7 rfl rfl rfl ow33 (Has.s rfl) (Has.s rfl) ElKeeps.flat ElKeeps.flat) ?_
     refine wo (Spec.assign (Has.s rfl)) ?_
     refine Walk.nil ?_
     refine Leaf.blockN ?_
     exact Leaf.join x7 hm (su (su (st (Sub.cons (Has.cv (Has.s rfl) (Cv.owF (T := [11]) (te := []) rfl)) (sn (st Sub.nil))))))
    ·have hm := cond_f hb hm
     refine CWalk.skip ?_
     refine Leaf.blockN ?_
     exact Leaf.join s1 hm (su (su (st (Sub.cons (Has.cv (Has.s rfl) (Cv.owF (T := [11]) (te := []) rfl)) (sn (st Sub.nil))))))
  ·have hm := cond_f hb hm
   refine CWalk.exit ?_
   refine Leaf.thenE ?_
   exact Leaf.brk hm (fun h => nomatch h) rfl (su (st (Sub.cons (Has.cv (Has.s rfl) (Cv.owF (T := [11]) (te := []) rfl)) (sn Sub.nil))))
 ·intro _
  refine Leaf.blockE ?_
  refine Leaf.thenN ?_
  refine CWalk.seq ?_
  refine CWalk.seq ?_
  refine CWalk.region ?_
  refine wo (Spec.assign Has.int) ?_
  refine Walk.nil ?_
  refine Leaf.thenN ?_
  refine CWalk.block ?_
  obtain ⟨b16, hb16, hm⟩ := bind_some hm
  refine CWalk.loop (fun s : (List Int) × Int => [.fact 1 (.rep [0] (a1 : List Int)), .fact 2 (.rep [] (a2 : Int)), .fact 7 (.ow [11] [] 3 (b8 : List Int)), .fact 8 (.ow [13] [] 3 (s.1 : List Int)), .fact 10 (.rep [] s.2)]) (fun b : (List Int) => (Exit.exit 2, [.fact 7 (.ow [11] [] 3 (b8 : List Int)), .fact 8 (.ow [13] [] 3 (b : List Int))])) hb16 (su (st (Sub.cons (Has.cv (Has.s rfl) (Cv.owF (T := [11]) (te := []) rfl)) (Sub.cons (Has.cv (Has.s rfl) (Cv.trans Cv.nilOw (Cv.owF (T := []) (te := []) rfl))) (st Sub.nil))))) ?_ ?_
  ·rintro ⟨s9, s10⟩ c11 hm
   replace hm : law22_others_L3 a1 a2 s9 s10 = some c11 := hm
   unfold law22_others_L3 at hm
   show CWalk _ [.fact 1 (.rep [0] (a1 : List Int)), .fact 2 (.rep [] (a2 : Int)), .fact 7 (.ow [11] [] 3 (b8 : List Int)), .fact 8 (.ow [13] [] 3 (s9 : List Int)), .fact 10 (.rep [] (s10 : Int))] _ _
   refine CWalk.seq ?_
   refine CWalk.seq ?_
   refine CWalk.region ?_
   refine mv ?_
   refine mv ?_
   refine wo (Spec.len (Has.s rfl) Try.underlying33) ?_
   refine wo (Spec.lssI (Has.s rfl) (Has.s rfl)) ?_
   refine Walk.nil ?_
   refine Leaf.thenN ?_
   refine CWalk.cond rfl (fun hb => ?_) (fun hb => ?_)
   ·have hm := cond_t hb hm
    refine CWalk.skip ?_
    refine Leaf.thenN ?_
    refine CWalk.seqJ (fun p : (List Int) => [.fact 1 (.rep [0] (a1 : List Int)), .fact 2 (.rep [] (a2 : Int)), .fact 7 (.ow [11] [] 3 (b8 : List Int)), .fact 8 (.ow [13] [] 3 (p : List Int)), .fact 10 (.rep [] (s10 : Int))]) (fun p : (List Int) => law22_others_J4 s10 p = some c11) ?_ ?_
    ·rintro j12 hm
     replace hm : law22_others_J4 s10 j12 = some c11 := hm
     unfold law22_others_J4 at hm
     show CWalk _ [.fact 1 (.rep [0] (a1 : List Int)), .fact 2 (.rep [] (a2 : Int)), .fact 7 (.ow [11] [] 3 (b8 : List Int)), .fact 8 (.ow [13] [] 3 (j12 : List Int)), .fact 10 (.rep [] (s10 : Int))] _ _
     refine CWalk.region ?_
     refine mv ?_
     refine wo (Spec.addI (Has.s rfl) Has.int) ?_
     refine wo (Spec.assign (Has.s rfl)) ?_
     refine Walk.nil ?_
     exact Leaf.next hm (su (st (Sub.cons (Has.cv (Has.s rfl) (Cv.owF (T := [11]) (te := []) rfl)) (Sub.cons (Has.cv (Has.s rfl) (Cv.owF (T := [13]) (te := []) rfl)) (st Sub.nil)))))
    ·refine CWalk.block ?_
     refine CWalk.seq ?_
     refine CWalk.region ?_
     refine mv ?_
     refine mv ?_
     obtain ⟨x13, hx13, hm⟩ := bind_some hm
     refine wo (Spec.indexAddr hx13 sl33 (Has.s rfl) (Has.s rfl)) ?_
     refine wo ((Spec.load ty3 (Has.s rfl)).flat (T' := [])) ?_
     refine mv ?_
     refine wo (Spec.neqI (Has.s rfl) (Has.s rfl)) ?_
     refine Walk.nil ?_
     refine Leaf.thenN ?_
     refine CWalk.cond rfl (fun hb => ?_) (fun hb => ?_)
     ·have hm := cond_t hb hm
      refine CWalk.region ?_
      refine mv ?_
      refine mv ?_
      refine mv ?_
      obtain ⟨x14, hx14, hm⟩ := bind_some hm
      refine wo (Spec.indexAddr hx14 sl33 (Has.s rfl) (Has.s rfl)) ?_
      refine wo ((Spec.load ty3 (Has.s rfl)).flat (T' := [])) ?_
      refine wo (Spec.lit (xs := [.tmp 46]) (T := []) 12 rfl ow33 rfl rfl rfl rfl (HasEach.cons (Has.fl (Has.s rfl)) HasEach.nil)) ?_
      obtain ⟨x15, hx15, hm⟩ := bind_some hm
      refine ws (Step.appendOw (T := [13]) (te' := []) hx15 rfl rfl rfl ow33 (Has.s rfl) (Has.s rfl) ElKeeps.flat ElKeeps.flat) ?_
      refine wo (Spec.assign (Has.s rfl)) ?_
      refine Walk.nil ?_
      refine Leaf.blockN ?_
      exact Leaf.join x15 hm (su (st (Sub.cons (Has.cv (Has.s rfl) (Cv.owF (T := [11]) (te := []) rfl)) (Sub.cons (Has.cv (Has.s rfl) (Cv.owF (T := [13]) (te := []) rfl)) (st Sub.nil)))))
     ·have hm := cond_f hb hm
      refine CWalk.skip ?_
      refine Leaf.blockN ?_
      exact Leaf.join s9 hm (su (st (Sub.cons (Has.cv (Has.s rfl) (Cv.owF (T := [11]) (te := []) rfl)) (Sub.cons (Has.cv (Has.s rfl) (Cv.owF (T := [13]) (te := []) rfl)) (st Sub.nil)))))
   ·have hm := cond_f hb hm
    refine CWalk.exit ?_
    refine Leaf.thenE ?_
    exact Leaf.brk hm (fun h => nomatch h) rfl (Sub.cons (Has.cv (Has.s rfl) (Cv.owF (T := [11]) (te := []) rfl)) (Sub.cons (Has.cv (Has.s rfl) (Cv.owF (T := [13]) (te := []) rfl)) Sub.nil))
  ·intro _
   refine Leaf.blockE ?_
   refine Leaf.thenN ?_
   refine CWalk.seq ?_
   refine CWalk.region ?_
   refine mv ?_
   refine mv ?_
   obtain ⟨x17, hx17, hm⟩ := bind_some hm
   refine wo (f := Fact.rep [] (x17 : Bool)) (Spec.callE [11, 13] 14 rfl en14 (ref22_SameInts_c b8 b16 hx17) (HasAll.cons (Has.m (Has.cv (Has.s rfl) (Cv.trans Cv.owSl (Cv.slRep (T' := [11]) rfl rfl))) rfl) (HasAll.cons (Has.m (Has.cv (Has.s rfl) (Cv.trans Cv.owSl (Cv.slRep (T' := [13]) rfl rfl))) rfl) HasAll.nil))) ?_
   refine wo (Spec.assign (Has.s rfl)) ?_
   refine Walk.nil ?_
   refine Leaf.thenN ?_
   refine CWalk.ret ?_
   obtain rfl := Option.some.inj hm
   exact Leaf.retC1 rfl (HasR.cv (HasR.tmp (Has.s rfl)) Cv.fl)

def law22_EyeTurns_J1 (a0 : Config) (a1 : List Disk) (a2 : Int) (a3 : Int) (a4 : List UInt8) (x1 : Bool) (x3 : Bool × Int) (x4 : (List Int) × Int) : Option (Bool) :=
  Option.bind (idx a1 a3) (fun x15 => Option.bind (disk_Lasting x15 (wI ((1 : Int) + a2))) (fun x16 => Option.bind (law22_with a1 a3 (wI ((1 : Int) + a2)) a4) (fun x17 => (bif ((x16.2 != (0 : Int)) || (!x17.2)) then some x1 else Option.bind (idx x17.1 a3) (fun x18 => Option.bind (disk_Lasting x18 (wI ((1 : Int) + a2))) (fun x19 => Option.bind (eye_Even a0 x17.1 a2) (fun x20 => Option.bind (eye_Odd a0 x17.1) (fun x21 => (bif ((((x19.2 != (0 : Int)) || (x20.2 != (0 : Int))) || (x21.2 != (0 : Int))) || (x3.1 && (x20.1 != ((Str.mk x19.1).s == (Str.mk x16.1).s)))) then some false else Option.bind (gO (x1) (law22_others x4.1 x21.1 a2)) (fun x22 => some (x1 && x22)))))))))))
/-- freeboard/freeboardlaw22.EyeTurns -/
def law22_EyeTurns (a0 : Config) (a1 : List Disk) (a2 : Int) (a3 : Int) (a4 : List UInt8) (a5 : Int) : Option (Bool) :=
  Option.bind (law22_alive) (fun x1 => Option.bind (ref05_Great a1) (fun x2 => (bif ((x2 || (!x1)) || (decide (((a4).length : Int) > (1000 : Int)))) then some x1 else Option.bind (eye_Even a0 a1 a2) (fun x3 => Option.bind (eye_Odd a0 a1) (fun x4 => Option.bind (gO (!((x3.2 != (0 : Int)) || (x4.2 != (0 : Int)))) (law22_whole a0 a1)) (fun x5 => (bif (((((x3.2 != (0 : Int)) || (x4.2 != (0 : Int))) || (!x5)) || (decide (a3 < (0 : Int)))) || (decide (a3 ≥ a0.Members))) then some x1 else Option.bind (law22_with a1 a3 (0 : Int) a4) (fun x6 => Option.bind (eye_Odd a0 x6.1) (fun x7 => Option.bind (gO ((x6.2) && (!(x7.2 != (0 : Int)))) (ref22_SameInts x7.1 x4.1)) (fun x8 => (bif (x6.2 && ((x7.2 != (0 : Int)) || (!x8))) then some false else Option.bind (app ([] : List Disk) a1) (fun x9 => Option.bind (idx a1 a3) (fun x10 => Option.bind (disk_Write x10 (wI ((1 : Int) + a2)) a4) (fun x11 => Option.bind (bnd (x9).length a3) (fun x12 => Option.bind (eye_Odd a0 ((x9).set x12 x11.1)) (fun x13 => Option.bind (gO (((x11.2 == (0 : Int))) && (!(x13.2 != (0 : Int)))) (ref22_SameInts x13.1 x4.1)) (fun x14 => (bif ((x11.2 == (0 : Int)) && ((x13.2 != (0 : Int)) || (!x14))) then some false else Option.bind (gO ((decide (a5 ≥ (0 : Int)))) (idx a1 a0.Members)) (fun x23 => Option.bind (gO (((decide (a5 ≥ (0 : Int))) && (decide (a5 < ((x23.Blocks).length : Int))))) (idx a1 a0.Members)) (fun x24 => (bif (((decide (a5 ≥ (0 : Int))) && (decide (a5 < ((x23.Blocks).length : Int)))) && (!x24.Dead)) then Option.bind (law22_with a1 a0.Members a5 a4) (fun x25 => Option.bind (eye_Odd a0 x25.1) (fun x26 => Option.bind (gO ((x25.2) && (!(x26.2 != (0 : Int)))) (ref22_SameInts x26.1 x4.1)) (fun x27 => (bif (x25.2 && ((x26.2 != (0 : Int)) || (!x27))) then some false else (law22_EyeTurns_J1 a0 a1 a2 a3 a4 x1 x3 x4))))) else (law22_EyeTurns_J1 a0 a1 a2 a3 a4 x1 x3 x4))))))))))))))))))))))
set_option maxRecDepth 100000 in
set_option maxHeartbeats 2000000 in
theorem law22_EyeTurns_c (a0 : Config) (a1 : List Disk) (a2 : Int) (a3 : Int) (a4 : List UInt8) (a5 : Int) {r : Bool} (hm : law22_EyeTurns a0 a1 a2 a3 a4 a5 = some r) : Ctr Try.prog 7 [.rep 0 a0, .rep 0 a1, .rep 0 a2, .rep 0 a3, .rep 0 a4, .rep 0 a5] (.fl r) [] := by
 refine ctr_of_walk [[]] 269 Try.func7 rfl rfl rfl rfl (fun w0 om => ?_)
 unfold law22_EyeTurns at hm
 refine CWalk.sub (G' := [.fact 0 (.rep [] (a0 : Config)), .fact 1 (.rep [0] (a1 : List Disk)), .fact 2 (.rep [] (a2 : Int)), .fact 3 (.rep [] (a3 : Int)), .fact 4 (.rep [0] (a4 : List UInt8)), .fact 5 (.rep [] (a5 : Int))]) (Sub.cons (Has.fl (Has.s rfl)) (sn (Sub.cons (Has.fl (Has.s rfl)) (Sub.cons (Has.fl (Has.s rfl)) (sn (Sub.cons (Has.fl (Has.s rfl)) Sub.nil)))))) ?_
 refine CWalk.seq ?_
 refine CWalk.region ?_
 refine ws (Step.boxObj (ls := [(false, 1, Fact.rep [] a0.Id), (false, 1, Fact.rep [] a0.Members), (false, 1, Fact.rep [] a0.Chunk), (false, 1, Fact.rep [] a0.Rows), (false, 1, Fact.rep [] a0.Log), (false, 1, Fact.rep [] a0.Heads)]) 10 rfl rfl rfl rfl (HasL.flds (Has.cv (Has.s rfl) (Cv.trans (Cv.opens (chConfig a0)) (Cv.flds (CvL.cons Cv.fl (CvL.cons Cv.fl (CvL.cons Cv.fl (CvL.cons Cv.fl (CvL.cons Cv.fl (CvL.cons Cv.fl CvL.nil))))))))))) ?_
 refine wo (Spec.assign Has.bool) ?_
 refine Walk.nil ?_
 refine Leaf.thenN ?_
 refine CWalk.seq ?_
 refine CWalk.region ?_
 obtain ⟨x1, hx1, hm⟩ := bind_some hm
 refine wo (f := Fact.rep [] (x1 : Bool)) (Spec.callE [] 17 rfl en18 (law22_alive_c  hx1) HasAll.nil) ?_
 refine wo (Spec.assign (Has.s rfl)) ?_
 refine Walk.nil ?_
 refine Leaf.thenN ?_
 refine CWalk.seq ?_
 refine CWalk.seq ?_
 refine CWalk.region ?_
 refine mv ?_
 obtain ⟨x2, hx2, hm⟩ := bind_some hm
 refine wo (f := Fact.rep [] (x2 : Bool)) (Spec.callE [0] 18 rfl en8 (ref05_Great_c a1 hx2) (HasAll.cons (Has.m (Has.s rfl) rfl) HasAll.nil)) ?_
 refine mv ?_
 refine wg rfl rfl (fun hb => Spec.move (Has.s rfl)) ?_
 refine wg rfl rfl (fun hb => Spec.not (Has.u rfl hb)) ?_
 refine wo (Spec.or (Has.s rfl) (fun h => Has.u rfl h)) ?_
 refine mv ?_
 refine wg rfl rfl (fun hb => Spec.move (Has.s rfl)) ?_
 refine wg rfl rfl (fun hb => Spec.len (Has.u rfl hb) Try.underlying45) ?_
 refine wg rfl rfl (fun hb => Spec.gtrI (Has.u rfl hb) Has.int) ?_
 refine wo (Spec.or (Has.s rfl) (fun h => Has.u rfl h)) ?_
 refine Walk.nil ?_
 refine Leaf.thenN ?_
 refine CWalk.cond rfl (fun hb => ?_) (fun hb => ?_)
 ·have hm := cond_t hb hm
  refine CWalk.seq ?_
  refine CWalk.region ?_
  refine mv ?_
  refine wo (Spec.assign (Has.s rfl)) ?_
  refine Walk.nil ?_
  refine Leaf.thenN ?_
  refine CWalk.ret ?_
  refine Leaf.thenR ?_
  obtain rfl := Option.some.inj hm
  exact Leaf.retC1 rfl (HasR.cv (HasR.tmp (Has.s rfl)) Cv.fl)
 ·have hm := cond_f hb hm
  refine CWalk.skip ?_
  refine Leaf.thenN ?_
  refine CWalk.seq ?_
  refine CWalk.region ?_
  refine wo (Spec.loadObj (ls := [(false, 1, Fact.rep [] a0.Id), (false, 1, Fact.rep [] a0.Members), (false, 1, Fact.rep [] a0.Chunk), (false, 1, Fact.rep [] a0.Rows), (false, 1, Fact.rep [] a0.Log), (false, 1, Fact.rep [] a0.Heads)]) ty24 rfl rfl (Has.s rfl) rfl (HasGs.cons (HasG.s rfl) (HasGs.cons (HasG.s rfl) (HasGs.cons (HasG.s rfl) (HasGs.cons (HasG.s rfl) (HasGs.cons (HasG.s rfl) (HasGs.cons (HasG.s rfl) HasGs.nil))))))) ?_
  refine mv ?_
  refine mv ?_
  obtain ⟨x3, hx3, hm⟩ := bind_some hm
  refine wo (f := Fact.tup2 (Fact.rep [] x3.1) (Fact.rep [] x3.2)) (Spec.callE [0] 19 rfl en10 (eye_Even_c a0 a1 a2 hx3) (HasAll.cons (Has.fl (Has.cv (Has.s rfl) (Cv.trans (Cv.flds (CvL.cons Cv.fl (CvL.cons Cv.fl (CvL.cons Cv.fl (CvL.cons Cv.fl (CvL.cons Cv.fl (CvL.cons Cv.fl CvL.nil))))))) (Cv.close (T := []) (chConfig a0))))) (HasAll.cons (Has.m (Has.s rfl) rfl) (HasAll.cons (Has.fl (Has.s rfl)) HasAll.nil)))) ?_
  refine mv ?_
  refine wo (Spec.ext0 (Has.s rfl)) ?_
  refine wo (Spec.ext1 (Has.s rfl)) ?_
  refine wo (Spec.assign (Has.s rfl)) ?_
  refine wo (Spec.assign (Has.s rfl)) ?_
  refine Walk.nil ?_
  refine Leaf.thenN ?_
  refine CWalk.seq ?_
  refine CWalk.region ?_
  refine wo (Spec.loadObj (ls := [(false, 1, Fact.rep [] a0.Id), (false, 1, Fact.rep [] a0.Members), (false, 1, Fact.rep [] a0.Chunk), (false, 1, Fact.rep [] a0.Rows), (false, 1, Fact.rep [] a0.Log), (false, 1, Fact.rep [] a0.Heads)]) ty24 rfl rfl (Has.s rfl) rfl (HasGs.cons (HasG.s rfl) (HasGs.cons (HasG.s rfl) (HasGs.cons (HasG.s rfl) (HasGs.cons (HasG.s rfl) (HasGs.cons (HasG.s rfl) (HasGs.cons (HasG.s rfl) HasGs.nil))))))) ?_
  refine mv ?_
  obtain ⟨x4, hx4, hm⟩ := bind_some hm
  refine wo (f := Fact.tup2 (Fact.ow [20] [] 3 (x4.1 : List Int)) (Fact.rep [] x4.2)) (Spec.callE [0] 20 rfl en12 (eye_Odd_c a0 a1 hx4) (HasAll.cons (Has.fl (Has.cv (Has.s rfl) (Cv.trans (Cv.flds (CvL.cons Cv.fl (CvL.cons Cv.fl (CvL.cons Cv.fl (CvL.cons Cv.fl (CvL.cons Cv.fl (CvL.cons Cv.fl CvL.nil))))))) (Cv.close (T := []) (chConfig a0))))) (HasAll.cons (Has.m (Has.s rfl) rfl) HasAll.nil))) ?_
  refine mv ?_
  refine wo (Spec.ext0 (Has.s rfl)) ?_
  refine wo (Spec.ext1 (Has.s rfl)) ?_
  refine wo (Spec.assign (Has.s rfl)) ?_
  refine wo (Spec.assign (Has.s rfl)) ?_
  refine Walk.nil ?_
  refine Leaf.thenN ?_
  refine CWalk.seq ?_
  refine CWalk.seq ?_
  refine CWalk.region ?_
  refine mv ?_
  refine wo (Spec.neqI (Has.s rfl) Has.int) ?_
  refine mv ?_
  refine wg rfl rfl (fun hb => Spec.move (Has.s rfl)) ?_
  refine wg rfl rfl (fun hb => Spec.neqI (Has.u rfl hb) Has.int) ?_
  refine wo (Spec.or (Has.s rfl) (fun h => Has.u rfl h)) ?_
  refine mv ?_
  refine wg rfl rfl (fun hb => Spec.loadObj (ls := [(false, 1, Fact.rep [] a0.Id), (false, 1, Fact.rep [] a0.Members), (false, 1, Fact.rep [] a0.Chunk), (false, 1, Fact.rep [] a0.Rows), (false, 1, Fact.rep [] a0.Log), (false, 1, Fact.rep [] a0.Heads)]) ty24 rfl rfl (Has.s rfl) rfl (HasGs.cons (HasG.s rfl) (HasGs.cons (HasG.s rfl) (HasGs.cons (HasG.s rfl) (HasGs.cons (HasG.s rfl) (HasGs.cons (HasG.s rfl) (HasGs.cons (HasG.s rfl) HasGs.nil))))))) ?_
  refine wg rfl rfl (fun hb => Spec.move (Has.s rfl)) ?_
  obtain ⟨x5, hx5, hm⟩ := bind_some hm
  refine wg (f := Fact.rep [] (x5 : Bool)) rfl rfl (fun hb => Spec.callE [0] 21 rfl en19 (law22_whole_c a0 a1 (gO_t hx5 (not_t hb))) (HasAll.cons (Has.fl (Has.cv (Has.u rfl hb) (Cv.trans (Cv.flds (CvL.cons Cv.fl (CvL.cons Cv.fl (CvL.cons Cv.fl (CvL.cons Cv.fl (CvL.cons Cv.fl (CvL.cons Cv.fl CvL.nil))))))) (Cv.close (T := []) (chConfig a0))))) (HasAll.cons (Has.m (Has.u rfl hb) rfl) HasAll.nil))) ?_
  refine wg rfl rfl (fun hb => Spec.not (Has.u rfl hb)) ?_
  refine wo (Spec.or (Has.s rfl) (fun h => Has.u rfl h)) ?_
  refine mv ?_
  refine wg rfl rfl (fun hb => Spec.move (Has.s rfl)) ?_
  refine wg rfl rfl (fun hb => Spec.lssI (Has.u rfl hb) Has.int) ?_
  refine wo (Spec.or (Has.s rfl) (fun h => Has.u rfl h)) ?_
  refine mv ?_
  refine wg rfl rfl (fun hb => Spec.move (Has.s rfl)) ?_
  refine wg rfl rfl (fun hb => Spec.fieldAddrO fd24_1 (Has.cv (Has.s rfl) (Cv.isvP rfl))) ?_
  refine wg rfl rfl (fun hb => Spec.loadF (i := 1) ty3 rfl (Has.u rfl hb) rfl (HasG.s rfl)) ?_
  refine wg rfl rfl (fun hb => Spec.geqI (Has.u rfl hb) (Has.u rfl hb)) ?_
  refine wo (Spec.or (Has.s rfl) (fun h => Has.u rfl h)) ?_
  refine Walk.nil ?_
  refine Leaf.thenN ?_
  refine CWalk.cond rfl (fun hb => ?_) (fun hb => ?_)
  ·have hm := cond_t hb hm
   refine CWalk.seq ?_
   refine CWalk.region ?_
   refine mv ?_
   refine wo (Spec.assign (Has.s rfl)) ?_
   refine Walk.nil ?_
   refine Leaf.thenN ?_
   refine CWalk.ret ?_
   refine Leaf.thenR ?_
   obtain rfl := Option.some.inj hm
   exact Leaf.retC1 rfl (HasR.cv (HasR.tmp (Has.s rfl)) Cv.fl)
  ·have hm := cond_f hb hm
   refine CWalk.skip ?_
   refine Leaf.thenN ?_
   refine CWalk.seq ?_
   refine CWalk.region ?_
   refine mv ?_
   refine mv ?_
   refine mv ?_
   obtain ⟨x6, hx6, hm⟩ := bind_some hm
   refine wo (f := Fact.tup2 (Fact.ow [22] [23, 0] 51 (x6.1 : List Disk)) (Fact.rep [] x6.2)) (Spec.callE [0] 22 rfl en24 (law22_with_c a1 a3 (0 : Int) a4 hx6) (HasAll.cons (Has.m (Has.s rfl) rfl) (HasAll.cons (Has.fl (Has.s rfl)) (HasAll.cons (Has.fl Has.int) (HasAll.cons (Has.m (Has.s rfl) rfl) HasAll.nil))))) ?_
   refine mv ?_
   refine wo (Spec.ext0 (Has.s rfl)) ?_
   refine wo (Spec.ext1 (Has.s rfl)) ?_
   refine wo (Spec.assign (Has.s rfl)) ?_
   refine wo (Spec.assign (Has.s rfl)) ?_
   refine Walk.nil ?_
   refine Leaf.thenN ?_
   refine CWalk.seq ?_
   refine CWalk.region ?_
   refine wo (Spec.loadObj (ls := [(false, 1, Fact.rep [] a0.Id), (false, 1, Fact.rep [] a0.Members), (false, 1, Fact.rep [] a0.Chunk), (false, 1, Fact.rep [] a0.Rows), (false, 1, Fact.rep [] a0.Log), (false, 1, Fact.rep [] a0.Heads)]) ty24 rfl rfl (Has.s rfl) rfl (HasGs.cons (HasG.s rfl) (HasGs.cons (HasG.s rfl) (HasGs.cons (HasG.s rfl) (HasGs.cons (HasG.s rfl) (HasGs.cons (HasG.s rfl) (HasGs.cons (HasG.s rfl) HasGs.nil))))))) ?_
   refine mv ?_
   obtain ⟨x7, hx7, hm⟩ := bind_some hm
   refine wo (f := Fact.tup2 (Fact.ow [24] [] 3 (x7.1 : List Int)) (Fact.rep [] x7.2)) (Spec.callE [0, 22, 23] 24 rfl en12 (eye_Odd_c a0 x6.1 hx7) (HasAll.cons (Has.fl (Has.cv (Has.s rfl) (Cv.trans (Cv.flds (CvL.cons Cv.fl (CvL.cons Cv.fl (CvL.cons Cv.fl (CvL.cons Cv.fl (CvL.cons Cv.fl (CvL.cons Cv.fl CvL.nil))))))) (Cv.close (T := []) (chConfig a0))))) (HasAll.cons (Has.m (Has.cv (Has.s rfl) (Cv.trans Cv.owSl (Cv.slRep (T' := [0, 22, 23]) rfl rfl))) rfl) HasAll.nil))) ?_
   refine mv ?_
   refine wo (Spec.ext0 (Has.s rfl)) ?_
   refine wo (Spec.ext1 (Has.s rfl)) ?_
   refine wo (Spec.assign (Has.s rfl)) ?_
   refine wo (Spec.assign (Has.s rfl)) ?_
   refine Walk.nil ?_
   refine Leaf.thenN ?_
   refine CWalk.seq ?_
   refine CWalk.seq ?_
   refine CWalk.region ?_
   refine mv ?_
   refine mv ?_
   refine wg rfl rfl (fun hb => Spec.move (Has.s rfl)) ?_
   refine wg rfl rfl (fun hb => Spec.neqI (Has.u rfl hb) Has.int) ?_
   refine wg rfl rfl (fun hb => Spec.move (Has.u rfl hb)) ?_
   refine Walk.opgu rfl rfl rfl (fun hb => Spec.move (Has.s rfl)) ?_
   refine Walk.opgu rfl rfl rfl (fun hb => Spec.move (Has.s rfl)) ?_
   obtain ⟨x8, hx8, hm⟩ := bind_some hm
   refine Walk.opgu (f := Fact.rep [] (x8 : Bool)) rfl rfl rfl (fun hb => Spec.callE [20, 24] 25 rfl en14 (ref22_SameInts_c x7.1 x4.1 (gO_t hx8 (and_t hb.1 (not_t hb.2)))) (HasAll.cons (Has.m (Has.cv (Has.u rfl hb) (Cv.trans Cv.owSl (Cv.slRep (T' := [24]) rfl rfl))) rfl) (HasAll.cons (Has.m (Has.cv (Has.u rfl hb) (Cv.trans Cv.owSl (Cv.slRep (T' := [20]) rfl rfl))) rfl) HasAll.nil))) ?_
   refine Walk.opgu rfl rfl rfl (fun hb => Spec.not (Has.u rfl hb)) ?_
   refine wg rfl rfl (fun hb => Spec.or (Has.u rfl hb) (fun h => Has.u rfl ⟨hb, h⟩)) ?_
   refine wo (Spec.and (Has.s rfl) (fun h => Has.u rfl h)) ?_
   refine Walk.nil ?_
   refine Leaf.thenN ?_
   refine CWalk.cond rfl (fun hb => ?_) (fun hb => ?_)
   ·have hm := cond_t hb hm
    refine CWalk.seq ?_
    refine CWalk.region ?_
    refine wo (Spec.assign Has.bool) ?_
    refine Walk.nil ?_
    refine Leaf.thenN ?_
    refine CWalk.ret ?_
    refine Leaf.thenR ?_
    obtain rfl := Option.some.inj hm
    exact Leaf.retC1 rfl (HasR.cv (HasR.tmp (Has.s rfl)) Cv.fl)
   ·have hm := cond_f hb hm
    refine CWalk.skip ?_
    refine Leaf.thenN ?_
    refine CWalk.seq ?_
    refine CWalk.region ?_
    refine mv ?_
    obtain ⟨x9, hx9, hm⟩ := bind_some hm
    refine wo (Spec.appNilO (te' := [0]) 26 hx9 rfl ow25 Has.nilv (Has.s rfl) (ElKeep.tags rfl rfl)) ?_
    refine wo (Spec.assign (Has.s rfl)) ?_
    refine Walk.nil ?_
    refine Leaf.thenN ?_
    refine CWalk.seq ?_
    refine CWalk.region ?_
    refine mv ?_
    refine mv ?_
    obtain ⟨x10, hx10, hm⟩ := bind_some hm
    refine wo (Spec.indexAddr hx10 sl25 (Has.s rfl) (Has.s rfl)) ?_
    refine wo (Spec.load ty51 (Has.s rfl)) ?_
    refine mv ?_
    refine wo (Spec.addI Has.int (Has.s rfl)) ?_
    refine mv ?_
    obtain ⟨x11, hx11, hm⟩ := bind_some hm
    refine wo (f := Fact.tup2 (Fact.flds [(false, 1, Fact.ow [27] [28] 45 (x11.1.Blocks : List (List UInt8))), (false, 1, Fact.ow [29] [30] 66 (x11.1.Wait : List Write)), (false, 1, Fact.rep [] x11.1.Dead)]) (Fact.rep [] x11.2)) (Spec.callE [0] 27 rfl en27 (disk_Write_c x10 (wI ((1 : Int) + a2)) a4 hx11) (HasAll.cons (Has.m (Has.s rfl) rfl) (HasAll.cons (Has.fl (Has.s rfl)) (HasAll.cons (Has.m (Has.s rfl) rfl) HasAll.nil)))) ?_
    refine mv ?_
    refine wo (Spec.ext0 (Has.s rfl)) ?_
    refine wo (Spec.ext1 (Has.s rfl)) ?_
    refine ws (Step.allocObj (ls := [(false, 1, Fact.nilv), (false, 1, Fact.nilv), (false, 1, Fact.rep [] (false : Bool))]) 31 rfl rfl rfl rfl zl51) ?_
    refine ws (Step.storeObj (ls := [(false, 1, Fact.ow [27] [28] 45 (x11.1.Blocks : List (List UInt8))), (false, 1, Fact.ow [29] [30] 66 (x11.1.Wait : List Write)), (false, 1, Fact.rep [] x11.1.Dead)]) rfl ty51 rfl rfl (Has.s rfl) rfl (HasL.flds (Has.s rfl)) rfl) ?_
    refine wo (Spec.assign (Has.s rfl)) ?_
    refine Walk.nil ?_
    refine Leaf.thenN ?_
    refine CWalk.seq ?_
    refine CWalk.ad (Ad.ow (s := 22) 35 rfl rfl (ElT.tags rfl) rfl (Cv.owM (T := [26]) (te := [0]) (T' := [26]) (te' := [0]) rfl rfl)) ?_
    refine CWalk.region ?_
    refine mv ?_
    refine mv ?_
    refine wo (Spec.loadObj (ls := [(false, 1, Fact.ow [27] [28] 45 (x11.1.Blocks : List (List UInt8))), (false, 1, Fact.ow [29] [30] 66 (x11.1.Wait : List Write)), (false, 1, Fact.rep [] x11.1.Dead)]) ty51 rfl rfl (Has.s rfl) rfl (HasGs.cons (HasG.s rfl) (HasGs.cons (HasG.s rfl) (HasGs.cons (HasG.s rfl) HasGs.nil)))) ?_
    obtain ⟨x12, hx12, hm⟩ := bind_some hm
    refine wo (Spec.idxOwn hx12 ow25 (Has.s rfl) rfl (Has.s rfl)) ?_
    refine ws (Step.storeOwn (te' := [0, 27, 28, 29, 30]) rfl (bnd_lt hx12 rfl) ty51 (Has.s rfl) rfl (Has.cv (Has.s rfl) (Cv.trans (Cv.flds (CvL.cons (Cv.trans (Cv.trans Cv.owSl (Cv.slRep (T' := [27, 28]) rfl rfl)) (Cv.m rfl)) (CvL.cons (Cv.trans (Cv.trans Cv.owSl (Cv.slRep (T' := [29, 30]) rfl rfl)) (Cv.m rfl)) (CvL.cons Cv.fl CvL.nil)))) (Cv.close (T := [27, 28, 29, 30]) (chDisk x11.1)))) (ElKeep.tags rfl rfl) (ElKeep.tags rfl rfl)) ?_
    refine Walk.nil ?_
    refine Leaf.thenN ?_
    refine CWalk.seq ?_
    refine CWalk.region ?_
    refine wo (Spec.loadObj (ls := [(false, 1, Fact.rep [] a0.Id), (false, 1, Fact.rep [] a0.Members), (false, 1, Fact.rep [] a0.Chunk), (false, 1, Fact.rep [] a0.Rows), (false, 1, Fact.rep [] a0.Log), (false, 1, Fact.rep [] a0.Heads)]) ty24 rfl rfl (Has.s rfl) rfl (HasGs.cons (HasG.s rfl) (HasGs.cons (HasG.s rfl) (HasGs.cons (HasG.s rfl) (HasGs.cons (HasG.s rfl) (HasGs.cons (HasG.s rfl) (HasGs.cons (HasG.s rfl) HasGs.nil))))))) ?_
    refine mv ?_
    obtain ⟨x13, hx13, hm⟩ := bind_some hm
    refine wo (f := Fact.tup2 (Fact.ow [36] [] 3 (x13.1 : List Int)) (Fact.rep [] x13.2)) (Spec.callE [0, 27, 28, 29, 30, 35] 36 rfl en12 (eye_Odd_c a0 ((x9).set x12 x11.1) hx13) (HasAll.cons (Has.fl (Has.cv (Has.s rfl) (Cv.trans (Cv.flds (CvL.cons Cv.fl (CvL.cons Cv.fl (CvL.cons Cv.fl (CvL.cons Cv.fl (CvL.cons Cv.fl (CvL.cons Cv.fl CvL.nil))))))) (Cv.close (T := []) (chConfig a0))))) (HasAll.cons (Has.m (Has.cv (Has.s rfl) (Cv.own rfl)) rfl) HasAll.nil))) ?_
    refine mv ?_
    refine wo (Spec.ext0 (Has.s rfl)) ?_
    refine wo (Spec.ext1 (Has.s rfl)) ?_
    refine wo (Spec.assign (Has.s rfl)) ?_
    refine wo (Spec.assign (Has.s rfl)) ?_
    refine Walk.nil ?_
    refine Leaf.thenN ?_
    refine CWalk.seq ?_
    refine CWalk.seq ?_
    refine CWalk.region ?_
    refine mv ?_
    refine wo (Spec.eqlI (Has.s rfl) Has.int) ?_
    refine mv ?_
    refine wg rfl rfl (fun hb => Spec.move (Has.s rfl)) ?_
    refine wg rfl rfl (fun hb => Spec.neqI (Has.u rfl hb) Has.int) ?_
    refine wg rfl rfl (fun hb => Spec.move (Has.u rfl hb)) ?_
    refine Walk.opgu rfl rfl rfl (fun hb => Spec.move (Has.s rfl)) ?_
    refine Walk.opgu rfl rfl rfl (fun hb => Spec.move (Has.s rfl)) ?_
    obtain ⟨x14, hx14, hm⟩ := bind_some hm
    refine Walk.opgu (f := Fact.rep [] (x14 : Bool)) rfl rfl rfl (fun hb => Spec.callE [20, 36] 37 rfl en14 (ref22_SameInts_c x13.1 x4.1 (gO_t hx14 (and_t hb.1 (not_t hb.2)))) (HasAll.cons (Has.m (Has.cv (Has.u rfl hb) (Cv.trans Cv.owSl (Cv.slRep (T' := [36]) rfl rfl))) rfl) (HasAll.cons (Has.m (Has.cv (Has.u rfl hb) (Cv.trans Cv.owSl (Cv.slRep (T' := [20]) rfl rfl))) rfl) HasAll.nil))) ?_
    refine Walk.opgu rfl rfl rfl (fun hb => Spec.not (Has.u rfl hb)) ?_
    refine wg rfl rfl (fun hb => Spec.or (Has.u rfl hb) (fun h => Has.u rfl ⟨hb, h⟩)) ?_
    refine wo (Spec.and (Has.s rfl) (fun h => Has.u rfl h)) ?_
    refine Walk.nil ?_
    refine Leaf.thenN ?_
    refine CWalk.cond rfl (fun hb => ?_) (fun hb => ?_)
    ·have hm := cond_t hb hm
     refine CWalk.seq ?_
     refine CWalk.region ?_
     refine wo (Spec.assign Has.bool) ?_
     refine Walk.nil ?_
     refine Leaf.thenN ?_
     refine CWalk.ret ?_
     refine Leaf.thenR ?_
     obtain rfl := Option.some.inj hm
     exact Leaf.retC1 rfl (HasR.cv (HasR.tmp (Has.s rfl)) Cv.fl)
    ·have hm := cond_f hb hm
     refine CWalk.skip ?_
     refine Leaf.thenN ?_
     refine CWalk.seqJ (fun p : Unit => [.fact 1 (.rep [0] (a1 : List Disk)), .fact 2 (.rep [] (a2 : Int)), .fact 3 (.rep [] (a3 : Int)), .fact 4 (.rep [0] (a4 : List UInt8)), .fact 6 (.isv 10), .fact 13 (.rep [] (x1 : Bool)), .fact 14 (.rep [] x3.1), .fact 16 (.ow [20] [] 3 (x4.1 : List Int)), .fact 100011 (.at 11 (.rep [] a0.Id)), .fact 100012 (.at 12 (.rep [] a0.Members)), .fact 100013 (.at 13 (.rep [] a0.Chunk)), .fact 100014 (.at 14 (.rep [] a0.Rows)), .fact 100015 (.at 15 (.rep [] a0.Log)), .fact 100016 (.at 16 (.rep [] a0.Heads)), .fact 100010 (.obj 10 [(false, 1), (false, 1), (false, 1), (false, 1), (false, 1), (false, 1)])]) (fun p : Unit => law22_EyeTurns_J1 a0 a1 a2 a3 a4 x1 x3 x4 = some r) ?_ ?_
     ·rintro _ hm
      replace hm : law22_EyeTurns_J1 a0 a1 a2 a3 a4 x1 x3 x4 = some r := hm
      unfold law22_EyeTurns_J1 at hm
      show CWalk _ [.fact 1 (.rep [0] (a1 : List Disk)), .fact 2 (.rep [] (a2 : Int)), .fact 3 (.rep [] (a3 : Int)), .fact 4 (.rep [0] (a4 : List UInt8)), .fact 6 (.isv 10), .fact 13 (.rep [] (x1 : Bool)), .fact 14 (.rep [] x3.1), .fact 16 (.ow [20] [] 3 (x4.1 : List Int)), .fact 100011 (.at 11 (.rep [] a0.Id)), .fact 100012 (.at 12 (.rep [] a0.Members)), .fact 100013 (.at 13 (.rep [] a0.Chunk)), .fact 100014 (.at 14 (.rep [] a0.Rows)), .fact 100015 (.at 15 (.rep [] a0.Log)), .fact 100016 (.at 16 (.rep [] a0.Heads)), .fact 100010 (.obj 10 [(false, 1), (false, 1), (false, 1), (false, 1), (false, 1), (false, 1)])] _ _
      refine CWalk.seq ?_
      refine CWalk.region ?_
      refine mv ?_
      refine mv ?_
      obtain ⟨x15, hx15, hm⟩ := bind_some hm
      refine wo (Spec.indexAddr hx15 sl25 (Has.s rfl) (Has.s rfl)) ?_
      refine wo (Spec.load ty51 (Has.s rfl)) ?_
      refine mv ?_
      refine wo (Spec.addI Has.int (Has.s rfl)) ?_
      obtain ⟨x16, hx16, hm⟩ := bind_some hm
      refine wo (f := Fact.tup2 (Fact.ow [42] [] 5 (x16.1 : List UInt8)) (Fact.rep [] x16.2)) (Spec.callE [0] 42 rfl en20 (disk_Lasting_c x15 (wI ((1 : Int) + a2)) hx16) (HasAll.cons (Has.m (Has.s rfl) rfl) (HasAll.cons (Has.fl (Has.s rfl)) HasAll.nil))) ?_
      refine mv ?_
      refine wo (Spec.ext0 (Has.s rfl)) ?_
      refine wo (Spec.ext1 (Has.s rfl)) ?_
      refine wo (Spec.assign (Has.s rfl)) ?_
      refine wo (Spec.assign (Has.s rfl)) ?_
      refine Walk.nil ?_
      refine Leaf.thenN ?_
      refine CWalk.seq ?_
      refine CWalk.region ?_
      refine mv ?_
      refine mv ?_
      refine mv ?_
      refine wo (Spec.addI Has.int (Has.s rfl)) ?_
      refine mv ?_
      obtain ⟨x17, hx17, hm⟩ := bind_some hm
      refine wo (f := Fact.tup2 (Fact.ow [43] [44, 0] 51 (x17.1 : List Disk)) (Fact.rep [] x17.2)) (Spec.callE [0] 43 rfl en24 (law22_with_c a1 a3 (wI ((1 : Int) + a2)) a4 hx17) (HasAll.cons (Has.m (Has.s rfl) rfl) (HasAll.cons (Has.fl (Has.s rfl)) (HasAll.cons (Has.fl (Has.s rfl)) (HasAll.cons (Has.m (Has.s rfl) rfl) HasAll.nil))))) ?_
      refine mv ?_
      refine wo (Spec.ext0 (Has.s rfl)) ?_
      refine wo (Spec.ext1 (Has.s rfl)) ?_
      refine wo (Spec.assign (Has.s rfl)) ?_
      refine wo (Spec.assign (Has.s rfl)) ?_
      refine Walk.nil ?_
      refine Leaf.thenN ?_
      refine CWalk.seq ?_
      refine CWalk.seq ?_
      refine CWalk.region ?_
      refine mv ?_
      refine wo (Spec.neqI (Has.s rfl) Has.int) ?_
      refine mv ?_
      refine wg rfl rfl (fun hb => Spec.move (Has.s rfl)) ?_
      refine wg rfl rfl (fun hb => Spec.not (Has.u rfl hb)) ?_
      refine wo (Spec.or (Has.s rfl) (fun h => Has.u rfl h)) ?_
      refine Walk.nil ?_
      refine Leaf.thenN ?_
      refine CWalk.cond rfl (fun hb => ?_) (fun hb => ?_)
      ·have hm := cond_t hb hm
       refine CWalk.seq ?_
       refine CWalk.region ?_
       refine mv ?_
       refine wo (Spec.assign (Has.s rfl)) ?_
       refine Walk.nil ?_
       refine Leaf.thenN ?_
       refine CWalk.ret ?_
       refine Leaf.thenR ?_
       obtain rfl := Option.some.inj hm
       exact Leaf.retC1 rfl (HasR.cv (HasR.tmp (Has.s rfl)) Cv.fl)
      ·have hm := cond_f hb hm
       refine CWalk.skip ?_
       refine Leaf.thenN ?_
       refine CWalk.seq ?_
       refine CWalk.region ?_
       refine mv ?_
       refine mv ?_
       obtain ⟨x18, hx18, hm⟩ := bind_some hm
       refine wo (Spec.indexSl hx18 sl25 (Has.cv (Has.s rfl) Cv.owSl) (Has.s rfl)) ?_
       refine wo (Spec.loadS ty51 (Has.s rfl)) ?_
       refine mv ?_
       refine wo (Spec.addI Has.int (Has.s rfl)) ?_
       obtain ⟨x19, hx19, hm⟩ := bind_some hm
       refine wo (f := Fact.tup2 (Fact.ow [45] [] 5 (x19.1 : List UInt8)) (Fact.rep [] x19.2)) (Spec.callE [0, 44] 45 rfl en20 (disk_Lasting_c x18 (wI ((1 : Int) + a2)) hx19) (HasAll.cons (Has.m (Has.s rfl) rfl) (HasAll.cons (Has.fl (Has.s rfl)) HasAll.nil))) ?_
       refine mv ?_
       refine wo (Spec.ext0 (Has.s rfl)) ?_
       refine wo (Spec.ext1 (Has.s rfl)) ?_
       refine wo (Spec.assign (Has.s rfl)) ?_
       refine wo (Spec.assign (Has.s rfl)) ?_
       refine Walk.nil ?_
       refine Leaf.thenN ?_
       refine CWalk.seq ?_
       refine CWalk.region ?_
       refine wo (Spec.loadObj (ls := [(false, 1, Fact.rep [] a0.Id), (false, 1, Fact.rep [] a0.Members), (false, 1, Fact.rep [] a0.Chunk), (false, 1, Fact.rep [] a0.Rows), (false, 1, Fact.rep [] a0.Log), (false, 1, Fact.rep [] a0.Heads)]) ty24 rfl rfl (Has.s rfl) rfl (HasGs.cons (HasG.s rfl) (HasGs.cons (HasG.s rfl) (HasGs.cons (HasG.s rfl) (HasGs.cons (HasG.s rfl) (HasGs.cons (HasG.s rfl) (HasGs.cons (HasG.s rfl) HasGs.nil))))))) ?_
       refine mv ?_
       refine mv ?_
       obtain ⟨x20, hx20, hm⟩ := bind_some hm
       refine wo (f := Fact.tup2 (Fact.rep [] x20.1) (Fact.rep [] x20.2)) (Spec.callE [0, 43, 44] 46 rfl en10 (eye_Even_c a0 x17.1 a2 hx20) (HasAll.cons (Has.fl (Has.cv (Has.s rfl) (Cv.trans (Cv.flds (CvL.cons Cv.fl (CvL.cons Cv.fl (CvL.cons Cv.fl (CvL.cons Cv.fl (CvL.cons Cv.fl (CvL.cons Cv.fl CvL.nil))))))) (Cv.close (T := []) (chConfig a0))))) (HasAll.cons (Has.m (Has.cv (Has.s rfl) (Cv.trans Cv.owSl (Cv.slRep (T' := [0, 43, 44]) rfl rfl))) rfl) (HasAll.cons (Has.fl (Has.s rfl)) HasAll.nil)))) ?_
       refine mv ?_
       refine wo (Spec.ext0 (Has.s rfl)) ?_
       refine wo (Spec.ext1 (Has.s rfl)) ?_
       refine wo (Spec.assign (Has.s rfl)) ?_
       refine wo (Spec.assign (Has.s rfl)) ?_
       refine Walk.nil ?_
       refine Leaf.thenN ?_
       refine CWalk.seq ?_
       refine CWalk.region ?_
       refine wo (Spec.loadObj (ls := [(false, 1, Fact.rep [] a0.Id), (false, 1, Fact.rep [] a0.Members), (false, 1, Fact.rep [] a0.Chunk), (false, 1, Fact.rep [] a0.Rows), (false, 1, Fact.rep [] a0.Log), (false, 1, Fact.rep [] a0.Heads)]) ty24 rfl rfl (Has.s rfl) rfl (HasGs.cons (HasG.s rfl) (HasGs.cons (HasG.s rfl) (HasGs.cons (HasG.s rfl) (HasGs.cons (HasG.s rfl) (HasGs.cons (HasG.s rfl) (HasGs.cons (HasG.s rfl) HasGs.nil))))))) ?_
       refine mv ?_
       obtain ⟨x21, hx21, hm⟩ := bind_some hm
       refine wo (f := Fact.tup2 (Fact.ow [47] [] 3 (x21.1 : List Int)) (Fact.rep [] x21.2)) (Spec.callE [0, 43, 44] 47 rfl en12 (eye_Odd_c a0 x17.1 hx21) (HasAll.cons (Has.fl (Has.cv (Has.s rfl) (Cv.trans (Cv.flds (CvL.cons Cv.fl (CvL.cons Cv.fl (CvL.cons Cv.fl (CvL.cons Cv.fl (CvL.cons Cv.fl (CvL.cons Cv.fl CvL.nil))))))) (Cv.close (T := []) (chConfig a0))))) (HasAll.cons (Has.m (Has.cv (Has.s rfl) (Cv.trans Cv.owSl (Cv.slRep (T' := [0, 43, 44]) rfl rfl))) rfl) HasAll.nil))) ?_
       refine mv ?_
       refine wo (Spec.ext0 (Has.s rfl)) ?_
       refine wo (Spec.ext1 (Has.s rfl)) ?_
       refine wo (Spec.assign (Has.s rfl)) ?_
       refine wo (Spec.assign (Has.s rfl)) ?_
       refine Walk.nil ?_
       refine Leaf.thenN ?_
       refine CWalk.seq ?_
       refine CWalk.seq ?_
       refine CWalk.region ?_
       refine mv ?_
       refine wo (Spec.neqI (Has.s rfl) Has.int) ?_
       refine mv ?_
       refine wg rfl rfl (fun hb => Spec.move (Has.s rfl)) ?_
       refine wg rfl rfl (fun hb => Spec.neqI (Has.u rfl hb) Has.int) ?_
       refine wo (Spec.or (Has.s rfl) (fun h => Has.u rfl h)) ?_
       refine mv ?_
       refine wg rfl rfl (fun hb => Spec.move (Has.s rfl)) ?_
       refine wg rfl rfl (fun hb => Spec.neqI (Has.u rfl hb) Has.int) ?_
       refine wo (Spec.or (Has.s rfl) (fun h => Has.u rfl h)) ?_
       refine mv ?_
       refine wg rfl rfl (fun hb => Spec.move (Has.s rfl)) ?_
       refine wg rfl rfl (fun hb => Spec.move (Has.u rfl hb)) ?_
       refine Walk.opgu rfl rfl rfl (fun hb => Spec.move (Has.s rfl)) ?_
       refine Walk.opgu rfl rfl rfl (fun hb => Spec.move (Has.s rfl)) ?_
       refine Walk.opgu rfl rfl rfl (fun hb => Spec.toStr Try.underlying45 Try.underlying5 Try.underlying9 (Has.cv (Has.u rfl hb) (Cv.trans Cv.owSl (Cv.slRep (T' := [45]) rfl rfl)))) ?_
       refine Walk.opgu rfl rfl rfl (fun hb => Spec.move (Has.s rfl)) ?_
       refine Walk.opgu rfl rfl rfl (fun hb => Spec.toStr Try.underlying45 Try.underlying5 Try.underlying9 (Has.cv (Has.u rfl hb) (Cv.trans Cv.owSl (Cv.slRep (T' := [42]) rfl rfl)))) ?_
       refine Walk.opgu rfl rfl rfl (fun hb => Spec.eqlS (Has.u rfl hb) (Has.u rfl hb)) ?_
       refine Walk.opgu rfl rfl rfl (fun hb => Spec.neqT (Has.u rfl hb) (Has.u rfl hb) Try.underlying4) ?_
       refine wg rfl rfl (fun hb => Spec.and (Has.u rfl hb) (fun h => Has.u rfl ⟨hb, h⟩)) ?_
       refine wo (Spec.or (Has.s rfl) (fun h => Has.u rfl h)) ?_
       refine Walk.nil ?_
       refine Leaf.thenN ?_
       refine CWalk.cond rfl (fun hb => ?_) (fun hb => ?_)
       ·have hm := cond_t hb hm
        refine CWalk.seq ?_
        refine CWalk.region ?_
        refine wo (Spec.assign Has.bool) ?_
        refine Walk.nil ?_
        refine Leaf.thenN ?_
        refine CWalk.ret ?_
        refine Leaf.thenR ?_
        obtain rfl := Option.some.inj hm
        exact Leaf.retC1 rfl (HasR.cv (HasR.tmp (Has.s rfl)) Cv.fl)
       ·have hm := cond_f hb hm
        refine CWalk.skip ?_
        refine Leaf.thenN ?_
        refine CWalk.seq ?_
        refine CWalk.region ?_
        refine mv ?_
        refine mv ?_
        refine wg rfl rfl (fun hb => Spec.move (Has.s rfl)) ?_
        refine wg rfl rfl (fun hb => Spec.move (Has.s rfl)) ?_
        refine wg rfl rfl (fun hb => Spec.move (Has.s rfl)) ?_
        obtain ⟨x22, hx22, hm⟩ := bind_some hm
        refine wg (f := Fact.rep [] (x22 : Bool)) rfl rfl (fun hb => Spec.callE [20, 47] 48 rfl en28 (law22_others_c x4.1 x21.1 a2 (gO_t hx22 hb)) (HasAll.cons (Has.m (Has.cv (Has.u rfl hb) (Cv.trans Cv.owSl (Cv.slRep (T' := [20]) rfl rfl))) rfl) (HasAll.cons (Has.m (Has.cv (Has.u rfl hb) (Cv.trans Cv.owSl (Cv.slRep (T' := [47]) rfl rfl))) rfl) (HasAll.cons (Has.fl (Has.u rfl hb)) HasAll.nil)))) ?_
        refine wo (Spec.and (Has.s rfl) (fun h => Has.u rfl h)) ?_
        refine wo (Spec.assign (Has.s rfl)) ?_
        refine Walk.nil ?_
        refine Leaf.thenN ?_
        refine CWalk.ret ?_
        obtain rfl := Option.some.inj hm
        exact Leaf.retC1 rfl (HasR.cv (HasR.tmp (Has.s rfl)) Cv.fl)
     ·refine CWalk.seq ?_
      refine CWalk.region ?_
      refine mv ?_
      refine wo (Spec.geqI (Has.s rfl) Has.int) ?_
      refine mv ?_
      refine wg rfl rfl (fun hb => Spec.move (Has.s rfl)) ?_
      refine wg rfl rfl (fun hb => Spec.move (Has.s rfl)) ?_
      refine wg rfl rfl (fun hb => Spec.fieldAddrO fd24_1 (Has.cv (Has.s rfl) (Cv.isvP rfl))) ?_
      refine wg rfl rfl (fun hb => Spec.loadF (i := 1) ty3 rfl (Has.u rfl hb) rfl (HasG.s rfl)) ?_
      obtain ⟨x23, hx23, hm⟩ := bind_some hm
      refine wg rfl rfl (fun hb => Spec.indexAddr (gO_t hx23 hb) sl25 (Has.u rfl hb) (Has.u rfl hb)) ?_
      refine wg rfl rfl (fun hb => Spec.fieldAddrP fd51_0 (chDisk x23) rfl (Has.u rfl hb)) ?_
      refine wg rfl rfl (fun hb => Spec.load ty48 (Has.u rfl hb)) ?_
      refine wg rfl rfl (fun hb => Spec.len (Has.u rfl hb) Try.underlying48) ?_
      refine wg rfl rfl (fun hb => Spec.lssI (Has.u rfl hb) (Has.u rfl hb)) ?_
      refine wo (Spec.and (Has.s rfl) (fun h => Has.u rfl h)) ?_
      refine mv ?_
      refine wg rfl rfl (fun hb => Spec.move (Has.s rfl)) ?_
      refine wg rfl rfl (fun hb => Spec.fieldAddrO fd24_1 (Has.cv (Has.s rfl) (Cv.isvP rfl))) ?_
      refine wg rfl rfl (fun hb => Spec.loadF (i := 1) ty3 rfl (Has.u rfl hb) rfl (HasG.s rfl)) ?_
      obtain ⟨x24, hx24, hm⟩ := bind_some hm
      refine wg rfl rfl (fun hb => Spec.indexAddr (gO_t hx24 hb) sl25 (Has.u rfl hb) (Has.u rfl hb)) ?_
      refine wg rfl rfl (fun hb => Spec.fieldAddrP fd51_2 (chDisk x24) rfl (Has.u rfl hb)) ?_
      refine wg rfl rfl (fun hb => (Spec.load ty4 (Has.u rfl hb)).flat (T' := [])) ?_
      refine wg rfl rfl (fun hb => Spec.not (Has.u rfl hb)) ?_
      refine wo (Spec.and (Has.s rfl) (fun h => Has.u rfl h)) ?_
      refine Walk.nil ?_
      refine Leaf.thenN ?_
      refine CWalk.cond rfl (fun hb => ?_) (fun hb => ?_)
      ·have hm := cond_t hb hm
       refine CWalk.seq ?_
       refine CWalk.region ?_
       refine mv ?_
       refine wo (Spec.fieldAddrO fd24_1 (Has.cv (Has.s rfl) (Cv.isvP rfl))) ?_
       refine wo (Spec.loadF (i := 1) ty3 rfl (Has.s rfl) rfl (HasG.s rfl)) ?_
       refine mv ?_
       refine mv ?_
       obtain ⟨x25, hx25, hm⟩ := bind_some hm
       refine wo (f := Fact.tup2 (Fact.ow [38] [39, 0] 51 (x25.1 : List Disk)) (Fact.rep [] x25.2)) (Spec.callE [0] 38 rfl en24 (law22_with_c a1 a0.Members a5 a4 hx25) (HasAll.cons (Has.m (Has.s rfl) rfl) (HasAll.cons (Has.fl (Has.s rfl)) (HasAll.cons (Has.fl (Has.s rfl)) (HasAll.cons (Has.m (Has.s rfl) rfl) HasAll.nil))))) ?_
       refine mv ?_
       refine wo (Spec.ext0 (Has.s rfl)) ?_
       refine wo (Spec.ext1 (Has.s rfl)) ?_
       refine wo (Spec.assign (Has.s rfl)) ?_
       refine wo (Spec.assign (Has.s rfl)) ?_
       refine Walk.nil ?_
       refine Leaf.thenN ?_
       refine CWalk.seq ?_
       refine CWalk.region ?_
       refine wo (Spec.loadObj (ls := [(false, 1, Fact.rep [] a0.Id), (false, 1, Fact.rep [] a0.Members), (false, 1, Fact.rep [] a0.Chunk), (false, 1, Fact.rep [] a0.Rows), (false, 1, Fact.rep [] a0.Log), (false, 1, Fact.rep [] a0.Heads)]) ty24 rfl rfl (Has.s rfl) rfl (HasGs.cons (HasG.s rfl) (HasGs.cons (HasG.s rfl) (HasGs.cons (HasG.s rfl) (HasGs.cons (HasG.s rfl) (HasGs.cons (HasG.s rfl) (HasGs.cons (HasG.s rfl) HasGs.nil))))))) ?_
       refine mv ?_
       obtain ⟨x26, hx26, hm⟩ := bind_some hm
       refine wo (f := Fact.tup2 (Fact.ow [40] [] 3 (x26.1 : List Int)) (Fact.rep [] x26.2)) (Spec.callE [0, 38, 39] 40 rfl en12 (eye_Odd_c a0 x25.1 hx26) (HasAll.cons (Has.fl (Has.cv (Has.s rfl) (Cv.trans (Cv.flds (CvL.cons Cv.fl (CvL.cons Cv.fl (CvL.cons Cv.fl (CvL.cons Cv.fl (CvL.cons Cv.fl (CvL.cons Cv.fl CvL.nil))))))) (Cv.close (T := []) (chConfig a0))))) (HasAll.cons (Has.m (Has.cv (Has.s rfl) (Cv.trans Cv.owSl (Cv.slRep (T' := [0, 38, 39]) rfl rfl))) rfl) HasAll.nil))) ?_
       refine mv ?_
       refine wo (Spec.ext0 (Has.s rfl)) ?_
       refine wo (Spec.ext1 (Has.s rfl)) ?_
       refine wo (Spec.assign (Has.s rfl)) ?_
       refine wo (Spec.assign (Has.s rfl)) ?_
       refine Walk.nil ?_
       refine Leaf.thenN ?_
       refine CWalk.seq ?_
       refine CWalk.region ?_
       refine mv ?_
       refine mv ?_
       refine wg rfl rfl (fun hb => Spec.move (Has.s rfl)) ?_
       refine wg rfl rfl (fun hb => Spec.neqI (Has.u rfl hb) Has.int) ?_
       refine wg rfl rfl (fun hb => Spec.move (Has.u rfl hb)) ?_
       refine Walk.opgu rfl rfl rfl (fun hb => Spec.move (Has.s rfl)) ?_
       refine Walk.opgu rfl rfl rfl (fun hb => Spec.move (Has.s rfl)) ?_
       obtain ⟨x27, hx27, hm⟩ := bind_some hm
       refine Walk.opgu (f := Fact.rep [] (x27 : Bool)) rfl rfl rfl (fun hb => Spec.callE [20, 40] 41 rfl en14 (ref22_SameInts_c x26.1 x4.1 (gO_t hx27 (and_t hb.1 (not_t hb.2)))) (HasAll.cons (Has.m (Has.cv (Has.u rfl hb) (Cv.trans Cv.owSl (Cv.slRep (T' := [40]) rfl rfl))) rfl) (HasAll.cons (Has.m (Has.cv (Has.u rfl hb) (Cv.trans Cv.owSl (Cv.slRep (T' := [20]) rfl rfl))) rfl) HasAll.nil))) ?_
       refine Walk.opgu rfl rfl rfl (fun hb => Spec.not (Has.u rfl hb)) ?_
       refine wg rfl rfl (fun hb => Spec.or (Has.u rfl hb) (fun h => Has.u rfl ⟨hb, h⟩)) ?_
       refine wo (Spec.and (Has.s rfl) (fun h => Has.u rfl h)) ?_
       refine Walk.nil ?_
       refine Leaf.thenN ?_
       refine CWalk.cond rfl (fun hb => ?_) (fun hb => ?_)
       ·have hm := cond_t hb hm
        refine CWalk.seq ?_
        refine CWalk.region ?_
        refine wo (Spec.assign Has.bool) ?_
        refine Walk.nil ?_
        refine Leaf.thenN ?_
        refine CWalk.ret ?_
        refine Leaf.thenR ?_
        obtain rfl := Option.some.inj hm
        exact Leaf.retC1 rfl (HasR.cv (HasR.tmp (Has.s rfl)) Cv.fl)
       ·have hm := cond_f hb hm
        refine CWalk.skip ?_
        exact Leaf.join () hm (su (st (st (su (sn (st (st (Sub.cons (Has.cv (Has.s rfl) (Cv.owF (T := [20]) (te := []) rfl)) (sf (sf (sf (sf (sf (sf (sn Sub.nil)))))))))))))))
      ·have hm := cond_f hb hm
       refine CWalk.skip ?_
       exact Leaf.join () hm (su (st (st (su (sn (st (st (Sub.cons (Has.cv (Has.s rfl) (Cv.owF (T := [20]) (te := []) rfl)) (sf (sf (sf (sf (sf (sf (sn Sub.nil)))))))))))))))

end Go.Proofs.Ytdlmgdfeeofmbaa
