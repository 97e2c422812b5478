/- Printed by a program of ours: models of functions, and that calls do what they say. -/
import Derived.Test.YtmlmlfghogoadaaGrt2
set_option linter.unusedVariables false
set_option linter.unusedSimpArgs false
set_option linter.unnecessarySimpa false
namespace Go.Proofs.Ytmlmlfghogoadaa
open Go GL
set_option maxRecDepth 100000
set_option maxHeartbeats 2000000
set_option linter.unusedVariables false

/-- freeboard/acts.devices$1 -/
def acts_devices_1 (a0 : Disk) : Option (Bool) :=
  Option.bind (disk_Check a0) (fun x1 => some (x1 != (0 : Int)))
theorem acts_devices_1_c (a0 : Disk) {r : Bool} (hm : acts_devices_1 a0 = some r) : Ctr Try.prog 79 [.rep 0 a0] (.fl r) [] := by
 refine ctr_of_walk [[]] 6 Try.func79 rfl rfl rfl rfl (fun w0 om => ?_)
 unfold acts_devices_1 at hm
 refine CWalk.sub (G' := [.fact 0 (.rep [0] (a0 : Disk))]) (sn Sub.nil) ?_
 refine Cs ?_
 refine Cr ?_
 refine ws (Step.boxObj (ls := [(false, 1, Fact.rep [0] a0.Blocks), (false, 1, Fact.rep [0] a0.Wait), (false, 1, Fact.rep [] a0.Dead)]) 10 rfl rfl rfl rfl (HasL.flds (Has.cv (Hs rfl) (Cv.trans (Cv.opens (chDisk a0)) (Cv.flds (CvL.cons Cv.refl (CvL.cons Cv.refl (Vf CvL.nil)))))))) ?_
 refine wo (Spec.assign Has.bool) ?_
 refine Wn ?_
 refine Lt ?_
 refine Cs ?_
 refine Cr ?_
 refine wo (Spec.loadObj (ls := [(false, 1, Fact.rep [0] a0.Blocks), (false, 1, Fact.rep [0] a0.Wait), (false, 1, Fact.rep [] a0.Dead)]) ty61 rfl rfl (Hs rfl) rfl (Gz rfl (Gz rfl (Gz rfl HasGs.nil)))) ?_
 obtain ⟨x1, hx1, hm⟩ := bind_some hm
 refine wo (f := Fact.rep [] (x1 : Int)) (Spec.callE [0] 14 rfl en39 (disk_Check_c a0 hx1) (HasAll.cons (Has.m (Has.cv (Hs rfl) (Cv.trans (Cv.flds (CvL.cons (Cv.m rfl) (CvL.cons (Cv.m rfl) (Vf CvL.nil)))) (Cv.close (T := [0]) (chDisk a0)))) rfl) HasAll.nil)) ?_
 refine wo (Spec.neqI (Hs rfl) Has.int) ?_
 refine wo (Spec.assign (Hs rfl)) ?_
 refine Wn ?_
 refine Lt ?_
 refine CWalk.ret ?_
 obtain rfl := Option.some.inj hm
 exact Leaf.retC1 rfl (HasR.cv (HasR.tmp (Hs rfl)) Cv.fl)

/-- freeboard/acts.devices -/
def acts_devices (a0 : List Disk) : Option (Int) :=
  Option.bind (gO (!((decide (((a0).length : Int) < (1 : Int))) || (decide (((a0).length : Int) > (17 : Int))))) (slices_ContainsFunc_api_Disk_api_Disk a0 (fun y => acts_devices_1 y))) (fun x1 => (bif (((decide (((a0).length : Int) < (1 : Int))) || (decide (((a0).length : Int) > (17 : Int)))) || x1) then some (8 : Int) else some (0 : Int)))
theorem acts_devices_c (a0 : List Disk) {r : Int} (hm : acts_devices a0 = some r) : Ctr Try.prog 49 [.rep 0 a0] (.fl r) [] := by
 refine ctr_of_walk [[]] 17 Try.func49 rfl rfl rfl rfl (fun w0 om => ?_)
 unfold acts_devices at hm
 refine CWalk.sub (G' := [.fact 0 (.rep [0] (a0 : List Disk))]) (sn Sub.nil) ?_
 refine Cs ?_
 refine Cr ?_
 refine wo (Spec.assign Has.int) ?_
 refine Wn ?_
 refine Lt ?_
 refine Cs ?_
 refine Cr ?_
 refine wo (Spec.assign Has.func) ?_
 refine Wn ?_
 refine Lt ?_
 refine Cs ?_
 refine Cs ?_
 refine Cr ?_
 refine mv ?_
 refine wo (Spec.len (Hs rfl) Try.underlying49) ?_
 refine wo (Spec.lssI (Hs rfl) Has.int) ?_
 refine mv ?_
 refine wg rfl rfl (fun hb => Spec.move (Hs rfl)) ?_
 refine wg rfl rfl (fun hb => Spec.len (Has.u rfl hb) Try.underlying49) ?_
 refine wg rfl rfl (fun hb => Spec.gtrI (Has.u rfl hb) Has.int) ?_
 refine wo (Spec.or (Hs rfl) (fun h => Has.u rfl h)) ?_
 refine mv ?_
 refine wg rfl rfl (fun hb => Spec.move (Hs rfl)) ?_
 refine wg rfl rfl (fun hb => Spec.move (Hs rfl)) ?_
 obtain ⟨x1, hx1, hm⟩ := bind_some hm
 refine wg (f := Fact.rep [] (x1 : Bool)) rfl rfl (fun hb => Spec.callE [0] 10 rfl en80 (slices_ContainsFunc_api_Disk_api_Disk_c a0 (fun y => acts_devices_1 y) (gO_t hx1 (not_t hb))) (HasAll.cons (Has.m (Has.u rfl hb) rfl) (HasAll.cons (Has.cv (Has.u rfl hb) (Cv.fn (pu := []) (pc := []) (shc := []) en79 CvF.nil CvF.nil (fun y r h => acts_devices_1_c y h))) HasAll.nil))) ?_
 refine wo (Spec.or (Hs rfl) (fun h => Has.u rfl h)) ?_
 refine Wn ?_
 refine Lt ?_
 refine CWalk.cond rfl (fun hb => ?_) (fun hb => ?_)
 ·have hm := cond_t hb hm
  refine Cs ?_
  refine Cr ?_
  refine wo (Spec.assign Has.int) ?_
  refine Wn ?_
  refine Lt ?_
  refine CWalk.ret ?_
  refine Leaf.thenR ?_
  obtain rfl := Option.some.inj hm
  exact Leaf.retC1 rfl (HasR.cv (HasR.tmp (Hs rfl)) Cv.fl)
 ·have hm := cond_f hb hm
  refine CWalk.skip ?_
  refine Lt ?_
  refine Cs ?_
  refine Cr ?_
  refine wo (Spec.assign Has.int) ?_
  refine Wn ?_
  refine Lt ?_
  refine CWalk.ret ?_
  obtain rfl := Option.some.inj hm
  exact Leaf.retC1 rfl (HasR.cv (HasR.tmp (Hs rfl)) Cv.fl)

def acts_Waits_L1 (a0 : List Disk) (s2 : Int) (s3 : Int) : Option (Ctl (Int × Int) (Int)) :=
  (bif (decide (s3 < ((a0).length : Int))) then Option.bind (idx a0 s3) (fun x5 => some (Ctl.next ((wI (s2 + ((x5.Wait).length : Int))), (wI (s3 + (1 : Int)))))) else some (Ctl.brk s2))
/-- freeboard/acts.Waits -/
def acts_Waits (a0 : List Disk) : Option (Int × Int) :=
  Option.bind (acts_devices a0) (fun x1 => (bif (x1 != (0 : Int)) then some ((0 : Int), x1) else Option.bind (loopM (fun s : Int × Int => acts_Waits_L1 a0 s.1 s.2) FUEL ((0 : Int), (0 : Int))) (fun b6 => some (b6, (0 : Int)))))
theorem acts_Waits_c (a0 : List Disk) {r : Int × Int} (hm : acts_Waits a0 = some r) : Ctr Try.prog 22 [.rep 0 a0] (.tup2 (.fl r.1) (.fl r.2)) [] := by
 refine ctr_of_walk [[]] 26 Try.func22 rfl rfl rfl rfl (fun w0 om => ?_)
 unfold acts_Waits at hm
 refine CWalk.sub (G' := [.fact 0 (.rep [0] (a0 : List Disk))]) (sn Sub.nil) ?_
 refine Cs ?_
 refine Cr ?_
 refine wo (Spec.assign Has.int) ?_
 refine wo (Spec.assign Has.int) ?_
 refine Wn ?_
 refine Lt ?_
 refine Cs ?_
 refine Cs ?_
 refine Cr ?_
 refine mv ?_
 obtain ⟨x1, hx1, hm⟩ := bind_some hm
 refine wo (f := Fact.rep [] (x1 : Int)) (Spec.callE [0] 10 rfl en49 (acts_devices_c a0 hx1) (HasAll.cons (Has.m (Hs rfl) rfl) HasAll.nil)) ?_
 refine wo (Spec.assign (Hs rfl)) ?_
 refine Wn ?_
 refine Lt ?_
 refine Cs ?_
 refine Cr ?_
 refine mv ?_
 refine wo (Spec.neqI (Hs rfl) Has.int) ?_
 refine Wn ?_
 refine Lt ?_
 refine CWalk.cond rfl (fun hb => ?_) (fun hb => ?_)
 ·have hm := cond_t hb hm
  refine Cs ?_
  refine Cr ?_
  refine mv ?_
  refine wo (Spec.assign Has.int) ?_
  refine wo (Spec.assign (Hs rfl)) ?_
  refine Wn ?_
  refine Lt ?_
  refine CWalk.ret ?_
  refine Leaf.thenR ?_
  obtain rfl := Option.some.inj hm
  exact Leaf.retC2 rfl (HasR.cv (HasR.tmp (Hs rfl)) Cv.fl) (HasR.cv (HasR.tmp (Hs rfl)) Cv.fl)
 ·have hm := cond_f hb hm
  refine CWalk.skip ?_
  refine Lt ?_
  refine Cs ?_
  refine Cr ?_
  refine wo (Spec.assign Has.int) ?_
  refine Wn ?_
  refine Lt ?_
  refine Cs ?_
  refine Cs ?_
  refine Cr ?_
  refine mv ?_
  refine wo (Spec.len (Hs rfl) Try.underlying49) ?_
  refine wo (Spec.move Has.int) ?_
  refine Wn ?_
  refine Lt ?_
  refine CWalk.block ?_
  obtain ⟨b6, hb6, hm⟩ := bind_some hm
  refine CWalk.loop (fun s : Int × Int => [.fact 5 (.rep [] s.1), .fact 13 (.rep [0] (a0 : List Disk)), .fact 14 (.rep [] (((a0).length : Int) : Int)), .fact 15 (.rep [] s.2)]) (fun b : Int => (Exit.exit 0, [.fact 5 (.rep [] (b : Int))])) hb6 (st (su (st (st Sub.nil)))) ?_ ?_
  ·rintro ⟨s2, s3⟩ c4 hm
   replace hm : acts_Waits_L1 a0 s2 s3 = some c4 := hm
   unfold acts_Waits_L1 at hm
   show CWalk _ [.fact 5 (.rep [] (s2 : Int)), .fact 13 (.rep [0] (a0 : List Disk)), .fact 14 (.rep [] (((a0).length : Int) : Int)), .fact 15 (.rep [] (s3 : Int))] _ _
   refine Cs ?_
   refine Cr ?_
   refine wo (Spec.lssI (Hs rfl) (Hs rfl)) ?_
   refine Wn ?_
   refine Lt ?_
   refine Cs ?_
   refine CWalk.cond rfl (fun hb => ?_) (fun hb => ?_)
   ·have hm := cond_t hb hm
    refine CWalk.skip ?_
    refine Lt ?_
    refine Cs ?_
    refine CWalk.block ?_
    refine Cs ?_
    refine Cr ?_
    obtain ⟨x5, hx5, hm⟩ := bind_some hm
    refine wo (Spec.indexAddr hx5 sl49 (Hs rfl) (Hs rfl)) ?_
    refine wo (Spec.load ty61 (Hs rfl)) ?_
    refine ws (Step.allocObj (ls := [(false, 1, Fact.nilv), (false, 1, Fact.nilv), (false, 1, Fact.rep [] (false : Bool))]) 11 rfl rfl rfl rfl zl61) ?_
    refine ws (Step.storeObj (ls := [(false, 1, Fact.rep [0] x5.Blocks), (false, 1, Fact.rep [0] x5.Wait), (false, 1, Fact.rep [] x5.Dead)]) rfl ty61 rfl rfl (Hs rfl) rfl (HasL.flds (Has.cv (Hs rfl) (Cv.trans (Cv.opens (chDisk x5)) (Cv.flds (CvL.cons Cv.refl (CvL.cons Cv.refl (Vf CvL.nil))))))) rfl) ?_
    refine Wn ?_
    refine Lt ?_
    refine Cr ?_
    refine mv ?_
    refine wo (Spec.fieldAddrO fd61_1 (Has.cv (Hs rfl) (Cv.isvP rfl))) ?_
    refine wo (Spec.loadF (i := 1) ty59 rfl (Hs rfl) rfl (HasG.s rfl)) ?_
    refine wo (Spec.len (Hs rfl) Try.underlying59) ?_
    refine wo (Spec.addI (Hs rfl) (Hs rfl)) ?_
    refine wo (Spec.assign (Hs rfl)) ?_
    refine Wn ?_
    refine Leaf.blockN ?_
    refine Lt ?_
    refine Cr ?_
    refine wo (Spec.addI (Hs rfl) Has.int) ?_
    refine mv ?_
    refine Wn ?_
    exact Leaf.next hm (st (su (st (st Sub.nil))))
   ·have hm := cond_f hb hm
    refine CWalk.exit ?_
    refine Leaf.thenE ?_
    exact Leaf.brk hm (fun h => nomatch h) rfl (st Sub.nil)
  ·intro _
   refine Leaf.blockE ?_
   refine Lt ?_
   refine Cs ?_
   refine Cr ?_
   refine mv ?_
   refine wo (Spec.assign (Hs rfl)) ?_
   refine wo (Spec.assign Has.int) ?_
   refine Wn ?_
   refine Lt ?_
   refine CWalk.ret ?_
   obtain rfl := Option.some.inj hm
   exact Leaf.retC2 rfl (HasR.cv (HasR.tmp (Hs rfl)) Cv.fl) (HasR.cv (HasR.tmp (Hs rfl)) Cv.fl)

/-- freeboard/acts.does -/
def acts_does (a0 : UInt8) : Option ((FnI [73, 74, 75])) :=
  (bif (decide ((wI (a0.toNat : Int)) ≥ (4 : Int))) then some (⟨0⟩ : FnI [73, 74, 75]) else Option.bind (bnd 4 (a0.toNat : Int)) (fun x1 => Option.bind ((([(⟨0⟩ : FnI [73, 74, 75]), (⟨1⟩ : FnI [73, 74, 75]), (⟨2⟩ : FnI [73, 74, 75]), (⟨3⟩ : FnI [73, 74, 75])] : List (FnI [73, 74, 75])))[x1]?) (fun x2 => some x2)))
theorem acts_does_c (a0 : UInt8) {r : (FnI [73, 74, 75])} (hm : acts_does a0 = some r) : Ctr Try.prog 44 [.rep 0 a0] (.fl r) [] := by
 refine ctr_of_walk [[]] 11 Try.func44 rfl rfl rfl rfl (fun w0 om => ?_)
 unfold acts_does at hm
 refine CWalk.sub (G' := [.fact 0 (.rep [] (a0 : UInt8))]) (Sub.cons (Has.fl (Hs rfl)) Sub.nil) ?_
 refine Cs ?_
 refine Cr ?_
 refine wo (Spec.assign (Has.fniNil (ks := [73, 74, 75]))) ?_
 refine Wn ?_
 refine Lt ?_
 refine Cs ?_
 refine Cr ?_
 refine wo (Spec.buildA (us := [(1, .func 73), (2, .func 74), (3, .func 75)]) (ls' := [(false, 1, Fact.rep [] ((⟨0⟩ : FnI [73, 74, 75]) : FnI [73, 74, 75])), (false, 1, Fact.rep [] ((⟨1⟩ : FnI [73, 74, 75]) : FnI [73, 74, 75])), (false, 1, Fact.rep [] ((⟨2⟩ : FnI [73, 74, 75]) : FnI [73, 74, 75])), (false, 1, Fact.rep [] ((⟨3⟩ : FnI [73, 74, 75]) : FnI [73, 74, 75]))]) bd125 rfl (BP.cons rfl rfl (Has.cv Has.func (Cv.fni (ks := [73, 74, 75]) (n := 1) rfl)) (Has.cv Has.func (Cv.fni (ks := [73, 74, 75]) (n := 1) rfl)) (BP.cons rfl rfl (Has.cv Has.func (Cv.fni (ks := [73, 74, 75]) (n := 2) rfl)) (Has.cv Has.func (Cv.fni (ks := [73, 74, 75]) (n := 2) rfl)) (BP.cons rfl rfl (Has.cv Has.func (Cv.fni (ks := [73, 74, 75]) (n := 3) rfl)) (Has.cv Has.func (Cv.fni (ks := [73, 74, 75]) (n := 3) rfl)) BP.nil)))) ?_
 refine ws (Step.allocObj (ls := [(false, 1, Fact.rep [] ((⟨0⟩ : FnI [73, 74, 75]) : FnI [73, 74, 75])), (false, 1, Fact.rep [] ((⟨0⟩ : FnI [73, 74, 75]) : FnI [73, 74, 75])), (false, 1, Fact.rep [] ((⟨0⟩ : FnI [73, 74, 75]) : FnI [73, 74, 75])), (false, 1, Fact.rep [] ((⟨0⟩ : FnI [73, 74, 75]) : FnI [73, 74, 75]))]) 10 rfl rfl rfl rfl zl125) ?_
 refine ws (Step.storeObj (ls := [(false, 1, Fact.rep [] ((⟨0⟩ : FnI [73, 74, 75]) : FnI [73, 74, 75])), (false, 1, Fact.rep [] ((⟨1⟩ : FnI [73, 74, 75]) : FnI [73, 74, 75])), (false, 1, Fact.rep [] ((⟨2⟩ : FnI [73, 74, 75]) : FnI [73, 74, 75])), (false, 1, Fact.rep [] ((⟨3⟩ : FnI [73, 74, 75]) : FnI [73, 74, 75]))]) rfl ty125 rfl rfl (Hs rfl) rfl (HasL.flds (Hs rfl)) rfl) ?_
 refine Wn ?_
 refine Lt ?_
 refine Cs ?_
 refine Cs ?_
 refine Cr ?_
 refine mv ?_
 refine wo (Spec.conv (α := UInt8) (β := Int) Try.underlying5 Try.underlying3 (Hs rfl)) ?_
 refine wo (Spec.geqI (Hs rfl) Has.int) ?_
 refine Wn ?_
 refine Lt ?_
 refine CWalk.cond rfl (fun hb => ?_) (fun hb => ?_)
 ·have hm := cond_t hb hm
  refine Cs ?_
  refine Cr ?_
  refine wo (Spec.assign (Has.fniNil (ks := [73, 74, 75]))) ?_
  refine Wn ?_
  refine Lt ?_
  refine CWalk.ret ?_
  refine Leaf.thenR ?_
  obtain rfl := Option.some.inj hm
  exact Leaf.retC1 rfl (HasR.cv (HasR.tmp (Hs rfl)) Cv.fl)
 ·have hm := cond_f hb hm
  refine CWalk.skip ?_
  refine Lt ?_
  refine Cs ?_
  refine Cr ?_
  refine mv ?_
  obtain ⟨x1, hx1, hm⟩ := bind_some hm
  refine wo (Spec.idxVar8 hx1 sm125 (Has.cv (Hs rfl) (Cv.isvP rfl)) (Hs rfl)) ?_
  obtain ⟨x2, hx2, hm⟩ := bind_some hm
  refine wo (Spec.loadV (T := []) (l := ([(⟨0⟩ : FnI [73, 74, 75]), (⟨1⟩ : FnI [73, 74, 75]), (⟨2⟩ : FnI [73, 74, 75]), (⟨3⟩ : FnI [73, 74, 75])] : List (FnI [73, 74, 75]))) hx2 ty96 rfl rfl (Hs rfl) rfl (HasVs.cons (HasG.s rfl) (HasVs.cons (HasG.s rfl) (HasVs.cons (HasG.s rfl) (HasVs.cons (HasG.s rfl) HasVs.nil))))) ?_
  refine wo (Spec.assign (Hs rfl)) ?_
  refine Wn ?_
  refine Lt ?_
  refine CWalk.ret ?_
  obtain rfl := Option.some.inj hm
  exact Leaf.retC1 rfl (HasR.cv (HasR.tmp (Hs rfl)) Cv.fl)

/-- (freeboard/acts.act).may -/
def acts_act_may (a0 : Act45) (a1 : List Disk) : Option (Bool) :=
  Option.bind (gO (!((decide (a0.Disk < (0 : Int))) || (decide (a0.Disk ≥ ((a1).length : Int))))) (acts_does a0.Kind)) (fun x1 => (bif (((decide (a0.Disk < (0 : Int))) || (decide (a0.Disk ≥ ((a1).length : Int)))) || (fnAt [73, 74, 75] x1.i).isNone) then some false else (bif (a0.Kind == (3 : UInt8)) then some ((a0.At == (0 : Int)) && (((a0.Data).length : Int) == (0 : Int))) else Option.bind (gO ((decide (a0.At ≥ (0 : Int)))) (idx a1 a0.Disk)) (fun x2 => some (((decide (a0.At ≥ (0 : Int))) && (decide (a0.At < ((x2.Blocks).length : Int)))) && ((((a0.Data).length : Int) == (0 : Int)) || (((a0.Data).length : Int) == (128 : Int))))))))
theorem acts_act_may_c (a0 : Act45) (a1 : List Disk) {r : Bool} (hm : acts_act_may a0 a1 = some r) : Ctr Try.prog 72 [.rep 0 a0, .rep 0 a1] (.fl r) [] := by
 refine ctr_of_walk [[]] 60 Try.func72 rfl rfl rfl rfl (fun w0 om => ?_)
 unfold acts_act_may at hm
 refine CWalk.sub (G' := [.fact 0 (.rep [0] (a0 : Act45)), .fact 1 (.rep [0] (a1 : List Disk))]) (sn (sn Sub.nil)) ?_
 refine Cs ?_
 refine Cr ?_
 refine ws (Step.boxObj (ls := [(false, 1, Fact.rep [] a0.Disk), (false, 1, Fact.rep [] a0.Kind), (false, 1, Fact.rep [] a0.At), (false, 1, Fact.rep [0] a0.Data)]) 10 rfl rfl rfl rfl (HasL.flds (Has.cv (Hs rfl) (Cv.trans (Cv.opens (chAct45 a0)) (Cv.flds (Vf (Vf (Vf (CvL.cons Cv.refl CvL.nil))))))))) ?_
 refine wo (Spec.assign Has.bool) ?_
 refine Wn ?_
 refine Lt ?_
 refine Cs ?_
 refine Cs ?_
 refine Cr ?_
 refine wo (Spec.fieldAddrO fd98_0 (Has.cv (Hs rfl) (Cv.isvP rfl))) ?_
 refine wo (Spec.loadF (i := 0) ty3 rfl (Hs rfl) rfl (HasG.s rfl)) ?_
 refine wo (Spec.lssI (Hs rfl) Has.int) ?_
 refine mv ?_
 refine wg rfl rfl (fun hb => Spec.fieldAddrO fd98_0 (Has.cv (Hs rfl) (Cv.isvP rfl))) ?_
 refine wg rfl rfl (fun hb => Spec.loadF (i := 0) ty3 rfl (Has.u rfl hb) rfl (HasG.s rfl)) ?_
 refine wg rfl rfl (fun hb => Spec.move (Hs rfl)) ?_
 refine wg rfl rfl (fun hb => Spec.len (Has.u rfl hb) Try.underlying49) ?_
 refine wg rfl rfl (fun hb => Spec.geqI (Has.u rfl hb) (Has.u rfl hb)) ?_
 refine wo (Spec.or (Hs rfl) (fun h => Has.u rfl h)) ?_
 refine mv ?_
 refine wg rfl rfl (fun hb => Spec.fieldAddrO fd98_1 (Has.cv (Hs rfl) (Cv.isvP rfl))) ?_
 refine wg rfl rfl (fun hb => Spec.loadF (i := 1) ty5 rfl (Has.u rfl hb) rfl (HasG.s rfl)) ?_
 obtain ⟨x1, hx1, hm⟩ := bind_some hm
 refine wg (f := Fact.rep [] (x1 : FnI [73, 74, 75])) rfl rfl (fun hb => Spec.callE [] 15 rfl en44 (acts_does_c a0.Kind (gO_t hx1 (not_t hb))) (HasAll.cons (Has.fl (Has.u rfl hb)) HasAll.nil)) ?_
 refine wg rfl rfl (fun hb => Spec.eqlFni Try.underlying96 (Has.u rfl hb)) ?_
 refine wo (Spec.or (Hs rfl) (fun h => Has.u rfl h)) ?_
 refine Wn ?_
 refine Lt ?_
 refine CWalk.cond rfl (fun hb => ?_) (fun hb => ?_)
 ·have hm := cond_t hb hm
  refine Cs ?_
  refine Cr ?_
  refine wo (Spec.assign Has.bool) ?_
  refine Wn ?_
  refine Lt ?_
  refine CWalk.ret ?_
  refine Leaf.thenR ?_
  obtain rfl := Option.some.inj hm
  exact Leaf.retC1 rfl (HasR.cv (HasR.tmp (Hs rfl)) Cv.fl)
 ·have hm := cond_f hb hm
  refine CWalk.skip ?_
  refine Lt ?_
  refine Cs ?_
  refine Cs ?_
  refine Cr ?_
  refine wo (Spec.fieldAddrO fd98_1 (Has.cv (Hs rfl) (Cv.isvP rfl))) ?_
  refine wo (Spec.loadF (i := 1) ty5 rfl (Hs rfl) rfl (HasG.s rfl)) ?_
  refine wo (Spec.eqlB (Hs rfl) (Has.u8 3 rfl)) ?_
  refine Wn ?_
  refine Lt ?_
  refine CWalk.cond rfl (fun hb => ?_) (fun hb => ?_)
  ·have hm := cond_t hb hm
   refine Cs ?_
   refine Cr ?_
   refine wo (Spec.fieldAddrO fd98_2 (Has.cv (Hs rfl) (Cv.isvP rfl))) ?_
   refine wo (Spec.loadF (i := 2) ty3 rfl (Hs rfl) rfl (HasG.s rfl)) ?_
   refine wo (Spec.eqlI (Hs rfl) Has.int) ?_
   refine mv ?_
   refine wg rfl rfl (fun hb => Spec.fieldAddrO fd98_3 (Has.cv (Hs rfl) (Cv.isvP rfl))) ?_
   refine wg rfl rfl (fun hb => Spec.loadF (i := 3) ty37 rfl (Has.u rfl hb) rfl (HasG.s rfl)) ?_
   refine wg rfl rfl (fun hb => Spec.len (Has.u rfl hb) Try.underlying37) ?_
   refine wg rfl rfl (fun hb => Spec.eqlI (Has.u rfl hb) Has.int) ?_
   refine wo (Spec.and (Hs rfl) (fun h => Has.u rfl h)) ?_
   refine wo (Spec.assign (Hs rfl)) ?_
   refine Wn ?_
   refine Lt ?_
   refine CWalk.ret ?_
   refine Leaf.thenR ?_
   obtain rfl := Option.some.inj hm
   exact Leaf.retC1 rfl (HasR.cv (HasR.tmp (Hs rfl)) Cv.fl)
  ·have hm := cond_f hb hm
   refine CWalk.skip ?_
   refine Lt ?_
   refine Cs ?_
   obtain ⟨x2, hx2, hm⟩ := bind_some hm
   refine CWalk.drawM [[], [0], [0, 1], [0, 1, 2], [0, 1, 2, 3], [0, 1, 2, 3, 4], [0, 1, 2, 3], [0, 1, 2, 3], [0, 1, 2, 3, 7], [0, 1, 2, 3, 6, 7, 8], [0, 1, 2, 3, 6, 7, 8, 9], [0, 1, 2, 3, 6, 7, 8, 9, 10], [0, 1, 2, 3, 6, 7, 8, 9, 10, 11], [0, 1, 2, 3, 4, 5, 6, 7, 8, 9, 10, 11, 12], [0, 1, 2, 3, 4, 5, 6, 7, 8, 9, 10, 11, 12, 13], [0, 1, 2, 3, 4, 5, 6, 7, 8, 9, 10, 11, 12, 13, 14], [0, 1, 2, 3, 4, 5, 6, 7, 8, 9, 10, 11, 12, 13, 14, 15], [0, 1, 2, 3, 4, 5, 6, 7, 8, 9, 10, 11, 12, 13, 14, 15, 16], [0, 1, 2, 3, 4, 5, 6, 7, 8, 9, 10, 11, 12, 13, 14, 15, 16, 17], [0, 1, 2, 3, 4, 5, 6, 7, 8, 9, 10, 11, 12, 13, 14, 15, 16, 17, 18], [0, 1, 2, 3, 4, 5, 6, 7, 8, 9, 10, 11, 12, 13, 14, 15, 16, 17, 18, 19], [0, 1, 2, 3, 4, 5, 6, 7, 8, 9, 10, 11, 12, 13, 14, 15, 16, 17, 18, 19, 20], [0, 1, 2, 3, 4, 5, 6, 7, 8, 9, 10, 11, 12, 13, 14, 15, 16, 17, 18, 19, 20, 21], [0, 1, 2, 3, 4, 5, 6, 7, 8, 9, 10, 11, 12, 13, 14, 15, 16, 17, 18, 19, 20, 21, 22], [0, 1, 2, 3, 4, 5, 6, 7, 8, 9, 10, 11, 12, 13, 14, 15, 16, 17, 18, 19, 20, 21, 22, 23], [0, 1, 2, 3, 4, 5, 6, 7, 8, 9, 10, 11, 12, 13, 14, 15, 16, 17, 18, 19, 20, 21, 22, 23, 24], [0, 1, 2, 3, 4, 5, 6, 7, 8, 9, 10, 11, 12, 13, 14, 15, 16, 17, 18, 19, 20, 21, 22, 23, 24, 25], [0, 1, 2, 3, 4, 5, 6, 7, 8, 9, 10, 11, 12, 13, 14, 15, 16, 17, 18, 19, 20, 21, 22, 23, 24, 25, 26]] [[.fact 33 (.pto 10 2)], [.fact 34 (.rep [] a0.At)], [.fact 35 (.rep [] ((decide (a0.At ≥ (0 : Int))) : Bool))], [.fact 36 (.rep [] ((decide (a0.At ≥ (0 : Int))) : Bool))], [.fact 37 (.under ((decide (a0.At ≥ (0 : Int))) = true) (.pto 10 2))], [.fact 38 (.under ((decide (a0.At ≥ (0 : Int))) = true) (.rep [] a0.At))], [.fact 39 (.under ((decide (a0.At ≥ (0 : Int))) = true) (.rep [0] (a1 : List Disk)))], [.fact 40 (.under ((decide (a0.At ≥ (0 : Int))) = true) (.pto 10 0))], [.fact 41 (.under ((decide (a0.At ≥ (0 : Int))) = true) (.rep [] a0.Disk))], [.fact 42 (.under ((decide (a0.At ≥ (0 : Int))) = true) (.ptr [0] (x2 : Disk)))], [.fact 43 (.under ((decide (a0.At ≥ (0 : Int))) = true) (.ptr [0] (x2.Blocks : List (List UInt8))))], [.fact 44 (.under ((decide (a0.At ≥ (0 : Int))) = true) (.rep [0] x2.Blocks))], [.fact 45 (.under ((decide (a0.At ≥ (0 : Int))) = true) (.rep [] (((x2.Blocks).length : Int) : Int)))], [.fact 46 (.under ((decide (a0.At ≥ (0 : Int))) = true) (.rep [] ((decide (a0.At < ((x2.Blocks).length : Int))) : Bool)))], [.fact 47 (.rep [] (((decide (a0.At ≥ (0 : Int))) && (decide (a0.At < ((x2.Blocks).length : Int)))) : Bool))], [.fact 48 (.rep [] (((decide (a0.At ≥ (0 : Int))) && (decide (a0.At < ((x2.Blocks).length : Int)))) : Bool))], [.fact 49 (.under (((decide (a0.At ≥ (0 : Int))) && (decide (a0.At < ((x2.Blocks).length : Int)))) = true) (.pto 10 3))], [.fact 50 (.under (((decide (a0.At ≥ (0 : Int))) && (decide (a0.At < ((x2.Blocks).length : Int)))) = true) (.rep [0] a0.Data))], [.fact 51 (.under (((decide (a0.At ≥ (0 : Int))) && (decide (a0.At < ((x2.Blocks).length : Int)))) = true) (.rep [] (((a0.Data).length : Int) : Int)))], [.fact 52 (.under (((decide (a0.At ≥ (0 : Int))) && (decide (a0.At < ((x2.Blocks).length : Int)))) = true) (.rep [] ((((a0.Data).length : Int) == (0 : Int)) : Bool)))], [.fact 53 (.under (((decide (a0.At ≥ (0 : Int))) && (decide (a0.At < ((x2.Blocks).length : Int)))) = true) (.rep [] ((((a0.Data).length : Int) == (0 : Int)) : Bool)))], [.fact 54 (.under ((((decide (a0.At ≥ (0 : Int))) && (decide (a0.At < ((x2.Blocks).length : Int)))) = true) ∧ ((((a0.Data).length : Int) == (0 : Int)) = false)) (.pto 10 3))], [.fact 55 (.under ((((decide (a0.At ≥ (0 : Int))) && (decide (a0.At < ((x2.Blocks).length : Int)))) = true) ∧ ((((a0.Data).length : Int) == (0 : Int)) = false)) (.rep [0] a0.Data))], [.fact 56 (.under ((((decide (a0.At ≥ (0 : Int))) && (decide (a0.At < ((x2.Blocks).length : Int)))) = true) ∧ ((((a0.Data).length : Int) == (0 : Int)) = false)) (.rep [] (((a0.Data).length : Int) : Int)))], [.fact 57 (.under ((((decide (a0.At ≥ (0 : Int))) && (decide (a0.At < ((x2.Blocks).length : Int)))) = true) ∧ ((((a0.Data).length : Int) == (0 : Int)) = false)) (.rep [] ((((a0.Data).length : Int) == (128 : Int)) : Bool)))], [.fact 58 (.under (((decide (a0.At ≥ (0 : Int))) && (decide (a0.At < ((x2.Blocks).length : Int)))) = true) (.rep [] (((((a0.Data).length : Int) == (0 : Int)) || (((a0.Data).length : Int) == (128 : Int))) : Bool)))], [.fact 59 (.rep [] ((((decide (a0.At ≥ (0 : Int))) && (decide (a0.At < ((x2.Blocks).length : Int)))) && ((((a0.Data).length : Int) == (0 : Int)) || (((a0.Data).length : Int) == (128 : Int)))) : Bool))], [.fact 4 (.rep [] ((((decide (a0.At ≥ (0 : Int))) && (decide (a0.At < ((x2.Blocks).length : Int)))) && ((((a0.Data).length : Int) == (0 : Int)) || (((a0.Data).length : Int) == (128 : Int)))) : Bool))]] mixed (by kernel_rfl) (ao (so (Spec.fieldAddrO fd98_2 (Has.cv (Hs rfl) (Cv.isvP rfl)))) (ao (so (Spec.loadF (i := 2) ty3 rfl (Hs rfl) rfl (HasG.s rfl))) (ao (so (Spec.geqI (Hs rfl) Has.int)) (ao (so (Spec.move (Hs rfl))) (ao (StepG.opg rfl rfl rfl (fun hb => Spec.fieldAddrO fd98_2 (Has.cv (Hs rfl) (Cv.isvP rfl)))) (ao (StepG.opg rfl rfl rfl (fun hb => Spec.loadF (i := 2) ty3 rfl (Has.u rfl hb) rfl (HasG.s rfl))) (ao (StepG.opg rfl rfl rfl (fun hb => Spec.move (Hs rfl))) (ao (StepG.opg rfl rfl rfl (fun hb => Spec.fieldAddrO fd98_0 (Has.cv (Hs rfl) (Cv.isvP rfl)))) (ao (StepG.opg rfl rfl rfl (fun hb => Spec.loadF (i := 0) ty3 rfl (Has.u rfl hb) rfl (HasG.s rfl))) (ao (StepG.opg rfl rfl rfl (fun hb => Spec.indexAddr (gO_t hx2 hb) sl49 (Has.u rfl hb) (Has.u rfl hb))) (ao (StepG.opg rfl rfl rfl (fun hb => Spec.fieldAddrP fd61_0 (chDisk x2) rfl (Has.u rfl hb))) (ao (StepG.opg rfl rfl rfl (fun hb => Spec.load ty36 (Has.u rfl hb))) (ao (StepG.opg rfl rfl rfl (fun hb => Spec.len (Has.u rfl hb) Try.underlying36)) (ao (StepG.opg rfl rfl rfl (fun hb => Spec.lssI (Has.u rfl hb) (Has.u rfl hb))) (ao (so (Spec.and (Hs rfl) (fun h => Has.u rfl h))) (ao (so (Spec.move (Hs rfl))) (ao (StepG.opg rfl rfl rfl (fun hb => Spec.fieldAddrO fd98_3 (Has.cv (Hs rfl) (Cv.isvP rfl)))) (ao (StepG.opg rfl rfl rfl (fun hb => Spec.loadF (i := 3) ty37 rfl (Has.u rfl hb) rfl (HasG.s rfl))) (ao (StepG.opg rfl rfl rfl (fun hb => Spec.len (Has.u rfl hb) Try.underlying37)) (ao (StepG.opg rfl rfl rfl (fun hb => Spec.eqlI (Has.u rfl hb) Has.int)) (ao (StepG.opg rfl rfl rfl (fun hb => Spec.move (Has.u rfl hb))) (ao (StepG.opgu rfl rfl rfl (fun hb => Spec.fieldAddrO fd98_3 (Has.cv (Hs rfl) (Cv.isvP rfl)))) (ao (StepG.opgu rfl rfl rfl (fun hb => Spec.loadF (i := 3) ty37 rfl (Has.u rfl hb) rfl (HasG.s rfl))) (ao (StepG.opgu rfl rfl rfl (fun hb => Spec.len (Has.u rfl hb) Try.underlying37)) (ao (StepG.opgu rfl rfl rfl (fun hb => Spec.eqlI (Has.u rfl hb) Has.int)) (ao (StepG.opg rfl rfl rfl (fun hb => Spec.or (Has.u rfl hb) (fun h => Has.u rfl ⟨hb, h⟩))) (ao (so (Spec.and (Hs rfl) (fun h => Has.u rfl h))) (ao (so (Spec.assign (Hs rfl))) AllM.nil)))))))))))))))))))))))))))) ?_
   refine Lt ?_
   refine CWalk.ret ?_
   obtain rfl := Option.some.inj hm
   exact Leaf.retC1 rfl (HasR.cv (HasR.tmp (Hs rfl)) Cv.fl)

def acts_Check_L1 (a0 : List Act45) (a1 : List Disk) (s2 : Int) : Option (Ctl (Int) ((Unit) ⊕ (Unit))) :=
  (bif (decide (s2 < ((a0).length : Int))) then Option.bind (idx a0 s2) (fun x4 => Option.bind (acts_act_may x4 a1) (fun x5 => (bif (!x5) then some (Ctl.brk (Sum.inr ())) else some (Ctl.next (wI (s2 + (1 : Int))))))) else some (Ctl.brk (Sum.inl ())))
/-- freeboard/acts.Check -/
def acts_Check (a0 : List Act45) (a1 : List Disk) : Option (Int) :=
  Option.bind (acts_devices a1) (fun x1 => (bif (x1 != (0 : Int)) then some x1 else (bif (decide (((a0).length : Int) > (1024 : Int))) then some (4 : Int) else Option.bind (loopM (fun s : Int => acts_Check_L1 a0 a1 s) FUEL (0 : Int)) (fun b6 => Sum.elim (fun b7 => some (0 : Int)) (fun b8 => some (2 : Int)) b6))))
theorem acts_Check_c (a0 : List Act45) (a1 : List Disk) {r : Int} (hm : acts_Check a0 a1 = some r) : Ctr Try.prog 42 [.rep 0 a0, .rep 0 a1] (.fl r) [] := by
 refine ctr_of_walk [[]] 27 Try.func42 rfl rfl rfl rfl (fun w0 om => ?_)
 unfold acts_Check at hm
 refine CWalk.sub (G' := [.fact 0 (.rep [0] (a0 : List Act45)), .fact 1 (.rep [0] (a1 : List Disk))]) (sn (sn Sub.nil)) ?_
 refine Cs ?_
 refine Cr ?_
 refine wo (Spec.assign Has.int) ?_
 refine Wn ?_
 refine Lt ?_
 refine Cs ?_
 refine Cs ?_
 refine Cr ?_
 refine mv ?_
 obtain ⟨x1, hx1, hm⟩ := bind_some hm
 refine wo (f := Fact.rep [] (x1 : Int)) (Spec.callE [0] 10 rfl en49 (acts_devices_c a1 hx1) (HasAll.cons (Has.m (Hs rfl) rfl) HasAll.nil)) ?_
 refine wo (Spec.assign (Hs rfl)) ?_
 refine Wn ?_
 refine Lt ?_
 refine Cs ?_
 refine Cr ?_
 refine mv ?_
 refine wo (Spec.neqI (Hs rfl) Has.int) ?_
 refine Wn ?_
 refine Lt ?_
 refine CWalk.cond rfl (fun hb => ?_) (fun hb => ?_)
 ·have hm := cond_t hb hm
  refine Cs ?_
  refine Cr ?_
  refine mv ?_
  refine wo (Spec.assign (Hs rfl)) ?_
  refine Wn ?_
  refine Lt ?_
  refine CWalk.ret ?_
  refine Leaf.thenR ?_
  obtain rfl := Option.some.inj hm
  exact Leaf.retC1 rfl (HasR.cv (HasR.tmp (Hs rfl)) Cv.fl)
 ·have hm := cond_f hb hm
  refine CWalk.skip ?_
  refine Lt ?_
  refine Cs ?_
  refine Cs ?_
  refine Cr ?_
  refine mv ?_
  refine wo (Spec.len (Hs rfl) Try.underlying23) ?_
  refine wo (Spec.gtrI (Hs rfl) Has.int) ?_
  refine Wn ?_
  refine Lt ?_
  refine CWalk.cond rfl (fun hb => ?_) (fun hb => ?_)
  ·have hm := cond_t hb hm
   refine Cs ?_
   refine Cr ?_
   refine wo (Spec.assign Has.int) ?_
   refine Wn ?_
   refine Lt ?_
   refine CWalk.ret ?_
   refine Leaf.thenR ?_
   obtain rfl := Option.some.inj hm
   exact Leaf.retC1 rfl (HasR.cv (HasR.tmp (Hs rfl)) Cv.fl)
  ·have hm := cond_f hb hm
   refine CWalk.skip ?_
   refine Lt ?_
   refine Cs ?_
   refine Cs ?_
   refine Cr ?_
   refine mv ?_
   refine wo (Spec.len (Hs rfl) Try.underlying23) ?_
   refine wo (Spec.move Has.int) ?_
   refine Wn ?_
   refine Lt ?_
   refine CWalk.block ?_
   obtain ⟨b6, hb6, hm⟩ := bind_some hm
   refine CWalk.loop (fun s : Int => [.fact 1 (.rep [0] (a1 : List Disk)), .fact 16 (.rep [0] (a0 : List Act45)), .fact 17 (.rep [] (((a0).length : Int) : Int)), .fact 18 (.rep [] (s : Int))]) (fun b : (Unit) ⊕ (Unit) => Sum.elim (fun b => (Exit.exit 0, [])) (fun b => (Exit.ret, [.fact 4 (.rep [] ((2 : Int) : Int))])) b) hb6 (su (su (st (st Sub.nil)))) ?_ ?_
   ·rintro s2 c3 hm
    replace hm : acts_Check_L1 a0 a1 s2 = some c3 := hm
    unfold acts_Check_L1 at hm
    show CWalk _ [.fact 1 (.rep [0] (a1 : List Disk)), .fact 16 (.rep [0] (a0 : List Act45)), .fact 17 (.rep [] (((a0).length : Int) : Int)), .fact 18 (.rep [] (s2 : Int))] _ _
    refine Cs ?_
    refine Cr ?_
    refine wo (Spec.lssI (Hs rfl) (Hs rfl)) ?_
    refine Wn ?_
    refine Lt ?_
    refine Cs ?_
    refine CWalk.cond rfl (fun hb => ?_) (fun hb => ?_)
    ·have hm := cond_t hb hm
     refine CWalk.skip ?_
     refine Lt ?_
     refine Cs ?_
     refine CWalk.block ?_
     refine Cs ?_
     refine Cr ?_
     obtain ⟨x4, hx4, hm⟩ := bind_some hm
     refine wo (Spec.indexAddr hx4 sl23 (Hs rfl) (Hs rfl)) ?_
     refine wo (Spec.load ty45 (Hs rfl)) ?_
     refine ws (Step.allocObj (ls := [(false, 1, Fact.rep [] ((0 : Int) : Int)), (false, 1, Fact.rep [] ((0 : UInt8) : UInt8)), (false, 1, Fact.rep [] ((0 : Int) : Int)), (false, 1, Fact.nilv)]) 11 rfl rfl rfl rfl zl45) ?_
     refine ws (Step.storeObj (ls := [(false, 1, Fact.rep [] x4.Disk), (false, 1, Fact.rep [] x4.Kind), (false, 1, Fact.rep [] x4.At), (false, 1, Fact.rep [0] x4.Data)]) rfl ty45 rfl rfl (Hs rfl) rfl (HasL.flds (Has.cv (Hs rfl) (Cv.trans (Cv.opens (chAct45 x4)) (Cv.flds (Vf (Vf (Vf (CvL.cons Cv.refl CvL.nil)))))))) rfl) ?_
     refine Wn ?_
     refine Lt ?_
     refine Cs ?_
     refine Cr ?_
     refine wo (Spec.loadObj (ls := [(false, 1, Fact.rep [] x4.Disk), (false, 1, Fact.rep [] x4.Kind), (false, 1, Fact.rep [] x4.At), (false, 1, Fact.rep [0] x4.Data)]) ty45 rfl rfl (Hs rfl) rfl (Gz rfl (Gz rfl (Gz rfl (Gz rfl HasGs.nil))))) ?_
     refine mv ?_
     obtain ⟨x5, hx5, hm⟩ := bind_some hm
     refine wo (f := Fact.rep [] (x5 : Bool)) (Spec.callE [0] 16 rfl en72 (acts_act_may_c x4 a1 hx5) (HasAll.cons (Has.m (Has.cv (Hs rfl) (Cv.trans (Cv.flds (Vf (Vf (Vf (CvL.cons (Cv.m rfl) CvL.nil))))) (Cv.close (T := [0]) (chAct45 x4)))) rfl) (HasAll.cons (Has.m (Hs rfl) rfl) HasAll.nil))) ?_
     refine wo (Spec.not (Hs rfl)) ?_
     refine Wn ?_
     refine Lt ?_
     refine CWalk.cond rfl (fun hb => ?_) (fun hb => ?_)
     ·have hm := cond_t hb hm
      refine Cs ?_
      refine Cr ?_
      refine wo (Spec.assign Has.int) ?_
      refine Wn ?_
      refine Lt ?_
      refine CWalk.ret ?_
      refine Leaf.blockR ?_
      refine Leaf.thenR ?_
      exact Leaf.brk hm (fun h => nomatch h) rfl (st Sub.nil)
     ·have hm := cond_f hb hm
      refine CWalk.skip ?_
      refine Leaf.blockN ?_
      refine Lt ?_
      refine Cr ?_
      refine wo (Spec.addI (Hs rfl) Has.int) ?_
      refine mv ?_
      refine Wn ?_
      exact Leaf.next hm (su (su (st (st Sub.nil))))
    ·have hm := cond_f hb hm
     refine CWalk.exit ?_
     refine Leaf.thenE ?_
     exact Leaf.brk hm (fun h => nomatch h) rfl (Sub.nil)
   ·intro _
    rcases b6 with b7 | b8
    ·have hm := selim_l hm
     refine Leaf.blockE ?_
     refine Lt ?_
     refine Cs ?_
     refine Cr ?_
     refine wo (Spec.assign Has.int) ?_
     refine Wn ?_
     refine Lt ?_
     refine CWalk.ret ?_
     obtain rfl := Option.some.inj hm
     exact Leaf.retC1 rfl (HasR.cv (HasR.tmp (Hs rfl)) Cv.fl)
    ·have hm := selim_r hm
     refine Leaf.blockR ?_
     refine Leaf.thenR ?_
     obtain rfl := Option.some.inj hm
     exact Leaf.retC1 rfl (HasR.cv (HasR.tmp (Hs rfl)) Cv.fl)

def disk_Twin_L1 (a0 : Disk) (s1 : Int) (s2 : List (List UInt8)) : Option (Ctl (Int × (List (List UInt8))) ((List (List UInt8)))) :=
  (bif (decide (s1 < ((a0.Blocks).length : Int))) then Option.bind (idx a0.Blocks s1) (fun x4 => Option.bind (slices_Clone_byte_byte x4) (fun x5 => Option.bind (app s2 ([x5])) (fun x6 => some (Ctl.next ((wI (s1 + (1 : Int))), x6))))) else some (Ctl.brk s2))
def disk_Twin_L2 (a0 : Disk) (s8 : Int) (s9 : List Write) : Option (Ctl (Int × (List Write)) ((List Write))) :=
  (bif (decide (s8 < ((a0.Wait).length : Int))) then Option.bind (idx a0.Wait s8) (fun x11 => Option.bind (slices_Clone_byte_byte x11.Data) (fun x12 => Option.bind (app s9 ([(Write.mk x11.At x12)])) (fun x13 => some (Ctl.next ((wI (s8 + (1 : Int))), x13))))) else some (Ctl.brk s9))
/-- freeboard/disk.Twin -/
def disk_Twin (a0 : Disk) : Option (Disk) :=
  Option.bind (loopM (fun s : Int × (List (List UInt8)) => disk_Twin_L1 a0 s.1 s.2) FUEL ((0 : Int), ([] : List (List UInt8)))) (fun b7 => Option.bind (loopM (fun s : Int × (List Write) => disk_Twin_L2 a0 s.1 s.2) FUEL ((0 : Int), ([] : List Write))) (fun b14 => some (Disk.mk b7 b14 a0.Dead)))
theorem disk_Twin_c (a0 : Disk) {r : Disk} (hm : disk_Twin a0 = some r) : Ctr Try.prog 50 [.rep 0 a0] (.flds [(false, 1, (.own 0 (some 1) 37 r.Blocks)), (false, 1, (.own 2 (some 3) 86 r.Wait)), (false, 1, (.fl r.Dead))]) [] := by
 refine ctr_of_walk [[24], [22, 23], [30], [28, 29]] 46 Try.func50 rfl rfl rfl rfl (fun w0 om => ?_)
 unfold disk_Twin at hm
 refine CWalk.sub (G' := [.fact 0 (.rep [0] (a0 : Disk))]) (sn Sub.nil) ?_
 refine Cs ?_
 refine Cr ?_
 refine ws (Step.boxObj (ls := [(false, 1, Fact.rep [0] a0.Blocks), (false, 1, Fact.rep [0] a0.Wait), (false, 1, Fact.rep [] a0.Dead)]) 10 rfl rfl rfl rfl (HasL.flds (Has.cv (Hs rfl) (Cv.trans (Cv.opens (chDisk a0)) (Cv.flds (CvL.cons Cv.refl (CvL.cons Cv.refl (Vf CvL.nil)))))))) ?_
 refine ws (Step.allocObj (ls := [(false, 1, Fact.nilv), (false, 1, Fact.nilv), (false, 1, Fact.rep [] (false : Bool))]) 14 rfl rfl rfl rfl zl61) ?_
 refine Wn ?_
 refine Lt ?_
 refine Cs ?_
 refine Cr ?_
 refine wo (Spec.fieldAddrO fd61_2 (Has.cv (Hs rfl) (Cv.isvP rfl))) ?_
 refine wo (Spec.loadF (i := 2) ty4 rfl (Hs rfl) rfl (HasG.s rfl)) ?_
 refine wo (Spec.build (us := [(2, .tmp 9)]) (ls' := [(false, 1, Fact.nilv), (false, 1, Fact.nilv), (false, 1, Fact.rep [] a0.Dead)]) bd61 rfl (BP.cons rfl rfl (Hs rfl) (Hs rfl) BP.nil)) ?_
 refine ws (Step.allocObj (ls := [(false, 1, Fact.nilv), (false, 1, Fact.nilv), (false, 1, Fact.rep [] (false : Bool))]) 18 rfl rfl rfl rfl zl61) ?_
 refine ws (Step.storeObj (ls := [(false, 1, Fact.nilv), (false, 1, Fact.nilv), (false, 1, Fact.rep [] a0.Dead)]) rfl ty61 rfl rfl (Hs rfl) rfl (HasL.flds (Hs rfl)) rfl) ?_
 refine Wn ?_
 refine Lt ?_
 refine Cs ?_
 refine Cs ?_
 refine Cr ?_
 refine wo (Spec.fieldAddrO fd61_0 (Has.cv (Hs rfl) (Cv.isvP rfl))) ?_
 refine wo (Spec.loadF (i := 0) ty36 rfl (Hs rfl) rfl (HasG.s rfl)) ?_
 refine wo (Spec.len (Hs rfl) Try.underlying36) ?_
 refine wo (Spec.move Has.int) ?_
 refine Wn ?_
 refine Lt ?_
 refine CWalk.block ?_
 obtain ⟨b7, hb7, hm⟩ := bind_some hm
 refine CWalk.loop (fun s : Int × (List (List UInt8)) => [.fact 1 (.isv 10), .fact 2 (.isv 14), .fact 3 (.isv 18), .fact 12 (.rep [0] a0.Blocks), .fact 13 (.rep [] (((a0.Blocks).length : Int) : Int)), .fact 14 (.rep [] s.1), .fact 100011 (.at 11 (.rep [0] a0.Blocks)), .fact 100012 (.at 12 (.rep [0] a0.Wait)), .fact 100013 (.at 13 (.rep [] a0.Dead)), .fact 100015 (.at 15 (.nilv)), .fact 100016 (.at 16 (.nilv)), .fact 100017 (.at 17 (.rep [] (false : Bool))), .fact 100019 (.at 19 (.ow [24] [22, 23] 37 (s.2 : List (List UInt8)))), .fact 100020 (.at 20 (.nilv)), .fact 100021 (.at 21 (.rep [] a0.Dead)), .fact 100010 (.obj 10 [(false, 1), (false, 1), (false, 1)]), .fact 100014 (.obj 14 [(false, 1), (false, 1), (false, 1)]), .fact 100018 (.obj 18 [(false, 1), (false, 1), (false, 1)])]) (fun b : (List (List UInt8)) => (Exit.exit 0, [.fact 1 (.isv 10), .fact 2 (.isv 14), .fact 3 (.isv 18), .fact 100011 (.at 11 (.rep [0] a0.Blocks)), .fact 100012 (.at 12 (.rep [0] a0.Wait)), .fact 100013 (.at 13 (.rep [] a0.Dead)), .fact 100015 (.at 15 (.nilv)), .fact 100016 (.at 16 (.nilv)), .fact 100017 (.at 17 (.rep [] (false : Bool))), .fact 100019 (.at 19 (.ow [24] [22, 23] 37 (b : List (List UInt8)))), .fact 100020 (.at 20 (.nilv)), .fact 100021 (.at 21 (.rep [] a0.Dead)), .fact 100010 (.obj 10 [(false, 1), (false, 1), (false, 1)]), .fact 100014 (.obj 14 [(false, 1), (false, 1), (false, 1)]), .fact 100018 (.obj 18 [(false, 1), (false, 1), (false, 1)])])) hb7 (sn (sn (sn (su (st (st (sm (sm (sf (sg (sg (sf (Sub.cons (Has.at (HasG.cv (HasG.s rfl) (Cv.trans Cv.nilOw (Cv.owM (T := []) (te := []) rfl rfl)))) (sg (sf (sn (sn (sn Sub.nil)))))))))))))))))) ?_ ?_
 ·rintro ⟨s1, s2⟩ c3 hm
  replace hm : disk_Twin_L1 a0 s1 s2 = some c3 := hm
  unfold disk_Twin_L1 at hm
  show CWalk _ [.fact 1 (.isv 10), .fact 2 (.isv 14), .fact 3 (.isv 18), .fact 12 (.rep [0] a0.Blocks), .fact 13 (.rep [] (((a0.Blocks).length : Int) : Int)), .fact 14 (.rep [] (s1 : Int)), .fact 100011 (.at 11 (.rep [0] a0.Blocks)), .fact 100012 (.at 12 (.rep [0] a0.Wait)), .fact 100013 (.at 13 (.rep [] a0.Dead)), .fact 100015 (.at 15 (.nilv)), .fact 100016 (.at 16 (.nilv)), .fact 100017 (.at 17 (.rep [] (false : Bool))), .fact 100019 (.at 19 (.ow [24] [22, 23] 37 (s2 : List (List UInt8)))), .fact 100020 (.at 20 (.nilv)), .fact 100021 (.at 21 (.rep [] a0.Dead)), .fact 100010 (.obj 10 [(false, 1), (false, 1), (false, 1)]), .fact 100014 (.obj 14 [(false, 1), (false, 1), (false, 1)]), .fact 100018 (.obj 18 [(false, 1), (false, 1), (false, 1)])] _ _
  refine Cs ?_
  refine Cr ?_
  refine wo (Spec.lssI (Hs rfl) (Hs rfl)) ?_
  refine Wn ?_
  refine Lt ?_
  refine Cs ?_
  refine CWalk.cond rfl (fun hb => ?_) (fun hb => ?_)
  ·have hm := cond_t hb hm
   refine CWalk.skip ?_
   refine Lt ?_
   refine Cs ?_
   refine CWalk.block ?_
   refine Cs ?_
   refine Cr ?_
   obtain ⟨x4, hx4, hm⟩ := bind_some hm
   refine wo (Spec.indexAddr hx4 sl36 (Hs rfl) (Hs rfl)) ?_
   refine wo (Spec.load ty37 (Hs rfl)) ?_
   refine wo (Spec.assign (Hs rfl)) ?_
   refine Wn ?_
   refine Lt ?_
   obtain ⟨x5, hx5, hm⟩ := bind_some hm
   obtain ⟨x6, hx6, hm⟩ := bind_some hm
   refine CWalk.drawM [[], [0], [], [2], [2, 3], [0, 1, 2, 3, 4], [0, 1, 2, 3, 4, 5], [0, 1, 2, 3, 4, 5, 6]] [[.fact 18 (.pto 18 0)], [.fact 19 (.ow [24] [22, 23] 37 (s2 : List (List UInt8)))], [.fact 20 (.rep [0] (x4 : List UInt8))], [.fact 21 (.ow [22] [] 5 (x5 : List UInt8))], [.fact 22 (.rep [23, 22] ([x5] : List (List UInt8)))], [.fact 23 (.ow [24] [22, 23] 37 (x6 : List (List UInt8))), .kill 24], [.fact 24 (.pto 18 0)], [.fact 100019 (.at 19 (.ow [24] [22, 23] 37 (x6 : List (List UInt8)))), .fact 100018 (.obj 18 [(false, 1), (false, 1), (false, 1)]), .kill 18, .killId 19]] mixed (by kernel_rfl) (ao (so (Spec.fieldAddrO fd61_0 (Has.cv (Hs rfl) (Cv.isvP rfl)))) (ao (so (Spec.loadF (i := 0) ty36 rfl (Hs rfl) rfl (HasG.s rfl))) (ao (so (Spec.move (Hs rfl))) (ao (so (Spec.callE [0] 22 rfl en78 (slices_Clone_byte_byte_c x4 hx5) (HasAll.cons (Has.m (Hs rfl) rfl) HasAll.nil))) (ao (so (Spec.lit (xs := [.tmp 21]) (T := [22]) 23 rfl ow36 rfl rfl rfl rfl (HasEach.cons (Has.m (Has.cv (Hs rfl) (Cv.trans Cv.owSl (Cv.slRep (T' := [22]) rfl rfl))) rfl) HasEach.nil))) (ao (StepG.stE (Step.appendOw (T := [24]) (te' := [22, 23]) hx6 rfl rfl rfl ow36 (Hs rfl) (Hs rfl) (ElKeeps.tags rfl rfl) (ElKeeps.tags rfl rfl))) (ao (so (Spec.fieldAddrO fd61_0 (Has.cv (Hs rfl) (Cv.isvP rfl)))) (ao (StepG.stE (Step.storeF (i := 0) (f := Fact.ow [24] [22, 23] 37 (x6 : List (List UInt8))) rfl ty36 rfl (Hs rfl) rfl (Has.cv (Hs rfl) (Cv.trans Cv.owSl (Cv.slRep (T' := [22, 23, 24]) rfl rfl))) (Hs rfl) rfl)) AllM.nil)))))))) ?_
   refine Leaf.blockN ?_
   refine Lt ?_
   refine Cr ?_
   refine wo (Spec.addI (Hs rfl) Has.int) ?_
   refine mv ?_
   refine Wn ?_
   exact Leaf.next hm (sn (sn (sn (su (st (st (sm (sm (sf (sg (sg (sf (Sub.cons (Has.at (HasG.cv (HasG.s rfl) (Cv.owM (T := [24]) (te := [22, 23]) rfl rfl))) (sg (sf (sn (sn (sn Sub.nil))))))))))))))))))
  ·have hm := cond_f hb hm
   refine CWalk.exit ?_
   refine Leaf.thenE ?_
   exact Leaf.brk hm (fun h => nomatch h) rfl (sn (sn (sn (sm (sm (sf (sg (sg (sf (Sub.cons (Has.at (HasG.cv (HasG.s rfl) (Cv.owM (T := [24]) (te := [22, 23]) rfl rfl))) (sg (sf (sn (sn (sn Sub.nil)))))))))))))))
 ·intro _
  refine Leaf.blockE ?_
  refine Lt ?_
  refine Cs ?_
  refine Cs ?_
  refine Cr ?_
  refine wo (Spec.fieldAddrO fd61_1 (Has.cv (Hs rfl) (Cv.isvP rfl))) ?_
  refine wo (Spec.loadF (i := 1) ty59 rfl (Hs rfl) rfl (HasG.s rfl)) ?_
  refine wo (Spec.len (Hs rfl) Try.underlying59) ?_
  refine wo (Spec.move Has.int) ?_
  refine Wn ?_
  refine Lt ?_
  refine CWalk.block ?_
  obtain ⟨b14, hb14, hm⟩ := bind_some hm
  refine CWalk.loop (fun s : Int × (List Write) => [.fact 2 (.isv 14), .fact 3 (.isv 18), .fact 27 (.rep [0] a0.Wait), .fact 28 (.rep [] (((a0.Wait).length : Int) : Int)), .fact 29 (.rep [] s.1), .fact 100015 (.at 15 (.nilv)), .fact 100016 (.at 16 (.nilv)), .fact 100017 (.at 17 (.rep [] (false : Bool))), .fact 100019 (.at 19 (.ow [24] [22, 23] 37 (b7 : List (List UInt8)))), .fact 100020 (.at 20 (.ow [30] [28, 29] 86 (s.2 : List Write))), .fact 100021 (.at 21 (.rep [] a0.Dead)), .fact 100014 (.obj 14 [(false, 1), (false, 1), (false, 1)]), .fact 100018 (.obj 18 [(false, 1), (false, 1), (false, 1)])]) (fun b : (List Write) => (Exit.exit 2, [.fact 2 (.isv 14), .fact 3 (.isv 18), .fact 100015 (.at 15 (.nilv)), .fact 100016 (.at 16 (.nilv)), .fact 100017 (.at 17 (.rep [] (false : Bool))), .fact 100019 (.at 19 (.ow [24] [22, 23] 37 (b7 : List (List UInt8)))), .fact 100020 (.at 20 (.ow [30] [28, 29] 86 (b : List Write))), .fact 100021 (.at 21 (.rep [] a0.Dead)), .fact 100014 (.obj 14 [(false, 1), (false, 1), (false, 1)]), .fact 100018 (.obj 18 [(false, 1), (false, 1), (false, 1)])])) hb14 (sn (sn (su (st (st (sg (sg (sf (Sub.cons (Has.at (HasG.cv (HasG.s rfl) (Cv.owM (T := [24]) (te := [22, 23]) rfl rfl))) (Sub.cons (Has.at (HasG.cv (HasG.s rfl) (Cv.trans Cv.nilOw (Cv.owM (T := []) (te := []) rfl rfl)))) (sf (sn (sn Sub.nil))))))))))))) ?_ ?_
  ·rintro ⟨s8, s9⟩ c10 hm
   replace hm : disk_Twin_L2 a0 s8 s9 = some c10 := hm
   unfold disk_Twin_L2 at hm
   show CWalk _ [.fact 2 (.isv 14), .fact 3 (.isv 18), .fact 27 (.rep [0] a0.Wait), .fact 28 (.rep [] (((a0.Wait).length : Int) : Int)), .fact 29 (.rep [] (s8 : Int)), .fact 100015 (.at 15 (.nilv)), .fact 100016 (.at 16 (.nilv)), .fact 100017 (.at 17 (.rep [] (false : Bool))), .fact 100019 (.at 19 (.ow [24] [22, 23] 37 (b7 : List (List UInt8)))), .fact 100020 (.at 20 (.ow [30] [28, 29] 86 (s9 : List Write))), .fact 100021 (.at 21 (.rep [] a0.Dead)), .fact 100014 (.obj 14 [(false, 1), (false, 1), (false, 1)]), .fact 100018 (.obj 18 [(false, 1), (false, 1), (false, 1)])] _ _
   refine Cs ?_
   refine Cr ?_
   refine wo (Spec.lssI (Hs rfl) (Hs rfl)) ?_
   refine Wn ?_
   refine Lt ?_
   refine Cs ?_
   refine CWalk.cond rfl (fun hb => ?_) (fun hb => ?_)
   ·have hm := cond_t hb hm
    refine CWalk.skip ?_
    refine Lt ?_
    refine Cs ?_
    refine CWalk.block ?_
    refine Cs ?_
    refine Cr ?_
    obtain ⟨x11, hx11, hm⟩ := bind_some hm
    refine wo (Spec.indexAddr hx11 sl59 (Hs rfl) (Hs rfl)) ?_
    refine wo (Spec.load ty86 (Hs rfl)) ?_
    refine ws (Step.allocObj (ls := [(false, 1, Fact.rep [] ((0 : Int) : Int)), (false, 1, Fact.nilv)]) 25 rfl rfl rfl rfl zl86) ?_
    refine ws (Step.storeObj (ls := [(false, 1, Fact.rep [] x11.At), (false, 1, Fact.rep [0] x11.Data)]) rfl ty86 rfl rfl (Hs rfl) rfl (HasL.flds (Has.cv (Hs rfl) (Cv.trans (Cv.opens (chWrite x11)) (Cv.flds (Vf (CvL.cons Cv.refl CvL.nil)))))) rfl) ?_
    refine Wn ?_
    refine Lt ?_
    obtain ⟨x12, hx12, hm⟩ := bind_some hm
    obtain ⟨x13, hx13, hm⟩ := bind_some hm
    refine CWalk.drawM [[], [0], [], [2], [], [4], [4, 5], [2, 3, 4, 5, 6], [2, 3, 4, 5, 6, 7], [0, 1, 2, 3, 4, 5, 6, 7, 8], [0, 1, 2, 3, 4, 5, 6, 7, 8, 9], [0, 1, 2, 3, 4, 5, 6, 7, 8, 9, 10]] [[.fact 33 (.pto 18 1)], [.fact 34 (.ow [30] [28, 29] 86 (s9 : List Write))], [.fact 35 (.pto 25 0)], [.fact 36 (.rep [] x11.At)], [.fact 37 (.pto 25 1)], [.fact 38 (.rep [0] x11.Data)], [.fact 39 (.ow [28] [] 5 (x12 : List UInt8))], [.fact 40 (.flds [(false, 1, Fact.rep [] x11.At), (false, 1, Fact.ow [28] [] 5 (x12 : List UInt8))])], [.fact 41 (.rep [29, 28] ([(Write.mk x11.At x12)] : List Write))], [.fact 42 (.ow [30] [28, 29] 86 (x13 : List Write)), .kill 30], [.fact 43 (.pto 18 1)], [.fact 100020 (.at 20 (.ow [30] [28, 29] 86 (x13 : List Write))), .fact 100018 (.obj 18 [(false, 1), (false, 1), (false, 1)]), .kill 18, .killId 20]] mixed (by kernel_rfl) (ao (so (Spec.fieldAddrO fd61_1 (Has.cv (Hs rfl) (Cv.isvP rfl)))) (ao (so (Spec.loadF (i := 1) ty59 rfl (Hs rfl) rfl (HasG.s rfl))) (ao (so (Spec.fieldAddrO fd86_0 (Has.cv (Hs rfl) (Cv.isvP rfl)))) (ao (so (Spec.loadF (i := 0) ty3 rfl (Hs rfl) rfl (HasG.s rfl))) (ao (so (Spec.fieldAddrO fd86_1 (Has.cv (Hs rfl) (Cv.isvP rfl)))) (ao (so (Spec.loadF (i := 1) ty37 rfl (Hs rfl) rfl (HasG.s rfl))) (ao (so (Spec.callE [0] 28 rfl en78 (slices_Clone_byte_byte_c x11.Data hx12) (HasAll.cons (Has.m (Hs rfl) rfl) HasAll.nil))) (ao (so (Spec.build (us := [(0, .tmp 36), (1, .tmp 39)]) (ls' := [(false, 1, Fact.rep [] x11.At), (false, 1, Fact.ow [28] [] 5 (x12 : List UInt8))]) bd86 rfl (BP.cons rfl rfl (Hs rfl) (Hs rfl) (BP.cons rfl rfl (Has.cv (Hs rfl) (Cv.trans Cv.owSl (Cv.slRep (T' := [28]) rfl rfl))) (Hs rfl) BP.nil)))) (ao (so (Spec.lit (xs := [.tmp 40]) (T := [28]) 29 rfl ow59 rfl rfl rfl rfl (HasEach.cons (Has.m (Has.cv (Hs rfl) (Cv.trans (Cv.flds (Vf (CvL.cons (Cv.trans (Cv.trans Cv.owSl (Cv.slRep (T' := [28]) rfl rfl)) (Cv.m rfl)) CvL.nil))) (Cv.close (T := [28]) (chWrite (Write.mk x11.At x12))))) rfl) HasEach.nil))) (ao (StepG.stE (Step.appendOw (T := [30]) (te' := [28, 29]) hx13 rfl rfl rfl ow59 (Hs rfl) (Hs rfl) (ElKeeps.tags rfl rfl) (ElKeeps.tags rfl rfl))) (ao (so (Spec.fieldAddrO fd61_1 (Has.cv (Hs rfl) (Cv.isvP rfl)))) (ao (StepG.stE (Step.storeF (i := 1) (f := Fact.ow [30] [28, 29] 86 (x13 : List Write)) rfl ty59 rfl (Hs rfl) rfl (Has.cv (Hs rfl) (Cv.trans Cv.owSl (Cv.slRep (T' := [28, 29, 30]) rfl rfl))) (Hs rfl) rfl)) AllM.nil)))))))))))) ?_
    refine Leaf.blockN ?_
    refine Lt ?_
    refine Cr ?_
    refine wo (Spec.addI (Hs rfl) Has.int) ?_
    refine mv ?_
    refine Wn ?_
    exact Leaf.next hm (sn (sn (su (st (st (sg (sg (sf (Sub.cons (Has.at (HasG.cv (HasG.s rfl) (Cv.owM (T := [24]) (te := [22, 23]) rfl rfl))) (Sub.cons (Has.at (HasG.cv (HasG.s rfl) (Cv.owM (T := [30]) (te := [28, 29]) rfl rfl))) (sf (sn (sn Sub.nil)))))))))))))
   ·have hm := cond_f hb hm
    refine CWalk.exit ?_
    refine Leaf.thenE ?_
    exact Leaf.brk hm (fun h => nomatch h) rfl (sn (sn (sg (sg (sf (Sub.cons (Has.at (HasG.cv (HasG.s rfl) (Cv.owM (T := [24]) (te := [22, 23]) rfl rfl))) (Sub.cons (Has.at (HasG.cv (HasG.s rfl) (Cv.owM (T := [30]) (te := [28, 29]) rfl rfl))) (sf (sn (sn Sub.nil))))))))))
  ·intro _
   refine Leaf.blockE ?_
   refine Lt ?_
   refine Cs ?_
   refine Cr ?_
   refine wo (Spec.loadObj (ls := [(false, 1, Fact.ow [24] [22, 23] 37 (b7 : List (List UInt8))), (false, 1, Fact.ow [30] [28, 29] 86 (b14 : List Write)), (false, 1, Fact.rep [] a0.Dead)]) ty61 rfl rfl (Hs rfl) rfl (Gz rfl (Gz rfl (Gz rfl HasGs.nil)))) ?_
   refine ws (Step.storeObj (ls := [(false, 1, Fact.ow [24] [22, 23] 37 (b7 : List (List UInt8))), (false, 1, Fact.ow [30] [28, 29] 86 (b14 : List Write)), (false, 1, Fact.rep [] a0.Dead)]) rfl ty61 rfl rfl (Hs rfl) rfl (HasL.flds (Hs rfl)) rfl) ?_
   refine Wn ?_
   refine Lt ?_
   refine CWalk.ret ?_
   obtain rfl := Option.some.inj hm
   exact Leaf.retC1 rfl (HasR.cv (HasR.obj (ls := [(false, 1, Fact.ow [24] [22, 23] 37 (b7 : List (List UInt8))), (false, 1, Fact.ow [30] [28, 29] 86 (b14 : List Write)), (false, 1, Fact.rep [] a0.Dead)]) ty61 rfl rfl (Hs rfl) rfl (Gz rfl (Gz rfl (Gz rfl HasGs.nil)))) (Cv.flds (CvL.cons (Cv.owM (T := [24]) (te := [22, 23]) rfl rfl) (CvL.cons (Cv.owM (T := [30]) (te := [28, 29]) rfl rfl) (Vf CvL.nil)))))

def acts_twins_L1 (a0 : List Disk) (s1 : List Disk) (s2 : Int) : Option (Ctl ((List Disk) × Int) ((List Disk))) :=
  (bif (decide (s2 < ((a0).length : Int))) then Option.bind (idx a0 s2) (fun x4 => Option.bind (disk_Twin x4) (fun x5 => Option.bind (app s1 ([x5])) (fun x6 => some (Ctl.next (x6, (wI (s2 + (1 : Int)))))))) else some (Ctl.brk s1))
/-- freeboard/acts.twins -/
def acts_twins (a0 : List Disk) : Option ((List Disk)) :=
  Option.bind (loopM (fun s : (List Disk) × Int => acts_twins_L1 a0 s.1 s.2) FUEL (([] : List Disk), (0 : Int))) (fun b7 => some b7)
theorem acts_twins_c (a0 : List Disk) {r : (List Disk)} (hm : acts_twins a0 = some r) : Ctr Try.prog 43 [.rep 0 a0] (.own 0 (some 1) 61 r) [] := by
 refine ctr_of_walk [[19], [14, 15, 16, 17, 18]] 19 Try.func43 rfl rfl rfl rfl (fun w0 om => ?_)
 unfold acts_twins at hm
 refine CWalk.sub (G' := [.fact 0 (.rep [0] (a0 : List Disk))]) (sn Sub.nil) ?_
 refine Cs ?_
 refine Cr ?_
 refine wo (Spec.assign Has.nilv) ?_
 refine Wn ?_
 refine Lt ?_
 refine Cs ?_
 refine Cr ?_
 refine wo (Spec.assign Has.nilv) ?_
 refine Wn ?_
 refine Lt ?_
 refine Cs ?_
 refine Cs ?_
 refine Cr ?_
 refine mv ?_
 refine wo (Spec.len (Hs rfl) Try.underlying49) ?_
 refine wo (Spec.move Has.int) ?_
 refine Wn ?_
 refine Lt ?_
 refine CWalk.block ?_
 obtain ⟨b7, hb7, hm⟩ := bind_some hm
 refine CWalk.loop (fun s : (List Disk) × Int => [.fact 3 (.ow [19] [14, 15, 16, 17, 18] 61 (s.1 : List Disk)), .fact 6 (.rep [0] (a0 : List Disk)), .fact 7 (.rep [] (((a0).length : Int) : Int)), .fact 8 (.rep [] s.2)]) (fun b : (List Disk) => (Exit.exit 0, [.fact 3 (.ow [19] [14, 15, 16, 17, 18] 61 (b : List Disk))])) hb7 (Sub.cons (Has.cv (Hs rfl) (Cv.trans Cv.nilOw (Cv.owM (T := []) (te := []) rfl rfl))) (su (st (st Sub.nil)))) ?_ ?_
 ·rintro ⟨s1, s2⟩ c3 hm
  replace hm : acts_twins_L1 a0 s1 s2 = some c3 := hm
  unfold acts_twins_L1 at hm
  show CWalk _ [.fact 3 (.ow [19] [14, 15, 16, 17, 18] 61 (s1 : List Disk)), .fact 6 (.rep [0] (a0 : List Disk)), .fact 7 (.rep [] (((a0).length : Int) : Int)), .fact 8 (.rep [] (s2 : Int))] _ _
  refine Cs ?_
  refine Cr ?_
  refine wo (Spec.lssI (Hs rfl) (Hs rfl)) ?_
  refine Wn ?_
  refine Lt ?_
  refine Cs ?_
  refine CWalk.cond rfl (fun hb => ?_) (fun hb => ?_)
  ·have hm := cond_t hb hm
   refine CWalk.skip ?_
   refine Lt ?_
   refine Cs ?_
   refine CWalk.block ?_
   refine Cs ?_
   refine Cr ?_
   obtain ⟨x4, hx4, hm⟩ := bind_some hm
   refine wo (Spec.indexAddr hx4 sl49 (Hs rfl) (Hs rfl)) ?_
   refine wo (Spec.load ty61 (Hs rfl)) ?_
   refine ws (Step.allocObj (ls := [(false, 1, Fact.nilv), (false, 1, Fact.nilv), (false, 1, Fact.rep [] (false : Bool))]) 10 rfl rfl rfl rfl zl61) ?_
   refine ws (Step.storeObj (ls := [(false, 1, Fact.rep [0] x4.Blocks), (false, 1, Fact.rep [0] x4.Wait), (false, 1, Fact.rep [] x4.Dead)]) rfl ty61 rfl rfl (Hs rfl) rfl (HasL.flds (Has.cv (Hs rfl) (Cv.trans (Cv.opens (chDisk x4)) (Cv.flds (CvL.cons Cv.refl (CvL.cons Cv.refl (Vf CvL.nil))))))) rfl) ?_
   refine Wn ?_
   refine Lt ?_
   refine Cr ?_
   refine mv ?_
   refine wo (Spec.loadObj (ls := [(false, 1, Fact.rep [0] x4.Blocks), (false, 1, Fact.rep [0] x4.Wait), (false, 1, Fact.rep [] x4.Dead)]) ty61 rfl rfl (Hs rfl) rfl (Gz rfl (Gz rfl (Gz rfl HasGs.nil)))) ?_
   obtain ⟨x5, hx5, hm⟩ := bind_some hm
   refine wo (f := Fact.flds [(false, 1, Fact.ow [14] [15] 37 (x5.Blocks : List (List UInt8))), (false, 1, Fact.ow [16] [17] 86 (x5.Wait : List Write)), (false, 1, Fact.rep [] x5.Dead)]) (Spec.callE [0] 14 rfl en50 (disk_Twin_c x4 hx5) (HasAll.cons (Has.m (Has.cv (Hs rfl) (Cv.trans (Cv.flds (CvL.cons (Cv.m rfl) (CvL.cons (Cv.m rfl) (Vf CvL.nil)))) (Cv.close (T := [0]) (chDisk x4)))) rfl) HasAll.nil)) ?_
   refine wo (Spec.lit (xs := [.tmp 14]) (T := [14, 15, 16, 17]) 18 rfl ow49 rfl rfl rfl rfl (HasEach.cons (Has.m (Has.cv (Hs rfl) (Cv.trans (Cv.flds (CvL.cons (Cv.trans (Cv.trans Cv.owSl (Cv.slRep (T' := [14, 15]) rfl rfl)) (Cv.m rfl)) (CvL.cons (Cv.trans (Cv.trans Cv.owSl (Cv.slRep (T' := [16, 17]) rfl rfl)) (Cv.m rfl)) (Vf CvL.nil)))) (Cv.close (T := [14, 15, 16, 17]) (chDisk x5)))) rfl) HasEach.nil)) ?_
   obtain ⟨x6, hx6, hm⟩ := bind_some hm
   refine ws (Step.appendOw (T := [19]) (te' := [14, 15, 16, 17, 18]) hx6 rfl rfl rfl ow49 (Hs rfl) (Hs rfl) (ElKeeps.tags rfl rfl) (ElKeeps.tags rfl rfl)) ?_
   refine wo (Spec.assign (Hs rfl)) ?_
   refine Wn ?_
   refine Leaf.blockN ?_
   refine Lt ?_
   refine Cr ?_
   refine wo (Spec.addI (Hs rfl) Has.int) ?_
   refine mv ?_
   refine Wn ?_
   exact Leaf.next hm (Sub.cons (Has.cv (Hs rfl) (Cv.owM (T := [19]) (te := [14, 15, 16, 17, 18]) rfl rfl)) (su (st (st Sub.nil))))
  ·have hm := cond_f hb hm
   refine CWalk.exit ?_
   refine Leaf.thenE ?_
   exact Leaf.brk hm (fun h => nomatch h) rfl (Sub.cons (Has.cv (Hs rfl) (Cv.owM (T := [19]) (te := [14, 15, 16, 17, 18]) rfl rfl)) Sub.nil)
 ·intro _
  refine Leaf.blockE ?_
  refine Lt ?_
  refine Cs ?_
  refine Cr ?_
  refine mv ?_
  refine wo (Spec.assign (Hs rfl)) ?_
  refine Wn ?_
  refine Lt ?_
  refine CWalk.ret ?_
  obtain rfl := Option.some.inj hm
  exact Leaf.retC1 rfl (HasR.cv (HasR.tmp (Hs rfl)) (Cv.owM (T := [19]) (te := [14, 15, 16, 17, 18]) rfl rfl))

/-- freeboard/disk.place -/
def disk_place (a0 : Disk) (a1 : Int) : Option (Int) :=
  Option.bind (disk_Check a0) (fun x1 => (bif (x1 != (0 : Int)) then some x1 else (bif ((decide (a1 < (0 : Int))) || (decide (a1 ≥ ((a0.Blocks).length : Int)))) then some (2 : Int) else some (0 : Int))))
theorem disk_place_c (a0 : Disk) (a1 : Int) {r : Int} (hm : disk_place a0 a1 = some r) : Ctr Try.prog 76 [.rep 0 a0, .rep 0 a1] (.fl r) [] := by
 refine ctr_of_walk [[]] 20 Try.func76 rfl rfl rfl rfl (fun w0 om => ?_)
 unfold disk_place at hm
 refine CWalk.sub (G' := [.fact 0 (.rep [0] (a0 : Disk)), .fact 1 (.rep [] (a1 : Int))]) (sn (Sub.cons (Has.fl (Hs rfl)) Sub.nil)) ?_
 refine Cs ?_
 refine Cr ?_
 refine ws (Step.boxObj (ls := [(false, 1, Fact.rep [0] a0.Blocks), (false, 1, Fact.rep [0] a0.Wait), (false, 1, Fact.rep [] a0.Dead)]) 10 rfl rfl rfl rfl (HasL.flds (Has.cv (Hs rfl) (Cv.trans (Cv.opens (chDisk a0)) (Cv.flds (CvL.cons Cv.refl (CvL.cons Cv.refl (Vf CvL.nil)))))))) ?_
 refine wo (Spec.assign Has.int) ?_
 refine Wn ?_
 refine Lt ?_
 refine Cs ?_
 refine Cs ?_
 refine Cr ?_
 refine wo (Spec.loadObj (ls := [(false, 1, Fact.rep [0] a0.Blocks), (false, 1, Fact.rep [0] a0.Wait), (false, 1, Fact.rep [] a0.Dead)]) ty61 rfl rfl (Hs rfl) rfl (Gz rfl (Gz rfl (Gz rfl HasGs.nil)))) ?_
 obtain ⟨x1, hx1, hm⟩ := bind_some hm
 refine wo (f := Fact.rep [] (x1 : Int)) (Spec.callE [0] 14 rfl en39 (disk_Check_c a0 hx1) (HasAll.cons (Has.m (Has.cv (Hs rfl) (Cv.trans (Cv.flds (CvL.cons (Cv.m rfl) (CvL.cons (Cv.m rfl) (Vf CvL.nil)))) (Cv.close (T := [0]) (chDisk a0)))) rfl) HasAll.nil)) ?_
 refine wo (Spec.assign (Hs rfl)) ?_
 refine Wn ?_
 refine Lt ?_
 refine Cs ?_
 refine Cr ?_
 refine mv ?_
 refine wo (Spec.neqI (Hs rfl) Has.int) ?_
 refine Wn ?_
 refine Lt ?_
 refine CWalk.cond rfl (fun hb => ?_) (fun hb => ?_)
 ·have hm := cond_t hb hm
  refine Cs ?_
  refine Cr ?_
  refine mv ?_
  refine wo (Spec.assign (Hs rfl)) ?_
  refine Wn ?_
  refine Lt ?_
  refine CWalk.ret ?_
  refine Leaf.thenR ?_
  obtain rfl := Option.some.inj hm
  exact Leaf.retC1 rfl (HasR.cv (HasR.tmp (Hs rfl)) Cv.fl)
 ·have hm := cond_f hb hm
  refine CWalk.skip ?_
  refine Lt ?_
  refine Cs ?_
  refine Cs ?_
  refine Cr ?_
  refine mv ?_
  refine wo (Spec.lssI (Hs rfl) Has.int) ?_
  refine mv ?_
  refine wg rfl rfl (fun hb => Spec.move (Hs rfl)) ?_
  refine wg rfl rfl (fun hb => Spec.fieldAddrO fd61_0 (Has.cv (Hs rfl) (Cv.isvP rfl))) ?_
  refine wg rfl rfl (fun hb => Spec.loadF (i := 0) ty36 rfl (Has.u rfl hb) rfl (HasG.s rfl)) ?_
  refine wg rfl rfl (fun hb => Spec.len (Has.u rfl hb) Try.underlying36) ?_
  refine wg rfl rfl (fun hb => Spec.geqI (Has.u rfl hb) (Has.u rfl hb)) ?_
  refine wo (Spec.or (Hs rfl) (fun h => Has.u rfl h)) ?_
  refine Wn ?_
  refine Lt ?_
  refine CWalk.cond rfl (fun hb => ?_) (fun hb => ?_)
  ·have hm := cond_t hb hm
   refine Cs ?_
   refine Cr ?_
   refine wo (Spec.assign Has.int) ?_
   refine Wn ?_
   refine Lt ?_
   refine CWalk.ret ?_
   refine Leaf.thenR ?_
   obtain rfl := Option.some.inj hm
   exact Leaf.retC1 rfl (HasR.cv (HasR.tmp (Hs rfl)) Cv.fl)
  ·have hm := cond_f hb hm
   refine CWalk.skip ?_
   refine Lt ?_
   refine Cs ?_
   refine Cr ?_
   refine wo (Spec.assign Has.int) ?_
   refine Wn ?_
   refine Lt ?_
   refine CWalk.ret ?_
   obtain rfl := Option.some.inj hm
   exact Leaf.retC1 rfl (HasR.cv (HasR.tmp (Hs rfl)) Cv.fl)

/-- freeboard/disk.write -/
def disk_write (a0 : Disk) (a1 : Int) (a2 : List UInt8) : Option (Int) :=
  Option.bind (disk_place a0 a1) (fun x1 => (bif (x1 != (0 : Int)) then some x1 else Option.bind (disk_odd a2) (fun x2 => (bif x2 then some (3 : Int) else (bif a0.Dead then some (40 : Int) else some (0 : Int))))))
theorem disk_write_c (a0 : Disk) (a1 : Int) (a2 : List UInt8) {r : Int} (hm : disk_write a0 a1 a2 = some r) : Ctr Try.prog 102 [.rep 0 a0, .rep 0 a1, .rep 0 a2] (.fl r) [] := by
 refine ctr_of_walk [[]] 21 Try.func102 rfl rfl rfl rfl (fun w0 om => ?_)
 unfold disk_write at hm
 refine CWalk.sub (G' := [.fact 0 (.rep [0] (a0 : Disk)), .fact 1 (.rep [] (a1 : Int)), .fact 2 (.rep [0] (a2 : List UInt8))]) (sn (Sub.cons (Has.fl (Hs rfl)) (sn Sub.nil))) ?_
 refine Cs ?_
 refine Cr ?_
 refine ws (Step.boxObj (ls := [(false, 1, Fact.rep [0] a0.Blocks), (false, 1, Fact.rep [0] a0.Wait), (false, 1, Fact.rep [] a0.Dead)]) 10 rfl rfl rfl rfl (HasL.flds (Has.cv (Hs rfl) (Cv.trans (Cv.opens (chDisk a0)) (Cv.flds (CvL.cons Cv.refl (CvL.cons Cv.refl (Vf CvL.nil)))))))) ?_
 refine wo (Spec.assign Has.int) ?_
 refine Wn ?_
 refine Lt ?_
 refine Cs ?_
 refine Cr ?_
 refine wo (Spec.loadObj (ls := [(false, 1, Fact.rep [0] a0.Blocks), (false, 1, Fact.rep [0] a0.Wait), (false, 1, Fact.rep [] a0.Dead)]) ty61 rfl rfl (Hs rfl) rfl (Gz rfl (Gz rfl (Gz rfl HasGs.nil)))) ?_
 refine mv ?_
 obtain ⟨x1, hx1, hm⟩ := bind_some hm
 refine wo (f := Fact.rep [] (x1 : Int)) (Spec.callE [0] 14 rfl en76 (disk_place_c a0 a1 hx1) (HasAll.cons (Has.m (Has.cv (Hs rfl) (Cv.trans (Cv.flds (CvL.cons (Cv.m rfl) (CvL.cons (Cv.m rfl) (Vf CvL.nil)))) (Cv.close (T := [0]) (chDisk a0)))) rfl) (HasAll.cons (Has.fl (Hs rfl)) HasAll.nil))) ?_
 refine wo (Spec.assign (Hs rfl)) ?_
 refine Wn ?_
 refine Lt ?_
 refine Cs ?_
 refine CWalk.block ?_
 refine Cs ?_
 refine Cr ?_
 refine mv ?_
 refine wo (Spec.neqI (Hs rfl) Has.int) ?_
 refine wo (Spec.assign (Hs rfl)) ?_
 refine Wn ?_
 refine Lt ?_
 refine CWalk.cond rfl (fun hb => ?_) (fun hb => ?_)
 ·have hm := cond_t hb hm
  refine Cs ?_
  refine Cr ?_
  refine mv ?_
  refine wo (Spec.assign (Hs rfl)) ?_
  refine Wn ?_
  refine Lt ?_
  refine CWalk.ret ?_
  refine Leaf.blockR ?_
  refine Leaf.thenR ?_
  obtain rfl := Option.some.inj hm
  exact Leaf.retC1 rfl (HasR.cv (HasR.tmp (Hs rfl)) Cv.fl)
 ·have hm := cond_f hb hm
  refine Cs ?_
  refine Cr ?_
  refine mv ?_
  obtain ⟨x2, hx2, hm⟩ := bind_some hm
  refine wo (f := Fact.rep [] (x2 : Bool)) (Spec.callE [0] 15 rfl en66 (disk_odd_c a2 hx2) (HasAll.cons (Has.m (Hs rfl) rfl) HasAll.nil)) ?_
  refine wo (Spec.assign (Hs rfl)) ?_
  refine Wn ?_
  refine Lt ?_
  refine CWalk.cond rfl (fun hb => ?_) (fun hb => ?_)
  ·have hm := cond_t hb hm
   refine Cs ?_
   refine Cr ?_
   refine wo (Spec.assign Has.int) ?_
   refine Wn ?_
   refine Lt ?_
   refine CWalk.ret ?_
   refine Leaf.blockR ?_
   refine Leaf.thenR ?_
   obtain rfl := Option.some.inj hm
   exact Leaf.retC1 rfl (HasR.cv (HasR.tmp (Hs rfl)) Cv.fl)
  ·have hm := cond_f hb hm
   refine Cs ?_
   refine Cr ?_
   refine wo (Spec.fieldAddrO fd61_2 (Has.cv (Hs rfl) (Cv.isvP rfl))) ?_
   refine wo (Spec.loadF (i := 2) ty4 rfl (Hs rfl) rfl (HasG.s rfl)) ?_
   refine wo (Spec.assign (Hs rfl)) ?_
   refine Wn ?_
   refine Lt ?_
   refine CWalk.cond rfl (fun hb => ?_) (fun hb => ?_)
   ·have hm := cond_t hb hm
    refine Cs ?_
    refine Cr ?_
    refine wo (Spec.assign Has.int) ?_
    refine Wn ?_
    refine Lt ?_
    refine CWalk.ret ?_
    refine Leaf.blockR ?_
    refine Leaf.thenR ?_
    obtain rfl := Option.some.inj hm
    exact Leaf.retC1 rfl (HasR.cv (HasR.tmp (Hs rfl)) Cv.fl)
   ·have hm := cond_f hb hm
    refine CWalk.skip ?_
    refine Leaf.blockN ?_
    refine Lt ?_
    refine Cs ?_
    refine Cr ?_
    refine wo (Spec.assign Has.int) ?_
    refine Wn ?_
    refine Lt ?_
    refine CWalk.ret ?_
    obtain rfl := Option.some.inj hm
    exact Leaf.retC1 rfl (HasR.cv (HasR.tmp (Hs rfl)) Cv.fl)

/-- freeboard/disk.block -/
def disk_block (a0 : List UInt8) : Option ((List UInt8)) :=
  (bif (((a0).length : Int) == (0 : Int)) then Option.bind (makeL (0 : UInt8) (128 : Int)) (fun x1 => some x1) else Option.bind (slices_Clone_byte_byte a0) (fun x2 => some x2))
theorem disk_block_c (a0 : List UInt8) {r : (List UInt8)} (hm : disk_block a0 = some r) : Ctr Try.prog 48 [.rep 0 a0] (.own 0 none 5 r) [] := by
 refine ctr_of_walk [[10, 11]] 9 Try.func48 rfl rfl rfl rfl (fun w0 om => ?_)
 unfold disk_block at hm
 refine CWalk.sub (G' := [.fact 0 (.rep [0] (a0 : List UInt8))]) (sn Sub.nil) ?_
 refine Cs ?_
 refine Cr ?_
 refine wo (Spec.assign Has.nilv) ?_
 refine Wn ?_
 refine Lt ?_
 refine Cs ?_
 refine Cs ?_
 refine Cr ?_
 refine mv ?_
 refine wo (Spec.len (Hs rfl) Try.underlying37) ?_
 refine wo (Spec.eqlI (Hs rfl) Has.int) ?_
 refine Wn ?_
 refine Lt ?_
 refine CWalk.cond rfl (fun hb => ?_) (fun hb => ?_)
 ·have hm := cond_t hb hm
  refine Cs ?_
  refine Cr ?_
  obtain ⟨x1, hx1, hm⟩ := bind_some hm
  refine ws (Step.makeOwn 10 hx1 rfl rfl ow37 zt5 Has.int) ?_
  refine wo (Spec.assign (Hs rfl)) ?_
  refine Wn ?_
  refine Lt ?_
  refine CWalk.ret ?_
  refine Leaf.thenR ?_
  obtain rfl := Option.some.inj hm
  exact Leaf.retC1 rfl (HasR.cv (HasR.tmp (Hs rfl)) (Cv.trans (Cv.isvOw rfl) (Cv.owF (T := [10]) (te := []) rfl)))
 ·have hm := cond_f hb hm
  refine CWalk.skip ?_
  refine Lt ?_
  refine Cs ?_
  refine Cr ?_
  refine mv ?_
  obtain ⟨x2, hx2, hm⟩ := bind_some hm
  refine wo (f := Fact.ow [11] [] 5 (x2 : List UInt8)) (Spec.callE [0] 11 rfl en78 (slices_Clone_byte_byte_c a0 hx2) (HasAll.cons (Has.m (Hs rfl) rfl) HasAll.nil)) ?_
  refine wo (Spec.assign (Hs rfl)) ?_
  refine Wn ?_
  refine Lt ?_
  refine CWalk.ret ?_
  obtain rfl := Option.some.inj hm
  exact Leaf.retC1 rfl (HasR.cv (HasR.tmp (Hs rfl)) (Cv.owF (T := [11]) (te := []) rfl))

/-- freeboard/disk.Write -/
def disk_Write (a0 : Disk) (a1 : Int) (a2 : List UInt8) : Option (Disk × Int) :=
  Option.bind (disk_write a0 a1 a2) (fun x1 => (bif (x1 != (0 : Int)) then some ((Disk.mk ([] : List (List UInt8)) ([] : List Write) false), x1) else (bif (((a0.Wait).length : Int) == (1024 : Int)) then some ((Disk.mk ([] : List (List UInt8)) ([] : List Write) false), (9 : Int)) else Option.bind (disk_Twin a0) (fun x2 => Option.bind (disk_block a2) (fun x3 => Option.bind (app x2.Wait ([(Write.mk a1 x3)])) (fun x4 => some ((Disk.mk x2.Blocks x4 x2.Dead), (0 : Int))))))))
theorem disk_Write_c (a0 : Disk) (a1 : Int) (a2 : List UInt8) {r : Disk × Int} (hm : disk_Write a0 a1 a2 = some r) : Ctr Try.prog 95 [.rep 0 a0, .rep 0 a1, .rep 0 a2] (.tup2 (.flds [(false, 1, (.own 0 (some 1) 37 r.1.Blocks)), (false, 1, (.own 2 (some 3) 86 r.1.Wait)), (false, 1, (.fl r.1.Dead))]) (.fl r.2)) [] := by
 refine ctr_of_walk [[19], [20], [21], [22, 23, 24]] 34 Try.func95 rfl rfl rfl rfl (fun w0 om => ?_)
 unfold disk_Write at hm
 refine CWalk.sub (G' := [.fact 0 (.rep [0] (a0 : Disk)), .fact 1 (.rep [] (a1 : Int)), .fact 2 (.rep [0] (a2 : List UInt8))]) (sn (Sub.cons (Has.fl (Hs rfl)) (sn Sub.nil))) ?_
 refine Cs ?_
 refine Cr ?_
 refine ws (Step.boxObj (ls := [(false, 1, Fact.rep [0] a0.Blocks), (false, 1, Fact.rep [0] a0.Wait), (false, 1, Fact.rep [] a0.Dead)]) 10 rfl rfl rfl rfl (HasL.flds (Has.cv (Hs rfl) (Cv.trans (Cv.opens (chDisk a0)) (Cv.flds (CvL.cons Cv.refl (CvL.cons Cv.refl (Vf CvL.nil)))))))) ?_
 refine ws (Step.allocObj (ls := [(false, 1, Fact.nilv), (false, 1, Fact.nilv), (false, 1, Fact.rep [] (false : Bool))]) 14 rfl rfl rfl rfl zl61) ?_
 refine wo (Spec.assign Has.int) ?_
 refine Wn ?_
 refine Lt ?_
 refine Cs ?_
 refine Cs ?_
 refine Cr ?_
 refine wo (Spec.loadObj (ls := [(false, 1, Fact.rep [0] a0.Blocks), (false, 1, Fact.rep [0] a0.Wait), (false, 1, Fact.rep [] a0.Dead)]) ty61 rfl rfl (Hs rfl) rfl (Gz rfl (Gz rfl (Gz rfl HasGs.nil)))) ?_
 refine mv ?_
 refine mv ?_
 obtain ⟨x1, hx1, hm⟩ := bind_some hm
 refine wo (f := Fact.rep [] (x1 : Int)) (Spec.callE [0] 18 rfl en102 (disk_write_c a0 a1 a2 hx1) (HasAll.cons (Has.m (Has.cv (Hs rfl) (Cv.trans (Cv.flds (CvL.cons (Cv.m rfl) (CvL.cons (Cv.m rfl) (Vf CvL.nil)))) (Cv.close (T := [0]) (chDisk a0)))) rfl) (HasAll.cons (Has.fl (Hs rfl)) (HasAll.cons (Has.m (Hs rfl) rfl) HasAll.nil)))) ?_
 refine wo (Spec.assign (Hs rfl)) ?_
 refine Wn ?_
 refine Lt ?_
 refine Cs ?_
 refine Cr ?_
 refine mv ?_
 refine wo (Spec.neqI (Hs rfl) Has.int) ?_
 refine Wn ?_
 refine Lt ?_
 refine CWalk.cond rfl (fun hb => ?_) (fun hb => ?_)
 ·have hm := cond_t hb hm
  refine Cs ?_
  refine Cr ?_
  refine wo (Spec.build (us := []) (ls' := [(false, 1, Fact.nilv), (false, 1, Fact.nilv), (false, 1, Fact.rep [] (false : Bool))]) bd61 rfl BP.nil) ?_
  refine mv ?_
  refine ws (Step.storeObj (ls := [(false, 1, Fact.nilv), (false, 1, Fact.nilv), (false, 1, Fact.rep [] (false : Bool))]) rfl ty61 rfl rfl (Hs rfl) rfl (HasL.flds (Hs rfl)) rfl) ?_
  refine wo (Spec.assign (Hs rfl)) ?_
  refine Wn ?_
  refine Lt ?_
  refine CWalk.ret ?_
  refine Leaf.thenR ?_
  obtain rfl := Option.some.inj hm
  exact Leaf.retC2 rfl (HasR.cv (HasR.obj (ls := [(false, 1, Fact.nilv), (false, 1, Fact.nilv), (false, 1, Fact.rep [] (false : Bool))]) ty61 rfl rfl (Hs rfl) rfl (Gz rfl (Gz rfl (Gz rfl HasGs.nil)))) (Cv.flds (CvL.cons (Cv.trans Cv.nilOw (Cv.owM (T := []) (te := []) rfl rfl)) (CvL.cons (Cv.trans Cv.nilOw (Cv.owM (T := []) (te := []) rfl rfl)) (Vf CvL.nil))))) (HasR.cv (HasR.tmp (Hs rfl)) Cv.fl)
 ·have hm := cond_f hb hm
  refine CWalk.skip ?_
  refine Lt ?_
  refine Cs ?_
  refine Cs ?_
  refine Cr ?_
  refine wo (Spec.fieldAddrO fd61_1 (Has.cv (Hs rfl) (Cv.isvP rfl))) ?_
  refine wo (Spec.loadF (i := 1) ty59 rfl (Hs rfl) rfl (HasG.s rfl)) ?_
  refine wo (Spec.len (Hs rfl) Try.underlying59) ?_
  refine wo (Spec.eqlI (Hs rfl) Has.int) ?_
  refine Wn ?_
  refine Lt ?_
  refine CWalk.cond rfl (fun hb => ?_) (fun hb => ?_)
  ·have hm := cond_t hb hm
   refine Cs ?_
   refine Cr ?_
   refine wo (Spec.build (us := []) (ls' := [(false, 1, Fact.nilv), (false, 1, Fact.nilv), (false, 1, Fact.rep [] (false : Bool))]) bd61 rfl BP.nil) ?_
   refine ws (Step.storeObj (ls := [(false, 1, Fact.nilv), (false, 1, Fact.nilv), (false, 1, Fact.rep [] (false : Bool))]) rfl ty61 rfl rfl (Hs rfl) rfl (HasL.flds (Hs rfl)) rfl) ?_
   refine wo (Spec.assign Has.int) ?_
   refine Wn ?_
   refine Lt ?_
   refine CWalk.ret ?_
   refine Leaf.thenR ?_
   obtain rfl := Option.some.inj hm
   exact Leaf.retC2 rfl (HasR.cv (HasR.obj (ls := [(false, 1, Fact.nilv), (false, 1, Fact.nilv), (false, 1, Fact.rep [] (false : Bool))]) ty61 rfl rfl (Hs rfl) rfl (Gz rfl (Gz rfl (Gz rfl HasGs.nil)))) (Cv.flds (CvL.cons (Cv.trans Cv.nilOw (Cv.owM (T := []) (te := []) rfl rfl)) (CvL.cons (Cv.trans Cv.nilOw (Cv.owM (T := []) (te := []) rfl rfl)) (Vf CvL.nil))))) (HasR.cv (HasR.tmp (Hs rfl)) Cv.fl)
  ·have hm := cond_f hb hm
   refine CWalk.skip ?_
   refine Lt ?_
   refine Cs ?_
   refine Cr ?_
   refine wo (Spec.loadObj (ls := [(false, 1, Fact.rep [0] a0.Blocks), (false, 1, Fact.rep [0] a0.Wait), (false, 1, Fact.rep [] a0.Dead)]) ty61 rfl rfl (Hs rfl) rfl (Gz rfl (Gz rfl (Gz rfl HasGs.nil)))) ?_
   obtain ⟨x2, hx2, hm⟩ := bind_some hm
   refine wo (f := Fact.flds [(false, 1, Fact.ow [19] [20] 37 (x2.Blocks : List (List UInt8))), (false, 1, Fact.ow [21] [22] 86 (x2.Wait : List Write)), (false, 1, Fact.rep [] x2.Dead)]) (Spec.callE [0] 19 rfl en50 (disk_Twin_c a0 hx2) (HasAll.cons (Has.m (Has.cv (Hs rfl) (Cv.trans (Cv.flds (CvL.cons (Cv.m rfl) (CvL.cons (Cv.m rfl) (Vf CvL.nil)))) (Cv.close (T := [0]) (chDisk a0)))) rfl) HasAll.nil)) ?_
   refine ws (Step.storeObj (ls := [(false, 1, Fact.ow [19] [20] 37 (x2.Blocks : List (List UInt8))), (false, 1, Fact.ow [21] [22] 86 (x2.Wait : List Write)), (false, 1, Fact.rep [] x2.Dead)]) rfl ty61 rfl rfl (Hs rfl) rfl (HasL.flds (Hs rfl)) rfl) ?_
   refine Wn ?_
   refine Lt ?_
   refine Cs ?_
   obtain ⟨x3, hx3, hm⟩ := bind_some hm
   obtain ⟨x4, hx4, hm⟩ := bind_some hm
   refine CWalk.drawM [[], [0], [], [], [3], [2, 3, 4], [2, 3, 4, 5], [0, 1, 2, 3, 4, 5, 6], [0, 1, 2, 3, 4, 5, 6, 7], [0, 1, 2, 3, 4, 5, 6, 7, 8]] [[.fact 24 (.pto 10 1)], [.fact 25 (.ow [21] [22] 86 (x2.Wait : List Write))], [.fact 26 (.rep [] (a1 : Int))], [.fact 27 (.rep [0] (a2 : List UInt8))], [.fact 28 (.ow [23] [] 5 (x3 : List UInt8))], [.fact 29 (.flds [(false, 1, Fact.rep [] (a1 : Int)), (false, 1, Fact.ow [23] [] 5 (x3 : List UInt8))])], [.fact 30 (.rep [24, 23] ([(Write.mk a1 x3)] : List Write))], [.fact 31 (.ow [21] [22, 23, 24] 86 (x4 : List Write)), .kill 21], [.fact 32 (.pto 10 1)], [.fact 100012 (.at 12 (.ow [21] [22, 23, 24] 86 (x4 : List Write))), .fact 100010 (.obj 10 [(false, 1), (false, 1), (false, 1)]), .kill 10, .killId 12]] mixed (by kernel_rfl) (ao (so (Spec.fieldAddrO fd61_1 (Has.cv (Hs rfl) (Cv.isvP rfl)))) (ao (so (Spec.loadF (i := 1) ty59 rfl (Hs rfl) rfl (HasG.s rfl))) (ao (so (Spec.move (Hs rfl))) (ao (so (Spec.move (Hs rfl))) (ao (so (Spec.callE [0] 23 rfl en48 (disk_block_c a2 hx3) (HasAll.cons (Has.m (Hs rfl) rfl) HasAll.nil))) (ao (so (Spec.build (us := [(0, .tmp 26), (1, .tmp 28)]) (ls' := [(false, 1, Fact.rep [] (a1 : Int)), (false, 1, Fact.ow [23] [] 5 (x3 : List UInt8))]) bd86 rfl (BP.cons rfl rfl (Hs rfl) (Hs rfl) (BP.cons rfl rfl (Has.cv (Hs rfl) (Cv.trans Cv.owSl (Cv.slRep (T' := [23]) rfl rfl))) (Hs rfl) BP.nil)))) (ao (so (Spec.lit (xs := [.tmp 29]) (T := [23]) 24 rfl ow59 rfl rfl rfl rfl (HasEach.cons (Has.m (Has.cv (Hs rfl) (Cv.trans (Cv.flds (Vf (CvL.cons (Cv.trans (Cv.trans Cv.owSl (Cv.slRep (T' := [23]) rfl rfl)) (Cv.m rfl)) CvL.nil))) (Cv.close (T := [23]) (chWrite (Write.mk a1 x3))))) rfl) HasEach.nil))) (ao (StepG.stE (Step.appendOw (T := [21]) (te' := [22, 23, 24]) hx4 rfl rfl rfl ow59 (Hs rfl) (Hs rfl) (ElKeeps.tags rfl rfl) (ElKeeps.tags rfl rfl))) (ao (so (Spec.fieldAddrO fd61_1 (Has.cv (Hs rfl) (Cv.isvP rfl)))) (ao (StepG.stE (Step.storeF (i := 1) (f := Fact.ow [21] [22, 23, 24] 86 (x4 : List Write)) rfl ty59 rfl (Hs rfl) rfl (Has.cv (Hs rfl) (Cv.trans Cv.owSl (Cv.slRep (T' := [21, 22, 23, 24]) rfl rfl))) (Hs rfl) rfl)) AllM.nil)))))))))) ?_
   refine Lt ?_
   refine Cs ?_
   refine Cr ?_
   refine wo (Spec.loadObj (ls := [(false, 1, Fact.ow [19] [20] 37 (x2.Blocks : List (List UInt8))), (false, 1, Fact.ow [21] [22, 23, 24] 86 (x4 : List Write)), (false, 1, Fact.rep [] x2.Dead)]) ty61 rfl rfl (Hs rfl) rfl (Gz rfl (Gz rfl (Gz rfl HasGs.nil)))) ?_
   refine ws (Step.storeObj (ls := [(false, 1, Fact.ow [19] [20] 37 (x2.Blocks : List (List UInt8))), (false, 1, Fact.ow [21] [22, 23, 24] 86 (x4 : List Write)), (false, 1, Fact.rep [] x2.Dead)]) rfl ty61 rfl rfl (Hs rfl) rfl (HasL.flds (Hs rfl)) rfl) ?_
   refine wo (Spec.assign Has.int) ?_
   refine Wn ?_
   refine Lt ?_
   refine CWalk.ret ?_
   obtain rfl := Option.some.inj hm
   exact Leaf.retC2 rfl (HasR.cv (HasR.obj (ls := [(false, 1, Fact.ow [19] [20] 37 (x2.Blocks : List (List UInt8))), (false, 1, Fact.ow [21] [22, 23, 24] 86 (x4 : List Write)), (false, 1, Fact.rep [] x2.Dead)]) ty61 rfl rfl (Hs rfl) rfl (Gz rfl (Gz rfl (Gz rfl HasGs.nil)))) (Cv.flds (CvL.cons (Cv.owM (T := [19]) (te := [20]) rfl rfl) (CvL.cons (Cv.owM (T := [21]) (te := [22, 23, 24]) rfl rfl) (Vf CvL.nil))))) (HasR.cv (HasR.tmp (Hs rfl)) Cv.fl)

/-- (freeboard/acts.act).write -/
def acts_act_write (a0 : Act45) (a1 : Disk) : Option (Disk × Int) :=
  Option.bind (disk_Write a1 a0.At a0.Data) (fun x1 => some (x1.1, x1.2))
theorem acts_act_write_c (a0 : Act45) (a1 : Disk) {r : Disk × Int} (hm : acts_act_write a0 a1 = some r) : Ctr Try.prog 73 [.rep 0 a0, .rep 0 a1] (.tup2 (.flds [(false, 1, (.own 0 (some 1) 37 r.1.Blocks)), (false, 1, (.own 2 (some 3) 86 r.1.Wait)), (false, 1, (.fl r.1.Dead))]) (.fl r.2)) [] := by
 refine ctr_of_walk [[23], [24], [25], [26]] 14 Try.func73 rfl rfl rfl rfl (fun w0 om => ?_)
 unfold acts_act_write at hm
 refine CWalk.sub (G' := [.fact 0 (.rep [0] (a0 : Act45)), .fact 1 (.rep [0] (a1 : Disk))]) (sn (sn Sub.nil)) ?_
 refine Cs ?_
 refine Cr ?_
 refine ws (Step.boxObj (ls := [(false, 1, Fact.rep [] a0.Disk), (false, 1, Fact.rep [] a0.Kind), (false, 1, Fact.rep [] a0.At), (false, 1, Fact.rep [0] a0.Data)]) 10 rfl rfl rfl rfl (HasL.flds (Has.cv (Hs rfl) (Cv.trans (Cv.opens (chAct45 a0)) (Cv.flds (Vf (Vf (Vf (CvL.cons Cv.refl CvL.nil))))))))) ?_
 refine ws (Step.boxObj (ls := [(false, 1, Fact.rep [0] a1.Blocks), (false, 1, Fact.rep [0] a1.Wait), (false, 1, Fact.rep [] a1.Dead)]) 15 rfl rfl rfl rfl (HasL.flds (Has.cv (Hs rfl) (Cv.trans (Cv.opens (chDisk a1)) (Cv.flds (CvL.cons Cv.refl (CvL.cons Cv.refl (Vf CvL.nil)))))))) ?_
 refine ws (Step.allocObj (ls := [(false, 1, Fact.nilv), (false, 1, Fact.nilv), (false, 1, Fact.rep [] (false : Bool))]) 19 rfl rfl rfl rfl zl61) ?_
 refine wo (Spec.assign Has.int) ?_
 refine Wn ?_
 refine Lt ?_
 refine Cs ?_
 refine Cr ?_
 refine wo (Spec.loadObj (ls := [(false, 1, Fact.rep [0] a1.Blocks), (false, 1, Fact.rep [0] a1.Wait), (false, 1, Fact.rep [] a1.Dead)]) ty61 rfl rfl (Hs rfl) rfl (Gz rfl (Gz rfl (Gz rfl HasGs.nil)))) ?_
 refine wo (Spec.fieldAddrO fd98_2 (Has.cv (Hs rfl) (Cv.isvP rfl))) ?_
 refine wo (Spec.loadF (i := 2) ty3 rfl (Hs rfl) rfl (HasG.s rfl)) ?_
 refine wo (Spec.fieldAddrO fd98_3 (Has.cv (Hs rfl) (Cv.isvP rfl))) ?_
 refine wo (Spec.loadF (i := 3) ty37 rfl (Hs rfl) rfl (HasG.s rfl)) ?_
 obtain ⟨x1, hx1, hm⟩ := bind_some hm
 refine wo (f := Fact.tup2 (Fact.flds [(false, 1, Fact.ow [23] [24] 37 (x1.1.Blocks : List (List UInt8))), (false, 1, Fact.ow [25] [26] 86 (x1.1.Wait : List Write)), (false, 1, Fact.rep [] x1.1.Dead)]) (Fact.rep [] x1.2)) (Spec.callE [0] 23 rfl en95 (disk_Write_c a1 a0.At a0.Data hx1) (HasAll.cons (Has.m (Has.cv (Hs rfl) (Cv.trans (Cv.flds (CvL.cons (Cv.m rfl) (CvL.cons (Cv.m rfl) (Vf CvL.nil)))) (Cv.close (T := [0]) (chDisk a1)))) rfl) (HasAll.cons (Has.fl (Hs rfl)) (HasAll.cons (Has.m (Hs rfl) rfl) HasAll.nil)))) ?_
 refine wo (Spec.ext0 (Hs rfl)) ?_
 refine wo (Spec.ext1 (Hs rfl)) ?_
 refine ws (Step.storeObj (ls := [(false, 1, Fact.ow [23] [24] 37 (x1.1.Blocks : List (List UInt8))), (false, 1, Fact.ow [25] [26] 86 (x1.1.Wait : List Write)), (false, 1, Fact.rep [] x1.1.Dead)]) rfl ty61 rfl rfl (Hs rfl) rfl (HasL.flds (Hs rfl)) rfl) ?_
 refine wo (Spec.assign (Hs rfl)) ?_
 refine Wn ?_
 refine Lt ?_
 refine CWalk.ret ?_
 obtain rfl := Option.some.inj hm
 exact Leaf.retC2 rfl (HasR.cv (HasR.obj (ls := [(false, 1, Fact.ow [23] [24] 37 (x1.1.Blocks : List (List UInt8))), (false, 1, Fact.ow [25] [26] 86 (x1.1.Wait : List Write)), (false, 1, Fact.rep [] x1.1.Dead)]) ty61 rfl rfl (Hs rfl) rfl (Gz rfl (Gz rfl (Gz rfl HasGs.nil)))) (Cv.flds (CvL.cons (Cv.owM (T := [23]) (te := [24]) rfl rfl) (CvL.cons (Cv.owM (T := [25]) (te := [26]) rfl rfl) (Vf CvL.nil))))) (HasR.cv (HasR.tmp (Hs rfl)) Cv.fl)

/-- freeboard/disk.Fua$1 -/
def disk_Fua_1 (a0 : Write) (a1 : Int) : Option (Bool) :=
  some (a0.At == a1)
theorem disk_Fua_1_c (a0 : Write) (a1 : Int) {r : Bool} (hm : disk_Fua_1 a0 a1 = some r) : Ctr Try.prog 104 [.rep 0 a0, .ptr 0 a1] (.fl r) [] := by
 refine ctr_of_walk [[]] 8 Try.func104 rfl rfl rfl rfl (fun w0 om => ?_)
 unfold disk_Fua_1 at hm
 refine CWalk.sub (G' := [.fact 0 (.rep [0] (a0 : Write)), .fact 1 (.ptr [0] (a1 : Int))]) (sn (sn Sub.nil)) ?_
 refine Cs ?_
 refine Cr ?_
 refine ws (Step.boxObj (ls := [(false, 1, Fact.rep [] a0.At), (false, 1, Fact.rep [0] a0.Data)]) 10 rfl rfl rfl rfl (HasL.flds (Has.cv (Hs rfl) (Cv.trans (Cv.opens (chWrite a0)) (Cv.flds (Vf (CvL.cons Cv.refl CvL.nil))))))) ?_
 refine wo (Spec.assign Has.bool) ?_
 refine Wn ?_
 refine Lt ?_
 refine Cs ?_
 refine Cr ?_
 refine wo (Spec.fieldAddrO fd86_0 (Has.cv (Hs rfl) (Cv.isvP rfl))) ?_
 refine wo (Spec.loadF (i := 0) ty3 rfl (Hs rfl) rfl (HasG.s rfl)) ?_
 refine wo ((Spec.load ty3 (Hs rfl)).flat (T' := [])) ?_
 refine wo (Spec.eqlI (Hs rfl) (Hs rfl)) ?_
 refine wo (Spec.assign (Hs rfl)) ?_
 refine Wn ?_
 refine Lt ?_
 refine CWalk.ret ?_
 obtain rfl := Option.some.inj hm
 exact Leaf.retC1 rfl (HasR.cv (HasR.tmp (Hs rfl)) Cv.fl)

def disk_Fua_J1 (x2 : Disk) (x3 : (List UInt8)) (x4 : Nat) (j5 : List Write) : Option (Disk × Int) :=
  some ((Disk.mk ((x2.Blocks).set x4 x3) j5 x2.Dead), (0 : Int))
def disk_Fua_J3 (s9 : Int) (j11 : List Write) (j12 : Int) : Option (Ctl ((List Write) × Int × Int) ((List Write) × Int)) :=
  some (Ctl.next (j11, j12, (wI (s9 + (1 : Int)))))
def disk_Fua_J4 (a1 : Int) (s7 : List Write) (s8 : Int) (s9 : Int) (x13 : Write) : Option (Ctl ((List Write) × Int × Int) ((List Write) × Int)) :=
  (bif (!(x13.At == a1)) then Option.bind (bnd (s7).length s8) (fun x14 => (disk_Fua_J3 s9 ((s7).set x14 x13) (wI (s8 + (1 : Int))))) else (disk_Fua_J3 s9 s7 s8))
def disk_Fua_L2 (a1 : Int) (s7 : List Write) (s8 : Int) (s9 : Int) : Option (Ctl ((List Write) × Int × Int) ((List Write) × Int)) :=
  (bif (decide (s9 < ((s7).length : Int))) then Option.bind (idx s7 s9) (fun x13 => (disk_Fua_J4 a1 s7 s8 s9 x13)) else some (Ctl.brk (s7, s8)))
/-- freeboard/disk.Fua -/
def disk_Fua (a0 : Disk) (a1 : Int) (a2 : List UInt8) : Option (Disk × Int) :=
  Option.bind (disk_write a0 a1 a2) (fun x1 => (bif (x1 != (0 : Int)) then some ((Disk.mk ([] : List (List UInt8)) ([] : List Write) false), x1) else Option.bind (disk_Twin a0) (fun x2 => Option.bind (disk_block a2) (fun x3 => Option.bind (bnd (x2.Blocks).length a1) (fun x4 => Option.bind (slices_IndexFunc_api_Write_api_Write x2.Wait (fun y => disk_Fua_1 y a1)) (fun x6 => (bif (x6 == (-1 : Int)) then (disk_Fua_J1 x2 x3 x4 x2.Wait) else Option.bind (loopM (fun s : (List Write) × Int × Int => disk_Fua_L2 a1 s.1 s.2.1 s.2.2) FUEL (x2.Wait, x6, (wI (x6 + (1 : Int))))) (fun b15 => Option.bind (slc b15.1 b15.2 (b15.1).length) (fun x16 => Option.bind (slc ((b15.1).take (Int.toNat b15.2) ++ List.replicate ((b15.1).length - (Int.toNat b15.2)) (Write.mk (0 : Int) ([] : List UInt8))) 0 b15.2) (fun x17 => (disk_Fua_J1 x2 x3 x4 x17)))))))))))
theorem disk_Fua_c (a0 : Disk) (a1 : Int) (a2 : List UInt8) {r : Disk × Int} (hm : disk_Fua a0 a1 a2 = some r) : Ctr Try.prog 96 [.rep 0 a0, .rep 0 a1, .rep 0 a2] (.tup2 (.flds [(false, 1, (.own 0 (some 1) 37 r.1.Blocks)), (false, 1, (.own 2 (some 3) 86 r.1.Wait)), (false, 1, (.fl r.1.Dead))]) (.fl r.2)) [] := by
 refine ctr_of_walk [[25], [22, 26], [23, 35], [24]] 31 Try.func96 rfl rfl rfl rfl (fun w0 om => ?_)
 unfold disk_Fua at hm
 refine CWalk.sub (G' := [.fact 0 (.rep [0] (a0 : Disk)), .fact 1 (.rep [] (a1 : Int)), .fact 2 (.rep [0] (a2 : List UInt8))]) (sn (Sub.cons (Has.fl (Hs rfl)) (sn Sub.nil))) ?_
 refine Cs ?_
 refine Cr ?_
 refine ws (Step.boxObj (ls := [(false, 1, Fact.rep [0] a0.Blocks), (false, 1, Fact.rep [0] a0.Wait), (false, 1, Fact.rep [] a0.Dead)]) 10 rfl rfl rfl rfl (HasL.flds (Has.cv (Hs rfl) (Cv.trans (Cv.opens (chDisk a0)) (Cv.flds (CvL.cons Cv.refl (CvL.cons Cv.refl (Vf CvL.nil)))))))) ?_
 refine ws (Step.boxObj (ls := [(false, 1, Fact.rep [] (a1 : Int))]) 14 rfl rfl rfl rfl (HasL.one (Hs rfl) rfl (Hs rfl))) ?_
 refine ws (Step.allocObj (ls := [(false, 1, Fact.nilv), (false, 1, Fact.nilv), (false, 1, Fact.rep [] (false : Bool))]) 16 rfl rfl rfl rfl zl61) ?_
 refine wo (Spec.assign Has.int) ?_
 refine Wn ?_
 refine Lt ?_
 refine Cs ?_
 refine Cs ?_
 refine Cr ?_
 refine wo (Spec.loadObj (ls := [(false, 1, Fact.rep [0] a0.Blocks), (false, 1, Fact.rep [0] a0.Wait), (false, 1, Fact.rep [] a0.Dead)]) ty61 rfl rfl (Hs rfl) rfl (Gz rfl (Gz rfl (Gz rfl HasGs.nil)))) ?_
 refine wo (Spec.loadF (i := 0) ty3 rfl (Has.cv (Hs rfl) (Cv.isvP rfl)) rfl (HasG.s rfl)) ?_
 refine mv ?_
 obtain ⟨x1, hx1, hm⟩ := bind_some hm
 refine wo (f := Fact.rep [] (x1 : Int)) (Spec.callE [0] 20 rfl en102 (disk_write_c a0 a1 a2 hx1) (HasAll.cons (Has.m (Has.cv (Hs rfl) (Cv.trans (Cv.flds (CvL.cons (Cv.m rfl) (CvL.cons (Cv.m rfl) (Vf CvL.nil)))) (Cv.close (T := [0]) (chDisk a0)))) rfl) (HasAll.cons (Has.fl (Hs rfl)) (HasAll.cons (Has.m (Hs rfl) rfl) HasAll.nil)))) ?_
 refine wo (Spec.assign (Hs rfl)) ?_
 refine Wn ?_
 refine Lt ?_
 refine Cs ?_
 refine Cr ?_
 refine mv ?_
 refine wo (Spec.neqI (Hs rfl) Has.int) ?_
 refine Wn ?_
 refine Lt ?_
 refine CWalk.cond rfl (fun hb => ?_) (fun hb => ?_)
 ·have hm := cond_t hb hm
  refine Cs ?_
  refine Cr ?_
  refine wo (Spec.build (us := []) (ls' := [(false, 1, Fact.nilv), (false, 1, Fact.nilv), (false, 1, Fact.rep [] (false : Bool))]) bd61 rfl BP.nil) ?_
  refine mv ?_
  refine ws (Step.storeObj (ls := [(false, 1, Fact.nilv), (false, 1, Fact.nilv), (false, 1, Fact.rep [] (false : Bool))]) rfl ty61 rfl rfl (Hs rfl) rfl (HasL.flds (Hs rfl)) rfl) ?_
  refine wo (Spec.assign (Hs rfl)) ?_
  refine Wn ?_
  refine Lt ?_
  refine CWalk.ret ?_
  refine Leaf.thenR ?_
  obtain rfl := Option.some.inj hm
  exact Leaf.retC2 rfl (HasR.cv (HasR.obj (ls := [(false, 1, Fact.nilv), (false, 1, Fact.nilv), (false, 1, Fact.rep [] (false : Bool))]) ty61 rfl rfl (Hs rfl) rfl (Gz rfl (Gz rfl (Gz rfl HasGs.nil)))) (Cv.flds (CvL.cons (Cv.trans Cv.nilOw (Cv.owM (T := []) (te := []) rfl rfl)) (CvL.cons (Cv.trans Cv.nilOw (Cv.owM (T := []) (te := []) rfl rfl)) (Vf CvL.nil))))) (HasR.cv (HasR.tmp (Hs rfl)) Cv.fl)
 ·have hm := cond_f hb hm
  refine CWalk.skip ?_
  refine Lt ?_
  refine Cs ?_
  refine Cr ?_
  refine wo (Spec.loadObj (ls := [(false, 1, Fact.rep [0] a0.Blocks), (false, 1, Fact.rep [0] a0.Wait), (false, 1, Fact.rep [] a0.Dead)]) ty61 rfl rfl (Hs rfl) rfl (Gz rfl (Gz rfl (Gz rfl HasGs.nil)))) ?_
  obtain ⟨x2, hx2, hm⟩ := bind_some hm
  refine wo (f := Fact.flds [(false, 1, Fact.ow [21] [22] 37 (x2.Blocks : List (List UInt8))), (false, 1, Fact.ow [23] [24] 86 (x2.Wait : List Write)), (false, 1, Fact.rep [] x2.Dead)]) (Spec.callE [0] 21 rfl en50 (disk_Twin_c a0 hx2) (HasAll.cons (Has.m (Has.cv (Hs rfl) (Cv.trans (Cv.flds (CvL.cons (Cv.m rfl) (CvL.cons (Cv.m rfl) (Vf CvL.nil)))) (Cv.close (T := [0]) (chDisk a0)))) rfl) HasAll.nil)) ?_
  refine ws (Step.storeObj (ls := [(false, 1, Fact.ow [21] [22] 37 (x2.Blocks : List (List UInt8))), (false, 1, Fact.ow [23] [24] 86 (x2.Wait : List Write)), (false, 1, Fact.rep [] x2.Dead)]) rfl ty61 rfl rfl (Hs rfl) rfl (HasL.flds (Hs rfl)) rfl) ?_
  refine Wn ?_
  refine Lt ?_
  refine Cs ?_
  refine CWalk.ad (Ad.owF (i := 11) 25 rfl rfl rfl (ElT.tags rfl) rfl (Cv.owM (T := [21]) (te := [22]) (T' := [21]) (te' := [22]) rfl rfl)) ?_
  obtain ⟨x3, hx3, hm⟩ := bind_some hm
  obtain ⟨x4, hx4, hm⟩ := bind_some hm
  refine CWalk.drawM [[], [0], [], [], [3], [0, 1, 2, 3, 4], [0, 1, 2, 3, 4, 5]] [[.fact 19 (.pto 10 0)], [.fact 20 (.isv 25)], [.fact 21 (.rep [] (a1 : Int))], [.fact 22 (.rep [0] (a2 : List UInt8))], [.fact 23 (.ow [26] [] 5 (x3 : List UInt8))], [.fact 24 (.pto 25 (x4 * Rp.n (List UInt8)))], [.fact 100025 (.own 25 [22, 26] 37 ((x2.Blocks).set x4 x3 : List (List UInt8))), .kill 25]] mixed (by kernel_rfl) (ao (so (Spec.fieldAddrO fd61_0 (Has.cv (Hs rfl) (Cv.isvP rfl)))) (ao (so (Spec.loadF (i := 0) ty36 rfl (Hs rfl) rfl (HasG.s rfl))) (ao (so (Spec.loadF (i := 0) ty3 rfl (Has.cv (Hs rfl) (Cv.isvP rfl)) rfl (HasG.s rfl))) (ao (so (Spec.move (Hs rfl))) (ao (so (Spec.callE [0] 26 rfl en48 (disk_block_c a2 hx3) (HasAll.cons (Has.m (Hs rfl) rfl) HasAll.nil))) (ao (so (Spec.idxOwn hx4 ow36 (Hs rfl) rfl (Hs rfl))) (ao (StepG.stE (Step.storeOwn (te' := [22, 26]) rfl (bnd_lt hx4 rfl) ty37 (Hs rfl) rfl (Has.cv (Hs rfl) (Cv.trans Cv.owSl (Cv.slRep (T' := [26]) rfl rfl))) (ElKeep.tags rfl rfl) (ElKeep.tags rfl rfl))) AllM.nil))))))) ?_
  refine Lt ?_
  refine Cs ?_
  refine Cr ?_
  refine wo (Spec.fieldAddrO fd61_1 (Has.cv (Hs rfl) (Cv.isvP rfl))) ?_
  refine wo (Spec.loadF (i := 1) ty59 rfl (Hs rfl) rfl (HasG.s rfl)) ?_
  refine wo (Spec.makeFunc (xs := []) (ys := [.tmp 4]) rfl rfl HasF.nil (HasF.cons (Hs rfl) HasF.nil) (fun _ _ _ => rfl)) ?_
  refine Walk.inline (S := (List Write)) (fun p : (List Write) => [.fact 3 (.isv 10), .fact 6 (.isv 16), .fact 28 (.ow [23, 35] [24] 86 (p : List Write)), .fact 100011 (.at 11 (.isv 25)), .fact 100013 (.at 13 (.rep [] x2.Dead)), .fact 100017 (.at 17 (.nilv)), .fact 100018 (.at 18 (.nilv)), .fact 100019 (.at 19 (.rep [] (false : Bool))), .fact 100010 (.obj 10 [(false, 1), (false, 1), (false, 1)]), .fact 100016 (.obj 16 [(false, 1), (false, 1), (false, 1)]), .fact 100025 (.own 25 [22, 26] 37 ((x2.Blocks).set x4 x3 : List (List UInt8)))]) (fun p : (List Write) => disk_Fua_J1 x2 x3 x4 p = some r) (fun u1 => [.fact 100011 (.at 11 (.isv 25)), .fact 100012 (.at 12 (.ow [23] [24] 86 (x2.Wait : List Write))), .fact 100013 (.at 13 (.rep [] x2.Dead)), .fact 100015 (.at 15 (.rep [] (a1 : Int))), .fact 100017 (.at 17 (.nilv)), .fact 100018 (.at 18 (.nilv)), .fact 100019 (.at 19 (.rep [] (false : Bool))), .fact 902003 (.cst (u1 3) (Fact.isv 10)), .fact 902006 (.cst (u1 6) (Fact.isv 16)), .fact 100014 (.obj 14 [(false, 1)]), .fact 100016 (.obj 16 [(false, 1), (false, 1), (false, 1)]), .fact 100010 (.obj 10 [(false, 1), (false, 1), (false, 1)]), .fact 100025 (.own 25 [22, 26] 37 ((x2.Blocks).set x4 x3 : List (List UInt8)))]) (FA := [Fact.ow [23] [24] 86 (x2.Wait : List Write), Fact.fnv 104 [] [Fact.isv 14]]) rfl Try.func103 rfl rfl rfl (CallOk.fn en103 (HasF.cons (Hs rfl) (HasF.cons (Hs rfl) HasF.nil))) (fun u1 => (ck (ck (ck (ck (ck (ck (ck (cs 902000 3 (cs 902000 6 (ck (ck (ck (ck Carry.nil)))))))))))))) (fun u1 => ?_) ?_
  ·refine Cs ?_
   refine Cr ?_
   refine wo (Spec.assign Has.nilv) ?_
   refine Wn ?_
   refine Lt ?_
   refine Cs ?_
   refine Cr ?_
   refine mv ?_
   refine mv ?_
   obtain ⟨x6, hx6, hm⟩ := bind_some hm
   refine wo (f := Fact.rep [] (x6 : Int)) (Spec.callE [14, 23, 24] 27 rfl en94 (slices_IndexFunc_api_Write_api_Write_c x2.Wait (fun y => disk_Fua_1 y a1) hx6) (HasAll.cons (Has.m (Has.cv (Hs rfl) (Cv.trans Cv.owSl (Cv.slRep (T' := [23, 24]) rfl rfl))) rfl) (HasAll.cons (Has.cv (Hs rfl) (Cv.fn (pu := []) (pc := [.ptr 0 a1]) (shc := []) en104 CvF.nil (CvF.cons (Cv.trans (Cv.objPtr1 (f := Fact.rep [] (a1 : Int)) rfl rfl (HasG.s rfl) (Cv.fl (T' := []))) (Cv.ptrM rfl)) CvF.nil) (fun y r h => disk_Fua_1_c y a1 h))) HasAll.nil))) ?_
   refine wo (Spec.assign (Hs rfl)) ?_
   refine Wn ?_
   refine Lt ?_
   refine Cs ?_
   refine Cs ?_
   refine Cr ?_
   refine mv ?_
   refine wo (Spec.eqlI (Hs rfl) Has.int) ?_
   refine Wn ?_
   refine Lt ?_
   refine CWalk.cond rfl (fun hb => ?_) (fun hb => ?_)
   ·have hm := cond_t hb hm
    refine Cs ?_
    refine Cr ?_
    refine mv ?_
    refine wo (Spec.assign (Hs rfl)) ?_
    refine Wn ?_
    refine Lt ?_
    refine CWalk.ret ?_
    refine Leaf.thenR ?_
    exact Leaf.in1 x2.Wait hm rfl rfl (HasR.cv (HasR.tmp (Hs rfl)) (Cv.owM (T := [23]) (te := [24]) rfl rfl)) (ls 902003 (ls 902006 (Low.res (lg (lf (lg (lg (lf (lo (lo (Low.keepR (fun _ _ _ _ h => h) (Has.ownM (Hs rfl) rfl) Low.nil)))))))))))
   ·have hm := cond_f hb hm
    refine CWalk.skip ?_
    refine Lt ?_
    refine Cs ?_
    refine Cs ?_
    refine Cr ?_
    refine mv ?_
    refine wo (Spec.addI (Hs rfl) Has.int) ?_
    refine wo (Spec.assign (Hs rfl)) ?_
    refine Wn ?_
    refine Lt ?_
    refine CWalk.block ?_
    obtain ⟨b15, hb15, hm⟩ := bind_some hm
    refine CWalk.loop (fun s : (List Write) × Int × Int => [.fact 0 (.ow [23, 34] [24] 86 (s.1 : List Write)), .fact 1 (.fnv 104 [] [Fact.isv 14]), .fact 5 (.rep [] s.2.1), .fact 6 (.rep [] s.2.2), .fact 902003 (.cst (u1 3) (Fact.isv 10)), .fact 902006 (.cst (u1 6) (Fact.isv 16)), .fact 100015 (.at 15 (.rep [] (a1 : Int))), .fact 100011 (.at 11 (.isv 25)), .fact 100013 (.at 13 (.rep [] x2.Dead)), .fact 100017 (.at 17 (.nilv)), .fact 100018 (.at 18 (.nilv)), .fact 100019 (.at 19 (.rep [] (false : Bool))), .fact 100014 (.obj 14 [(false, 1)]), .fact 100010 (.obj 10 [(false, 1), (false, 1), (false, 1)]), .fact 100016 (.obj 16 [(false, 1), (false, 1), (false, 1)]), .fact 100025 (.own 25 [22, 26] 37 ((x2.Blocks).set x4 x3 : List (List UInt8)))]) (fun b : (List Write) × Int => (Exit.exit 0, [.fact 0 (.ow [23, 34] [24] 86 (b.1 : List Write)), .fact 5 (.rep [] b.2), .fact 902003 (.cst (u1 3) (Fact.isv 10)), .fact 902006 (.cst (u1 6) (Fact.isv 16)), .fact 100011 (.at 11 (.isv 25)), .fact 100013 (.at 13 (.rep [] x2.Dead)), .fact 100017 (.at 17 (.nilv)), .fact 100018 (.at 18 (.nilv)), .fact 100019 (.at 19 (.rep [] (false : Bool))), .fact 100010 (.obj 10 [(false, 1), (false, 1), (false, 1)]), .fact 100016 (.obj 16 [(false, 1), (false, 1), (false, 1)]), .fact 100025 (.own 25 [22, 26] 37 ((x2.Blocks).set x4 x3 : List (List UInt8)))])) hb15 (Sub.cons (Has.cv (Hs rfl) (Cv.owM (T := [23]) (te := [24]) rfl rfl)) (sn (st (st (sc (sc (sf (sg (sf (sg (sg (sf (sn (sn (sn (Sub.cons (Has.ownM (Hs rfl) rfl) Sub.nil)))))))))))))))) ?_ ?_
    ·rintro ⟨s7, s8, s9⟩ c10 hm
     replace hm : disk_Fua_L2 a1 s7 s8 s9 = some c10 := hm
     unfold disk_Fua_L2 at hm
     show CWalk _ [.fact 0 (.ow [23, 34] [24] 86 (s7 : List Write)), .fact 1 (.fnv 104 [] [Fact.isv 14]), .fact 5 (.rep [] (s8 : Int)), .fact 6 (.rep [] (s9 : Int)), .fact 902003 (.cst (u1 3) (Fact.isv 10)), .fact 902006 (.cst (u1 6) (Fact.isv 16)), .fact 100015 (.at 15 (.rep [] (a1 : Int))), .fact 100011 (.at 11 (.isv 25)), .fact 100013 (.at 13 (.rep [] x2.Dead)), .fact 100017 (.at 17 (.nilv)), .fact 100018 (.at 18 (.nilv)), .fact 100019 (.at 19 (.rep [] (false : Bool))), .fact 100014 (.obj 14 [(false, 1)]), .fact 100010 (.obj 10 [(false, 1), (false, 1), (false, 1)]), .fact 100016 (.obj 16 [(false, 1), (false, 1), (false, 1)]), .fact 100025 (.own 25 [22, 26] 37 ((x2.Blocks).set x4 x3 : List (List UInt8)))] _ _
     refine Cs ?_
     refine Cs ?_
     refine Cr ?_
     refine mv ?_
     refine mv ?_
     refine wo (Spec.len (Has.cv (Hs rfl) (Cv.trans Cv.owSl (Cv.slRep (T' := [23, 24, 34]) rfl rfl))) Try.underlying59) ?_
     refine wo (Spec.lssI (Hs rfl) (Hs rfl)) ?_
     refine Wn ?_
     refine Lt ?_
     refine CWalk.cond rfl (fun hb => ?_) (fun hb => ?_)
     ·have hm := cond_t hb hm
      refine CWalk.skip ?_
      refine Lt ?_
      refine CWalk.seqJ (fun p : (List Write) × Int => [.fact 0 (.ow [23, 34] [24] 86 (p.1 : List Write)), .fact 1 (.fnv 104 [] [Fact.isv 14]), .fact 5 (.rep [] p.2), .fact 6 (.rep [] (s9 : Int)), .fact 902003 (.cst (u1 3) (Fact.isv 10)), .fact 902006 (.cst (u1 6) (Fact.isv 16)), .fact 100015 (.at 15 (.rep [] (a1 : Int))), .fact 100011 (.at 11 (.isv 25)), .fact 100013 (.at 13 (.rep [] x2.Dead)), .fact 100017 (.at 17 (.nilv)), .fact 100018 (.at 18 (.nilv)), .fact 100019 (.at 19 (.rep [] (false : Bool))), .fact 100014 (.obj 14 [(false, 1)]), .fact 100010 (.obj 10 [(false, 1), (false, 1), (false, 1)]), .fact 100016 (.obj 16 [(false, 1), (false, 1), (false, 1)]), .fact 100025 (.own 25 [22, 26] 37 ((x2.Blocks).set x4 x3 : List (List UInt8)))]) (fun p : (List Write) × Int => disk_Fua_J3 s9 p.1 p.2 = some c10) ?_ ?_
      ·rintro ⟨j11, j12⟩ hm
       replace hm : disk_Fua_J3 s9 j11 j12 = some c10 := hm
       unfold disk_Fua_J3 at hm
       show CWalk _ [.fact 0 (.ow [23, 34] [24] 86 (j11 : List Write)), .fact 1 (.fnv 104 [] [Fact.isv 14]), .fact 5 (.rep [] (j12 : Int)), .fact 6 (.rep [] (s9 : Int)), .fact 902003 (.cst (u1 3) (Fact.isv 10)), .fact 902006 (.cst (u1 6) (Fact.isv 16)), .fact 100015 (.at 15 (.rep [] (a1 : Int))), .fact 100011 (.at 11 (.isv 25)), .fact 100013 (.at 13 (.rep [] x2.Dead)), .fact 100017 (.at 17 (.nilv)), .fact 100018 (.at 18 (.nilv)), .fact 100019 (.at 19 (.rep [] (false : Bool))), .fact 100014 (.obj 14 [(false, 1)]), .fact 100010 (.obj 10 [(false, 1), (false, 1), (false, 1)]), .fact 100016 (.obj 16 [(false, 1), (false, 1), (false, 1)]), .fact 100025 (.own 25 [22, 26] 37 ((x2.Blocks).set x4 x3 : List (List UInt8)))] _ _
       refine Cr ?_
       refine mv ?_
       refine wo (Spec.addI (Hs rfl) Has.int) ?_
       refine wo (Spec.assign (Hs rfl)) ?_
       refine Wn ?_
       exact Leaf.next hm (Sub.cons (Has.cv (Hs rfl) (Cv.owM (T := [23, 34]) (te := [24]) rfl rfl)) (sn (st (st (sc (sc (sf (sg (sf (sg (sg (sf (sn (sn (sn (Sub.cons (Has.ownM (Hs rfl) rfl) Sub.nil))))))))))))))))
      ·refine CWalk.block ?_
       refine Cs ?_
       refine Cr ?_
       refine mv ?_
       refine mv ?_
       obtain ⟨x13, hx13, hm⟩ := bind_some hm
       refine wo (Spec.indexSl hx13 sl59 (Has.cv (Hs rfl) Cv.owSl) (Hs rfl)) ?_
       refine wo (Spec.loadS ty86 (Hs rfl)) ?_
       refine ws (Step.allocObj (ls := [(false, 1, Fact.rep [] ((0 : Int) : Int)), (false, 1, Fact.nilv)]) 28 rfl rfl rfl rfl zl86) ?_
       refine ws (Step.storeObj (ls := [(false, 1, Fact.rep [] x13.At), (false, 1, Fact.rep [24] x13.Data)]) rfl ty86 rfl rfl (Hs rfl) rfl (HasL.flds (Has.cv (Hs rfl) (Cv.trans (Cv.opens (chWrite x13)) (Cv.flds (Vf (CvL.cons Cv.refl CvL.nil)))))) rfl) ?_
       refine Wn ?_
       refine Lt ?_
       refine Cs ?_
       refine Cr ?_
       refine mv ?_
       refine wo (Spec.loadObj (ls := [(false, 1, Fact.rep [] x13.At), (false, 1, Fact.rep [24] x13.Data)]) ty86 rfl rfl (Hs rfl) rfl (Gz rfl (Gz rfl HasGs.nil))) ?_
       refine Walk.inline (S := Unit) (fun p : Unit => [.fact 0 (.ow [23, 34] [24] 86 (s7 : List Write)), .fact 1 (.fnv 104 [] [Fact.isv 14]), .fact 5 (.rep [] (s8 : Int)), .fact 6 (.rep [] (s9 : Int)), .fact 7 (.isv 28), .fact 28 (.rep [] ((x13.At == a1) : Bool)), .fact 902003 (.cst (u1 3) (Fact.isv 10)), .fact 902006 (.cst (u1 6) (Fact.isv 16)), .fact 100015 (.at 15 (.rep [] (a1 : Int))), .fact 100029 (.at 29 (.rep [] x13.At)), .fact 100030 (.at 30 (.rep [24] x13.Data)), .fact 100011 (.at 11 (.isv 25)), .fact 100013 (.at 13 (.rep [] x2.Dead)), .fact 100017 (.at 17 (.nilv)), .fact 100018 (.at 18 (.nilv)), .fact 100019 (.at 19 (.rep [] (false : Bool))), .fact 100014 (.obj 14 [(false, 1)]), .fact 100028 (.obj 28 [(false, 1), (false, 1)]), .fact 100010 (.obj 10 [(false, 1), (false, 1), (false, 1)]), .fact 100016 (.obj 16 [(false, 1), (false, 1), (false, 1)]), .fact 100025 (.own 25 [22, 26] 37 ((x2.Blocks).set x4 x3 : List (List UInt8)))]) (fun p : Unit => disk_Fua_J4 a1 s7 s8 s9 x13 = some c10) (fun u2 => [.fact 100011 (.at 11 (.isv 25)), .fact 100013 (.at 13 (.rep [] x2.Dead)), .fact 100015 (.at 15 (.rep [] (a1 : Int))), .fact 100017 (.at 17 (.nilv)), .fact 100018 (.at 18 (.nilv)), .fact 100019 (.at 19 (.rep [] (false : Bool))), .fact 100029 (.at 29 (.rep [] x13.At)), .fact 100030 (.at 30 (.rep [24] x13.Data)), .fact 902003 (.cst (u1 3) (Fact.isv 10)), .fact 902006 (.cst (u1 6) (Fact.isv 16)), .fact 904000 (.cst (u2 0) (Fact.ow [23, 34] [24] 86 (s7 : List Write))), .fact 904001 (.cst (u2 1) (Fact.fnv 104 [] [Fact.isv 14])), .fact 904005 (.cst (u2 5) (Fact.rep [] (s8 : Int))), .fact 904006 (.cst (u2 6) (Fact.rep [] (s9 : Int))), .fact 904007 (.cst (u2 7) (Fact.isv 28)), .fact 100014 (.obj 14 [(false, 1)]), .fact 100010 (.obj 10 [(false, 1), (false, 1), (false, 1)]), .fact 100016 (.obj 16 [(false, 1), (false, 1), (false, 1)]), .fact 100025 (.own 25 [22, 26] 37 ((x2.Blocks).set x4 x3 : List (List UInt8))), .fact 100028 (.obj 28 [(false, 1), (false, 1)])]) (FA := [Fact.flds [(false, 1, Fact.rep [] x13.At), (false, 1, Fact.rep [24] x13.Data)], Fact.isv 14]) rfl Try.func104 rfl rfl rfl (CallOk.valE en104 (Hs rfl) (HasF.cons (Hs rfl) HasF.nil)) (fun u2 => (ck (ck (ck (ck (ck (ck (ck (ck (ck (ck (cs 904000 0 (cs 904000 1 (cs 904000 5 (cs 904000 6 (cs 904000 7 (ck (ck (ck (ck (ck Carry.nil))))))))))))))))))))) (fun u2 => ?_) ?_
       ·refine Cs ?_
        refine Cr ?_
        refine ws (Step.boxObj (ls := [(false, 1, Fact.rep [] x13.At), (false, 1, Fact.rep [24] x13.Data)]) 31 rfl rfl rfl rfl (HasL.flds (Hs rfl))) ?_
        refine wo (Spec.assign Has.bool) ?_
        refine Wn ?_
        refine Lt ?_
        refine Cs ?_
        refine Cr ?_
        refine wo (Spec.fieldAddrO fd86_0 (Has.cv (Hs rfl) (Cv.isvP rfl))) ?_
        refine wo (Spec.loadF (i := 0) ty3 rfl (Hs rfl) rfl (HasG.s rfl)) ?_
        refine wo (Spec.loadF (i := 0) ty3 rfl (Has.cv (Hs rfl) (Cv.isvP rfl)) rfl (HasG.s rfl)) ?_
        refine wo (Spec.eqlI (Hs rfl) (Hs rfl)) ?_
        refine wo (Spec.assign (Hs rfl)) ?_
        refine Wn ?_
        refine Lt ?_
        refine CWalk.ret ?_
        exact Leaf.in1 () hm rfl rfl (HasR.cv (HasR.tmp (Hs rfl)) Cv.fl) (Low.slot rfl (HasC.cv (HasC.s (s := 904000) rfl) (Cv.owM (T := [23, 34]) (te := [24]) rfl rfl)) (ls 904001 (Low.slot rfl (HasC.cv (HasC.s (s := 904005) rfl) Cv.fl) (Low.slot rfl (HasC.cv (HasC.s (s := 904006) rfl) Cv.fl) (ls 904007 (Low.res (lc (lc (lf (lf (lm (lg (lf (lg (lg (lf (lo (lo (lo (lo (Low.keepR (fun _ _ _ _ h => h) (Has.ownM (Hs rfl) rfl) Low.nil)))))))))))))))))))))
       ·rintro _ hm
        replace hm : disk_Fua_J4 a1 s7 s8 s9 x13 = some c10 := hm
        unfold disk_Fua_J4 at hm
        show Walk _ _ _ [.fact 0 (.ow [23, 34] [24] 86 (s7 : List Write)), .fact 1 (.fnv 104 [] [Fact.isv 14]), .fact 5 (.rep [] (s8 : Int)), .fact 6 (.rep [] (s9 : Int)), .fact 7 (.isv 28), .fact 28 (.rep [] ((x13.At == a1) : Bool)), .fact 902003 (.cst (u1 3) (Fact.isv 10)), .fact 902006 (.cst (u1 6) (Fact.isv 16)), .fact 100015 (.at 15 (.rep [] (a1 : Int))), .fact 100029 (.at 29 (.rep [] x13.At)), .fact 100030 (.at 30 (.rep [24] x13.Data)), .fact 100011 (.at 11 (.isv 25)), .fact 100013 (.at 13 (.rep [] x2.Dead)), .fact 100017 (.at 17 (.nilv)), .fact 100018 (.at 18 (.nilv)), .fact 100019 (.at 19 (.rep [] (false : Bool))), .fact 100014 (.obj 14 [(false, 1)]), .fact 100028 (.obj 28 [(false, 1), (false, 1)]), .fact 100010 (.obj 10 [(false, 1), (false, 1), (false, 1)]), .fact 100016 (.obj 16 [(false, 1), (false, 1), (false, 1)]), .fact 100025 (.own 25 [22, 26] 37 ((x2.Blocks).set x4 x3 : List (List UInt8)))] _
        refine wo (Spec.not (Hs rfl)) ?_
        refine Wn ?_
        refine Lt ?_
        refine CWalk.cond rfl (fun hb => ?_) (fun hb => ?_)
        ·have hm := cond_t hb hm
         refine Cs ?_
         refine CWalk.ad (Ad.ow (s := 0) 34 rfl rfl (ElT.tags rfl) rfl (Cv.owM (T := [23, 34]) (te := [24]) (T' := [23, 34]) (te' := [24]) rfl rfl)) ?_
         refine Cr ?_
         refine mv ?_
         refine mv ?_
         refine wo (Spec.loadObj (ls := [(false, 1, Fact.rep [] x13.At), (false, 1, Fact.rep [24] x13.Data)]) ty86 rfl rfl (Hs rfl) rfl (Gz rfl (Gz rfl HasGs.nil))) ?_
         obtain ⟨x14, hx14, hm⟩ := bind_some hm
         refine wo (Spec.idxOwn hx14 ow59 (Hs rfl) rfl (Hs rfl)) ?_
         refine ws (Step.storeOwn (te' := [24]) rfl (bnd_lt hx14 rfl) ty86 (Hs rfl) rfl (Has.cv (Hs rfl) (Cv.trans (Cv.flds (Vf (CvL.cons (Cv.m rfl) CvL.nil))) (Cv.close (T := [24]) (chWrite x13)))) (ElKeep.tags rfl rfl) (ElKeep.tags rfl rfl)) ?_
         refine Wn ?_
         refine Lt ?_
         refine Cr ?_
         refine mv ?_
         refine wo (Spec.addI (Hs rfl) Has.int) ?_
         refine wo (Spec.assign (Hs rfl)) ?_
         refine Wn ?_
         refine Leaf.blockN ?_
         exact Leaf.join ((s7).set x14 x13, (wI (s8 + (1 : Int)))) hm (Sub.cons (Has.cv (Hs rfl) (Cv.trans (Cv.isvOw rfl) (Cv.owM (T := [34]) (te := [24]) rfl rfl))) (sn (st (st (sc (sc (sf (sg (sf (sg (sg (sf (sn (sn (sn (Sub.cons (Has.ownM (Hs rfl) rfl) Sub.nil))))))))))))))))
        ·have hm := cond_f hb hm
         refine CWalk.skip ?_
         refine Leaf.blockN ?_
         exact Leaf.join (s7, s8) hm (Sub.cons (Has.cv (Hs rfl) (Cv.owM (T := [23, 34]) (te := [24]) rfl rfl)) (sn (st (st (sc (sc (sf (sg (sf (sg (sg (sf (sn (sn (sn (Sub.cons (Has.ownM (Hs rfl) rfl) Sub.nil))))))))))))))))
     ·have hm := cond_f hb hm
      refine CWalk.exit ?_
      refine Leaf.thenE ?_
      exact Leaf.brk hm (fun h => nomatch h) rfl (Sub.cons (Has.cv (Hs rfl) (Cv.owM (T := [23, 34]) (te := [24]) rfl rfl)) (st (sc (sc (sg (sf (sg (sg (sf (sn (sn (Sub.cons (Has.ownM (Hs rfl) rfl) Sub.nil))))))))))))
    ·intro _
     refine Leaf.blockE ?_
     refine Lt ?_
     refine Cs ?_
     refine CWalk.ad (Ad.ow (s := 0) 35 rfl rfl (ElT.tags rfl) rfl (Cv.owM (T := [23, 34]) (te := [24]) (T' := [23, 34]) (te' := [24]) rfl rfl)) ?_
     refine Cr ?_
     refine mv ?_
     refine mv ?_
     obtain ⟨x16, hx16, hm⟩ := bind_some hm
     refine wo (Spec.slcWin hx16 ow59 (Hs rfl) rfl (Hs rfl)) ?_
     refine ws (Step.clearWin (te' := [24]) ow59 zt86 rfl (Hs rfl) rfl (ElKeep.tags rfl rfl)) ?_
     refine Wn ?_
     refine Lt ?_
     refine Cs ?_
     refine Cr ?_
     refine mv ?_
     refine mv ?_
     obtain ⟨x17, hx17, hm⟩ := bind_some hm
     refine wo (Spec.slcHiOw hx17 ow59 (Has.cv (Hs rfl) (Cv.isvOw rfl)) (Hs rfl)) ?_
     refine wo (Spec.assign (Hs rfl)) ?_
     refine Wn ?_
     refine Lt ?_
     refine CWalk.ret ?_
     exact Leaf.in1 x17 hm rfl rfl (HasR.cv (HasR.tmp (Hs rfl)) (Cv.owM (T := [35]) (te := [24]) rfl rfl)) (ls 902003 (ls 902006 (Low.res (lg (lf (lg (lg (lf (lo (lo (Low.keepR (fun _ _ _ _ h => h) (Has.ownM (Hs rfl) rfl) Low.nil)))))))))))
  ·rintro j5 hm
   replace hm : disk_Fua_J1 x2 x3 x4 j5 = some r := hm
   unfold disk_Fua_J1 at hm
   show Walk _ _ _ [.fact 3 (.isv 10), .fact 6 (.isv 16), .fact 28 (.ow [23, 35] [24] 86 (j5 : List Write)), .fact 100011 (.at 11 (.isv 25)), .fact 100013 (.at 13 (.rep [] x2.Dead)), .fact 100017 (.at 17 (.nilv)), .fact 100018 (.at 18 (.nilv)), .fact 100019 (.at 19 (.rep [] (false : Bool))), .fact 100010 (.obj 10 [(false, 1), (false, 1), (false, 1)]), .fact 100016 (.obj 16 [(false, 1), (false, 1), (false, 1)]), .fact 100025 (.own 25 [22, 26] 37 ((x2.Blocks).set x4 x3 : List (List UInt8)))] _
   refine wo (Spec.fieldAddrO fd61_1 (Has.cv (Hs rfl) (Cv.isvP rfl))) ?_
   refine ws (Step.storeF (i := 1) (f := Fact.ow [23, 35] [24] 86 (j5 : List Write)) rfl ty59 rfl (Hs rfl) rfl (Has.cv (Hs rfl) (Cv.trans Cv.owSl (Cv.slRep (T' := [23, 24, 35]) rfl rfl))) (Hs rfl) rfl) ?_
   refine Wn ?_
   refine Lt ?_
   refine Cs ?_
   refine Cr ?_
   refine wo (Spec.loadObj (ls := [(false, 1, Fact.isv 25), (false, 1, Fact.ow [23, 35] [24] 86 (j5 : List Write)), (false, 1, Fact.rep [] x2.Dead)]) ty61 rfl rfl (Hs rfl) rfl (Gz rfl (Gz rfl (Gz rfl HasGs.nil)))) ?_
   refine ws (Step.storeObj (ls := [(false, 1, Fact.isv 25), (false, 1, Fact.ow [23, 35] [24] 86 (j5 : List Write)), (false, 1, Fact.rep [] x2.Dead)]) rfl ty61 rfl rfl (Hs rfl) rfl (HasL.flds (Hs rfl)) rfl) ?_
   refine wo (Spec.assign Has.int) ?_
   refine Wn ?_
   refine Lt ?_
   refine CWalk.ret ?_
   obtain rfl := Option.some.inj hm
   exact Leaf.retC2 rfl (HasR.cv (HasR.obj (ls := [(false, 1, Fact.isv 25), (false, 1, Fact.ow [23, 35] [24] 86 (j5 : List Write)), (false, 1, Fact.rep [] x2.Dead)]) ty61 rfl rfl (Hs rfl) rfl (Gz rfl (Gz rfl (Gz rfl HasGs.nil)))) (Cv.flds (CvL.cons (Cv.trans (Cv.isvOw rfl) (Cv.owM (T := [25]) (te := [22, 26]) rfl rfl)) (CvL.cons (Cv.owM (T := [23, 35]) (te := [24]) rfl rfl) (Vf CvL.nil))))) (HasR.cv (HasR.tmp (Hs rfl)) Cv.fl)

/-- (freeboard/acts.act).fua -/
def acts_act_fua (a0 : Act45) (a1 : Disk) : Option (Disk × Int) :=
  Option.bind (disk_Fua a1 a0.At a0.Data) (fun x1 => some (x1.1, x1.2))
theorem acts_act_fua_c (a0 : Act45) (a1 : Disk) {r : Disk × Int} (hm : acts_act_fua a0 a1 = some r) : Ctr Try.prog 74 [.rep 0 a0, .rep 0 a1] (.tup2 (.flds [(false, 1, (.own 0 (some 1) 37 r.1.Blocks)), (false, 1, (.own 2 (some 3) 86 r.1.Wait)), (false, 1, (.fl r.1.Dead))]) (.fl r.2)) [] := by
 refine ctr_of_walk [[23], [24], [25], [26]] 14 Try.func74 rfl rfl rfl rfl (fun w0 om => ?_)
 unfold acts_act_fua at hm
 refine CWalk.sub (G' := [.fact 0 (.rep [0] (a0 : Act45)), .fact 1 (.rep [0] (a1 : Disk))]) (sn (sn Sub.nil)) ?_
 refine Cs ?_
 refine Cr ?_
 refine ws (Step.boxObj (ls := [(false, 1, Fact.rep [] a0.Disk), (false, 1, Fact.rep [] a0.Kind), (false, 1, Fact.rep [] a0.At), (false, 1, Fact.rep [0] a0.Data)]) 10 rfl rfl rfl rfl (HasL.flds (Has.cv (Hs rfl) (Cv.trans (Cv.opens (chAct45 a0)) (Cv.flds (Vf (Vf (Vf (CvL.cons Cv.refl CvL.nil))))))))) ?_
 refine ws (Step.boxObj (ls := [(false, 1, Fact.rep [0] a1.Blocks), (false, 1, Fact.rep [0] a1.Wait), (false, 1, Fact.rep [] a1.Dead)]) 15 rfl rfl rfl rfl (HasL.flds (Has.cv (Hs rfl) (Cv.trans (Cv.opens (chDisk a1)) (Cv.flds (CvL.cons Cv.refl (CvL.cons Cv.refl (Vf CvL.nil)))))))) ?_
 refine ws (Step.allocObj (ls := [(false, 1, Fact.nilv), (false, 1, Fact.nilv), (false, 1, Fact.rep [] (false : Bool))]) 19 rfl rfl rfl rfl zl61) ?_
 refine wo (Spec.assign Has.int) ?_
 refine Wn ?_
 refine Lt ?_
 refine Cs ?_
 refine Cr ?_
 refine wo (Spec.loadObj (ls := [(false, 1, Fact.rep [0] a1.Blocks), (false, 1, Fact.rep [0] a1.Wait), (false, 1, Fact.rep [] a1.Dead)]) ty61 rfl rfl (Hs rfl) rfl (Gz rfl (Gz rfl (Gz rfl HasGs.nil)))) ?_
 refine wo (Spec.fieldAddrO fd98_2 (Has.cv (Hs rfl) (Cv.isvP rfl))) ?_
 refine wo (Spec.loadF (i := 2) ty3 rfl (Hs rfl) rfl (HasG.s rfl)) ?_
 refine wo (Spec.fieldAddrO fd98_3 (Has.cv (Hs rfl) (Cv.isvP rfl))) ?_
 refine wo (Spec.loadF (i := 3) ty37 rfl (Hs rfl) rfl (HasG.s rfl)) ?_
 obtain ⟨x1, hx1, hm⟩ := bind_some hm
 refine wo (f := Fact.tup2 (Fact.flds [(false, 1, Fact.ow [23] [24] 37 (x1.1.Blocks : List (List UInt8))), (false, 1, Fact.ow [25] [26] 86 (x1.1.Wait : List Write)), (false, 1, Fact.rep [] x1.1.Dead)]) (Fact.rep [] x1.2)) (Spec.callE [0] 23 rfl en96 (disk_Fua_c a1 a0.At a0.Data hx1) (HasAll.cons (Has.m (Has.cv (Hs rfl) (Cv.trans (Cv.flds (CvL.cons (Cv.m rfl) (CvL.cons (Cv.m rfl) (Vf CvL.nil)))) (Cv.close (T := [0]) (chDisk a1)))) rfl) (HasAll.cons (Has.fl (Hs rfl)) (HasAll.cons (Has.m (Hs rfl) rfl) HasAll.nil)))) ?_
 refine wo (Spec.ext0 (Hs rfl)) ?_
 refine wo (Spec.ext1 (Hs rfl)) ?_
 refine ws (Step.storeObj (ls := [(false, 1, Fact.ow [23] [24] 37 (x1.1.Blocks : List (List UInt8))), (false, 1, Fact.ow [25] [26] 86 (x1.1.Wait : List Write)), (false, 1, Fact.rep [] x1.1.Dead)]) rfl ty61 rfl rfl (Hs rfl) rfl (HasL.flds (Hs rfl)) rfl) ?_
 refine wo (Spec.assign (Hs rfl)) ?_
 refine Wn ?_
 refine Lt ?_
 refine CWalk.ret ?_
 obtain rfl := Option.some.inj hm
 exact Leaf.retC2 rfl (HasR.cv (HasR.obj (ls := [(false, 1, Fact.ow [23] [24] 37 (x1.1.Blocks : List (List UInt8))), (false, 1, Fact.ow [25] [26] 86 (x1.1.Wait : List Write)), (false, 1, Fact.rep [] x1.1.Dead)]) ty61 rfl rfl (Hs rfl) rfl (Gz rfl (Gz rfl (Gz rfl HasGs.nil)))) (Cv.flds (CvL.cons (Cv.owM (T := [23]) (te := [24]) rfl rfl) (CvL.cons (Cv.owM (T := [25]) (te := [26]) rfl rfl) (Vf CvL.nil))))) (HasR.cv (HasR.tmp (Hs rfl)) Cv.fl)

def disk_Flush_L1 (x2 : Disk) (s3 : Int) (s4 : List (List UInt8)) : Option (Ctl (Int × (List (List UInt8))) ((List (List UInt8)))) :=
  (bif (decide (s3 < ((x2.Wait).length : Int))) then Option.bind (idx x2.Wait s3) (fun x6 => Option.bind (bnd (s4).length x6.At) (fun x7 => some (Ctl.next ((wI (s3 + (1 : Int))), (s4).set x7 x6.Data)))) else some (Ctl.brk s4))
/-- freeboard/disk.Flush -/
def disk_Flush (a0 : Disk) : Option (Disk × Int) :=
  Option.bind (disk_Check a0) (fun x1 => (bif (x1 != (0 : Int)) then some ((Disk.mk ([] : List (List UInt8)) ([] : List Write) false), x1) else (bif a0.Dead then some ((Disk.mk ([] : List (List UInt8)) ([] : List Write) false), (40 : Int)) else Option.bind (disk_Twin a0) (fun x2 => Option.bind (loopM (fun s : Int × (List (List UInt8)) => disk_Flush_L1 x2 s.1 s.2) FUEL ((0 : Int), x2.Blocks)) (fun b8 => Option.bind (disk_Twin (Disk.mk b8 ([] : List Write) x2.Dead)) (fun x9 => some (x9, (0 : Int))))))))
theorem disk_Flush_c (a0 : Disk) {r : Disk × Int} (hm : disk_Flush a0 = some r) : Ctr Try.prog 52 [.rep 0 a0] (.tup2 (.flds [(false, 1, (.own 0 (some 1) 37 r.1.Blocks)), (false, 1, (.own 2 (some 3) 86 r.1.Wait)), (false, 1, (.fl r.1.Dead))]) (.fl r.2)) [] := by
 refine ctr_of_walk [[27], [28], [29], [30]] 36 Try.func52 rfl rfl rfl rfl (fun w0 om => ?_)
 unfold disk_Flush at hm
 refine CWalk.sub (G' := [.fact 0 (.rep [0] (a0 : Disk))]) (sn Sub.nil) ?_
 refine Cs ?_
 refine Cr ?_
 refine ws (Step.boxObj (ls := [(false, 1, Fact.rep [0] a0.Blocks), (false, 1, Fact.rep [0] a0.Wait), (false, 1, Fact.rep [] a0.Dead)]) 10 rfl rfl rfl rfl (HasL.flds (Has.cv (Hs rfl) (Cv.trans (Cv.opens (chDisk a0)) (Cv.flds (CvL.cons Cv.refl (CvL.cons Cv.refl (Vf CvL.nil)))))))) ?_
 refine ws (Step.allocObj (ls := [(false, 1, Fact.nilv), (false, 1, Fact.nilv), (false, 1, Fact.rep [] (false : Bool))]) 14 rfl rfl rfl rfl zl61) ?_
 refine wo (Spec.assign Has.int) ?_
 refine Wn ?_
 refine Lt ?_
 refine Cs ?_
 refine Cs ?_
 refine Cr ?_
 refine wo (Spec.loadObj (ls := [(false, 1, Fact.rep [0] a0.Blocks), (false, 1, Fact.rep [0] a0.Wait), (false, 1, Fact.rep [] a0.Dead)]) ty61 rfl rfl (Hs rfl) rfl (Gz rfl (Gz rfl (Gz rfl HasGs.nil)))) ?_
 obtain ⟨x1, hx1, hm⟩ := bind_some hm
 refine wo (f := Fact.rep [] (x1 : Int)) (Spec.callE [0] 18 rfl en39 (disk_Check_c a0 hx1) (HasAll.cons (Has.m (Has.cv (Hs rfl) (Cv.trans (Cv.flds (CvL.cons (Cv.m rfl) (CvL.cons (Cv.m rfl) (Vf CvL.nil)))) (Cv.close (T := [0]) (chDisk a0)))) rfl) HasAll.nil)) ?_
 refine wo (Spec.assign (Hs rfl)) ?_
 refine Wn ?_
 refine Lt ?_
 refine Cs ?_
 refine Cr ?_
 refine mv ?_
 refine wo (Spec.neqI (Hs rfl) Has.int) ?_
 refine Wn ?_
 refine Lt ?_
 refine CWalk.cond rfl (fun hb => ?_) (fun hb => ?_)
 ·have hm := cond_t hb hm
  refine Cs ?_
  refine Cr ?_
  refine wo (Spec.build (us := []) (ls' := [(false, 1, Fact.nilv), (false, 1, Fact.nilv), (false, 1, Fact.rep [] (false : Bool))]) bd61 rfl BP.nil) ?_
  refine mv ?_
  refine ws (Step.storeObj (ls := [(false, 1, Fact.nilv), (false, 1, Fact.nilv), (false, 1, Fact.rep [] (false : Bool))]) rfl ty61 rfl rfl (Hs rfl) rfl (HasL.flds (Hs rfl)) rfl) ?_
  refine wo (Spec.assign (Hs rfl)) ?_
  refine Wn ?_
  refine Lt ?_
  refine CWalk.ret ?_
  refine Leaf.thenR ?_
  obtain rfl := Option.some.inj hm
  exact Leaf.retC2 rfl (HasR.cv (HasR.obj (ls := [(false, 1, Fact.nilv), (false, 1, Fact.nilv), (false, 1, Fact.rep [] (false : Bool))]) ty61 rfl rfl (Hs rfl) rfl (Gz rfl (Gz rfl (Gz rfl HasGs.nil)))) (Cv.flds (CvL.cons (Cv.trans Cv.nilOw (Cv.owM (T := []) (te := []) rfl rfl)) (CvL.cons (Cv.trans Cv.nilOw (Cv.owM (T := []) (te := []) rfl rfl)) (Vf CvL.nil))))) (HasR.cv (HasR.tmp (Hs rfl)) Cv.fl)
 ·have hm := cond_f hb hm
  refine CWalk.skip ?_
  refine Lt ?_
  refine Cs ?_
  refine Cs ?_
  refine Cr ?_
  refine wo (Spec.fieldAddrO fd61_2 (Has.cv (Hs rfl) (Cv.isvP rfl))) ?_
  refine wo (Spec.loadF (i := 2) ty4 rfl (Hs rfl) rfl (HasG.s rfl)) ?_
  refine Wn ?_
  refine Lt ?_
  refine CWalk.cond rfl (fun hb => ?_) (fun hb => ?_)
  ·have hm := cond_t hb hm
   refine Cs ?_
   refine Cr ?_
   refine wo (Spec.build (us := []) (ls' := [(false, 1, Fact.nilv), (false, 1, Fact.nilv), (false, 1, Fact.rep [] (false : Bool))]) bd61 rfl BP.nil) ?_
   refine ws (Step.storeObj (ls := [(false, 1, Fact.nilv), (false, 1, Fact.nilv), (false, 1, Fact.rep [] (false : Bool))]) rfl ty61 rfl rfl (Hs rfl) rfl (HasL.flds (Hs rfl)) rfl) ?_
   refine wo (Spec.assign Has.int) ?_
   refine Wn ?_
   refine Lt ?_
   refine CWalk.ret ?_
   refine Leaf.thenR ?_
   obtain rfl := Option.some.inj hm
   exact Leaf.retC2 rfl (HasR.cv (HasR.obj (ls := [(false, 1, Fact.nilv), (false, 1, Fact.nilv), (false, 1, Fact.rep [] (false : Bool))]) ty61 rfl rfl (Hs rfl) rfl (Gz rfl (Gz rfl (Gz rfl HasGs.nil)))) (Cv.flds (CvL.cons (Cv.trans Cv.nilOw (Cv.owM (T := []) (te := []) rfl rfl)) (CvL.cons (Cv.trans Cv.nilOw (Cv.owM (T := []) (te := []) rfl rfl)) (Vf CvL.nil))))) (HasR.cv (HasR.tmp (Hs rfl)) Cv.fl)
  ·have hm := cond_f hb hm
   refine CWalk.skip ?_
   refine Lt ?_
   refine Cs ?_
   refine Cr ?_
   refine wo (Spec.loadObj (ls := [(false, 1, Fact.rep [0] a0.Blocks), (false, 1, Fact.rep [0] a0.Wait), (false, 1, Fact.rep [] a0.Dead)]) ty61 rfl rfl (Hs rfl) rfl (Gz rfl (Gz rfl (Gz rfl HasGs.nil)))) ?_
   obtain ⟨x2, hx2, hm⟩ := bind_some hm
   refine wo (f := Fact.flds [(false, 1, Fact.ow [19] [20] 37 (x2.Blocks : List (List UInt8))), (false, 1, Fact.ow [21] [22] 86 (x2.Wait : List Write)), (false, 1, Fact.rep [] x2.Dead)]) (Spec.callE [0] 19 rfl en50 (disk_Twin_c a0 hx2) (HasAll.cons (Has.m (Has.cv (Hs rfl) (Cv.trans (Cv.flds (CvL.cons (Cv.m rfl) (CvL.cons (Cv.m rfl) (Vf CvL.nil)))) (Cv.close (T := [0]) (chDisk a0)))) rfl) HasAll.nil)) ?_
   refine ws (Step.storeObj (ls := [(false, 1, Fact.ow [19] [20] 37 (x2.Blocks : List (List UInt8))), (false, 1, Fact.ow [21] [22] 86 (x2.Wait : List Write)), (false, 1, Fact.rep [] x2.Dead)]) rfl ty61 rfl rfl (Hs rfl) rfl (HasL.flds (Hs rfl)) rfl) ?_
   refine Wn ?_
   refine Lt ?_
   refine Cs ?_
   refine Cs ?_
   refine Cr ?_
   refine wo (Spec.fieldAddrO fd61_1 (Has.cv (Hs rfl) (Cv.isvP rfl))) ?_
   refine wo (Spec.loadF (i := 1) ty59 rfl (Hs rfl) rfl (HasG.s rfl)) ?_
   refine wo (Spec.len (Has.cv (Hs rfl) (Cv.trans Cv.owSl (Cv.slRep (T' := [21, 22]) rfl rfl))) Try.underlying59) ?_
   refine wo (Spec.move Has.int) ?_
   refine Wn ?_
   refine Lt ?_
   refine CWalk.block ?_
   obtain ⟨b8, hb8, hm⟩ := bind_some hm
   refine CWalk.loop (fun s : Int × (List (List UInt8)) => [.fact 1 (.isv 10), .fact 2 (.isv 14), .fact 19 (.ow [21] [22] 86 (x2.Wait : List Write)), .fact 20 (.rep [] (((x2.Wait).length : Int) : Int)), .fact 21 (.rep [] s.1), .fact 100011 (.at 11 (.ow [19, 26] [20, 22] 37 (s.2 : List (List UInt8)))), .fact 100012 (.at 12 (.ow [21] [22] 86 (x2.Wait : List Write))), .fact 100013 (.at 13 (.rep [] x2.Dead)), .fact 100015 (.at 15 (.nilv)), .fact 100016 (.at 16 (.nilv)), .fact 100017 (.at 17 (.rep [] (false : Bool))), .fact 100010 (.obj 10 [(false, 1), (false, 1), (false, 1)]), .fact 100014 (.obj 14 [(false, 1), (false, 1), (false, 1)])]) (fun b : (List (List UInt8)) => (Exit.exit 0, [.fact 1 (.isv 10), .fact 2 (.isv 14), .fact 100011 (.at 11 (.ow [19, 26] [20, 22] 37 (b : List (List UInt8)))), .fact 100012 (.at 12 (.ow [21] [22] 86 (x2.Wait : List Write))), .fact 100013 (.at 13 (.rep [] x2.Dead)), .fact 100015 (.at 15 (.nilv)), .fact 100016 (.at 16 (.nilv)), .fact 100017 (.at 17 (.rep [] (false : Bool))), .fact 100010 (.obj 10 [(false, 1), (false, 1), (false, 1)]), .fact 100014 (.obj 14 [(false, 1), (false, 1), (false, 1)])])) hb8 (sn (sn (Sub.cons (Has.cv (Hs rfl) (Cv.owM (T := [21]) (te := [22]) rfl rfl)) (st (st (Sub.cons (Has.at (HasG.cv (HasG.s rfl) (Cv.owM (T := [19]) (te := [20]) rfl rfl))) (Sub.cons (Has.at (HasG.cv (HasG.s rfl) (Cv.owM (T := [21]) (te := [22]) rfl rfl))) (sf (sg (sg (sf (sn (sn Sub.nil))))))))))))) ?_ ?_
   ·rintro ⟨s3, s4⟩ c5 hm
    replace hm : disk_Flush_L1 x2 s3 s4 = some c5 := hm
    unfold disk_Flush_L1 at hm
    show CWalk _ [.fact 1 (.isv 10), .fact 2 (.isv 14), .fact 19 (.ow [21] [22] 86 (x2.Wait : List Write)), .fact 20 (.rep [] (((x2.Wait).length : Int) : Int)), .fact 21 (.rep [] (s3 : Int)), .fact 100011 (.at 11 (.ow [19, 26] [20, 22] 37 (s4 : List (List UInt8)))), .fact 100012 (.at 12 (.ow [21] [22] 86 (x2.Wait : List Write))), .fact 100013 (.at 13 (.rep [] x2.Dead)), .fact 100015 (.at 15 (.nilv)), .fact 100016 (.at 16 (.nilv)), .fact 100017 (.at 17 (.rep [] (false : Bool))), .fact 100010 (.obj 10 [(false, 1), (false, 1), (false, 1)]), .fact 100014 (.obj 14 [(false, 1), (false, 1), (false, 1)])] _ _
    refine Cs ?_
    refine Cr ?_
    refine wo (Spec.lssI (Hs rfl) (Hs rfl)) ?_
    refine Wn ?_
    refine Lt ?_
    refine Cs ?_
    refine CWalk.cond rfl (fun hb => ?_) (fun hb => ?_)
    ·have hm := cond_t hb hm
     refine CWalk.skip ?_
     refine Lt ?_
     refine Cs ?_
     refine CWalk.block ?_
     refine Cs ?_
     refine Cr ?_
     obtain ⟨x6, hx6, hm⟩ := bind_some hm
     refine wo (Spec.indexSl hx6 sl59 (Has.cv (Hs rfl) Cv.owSl) (Hs rfl)) ?_
     refine wo (Spec.loadS ty86 (Hs rfl)) ?_
     refine ws (Step.allocObj (ls := [(false, 1, Fact.rep [] ((0 : Int) : Int)), (false, 1, Fact.nilv)]) 23 rfl rfl rfl rfl zl86) ?_
     refine ws (Step.storeObj (ls := [(false, 1, Fact.rep [] x6.At), (false, 1, Fact.rep [22] x6.Data)]) rfl ty86 rfl rfl (Hs rfl) rfl (HasL.flds (Has.cv (Hs rfl) (Cv.trans (Cv.opens (chWrite x6)) (Cv.flds (Vf (CvL.cons Cv.refl CvL.nil)))))) rfl) ?_
     refine Wn ?_
     refine Lt ?_
     refine CWalk.ad (Ad.owF (i := 11) 26 rfl rfl rfl (ElT.tags rfl) rfl (Cv.owM (T := [19, 26]) (te := [20, 22]) (T' := [19, 26]) (te' := [20, 22]) rfl rfl)) ?_
     refine Cr ?_
     refine wo (Spec.fieldAddrO fd61_0 (Has.cv (Hs rfl) (Cv.isvP rfl))) ?_
     refine wo (Spec.loadF (i := 0) ty36 rfl (Hs rfl) rfl (HasG.s rfl)) ?_
     refine wo (Spec.fieldAddrO fd86_0 (Has.cv (Hs rfl) (Cv.isvP rfl))) ?_
     refine wo (Spec.loadF (i := 0) ty3 rfl (Hs rfl) rfl (HasG.s rfl)) ?_
     refine wo (Spec.fieldAddrO fd86_1 (Has.cv (Hs rfl) (Cv.isvP rfl))) ?_
     refine wo (Spec.loadF (i := 1) ty37 rfl (Hs rfl) rfl (HasG.s rfl)) ?_
     obtain ⟨x7, hx7, hm⟩ := bind_some hm
     refine wo (Spec.idxOwn hx7 ow36 (Hs rfl) rfl (Hs rfl)) ?_
     refine ws (Step.storeOwn (te' := [20, 22]) rfl (bnd_lt hx7 rfl) ty37 (Hs rfl) rfl (Hs rfl) (ElKeep.tags rfl rfl) (ElKeep.tags rfl rfl)) ?_
     refine Wn ?_
     refine Leaf.blockN ?_
     refine Lt ?_
     refine Cr ?_
     refine wo (Spec.addI (Hs rfl) Has.int) ?_
     refine mv ?_
     refine Wn ?_
     exact Leaf.next hm (sn (sn (Sub.cons (Has.cv (Hs rfl) (Cv.owM (T := [21]) (te := [22]) rfl rfl)) (st (st (Sub.cons (Has.at (HasG.cv (HasG.s rfl) (Cv.trans (Cv.isvOw rfl) (Cv.owM (T := [26]) (te := [20, 22]) rfl rfl)))) (Sub.cons (Has.at (HasG.cv (HasG.s rfl) (Cv.owM (T := [21]) (te := [22]) rfl rfl))) (sf (sg (sg (sf (sn (sn Sub.nil)))))))))))))
    ·have hm := cond_f hb hm
     refine CWalk.exit ?_
     refine Leaf.thenE ?_
     exact Leaf.brk hm (fun h => nomatch h) rfl (sn (sn (Sub.cons (Has.at (HasG.cv (HasG.s rfl) (Cv.owM (T := [19, 26]) (te := [20, 22]) rfl rfl))) (Sub.cons (Has.at (HasG.cv (HasG.s rfl) (Cv.owM (T := [21]) (te := [22]) rfl rfl))) (sf (sg (sg (sf (sn (sn Sub.nil))))))))))
   ·intro _
    refine Leaf.blockE ?_
    refine Lt ?_
    refine Cs ?_
    refine Cr ?_
    refine wo (Spec.fieldAddrO fd61_1 (Has.cv (Hs rfl) (Cv.isvP rfl))) ?_
    refine ws (Step.storeF (i := 1) (f := Fact.nilv) rfl ty59 rfl (Hs rfl) rfl (Has.cv Has.nilv (Cv.nil (T := []))) Has.nilv rfl) ?_
    refine Wn ?_
    refine Lt ?_
    refine Cs ?_
    refine Cr ?_
    refine wo (Spec.loadObj (ls := [(false, 1, Fact.ow [19, 26] [20, 22] 37 (b8 : List (List UInt8))), (false, 1, Fact.nilv), (false, 1, Fact.rep [] x2.Dead)]) ty61 rfl rfl (Hs rfl) rfl (Gz rfl (Gz rfl (Gz rfl HasGs.nil)))) ?_
    obtain ⟨x9, hx9, hm⟩ := bind_some hm
    refine wo (f := Fact.flds [(false, 1, Fact.ow [27] [28] 37 (x9.Blocks : List (List UInt8))), (false, 1, Fact.ow [29] [30] 86 (x9.Wait : List Write)), (false, 1, Fact.rep [] x9.Dead)]) (Spec.callE [19, 20, 22, 26] 27 rfl en50 (disk_Twin_c (Disk.mk b8 ([] : List Write) x2.Dead) hx9) (HasAll.cons (Has.m (Has.cv (Hs rfl) (Cv.trans (Cv.flds (CvL.cons (Cv.trans (Cv.trans Cv.owSl (Cv.slRep (T' := [19, 20, 22, 26]) rfl rfl)) (Cv.m rfl)) (CvL.cons (Cv.trans (Cv.nil (T := [])) (Cv.m rfl)) (Vf CvL.nil)))) (Cv.close (T := [19, 20, 22, 26]) (chDisk (Disk.mk b8 ([] : List Write) x2.Dead))))) rfl) HasAll.nil)) ?_
    refine ws (Step.storeObj (ls := [(false, 1, Fact.ow [27] [28] 37 (x9.Blocks : List (List UInt8))), (false, 1, Fact.ow [29] [30] 86 (x9.Wait : List Write)), (false, 1, Fact.rep [] x9.Dead)]) rfl ty61 rfl rfl (Hs rfl) rfl (HasL.flds (Hs rfl)) rfl) ?_
    refine wo (Spec.assign Has.int) ?_
    refine Wn ?_
    refine Lt ?_
    refine CWalk.ret ?_
    obtain rfl := Option.some.inj hm
    exact Leaf.retC2 rfl (HasR.cv (HasR.obj (ls := [(false, 1, Fact.ow [27] [28] 37 (x9.Blocks : List (List UInt8))), (false, 1, Fact.ow [29] [30] 86 (x9.Wait : List Write)), (false, 1, Fact.rep [] x9.Dead)]) ty61 rfl rfl (Hs rfl) rfl (Gz rfl (Gz rfl (Gz rfl HasGs.nil)))) (Cv.flds (CvL.cons (Cv.owM (T := [27]) (te := [28]) rfl rfl) (CvL.cons (Cv.owM (T := [29]) (te := [30]) rfl rfl) (Vf CvL.nil))))) (HasR.cv (HasR.tmp (Hs rfl)) Cv.fl)

/-- (freeboard/acts.act).flush -/
def acts_act_flush (a0 : Act45) (a1 : Disk) : Option (Disk × Int) :=
  Option.bind (disk_Flush a1) (fun x1 => some (x1.1, x1.2))
theorem acts_act_flush_c (a0 : Act45) (a1 : Disk) {r : Disk × Int} (hm : acts_act_flush a0 a1 = some r) : Ctr Try.prog 75 [.rep 0 a0, .rep 0 a1] (.tup2 (.flds [(false, 1, (.own 0 (some 1) 37 r.1.Blocks)), (false, 1, (.own 2 (some 3) 86 r.1.Wait)), (false, 1, (.fl r.1.Dead))]) (.fl r.2)) [] := by
 refine ctr_of_walk [[23], [24], [25], [26]] 10 Try.func75 rfl rfl rfl rfl (fun w0 om => ?_)
 unfold acts_act_flush at hm
 refine CWalk.sub (G' := [.fact 0 (.rep [0] (a0 : Act45)), .fact 1 (.rep [0] (a1 : Disk))]) (sn (sn Sub.nil)) ?_
 refine Cs ?_
 refine Cr ?_
 refine ws (Step.boxObj (ls := [(false, 1, Fact.rep [] a0.Disk), (false, 1, Fact.rep [] a0.Kind), (false, 1, Fact.rep [] a0.At), (false, 1, Fact.rep [0] a0.Data)]) 10 rfl rfl rfl rfl (HasL.flds (Has.cv (Hs rfl) (Cv.trans (Cv.opens (chAct45 a0)) (Cv.flds (Vf (Vf (Vf (CvL.cons Cv.refl CvL.nil))))))))) ?_
 refine ws (Step.boxObj (ls := [(false, 1, Fact.rep [0] a1.Blocks), (false, 1, Fact.rep [0] a1.Wait), (false, 1, Fact.rep [] a1.Dead)]) 15 rfl rfl rfl rfl (HasL.flds (Has.cv (Hs rfl) (Cv.trans (Cv.opens (chDisk a1)) (Cv.flds (CvL.cons Cv.refl (CvL.cons Cv.refl (Vf CvL.nil)))))))) ?_
 refine ws (Step.allocObj (ls := [(false, 1, Fact.nilv), (false, 1, Fact.nilv), (false, 1, Fact.rep [] (false : Bool))]) 19 rfl rfl rfl rfl zl61) ?_
 refine wo (Spec.assign Has.int) ?_
 refine Wn ?_
 refine Lt ?_
 refine Cs ?_
 refine Cr ?_
 refine wo (Spec.loadObj (ls := [(false, 1, Fact.rep [0] a1.Blocks), (false, 1, Fact.rep [0] a1.Wait), (false, 1, Fact.rep [] a1.Dead)]) ty61 rfl rfl (Hs rfl) rfl (Gz rfl (Gz rfl (Gz rfl HasGs.nil)))) ?_
 obtain ⟨x1, hx1, hm⟩ := bind_some hm
 refine wo (f := Fact.tup2 (Fact.flds [(false, 1, Fact.ow [23] [24] 37 (x1.1.Blocks : List (List UInt8))), (false, 1, Fact.ow [25] [26] 86 (x1.1.Wait : List Write)), (false, 1, Fact.rep [] x1.1.Dead)]) (Fact.rep [] x1.2)) (Spec.callE [0] 23 rfl en52 (disk_Flush_c a1 hx1) (HasAll.cons (Has.m (Has.cv (Hs rfl) (Cv.trans (Cv.flds (CvL.cons (Cv.m rfl) (CvL.cons (Cv.m rfl) (Vf CvL.nil)))) (Cv.close (T := [0]) (chDisk a1)))) rfl) HasAll.nil)) ?_
 refine wo (Spec.ext0 (Hs rfl)) ?_
 refine wo (Spec.ext1 (Hs rfl)) ?_
 refine ws (Step.storeObj (ls := [(false, 1, Fact.ow [23] [24] 37 (x1.1.Blocks : List (List UInt8))), (false, 1, Fact.ow [25] [26] 86 (x1.1.Wait : List Write)), (false, 1, Fact.rep [] x1.1.Dead)]) rfl ty61 rfl rfl (Hs rfl) rfl (HasL.flds (Hs rfl)) rfl) ?_
 refine wo (Spec.assign (Hs rfl)) ?_
 refine Wn ?_
 refine Lt ?_
 refine CWalk.ret ?_
 obtain rfl := Option.some.inj hm
 exact Leaf.retC2 rfl (HasR.cv (HasR.obj (ls := [(false, 1, Fact.ow [23] [24] 37 (x1.1.Blocks : List (List UInt8))), (false, 1, Fact.ow [25] [26] 86 (x1.1.Wait : List Write)), (false, 1, Fact.rep [] x1.1.Dead)]) ty61 rfl rfl (Hs rfl) rfl (Gz rfl (Gz rfl (Gz rfl HasGs.nil)))) (Cv.flds (CvL.cons (Cv.owM (T := [23]) (te := [24]) rfl rfl) (CvL.cons (Cv.owM (T := [25]) (te := [26]) rfl rfl) (Vf CvL.nil))))) (HasR.cv (HasR.tmp (Hs rfl)) Cv.fl)

/-- a call of one of some functions -/
def fncall96 (m : FnI [73, 74, 75]) (a0 : Act45) (a1 : Disk) : Option (Disk × Int) :=
  match m.i with
  | 1 => acts_act_write a0 a1
  | 2 => acts_act_fua a0 a1
  | 3 => acts_act_flush a0 a1
  | _ => none
theorem fncall96_c (m : FnI [73, 74, 75]) (a0 : Act45) (a1 : Disk) {r : Disk × Int} (hm : fncall96 m a0 a1 = some r) : ∃ k, fnAt [73, 74, 75] m.i = some k ∧ enters Try.prog k = true ∧ Ctr Try.prog k [.rep 0 a0, .rep 0 a1] (.tup2 (.flds [(false, 1, (.own 0 (some 1) 37 r.1.Blocks)), (false, 1, (.own 2 (some 3) 86 r.1.Wait)), (false, 1, (.fl r.1.Dead))]) (.fl r.2)) [] := by
  obtain ⟨i⟩ := m
  match i, hm with
  | 0, hm => cases hm
  | 1, hm => exact ⟨73, rfl, en73, acts_act_write_c a0 a1 hm⟩
  | 2, hm => exact ⟨74, rfl, en74, acts_act_fua_c a0 a1 hm⟩
  | 3, hm => exact ⟨75, rfl, en75, acts_act_flush_c a0 a1 hm⟩
  | _ + 4, hm => cases hm

def acts_Run_J2 (s5 : Int) (j7 : List Disk) : Option (Ctl ((List Disk) × Int) (((List Disk)) ⊕ (Int))) :=
  some (Ctl.next (j7, (wI (s5 + (1 : Int)))))
def acts_Run_L1 (x3 : List Act45) (s4 : List Disk) (s5 : Int) : Option (Ctl ((List Disk) × Int) (((List Disk)) ⊕ (Int))) :=
  (bif (decide (s5 < ((x3).length : Int))) then Option.bind (idx x3 s5) (fun x8 => Option.bind (idx s4 x8.Disk) (fun x9 => (bif x9.Dead then (acts_Run_J2 s5 s4) else Option.bind (acts_does x8.Kind) (fun x10 => Option.bind (fncall96 x10 x8 x9) (fun x11 => (bif (x11.2 != (0 : Int)) then some (Ctl.brk (Sum.inr x11.2)) else Option.bind (bnd (s4).length x8.Disk) (fun x12 => (acts_Run_J2 s5 ((s4).set x12 x11.1))))))))) else some (Ctl.brk (Sum.inl s4)))
/-- freeboard/acts.Run -/
def acts_Run (a0 : List Disk) (a1 : List Act45) (a2 : Int) : Option ((List Disk) × Int) :=
  Option.bind (acts_Check a1 a0) (fun x1 => (bif (x1 != (0 : Int)) then some (([] : List Disk), x1) else (bif ((decide (a2 < (0 : Int))) || (decide (a2 > ((a1).length : Int)))) then some (([] : List Disk), (2 : Int)) else Option.bind (acts_twins a0) (fun x2 => Option.bind (slc a1 0 a2) (fun x3 => Option.bind (loopM (fun s : (List Disk) × Int => acts_Run_L1 x3 s.1 s.2) FUEL (x2, (0 : Int))) (fun b13 => Sum.elim (fun b14 => some (b14, (0 : Int))) (fun b15 => some (([] : List Disk), b15)) b13))))))
theorem acts_Run_c (a0 : List Disk) (a1 : List Act45) (a2 : Int) {r : (List Disk) × Int} (hm : acts_Run a0 a1 a2 = some r) : Ctr Try.prog 18 [.rep 0 a0, .rep 0 a1, .rep 0 a2] (.tup2 (.own 0 (some 1) 61 r.1) (.fl r.2)) [] := by
 refine ctr_of_walk [[11, 31], [12, 23, 24, 25, 26]] 65 Try.func18 rfl rfl rfl rfl (fun w0 om => ?_)
 unfold acts_Run at hm
 refine CWalk.sub (G' := [.fact 0 (.rep [0] (a0 : List Disk)), .fact 1 (.rep [0] (a1 : List Act45)), .fact 2 (.rep [] (a2 : Int))]) (sn (sn (Sub.cons (Has.fl (Hs rfl)) Sub.nil))) ?_
 refine Cs ?_
 refine Cr ?_
 refine wo (Spec.assign Has.nilv) ?_
 refine wo (Spec.assign Has.int) ?_
 refine Wn ?_
 refine Lt ?_
 refine Cs ?_
 refine Cs ?_
 refine Cr ?_
 refine mv ?_
 refine mv ?_
 obtain ⟨x1, hx1, hm⟩ := bind_some hm
 refine wo (f := Fact.rep [] (x1 : Int)) (Spec.callE [0] 10 rfl en42 (acts_Check_c a1 a0 hx1) (HasAll.cons (Has.m (Hs rfl) rfl) (HasAll.cons (Has.m (Hs rfl) rfl) HasAll.nil))) ?_
 refine wo (Spec.assign (Hs rfl)) ?_
 refine Wn ?_
 refine Lt ?_
 refine Cs ?_
 refine Cr ?_
 refine mv ?_
 refine wo (Spec.neqI (Hs rfl) Has.int) ?_
 refine Wn ?_
 refine Lt ?_
 refine CWalk.cond rfl (fun hb => ?_) (fun hb => ?_)
 ·have hm := cond_t hb hm
  refine Cs ?_
  refine Cr ?_
  refine mv ?_
  refine wo (Spec.assign Has.nilv) ?_
  refine wo (Spec.assign (Hs rfl)) ?_
  refine Wn ?_
  refine Lt ?_
  refine CWalk.ret ?_
  refine Leaf.thenR ?_
  obtain rfl := Option.some.inj hm
  exact Leaf.retC2 rfl (HasR.cv (HasR.tmp (Hs rfl)) (Cv.trans Cv.nilOw (Cv.owM (T := []) (te := []) rfl rfl))) (HasR.cv (HasR.tmp (Hs rfl)) Cv.fl)
 ·have hm := cond_f hb hm
  refine CWalk.skip ?_
  refine Lt ?_
  refine Cs ?_
  refine Cs ?_
  refine Cr ?_
  refine mv ?_
  refine wo (Spec.lssI (Hs rfl) Has.int) ?_
  refine mv ?_
  refine wg rfl rfl (fun hb => Spec.move (Hs rfl)) ?_
  refine wg rfl rfl (fun hb => Spec.move (Hs rfl)) ?_
  refine wg rfl rfl (fun hb => Spec.len (Has.u rfl hb) Try.underlying23) ?_
  refine wg rfl rfl (fun hb => Spec.gtrI (Has.u rfl hb) (Has.u rfl hb)) ?_
  refine wo (Spec.or (Hs rfl) (fun h => Has.u rfl h)) ?_
  refine Wn ?_
  refine Lt ?_
  refine CWalk.cond rfl (fun hb => ?_) (fun hb => ?_)
  ·have hm := cond_t hb hm
   refine Cs ?_
   refine Cr ?_
   refine wo (Spec.assign Has.nilv) ?_
   refine wo (Spec.assign Has.int) ?_
   refine Wn ?_
   refine Lt ?_
   refine CWalk.ret ?_
   refine Leaf.thenR ?_
   obtain rfl := Option.some.inj hm
   exact Leaf.retC2 rfl (HasR.cv (HasR.tmp (Hs rfl)) (Cv.trans Cv.nilOw (Cv.owM (T := []) (te := []) rfl rfl))) (HasR.cv (HasR.tmp (Hs rfl)) Cv.fl)
  ·have hm := cond_f hb hm
   refine CWalk.skip ?_
   refine Lt ?_
   refine Cs ?_
   refine Cr ?_
   refine mv ?_
   obtain ⟨x2, hx2, hm⟩ := bind_some hm
   refine wo (f := Fact.ow [11] [12] 61 (x2 : List Disk)) (Spec.callE [0] 11 rfl en43 (acts_twins_c a0 hx2) (HasAll.cons (Has.m (Hs rfl) rfl) HasAll.nil)) ?_
   refine wo (Spec.assign (Hs rfl)) ?_
   refine Wn ?_
   refine Lt ?_
   refine Cs ?_
   refine Cs ?_
   refine Cr ?_
   refine mv ?_
   refine mv ?_
   obtain ⟨x3, hx3, hm⟩ := bind_some hm
   refine wo (Spec.slcHi hx3 sl23 (Hs rfl) (Hs rfl)) ?_
   refine wo (Spec.len (Hs rfl) Try.underlying23) ?_
   refine wo (Spec.move Has.int) ?_
   refine Wn ?_
   refine Lt ?_
   refine CWalk.block ?_
   obtain ⟨b13, hb13, hm⟩ := bind_some hm
   refine CWalk.loop (fun s : (List Disk) × Int => [.fact 9 (.ow [11, 31] [12, 23, 24, 25, 26] 61 (s.1 : List Disk)), .fact 33 (.rep [0] (x3 : List Act45)), .fact 34 (.rep [] (((x3).length : Int) : Int)), .fact 35 (.rep [] s.2)]) (fun b : ((List Disk)) ⊕ (Int) => Sum.elim (fun b => (Exit.exit 0, [.fact 9 (.ow [11, 31] [12, 23, 24, 25, 26] 61 (b : List Disk))])) (fun b => (Exit.ret, [.fact 6 (.nilv), .fact 7 (.rep [] (b : Int))])) b) hb13 (Sub.cons (Has.cv (Hs rfl) (Cv.owM (T := [11]) (te := [12]) rfl rfl)) (su (st (st Sub.nil)))) ?_ ?_
   ·rintro ⟨s4, s5⟩ c6 hm
    replace hm : acts_Run_L1 x3 s4 s5 = some c6 := hm
    unfold acts_Run_L1 at hm
    show CWalk _ [.fact 9 (.ow [11, 31] [12, 23, 24, 25, 26] 61 (s4 : List Disk)), .fact 33 (.rep [0] (x3 : List Act45)), .fact 34 (.rep [] (((x3).length : Int) : Int)), .fact 35 (.rep [] (s5 : Int))] _ _
    refine Cs ?_
    refine Cr ?_
    refine wo (Spec.lssI (Hs rfl) (Hs rfl)) ?_
    refine Wn ?_
    refine Lt ?_
    refine Cs ?_
    refine CWalk.cond rfl (fun hb => ?_) (fun hb => ?_)
    ·have hm := cond_t hb hm
     refine CWalk.skip ?_
     refine Lt ?_
     refine CWalk.seqJ (fun p : (List Disk) => [.fact 9 (.ow [11, 31] [12, 23, 24, 25, 26] 61 (p : List Disk)), .fact 33 (.rep [0] (x3 : List Act45)), .fact 34 (.rep [] (((x3).length : Int) : Int)), .fact 35 (.rep [] (s5 : Int))]) (fun p : (List Disk) => acts_Run_J2 s5 p = some c6) ?_ ?_
     ·rintro j7 hm
      replace hm : acts_Run_J2 s5 j7 = some c6 := hm
      unfold acts_Run_J2 at hm
      show CWalk _ [.fact 9 (.ow [11, 31] [12, 23, 24, 25, 26] 61 (j7 : List Disk)), .fact 33 (.rep [0] (x3 : List Act45)), .fact 34 (.rep [] (((x3).length : Int) : Int)), .fact 35 (.rep [] (s5 : Int))] _ _
      refine Cr ?_
      refine wo (Spec.addI (Hs rfl) Has.int) ?_
      refine mv ?_
      refine Wn ?_
      exact Leaf.next hm (Sub.cons (Has.cv (Hs rfl) (Cv.owM (T := [11, 31]) (te := [12, 23, 24, 25, 26]) rfl rfl)) (su (st (st Sub.nil))))
     ·refine CWalk.block ?_
      refine Cs ?_
      refine Cr ?_
      obtain ⟨x8, hx8, hm⟩ := bind_some hm
      refine wo (Spec.indexAddr hx8 sl23 (Hs rfl) (Hs rfl)) ?_
      refine wo (Spec.load ty45 (Hs rfl)) ?_
      refine ws (Step.allocObj (ls := [(false, 1, Fact.rep [] ((0 : Int) : Int)), (false, 1, Fact.rep [] ((0 : UInt8) : UInt8)), (false, 1, Fact.rep [] ((0 : Int) : Int)), (false, 1, Fact.nilv)]) 13 rfl rfl rfl rfl zl45) ?_
      refine ws (Step.storeObj (ls := [(false, 1, Fact.rep [] x8.Disk), (false, 1, Fact.rep [] x8.Kind), (false, 1, Fact.rep [] x8.At), (false, 1, Fact.rep [0] x8.Data)]) rfl ty45 rfl rfl (Hs rfl) rfl (HasL.flds (Has.cv (Hs rfl) (Cv.trans (Cv.opens (chAct45 x8)) (Cv.flds (Vf (Vf (Vf (CvL.cons Cv.refl CvL.nil)))))))) rfl) ?_
      refine Wn ?_
      refine Lt ?_
      refine Cs ?_
      refine Cr ?_
      refine mv ?_
      refine wo (Spec.fieldAddrO fd45_0 (Has.cv (Hs rfl) (Cv.isvP rfl))) ?_
      refine wo (Spec.loadF (i := 0) ty3 rfl (Hs rfl) rfl (HasG.s rfl)) ?_
      obtain ⟨x9, hx9, hm⟩ := bind_some hm
      refine wo (Spec.indexSl hx9 sl49 (Has.cv (Hs rfl) Cv.owSl) (Hs rfl)) ?_
      refine wo (Spec.loadS ty61 (Hs rfl)) ?_
      refine ws (Step.allocObj (ls := [(false, 1, Fact.nilv), (false, 1, Fact.nilv), (false, 1, Fact.rep [] (false : Bool))]) 18 rfl rfl rfl rfl zl61) ?_
      refine ws (Step.storeObj (ls := [(false, 1, Fact.rep [12, 23, 24, 25, 26] x9.Blocks), (false, 1, Fact.rep [12, 23, 24, 25, 26] x9.Wait), (false, 1, Fact.rep [] x9.Dead)]) rfl ty61 rfl rfl (Hs rfl) rfl (HasL.flds (Has.cv (Hs rfl) (Cv.trans (Cv.opens (chDisk x9)) (Cv.flds (CvL.cons Cv.refl (CvL.cons Cv.refl (Vf CvL.nil))))))) rfl) ?_
      refine Wn ?_
      refine Lt ?_
      refine Cs ?_
      refine Cs ?_
      refine Cr ?_
      refine wo (Spec.fieldAddrO fd61_2 (Has.cv (Hs rfl) (Cv.isvP rfl))) ?_
      refine wo (Spec.loadF (i := 2) ty4 rfl (Hs rfl) rfl (HasG.s rfl)) ?_
      refine Wn ?_
      refine Lt ?_
      refine CWalk.cond rfl (fun hb => ?_) (fun hb => ?_)
      ·have hm := cond_t hb hm
       refine CWalk.exit ?_
       refine Leaf.thenE ?_
       refine Leaf.blockE ?_
       exact Leaf.join s4 hm (Sub.cons (Has.cv (Hs rfl) (Cv.owM (T := [11, 31]) (te := [12, 23, 24, 25, 26]) rfl rfl)) (su (st (st Sub.nil))))
      ·have hm := cond_f hb hm
       refine CWalk.skip ?_
       refine Lt ?_
       refine Cs ?_
       obtain ⟨x10, hx10, hm⟩ := bind_some hm
       obtain ⟨x11, hx11, hm⟩ := bind_some hm
       refine CWalk.drawM [[], [0], [0, 1], [], [], [0, 1, 2, 3, 4], [0, 1, 2, 3, 4, 5], [0, 1, 2, 3, 4, 5, 6], [0, 1, 2, 3, 4, 5, 6], [], [0, 1, 2, 3, 4, 5, 6, 7, 9], [0, 1, 2, 3, 4, 5, 6, 7, 8, 9, 10]] [[.fact 47 (.pto 13 1)], [.fact 48 (.rep [] x8.Kind)], [.fact 49 (.rep [] (x10 : FnI [73, 74, 75]))], [.fact 50 (.flds [(false, 1, Fact.rep [] x8.Disk), (false, 1, Fact.rep [] x8.Kind), (false, 1, Fact.rep [] x8.At), (false, 1, Fact.rep [0] x8.Data)])], [.fact 51 (.flds [(false, 1, Fact.rep [12, 23, 24, 25, 26] x9.Blocks), (false, 1, Fact.rep [12, 23, 24, 25, 26] x9.Wait), (false, 1, Fact.rep [] x9.Dead)])], [.fact 52 (.tup2 (Fact.flds [(false, 1, Fact.ow [23] [24] 37 (x11.1.Blocks : List (List UInt8))), (false, 1, Fact.ow [25] [26] 86 (x11.1.Wait : List Write)), (false, 1, Fact.rep [] x11.1.Dead)]) (Fact.rep [] x11.2))], [.fact 46 (.tup2 (Fact.flds [(false, 1, Fact.ow [23] [24] 37 (x11.1.Blocks : List (List UInt8))), (false, 1, Fact.ow [25] [26] 86 (x11.1.Wait : List Write)), (false, 1, Fact.rep [] x11.1.Dead)]) (Fact.rep [] x11.2))], [.fact 53 (.flds [(false, 1, Fact.ow [23] [24] 37 (x11.1.Blocks : List (List UInt8))), (false, 1, Fact.ow [25] [26] 86 (x11.1.Wait : List Write)), (false, 1, Fact.rep [] x11.1.Dead)])], [.fact 54 (.rep [] x11.2)], [.fact 13 (.isv 27), .fact 100027 (.obj 27 [(false, 1), (false, 1), (false, 1)]), .fact 100028 (.at 28 (.nilv)), .fact 100029 (.at 29 (.nilv)), .fact 100030 (.at 30 (.rep [] (false : Bool))), .killId 27, .killId 28, .killId 29, .killId 30], [.fact 100027 (.obj 27 [(false, 1), (false, 1), (false, 1)]), .fact 100028 (.at 28 (.ow [23] [24] 37 (x11.1.Blocks : List (List UInt8)))), .fact 100029 (.at 29 (.ow [25] [26] 86 (x11.1.Wait : List Write))), .fact 100030 (.at 30 (.rep [] x11.1.Dead)), .kill 27, .killId 28, .killId 29, .killId 30], [.fact 14 (.rep [] x11.2)]] mixed (by kernel_rfl) (ao (so (Spec.fieldAddrO fd45_1 (Has.cv (Hs rfl) (Cv.isvP rfl)))) (ao (so (Spec.loadF (i := 1) ty5 rfl (Hs rfl) rfl (HasG.s rfl))) (ao (so (Spec.callE [] 22 rfl en44 (acts_does_c x8.Kind hx10) (HasAll.cons (Has.fl (Hs rfl)) HasAll.nil))) (ao (so (Spec.loadObj (ls := [(false, 1, Fact.rep [] x8.Disk), (false, 1, Fact.rep [] x8.Kind), (false, 1, Fact.rep [] x8.At), (false, 1, Fact.rep [0] x8.Data)]) ty45 rfl rfl (Hs rfl) rfl (Gz rfl (Gz rfl (Gz rfl (Gz rfl HasGs.nil)))))) (ao (so (Spec.loadObj (ls := [(false, 1, Fact.rep [12, 23, 24, 25, 26] x9.Blocks), (false, 1, Fact.rep [12, 23, 24, 25, 26] x9.Wait), (false, 1, Fact.rep [] x9.Dead)]) ty61 rfl rfl (Hs rfl) rfl (Gz rfl (Gz rfl (Gz rfl HasGs.nil))))) (ao (so (Spec.callIE (xs := [.tmp 50, .tmp 51]) [0, 12, 23, 24, 25, 26] 23 rfl (Hs rfl) (fncall96_c x10 x8 x9 hx11) (HasAll.cons (Has.m (Has.cv (Hs rfl) (Cv.trans (Cv.flds (Vf (Vf (Vf (CvL.cons (Cv.m rfl) CvL.nil))))) (Cv.close (T := [0]) (chAct45 x8)))) rfl) (HasAll.cons (Has.m (Has.cv (Hs rfl) (Cv.trans (Cv.flds (CvL.cons (Cv.m rfl) (CvL.cons (Cv.m rfl) (Vf CvL.nil)))) (Cv.close (T := [12, 23, 24, 25, 26]) (chDisk x9)))) rfl) HasAll.nil)))) (ao (so (Spec.move (Hs rfl))) (ao (so (Spec.ext0 (Hs rfl))) (ao (so (Spec.ext1 (Hs rfl))) (ao (StepG.stE (Step.allocObj (ls := [(false, 1, Fact.nilv), (false, 1, Fact.nilv), (false, 1, Fact.rep [] (false : Bool))]) 27 rfl rfl rfl rfl zl61)) (ao (StepG.stE (Step.storeObj (ls := [(false, 1, Fact.ow [23] [24] 37 (x11.1.Blocks : List (List UInt8))), (false, 1, Fact.ow [25] [26] 86 (x11.1.Wait : List Write)), (false, 1, Fact.rep [] x11.1.Dead)]) rfl ty61 rfl rfl (Hs rfl) rfl (HasL.flds (Hs rfl)) rfl)) (ao (so (Spec.assign (Hs rfl))) AllM.nil)))))))))))) ?_
       refine Lt ?_
       refine Cs ?_
       refine Cs ?_
       refine Cr ?_
       refine mv ?_
       refine wo (Spec.neqI (Hs rfl) Has.int) ?_
       refine Wn ?_
       refine Lt ?_
       refine CWalk.cond rfl (fun hb => ?_) (fun hb => ?_)
       ·have hm := cond_t hb hm
        refine Cs ?_
        refine Cr ?_
        refine mv ?_
        refine wo (Spec.assign Has.nilv) ?_
        refine wo (Spec.assign (Hs rfl)) ?_
        refine Wn ?_
        refine Lt ?_
        refine CWalk.ret ?_
        refine Leaf.thenR ?_
        refine Leaf.blockR ?_
        refine Leaf.thenR ?_
        exact Leaf.brk hm (fun h => nomatch h) rfl (sn (st Sub.nil))
       ·have hm := cond_f hb hm
        refine CWalk.skip ?_
        refine Lt ?_
        refine CWalk.ad (Ad.ow (s := 9) 31 rfl rfl (ElT.tags rfl) rfl (Cv.owM (T := [11, 31]) (te := [12, 23, 24, 25, 26]) (T' := [11, 31]) (te' := [12, 23, 24, 25, 26]) rfl rfl)) ?_
        refine Cr ?_
        refine mv ?_
        refine wo (Spec.fieldAddrO fd45_0 (Has.cv (Hs rfl) (Cv.isvP rfl))) ?_
        refine wo (Spec.loadF (i := 0) ty3 rfl (Hs rfl) rfl (HasG.s rfl)) ?_
        refine wo (Spec.loadObj (ls := [(false, 1, Fact.ow [23] [24] 37 (x11.1.Blocks : List (List UInt8))), (false, 1, Fact.ow [25] [26] 86 (x11.1.Wait : List Write)), (false, 1, Fact.rep [] x11.1.Dead)]) ty61 rfl rfl (Hs rfl) rfl (Gz rfl (Gz rfl (Gz rfl HasGs.nil)))) ?_
        obtain ⟨x12, hx12, hm⟩ := bind_some hm
        refine wo (Spec.idxOwn hx12 ow49 (Hs rfl) rfl (Hs rfl)) ?_
        refine ws (Step.storeOwn (te' := [12, 23, 24, 25, 26]) rfl (bnd_lt hx12 rfl) ty61 (Hs rfl) rfl (Has.cv (Hs rfl) (Cv.trans (Cv.flds (CvL.cons (Cv.trans (Cv.trans Cv.owSl (Cv.slRep (T' := [23, 24]) rfl rfl)) (Cv.m rfl)) (CvL.cons (Cv.trans (Cv.trans Cv.owSl (Cv.slRep (T' := [25, 26]) rfl rfl)) (Cv.m rfl)) (Vf CvL.nil)))) (Cv.close (T := [23, 24, 25, 26]) (chDisk x11.1)))) (ElKeep.tags rfl rfl) (ElKeep.tags rfl rfl)) ?_
        refine Wn ?_
        refine Leaf.blockN ?_
        exact Leaf.join ((s4).set x12 x11.1) hm (Sub.cons (Has.cv (Hs rfl) (Cv.trans (Cv.isvOw rfl) (Cv.owM (T := [31]) (te := [12, 23, 24, 25, 26]) rfl rfl))) (su (st (st Sub.nil))))
    ·have hm := cond_f hb hm
     refine CWalk.exit ?_
     refine Leaf.thenE ?_
     exact Leaf.brk hm (fun h => nomatch h) rfl (Sub.cons (Has.cv (Hs rfl) (Cv.owM (T := [11, 31]) (te := [12, 23, 24, 25, 26]) rfl rfl)) Sub.nil)
   ·intro _
    rcases b13 with b14 | b15
    ·have hm := selim_l hm
     refine Leaf.blockE ?_
     refine Lt ?_
     refine Cs ?_
     refine Cr ?_
     refine mv ?_
     refine wo (Spec.assign (Hs rfl)) ?_
     refine wo (Spec.assign Has.int) ?_
     refine Wn ?_
     refine Lt ?_
     refine CWalk.ret ?_
     obtain rfl := Option.some.inj hm
     exact Leaf.retC2 rfl (HasR.cv (HasR.tmp (Hs rfl)) (Cv.owM (T := [11, 31]) (te := [12, 23, 24, 25, 26]) rfl rfl)) (HasR.cv (HasR.tmp (Hs rfl)) Cv.fl)
    ·have hm := selim_r hm
     refine Leaf.blockR ?_
     refine Leaf.thenR ?_
     obtain rfl := Option.some.inj hm
     exact Leaf.retC2 rfl (HasR.cv (HasR.tmp (Hs rfl)) (Cv.trans Cv.nilOw (Cv.owM (T := []) (te := []) rfl rfl))) (HasR.cv (HasR.tmp (Hs rfl)) Cv.fl)

def acts_Crash_J4 (s11 : Int) (j14 : List (List UInt8)) : Option (Ctl (Int × (List (List UInt8))) ((List (List UInt8)))) :=
  some (Ctl.next ((wI (s11 + (1 : Int))), j14))
def acts_Crash_L3 (s5 : List Bool) (x10 : Disk) (s11 : Int) (s12 : List (List UInt8)) : Option (Ctl (Int × (List (List UInt8))) ((List (List UInt8)))) :=
  (bif (decide (s11 < ((x10.Wait).length : Int))) then Option.bind (idx x10.Wait s11) (fun x15 => Option.bind (idx s5 s11) (fun x16 => (bif x16 then Option.bind (bnd (s12).length x15.At) (fun x17 => (acts_Crash_J4 s11 ((s12).set x17 x15.Data))) else (acts_Crash_J4 s11 s12)))) else some (Ctl.brk s12))
def acts_Crash_L2 (j4 : List Disk) (s5 : List Bool) (s6 : List Disk) (s7 : Int) : Option (Ctl ((List Bool) × (List Disk) × Int) ((List Disk))) :=
  (bif (decide (s7 < ((j4).length : Int))) then Option.bind (bnd (s6).length s7) (fun x9 => Option.bind ((s6)[x9]?) (fun x10 => Option.bind (loopM (fun s : Int × (List (List UInt8)) => acts_Crash_L3 s5 x10 s.1 s.2) FUEL ((0 : Int), x10.Blocks)) (fun b18 => Option.bind (slc s5 ((x10.Wait).length : Int) ((s5).length)) (fun x19 => Option.bind (disk_Twin (Disk.mk b18 ([] : List Write) x10.Dead)) (fun x20 => some (Ctl.next (x19, (s6).set x9 x20, (wI (s7 + (1 : Int)))))))))) else some (Ctl.brk s6))
def acts_Crash_J1 (x3 : List Bool) (j4 : List Disk) : Option ((List Disk) × Int) :=
  Option.bind (loopM (fun s : (List Bool) × (List Disk) × Int => acts_Crash_L2 j4 s.1 s.2.1 s.2.2) FUEL (x3, j4, (0 : Int))) (fun b21 => some (b21, (0 : Int)))
def acts_Crash_L5 (a0 : List Disk) (s22 : List Disk) (s23 : Int) : Option (Ctl ((List Disk) × Int) ((List Disk))) :=
  (bif (decide (s23 < ((a0).length : Int))) then Option.bind (idx a0 s23) (fun x25 => Option.bind (disk_Twin x25) (fun x26 => Option.bind (app s22 ([x26])) (fun x27 => some (Ctl.next (x27, (wI (s23 + (1 : Int)))))))) else some (Ctl.brk s22))
/-- freeboard/acts.Crash -/
def acts_Crash (a0 : List Disk) (a1 : List Bool) : Option ((List Disk) × Int) :=
  Option.bind (acts_Waits a0) (fun x1 => (bif (x1.2 != (0 : Int)) then some (([] : List Disk), x1.2) else (bif (decide (((a1).length : Int) > x1.1)) then some (([] : List Disk), (2 : Int)) else Option.bind (slc a1 0 ((a1).length : Int)) (fun x2 => Option.bind (appZ false x2 (wI (x1.1 - ((a1).length : Int)))) (fun x3 => Option.bind (loopM (fun s : (List Disk) × Int => acts_Crash_L5 a0 s.1 s.2) FUEL (([] : List Disk), (0 : Int))) (fun b28 => (acts_Crash_J1 x3 b28)))))))
theorem acts_Crash_c (a0 : List Disk) (a1 : List Bool) {r : (List Disk) × Int} (hm : acts_Crash a0 a1 = some r) : Ctr Try.prog 23 [.rep 0 a0, .rep 0 a1] (.tup2 (.own 0 (some 1) 61 r.1) (.fl r.2)) [] := by
 refine ctr_of_walk [[21, 23], [17, 18, 19, 22, 34, 35, 36]] 90 Try.func23 rfl rfl rfl rfl (fun w0 om => ?_)
 unfold acts_Crash at hm
 refine CWalk.sub (G' := [.fact 0 (.rep [0] (a0 : List Disk)), .fact 1 (.rep [0] (a1 : List Bool))]) (sn (sn Sub.nil)) ?_
 refine Cs ?_
 refine Cr ?_
 refine wo (Spec.assign Has.nilv) ?_
 refine wo (Spec.assign Has.int) ?_
 refine Wn ?_
 refine Lt ?_
 refine Cs ?_
 refine Cr ?_
 refine mv ?_
 obtain ⟨x1, hx1, hm⟩ := bind_some hm
 refine wo (f := Fact.tup2 (Fact.rep [] x1.1) (Fact.rep [] x1.2)) (Spec.callE [0] 10 rfl en22 (acts_Waits_c a0 hx1) (HasAll.cons (Has.m (Hs rfl) rfl) HasAll.nil)) ?_
 refine mv ?_
 refine wo (Spec.ext0 (Hs rfl)) ?_
 refine wo (Spec.ext1 (Hs rfl)) ?_
 refine wo (Spec.assign (Hs rfl)) ?_
 refine wo (Spec.assign (Hs rfl)) ?_
 refine Wn ?_
 refine Lt ?_
 refine Cs ?_
 refine Cs ?_
 refine Cr ?_
 refine mv ?_
 refine wo (Spec.neqI (Hs rfl) Has.int) ?_
 refine Wn ?_
 refine Lt ?_
 refine CWalk.cond rfl (fun hb => ?_) (fun hb => ?_)
 ·have hm := cond_t hb hm
  refine Cs ?_
  refine Cr ?_
  refine mv ?_
  refine wo (Spec.assign Has.nilv) ?_
  refine wo (Spec.assign (Hs rfl)) ?_
  refine Wn ?_
  refine Lt ?_
  refine CWalk.ret ?_
  refine Leaf.thenR ?_
  obtain rfl := Option.some.inj hm
  exact Leaf.retC2 rfl (HasR.cv (HasR.tmp (Hs rfl)) (Cv.trans Cv.nilOw (Cv.owM (T := []) (te := []) rfl rfl))) (HasR.cv (HasR.tmp (Hs rfl)) Cv.fl)
 ·have hm := cond_f hb hm
  refine CWalk.skip ?_
  refine Lt ?_
  refine Cs ?_
  refine Cs ?_
  refine Cr ?_
  refine mv ?_
  refine wo (Spec.len (Hs rfl) Try.underlying64) ?_
  refine mv ?_
  refine wo (Spec.gtrI (Hs rfl) (Hs rfl)) ?_
  refine Wn ?_
  refine Lt ?_
  refine CWalk.cond rfl (fun hb => ?_) (fun hb => ?_)
  ·have hm := cond_t hb hm
   refine Cs ?_
   refine Cr ?_
   refine wo (Spec.assign Has.nilv) ?_
   refine wo (Spec.assign Has.int) ?_
   refine Wn ?_
   refine Lt ?_
   refine CWalk.ret ?_
   refine Leaf.thenR ?_
   obtain rfl := Option.some.inj hm
   exact Leaf.retC2 rfl (HasR.cv (HasR.tmp (Hs rfl)) (Cv.trans Cv.nilOw (Cv.owM (T := []) (te := []) rfl rfl))) (HasR.cv (HasR.tmp (Hs rfl)) Cv.fl)
  ·have hm := cond_f hb hm
   refine CWalk.skip ?_
   refine Lt ?_
   refine Cs ?_
   refine Cr ?_
   refine mv ?_
   refine mv ?_
   refine wo (Spec.len (Hs rfl) Try.underlying64) ?_
   refine mv ?_
   refine wo (Spec.len (Hs rfl) Try.underlying64) ?_
   obtain ⟨x2, hx2, hm⟩ := bind_some hm
   refine wo (Spec.slc3 hx2 sl64 (Hs rfl) (Hs rfl) (Hs rfl)) ?_
   refine mv ?_
   refine mv ?_
   refine wo (Spec.len (Hs rfl) Try.underlying64) ?_
   refine wo (Spec.subI (Hs rfl) (Hs rfl)) ?_
   obtain ⟨x3, hx3, hm⟩ := bind_some hm
   refine wo (Spec.appZ 11 hx3 rfl ow64 zt4 Try.underlying3 (Hs rfl) (Hs rfl)) ?_
   refine wo (Spec.assign (Hs rfl)) ?_
   refine Wn ?_
   refine Lt ?_
   refine Cs ?_
   refine Cr ?_
   refine mv ?_
   refine Walk.inline (S := (List Disk)) (fun p : (List Disk) => [.fact 8 (.rep [0, 11] (x3 : List Bool)), .fact 38 (.ow2 hd61 [21] [22] [17, 18, 19] 61 37 (p : List Disk))]) (fun p : (List Disk) => acts_Crash_J1 x3 p = some r) (fun u1 => [.fact 902008 (.cst (u1 8) (Fact.rep [11, 0] (x3 : List Bool)))]) (FA := [Fact.rep [0] (a0 : List Disk)]) rfl Try.func43 rfl rfl rfl (CallOk.fn en43 (HasF.cons (Hs rfl) HasF.nil)) (fun u1 => (cs 902000 8 Carry.nil)) (fun u1 => ?_) ?_
   ·refine Cs ?_
    refine Cr ?_
    refine wo (Spec.assign Has.nilv) ?_
    refine Wn ?_
    refine Lt ?_
    refine Cs ?_
    refine Cr ?_
    refine wo (Spec.assign Has.nilv) ?_
    refine Wn ?_
    refine Lt ?_
    refine Cs ?_
    refine Cs ?_
    refine Cr ?_
    refine mv ?_
    refine wo (Spec.len (Hs rfl) Try.underlying49) ?_
    refine wo (Spec.move Has.int) ?_
    refine Wn ?_
    refine Lt ?_
    refine CWalk.block ?_
    obtain ⟨b28, hb28, hm⟩ := bind_some hm
    refine CWalk.loop (fun s : (List Disk) × Int => [.fact 3 (.ow2 hd61 [21] [22] [17, 18, 19] 61 37 (s.1 : List Disk)), .fact 6 (.rep [0] (a0 : List Disk)), .fact 7 (.rep [] (((a0).length : Int) : Int)), .fact 8 (.rep [] s.2), .fact 902008 (.cst (u1 8) (Fact.rep [0, 11] (x3 : List Bool)))]) (fun b : (List Disk) => (Exit.exit 0, [.fact 3 (.ow2 hd61 [21] [22] [17, 18, 19] 61 37 (b : List Disk)), .fact 902008 (.cst (u1 8) (Fact.rep [0, 11] (x3 : List Bool)))])) hb28 (Sub.cons (Has.cv (Hs rfl) Cv.nilOw2) (su (st (st (Sub.cons (Has.cst (HasC.cv (HasC.s (s := 902008) rfl) (Cv.m rfl))) Sub.nil))))) ?_ ?_
    ·rintro ⟨s22, s23⟩ c24 hm
     replace hm : acts_Crash_L5 a0 s22 s23 = some c24 := hm
     unfold acts_Crash_L5 at hm
     show CWalk _ [.fact 3 (.ow2 hd61 [21] [22] [17, 18, 19] 61 37 (s22 : List Disk)), .fact 6 (.rep [0] (a0 : List Disk)), .fact 7 (.rep [] (((a0).length : Int) : Int)), .fact 8 (.rep [] (s23 : Int)), .fact 902008 (.cst (u1 8) (Fact.rep [0, 11] (x3 : List Bool)))] _ _
     refine Cs ?_
     refine Cr ?_
     refine wo (Spec.lssI (Hs rfl) (Hs rfl)) ?_
     refine Wn ?_
     refine Lt ?_
     refine Cs ?_
     refine CWalk.cond rfl (fun hb => ?_) (fun hb => ?_)
     ·have hm := cond_t hb hm
      refine CWalk.skip ?_
      refine Lt ?_
      refine Cs ?_
      refine CWalk.block ?_
      refine Cs ?_
      refine Cr ?_
      obtain ⟨x25, hx25, hm⟩ := bind_some hm
      refine wo (Spec.indexAddr hx25 sl49 (Hs rfl) (Hs rfl)) ?_
      refine wo (Spec.load ty61 (Hs rfl)) ?_
      refine ws (Step.allocObj (ls := [(false, 1, Fact.nilv), (false, 1, Fact.nilv), (false, 1, Fact.rep [] (false : Bool))]) 12 rfl rfl rfl rfl zl61) ?_
      refine ws (Step.storeObj (ls := [(false, 1, Fact.rep [0] x25.Blocks), (false, 1, Fact.rep [0] x25.Wait), (false, 1, Fact.rep [] x25.Dead)]) rfl ty61 rfl rfl (Hs rfl) rfl (HasL.flds (Has.cv (Hs rfl) (Cv.trans (Cv.opens (chDisk x25)) (Cv.flds (CvL.cons Cv.refl (CvL.cons Cv.refl (Vf CvL.nil))))))) rfl) ?_
      refine Wn ?_
      refine Lt ?_
      refine Cr ?_
      refine mv ?_
      refine wo (Spec.loadObj (ls := [(false, 1, Fact.rep [0] x25.Blocks), (false, 1, Fact.rep [0] x25.Wait), (false, 1, Fact.rep [] x25.Dead)]) ty61 rfl rfl (Hs rfl) rfl (Gz rfl (Gz rfl (Gz rfl HasGs.nil)))) ?_
      obtain ⟨x26, hx26, hm⟩ := bind_some hm
      refine wo (f := Fact.flds [(false, 1, Fact.ow [16] [17] 37 (x26.Blocks : List (List UInt8))), (false, 1, Fact.ow [18] [19] 86 (x26.Wait : List Write)), (false, 1, Fact.rep [] x26.Dead)]) (Spec.callE [0] 16 rfl en50 (disk_Twin_c x25 hx26) (HasAll.cons (Has.m (Has.cv (Hs rfl) (Cv.trans (Cv.flds (CvL.cons (Cv.m rfl) (CvL.cons (Cv.m rfl) (Vf CvL.nil)))) (Cv.close (T := [0]) (chDisk x25)))) rfl) HasAll.nil)) ?_
      refine wo (Spec.lit2 (y := x26) (es := [(⟨inferInstance, (x26.Wait : List Write)⟩ : Ent), (⟨inferInstance, (x26.Dead : Bool)⟩ : Ent)]) (T := [16]) (te := [17, 18, 19]) hd61 20 rfl ow49 rfl rfl rfl (hes61 x26) (Has.cv (Hs rfl) (Cv.flds (CvL.cons (Cv.owM (T := [16]) (te := [17]) rfl rfl) (CvL.cons (Cv.trans (Cv.trans Cv.owSl (Cv.slRep (T' := [18, 19]) rfl rfl)) (Cv.m rfl)) (Vf CvL.nil)))))) ?_
      obtain ⟨x27, hx27, hm⟩ := bind_some hm
      refine ws (Step.append2 (H := hd61) (T := [21]) (Tr := [22]) (te := [17, 18, 19]) (K := [16]) (te' := [17, 18, 19]) (teO := [17, 18, 19]) 22 hx27 rfl rfl rfl rfl rfl rfl ow49 rfl rfl rfl rfl (Hs rfl) (Hs rfl)) ?_
      refine wo (Spec.assign (Hs rfl)) ?_
      refine Wn ?_
      refine Leaf.blockN ?_
      refine Lt ?_
      refine Cr ?_
      refine wo (Spec.addI (Hs rfl) Has.int) ?_
      refine mv ?_
      refine Wn ?_
      exact Leaf.next hm (Sub.cons (Has.cv (Hs rfl) (Cv.ow2M (T := [21]) (Tr := [22]) (te := [17, 18, 19]) rfl rfl rfl)) (su (st (st (Sub.cons (Has.cst (HasC.cv (HasC.s (s := 902008) rfl) (Cv.m rfl))) Sub.nil)))))
     ·have hm := cond_f hb hm
      refine CWalk.exit ?_
      refine Leaf.thenE ?_
      exact Leaf.brk hm (fun h => nomatch h) rfl (Sub.cons (Has.cv (Hs rfl) (Cv.ow2M (T := [21]) (Tr := [22]) (te := [17, 18, 19]) rfl rfl rfl)) (Sub.cons (Has.cst (HasC.cv (HasC.s (s := 902008) rfl) (Cv.m rfl))) Sub.nil))
    ·intro _
     refine Leaf.blockE ?_
     refine Lt ?_
     refine Cs ?_
     refine Cr ?_
     refine mv ?_
     refine wo (Spec.assign (Hs rfl)) ?_
     refine Wn ?_
     refine Lt ?_
     refine CWalk.ret ?_
     exact Leaf.in1 b28 hm rfl rfl (HasR.cv (HasR.tmp (Hs rfl)) (Cv.ow2M (T := [21]) (Tr := [22]) (te := [17, 18, 19]) rfl rfl rfl)) (Low.slot rfl (HasC.cv (HasC.s (s := 902008) rfl) (Cv.m rfl)) (Low.res Low.nil))
   ·rintro j4 hm
    replace hm : acts_Crash_J1 x3 j4 = some r := hm
    unfold acts_Crash_J1 at hm
    show Walk _ _ _ [.fact 8 (.rep [0, 11] (x3 : List Bool)), .fact 38 (.ow2 hd61 [21] [22] [17, 18, 19] 61 37 (j4 : List Disk))] _
    refine wo (Spec.assign (Hs rfl)) ?_
    refine Wn ?_
    refine Lt ?_
    refine Cs ?_
    refine Cs ?_
    refine Cr ?_
    refine mv ?_
    refine wo (Spec.len (Has.cv (Hs rfl) (Cv.trans Cv.ow2Ow (Cv.trans Cv.owSl (Cv.slRep (T' := [17, 18, 19, 21, 22]) rfl rfl)))) Try.underlying49) ?_
    refine wo (Spec.move Has.int) ?_
    refine Wn ?_
    refine Lt ?_
    refine CWalk.block ?_
    obtain ⟨b21, hb21, hm⟩ := bind_some hm
    refine CWalk.loop (fun s : (List Bool) × (List Disk) × Int => [.fact 8 (.rep [0, 11] s.1), .fact 9 (.ow2 hd61 [21, 23] [22] [17, 18, 19, 34, 35, 36] 61 37 (s.2.1 : List Disk)), .fact 40 (.rep [] (((j4).length : Int) : Int)), .fact 41 (.rep [] s.2.2)]) (fun b : (List Disk) => (Exit.exit 0, [.fact 9 (.ow2 hd61 [21, 23] [22] [17, 18, 19, 34, 35, 36] 61 37 (b : List Disk))])) hb21 (su (Sub.cons (Has.cv (Hs rfl) (Cv.ow2M (T := [21]) (Tr := [22]) (te := [17, 18, 19]) rfl rfl rfl)) (st (st Sub.nil)))) ?_ ?_
    ·rintro ⟨s5, s6, s7⟩ c8 hm
     replace hm : acts_Crash_L2 j4 s5 s6 s7 = some c8 := hm
     unfold acts_Crash_L2 at hm
     show CWalk _ [.fact 8 (.rep [0, 11] (s5 : List Bool)), .fact 9 (.ow2 hd61 [21, 23] [22] [17, 18, 19, 34, 35, 36] 61 37 (s6 : List Disk)), .fact 40 (.rep [] (((j4).length : Int) : Int)), .fact 41 (.rep [] (s7 : Int))] _ _
     refine Cs ?_
     refine Cr ?_
     refine wo (Spec.lssI (Hs rfl) (Hs rfl)) ?_
     refine Wn ?_
     refine Lt ?_
     refine Cs ?_
     refine CWalk.cond rfl (fun hb => ?_) (fun hb => ?_)
     ·have hm := cond_t hb hm
      refine CWalk.skip ?_
      refine Lt ?_
      refine Cs ?_
      refine CWalk.block ?_
      refine Cs ?_
      refine Cr ?_
      refine mv ?_
      refine wo (Spec.assign (Hs rfl)) ?_
      refine Wn ?_
      refine Lt ?_
      refine Cs ?_
      refine CWalk.ad (Ad.ow2 (H := hd61) (s := 9) (T := [21, 23]) (Tr := [22]) (te := [17, 18, 19, 34, 35, 36]) 23 rfl rfl rfl rfl Cv.refl) ?_
      refine Cr ?_
      refine mv ?_
      refine mv ?_
      obtain ⟨x9, hx9, hm⟩ := bind_some hm
      obtain ⟨x10, hx10, hm⟩ := bind_some hm
      refine Walk.ad (Ad.lend (ps := [(false, 1), (false, 1), (false, 1)]) (es := [(⟨inferInstance, (x10.Wait : List Write)⟩ : Ent), (⟨inferInstance, (x10.Dead : Bool)⟩ : Ent)]) hd61 23 24 28 rfl hx10 rfl (hes61 x10) rfl rfl rfl rfl rfl rfl) ?_
      refine wo (Spec.idxLent hx9 ow49 (Hs rfl) rfl (Hs rfl)) ?_
      refine wo (Spec.assign (Hs rfl)) ?_
      refine Wn ?_
      refine Lt ?_
      refine Cs ?_
      refine Cs ?_
      refine Cr ?_
      refine mv ?_
      refine wo (Spec.nilCheckO (Hs rfl)) ?_
      refine wo (Spec.fieldAddrO fd61_1 (Hs rfl)) ?_
      refine wo (Spec.loadFL (t := 23) (i := 1) hd61 ty59 rfl (Hs rfl) rfl rfl (HasG.s rfl)) ?_
      refine wo (Spec.len (Hs rfl) Try.underlying59) ?_
      refine wo (Spec.move Has.int) ?_
      refine Wn ?_
      refine Lt ?_
      refine CWalk.block ?_
      obtain ⟨b18, hb18, hm⟩ := bind_some hm
      refine CWalk.loop (fun s : Int × (List (List UInt8)) => [.fact 8 (.rep [0, 11] (s5 : List Bool)), .fact 9 (.isv 23), .fact 10 (.rep [] (s7 : Int)), .fact 11 (.pto 24 (x9 * Rp.n Disk)), .fact 40 (.rep [] (((j4).length : Int) : Int)), .fact 41 (.rep [] (s7 : Int)), .fact 50 (.rep [17, 18, 19, 34, 35, 36] x10.Wait), .fact 51 (.rep [] (((x10.Wait).length : Int) : Int)), .fact 52 (.rep [] s.1), .fact 100025 (.at 25 (.ow [28, 32] [17, 18, 19, 34, 35, 36] 37 (s.2 : List (List UInt8)))), .fact 100026 (.at 26 (.rep [17, 18, 19, 34, 35, 36] x10.Wait)), .fact 100027 (.at 27 (.rep [17, 18, 19, 34, 35, 36] x10.Dead)), .fact 100023 (.lent hd61 23 24 [22] [17, 18, 19, 34, 35, 36] 61 37 x9 (s6 : List Disk) [(false, 1), (false, 1), (false, 1)])]) (fun b : (List (List UInt8)) => (Exit.exit 2, [.fact 8 (.rep [0, 11] (s5 : List Bool)), .fact 9 (.isv 23), .fact 10 (.rep [] (s7 : Int)), .fact 11 (.pto 24 (x9 * Rp.n Disk)), .fact 40 (.rep [] (((j4).length : Int) : Int)), .fact 41 (.rep [] (s7 : Int)), .fact 100025 (.at 25 (.ow [28, 32] [17, 18, 19, 34, 35, 36] 37 (b : List (List UInt8)))), .fact 100026 (.at 26 (.rep [17, 18, 19, 34, 35, 36] x10.Wait)), .fact 100027 (.at 27 (.rep [17, 18, 19, 34, 35, 36] x10.Dead)), .fact 100023 (.lent hd61 23 24 [22] [17, 18, 19, 34, 35, 36] 61 37 x9 (s6 : List Disk) [(false, 1), (false, 1), (false, 1)])])) hb18 (su (sn (st (sn (st (st (su (st (st (Sub.cons (Has.at (HasG.cv (HasG.s rfl) (Cv.owM (T := [28]) (te := [17, 18, 19, 34, 35, 36]) rfl rfl))) (sm (sf (sn Sub.nil))))))))))))) ?_ ?_
      ·rintro ⟨s11, s12⟩ c13 hm
       replace hm : acts_Crash_L3 s5 x10 s11 s12 = some c13 := hm
       unfold acts_Crash_L3 at hm
       show CWalk _ [.fact 8 (.rep [0, 11] (s5 : List Bool)), .fact 9 (.isv 23), .fact 10 (.rep [] (s7 : Int)), .fact 11 (.pto 24 (x9 * Rp.n Disk)), .fact 40 (.rep [] (((j4).length : Int) : Int)), .fact 41 (.rep [] (s7 : Int)), .fact 50 (.rep [17, 18, 19, 34, 35, 36] x10.Wait), .fact 51 (.rep [] (((x10.Wait).length : Int) : Int)), .fact 52 (.rep [] (s11 : Int)), .fact 100025 (.at 25 (.ow [28, 32] [17, 18, 19, 34, 35, 36] 37 (s12 : List (List UInt8)))), .fact 100026 (.at 26 (.rep [17, 18, 19, 34, 35, 36] x10.Wait)), .fact 100027 (.at 27 (.rep [17, 18, 19, 34, 35, 36] x10.Dead)), .fact 100023 (.lent hd61 23 24 [22] [17, 18, 19, 34, 35, 36] 61 37 x9 (s6 : List Disk) [(false, 1), (false, 1), (false, 1)])] _ _
       refine Cs ?_
       refine Cr ?_
       refine wo (Spec.lssI (Hs rfl) (Hs rfl)) ?_
       refine Wn ?_
       refine Lt ?_
       refine Cs ?_
       refine CWalk.cond rfl (fun hb => ?_) (fun hb => ?_)
       ·have hm := cond_t hb hm
        refine CWalk.skip ?_
        refine Lt ?_
        refine CWalk.seqJ (fun p : (List (List UInt8)) => [.fact 8 (.rep [0, 11] (s5 : List Bool)), .fact 9 (.isv 23), .fact 10 (.rep [] (s7 : Int)), .fact 11 (.pto 24 (x9 * Rp.n Disk)), .fact 40 (.rep [] (((j4).length : Int) : Int)), .fact 41 (.rep [] (s7 : Int)), .fact 50 (.rep [17, 18, 19, 34, 35, 36] x10.Wait), .fact 51 (.rep [] (((x10.Wait).length : Int) : Int)), .fact 52 (.rep [] (s11 : Int)), .fact 100025 (.at 25 (.ow [28, 32] [17, 18, 19, 34, 35, 36] 37 (p : List (List UInt8)))), .fact 100026 (.at 26 (.rep [17, 18, 19, 34, 35, 36] x10.Wait)), .fact 100027 (.at 27 (.rep [17, 18, 19, 34, 35, 36] x10.Dead)), .fact 100023 (.lent hd61 23 24 [22] [17, 18, 19, 34, 35, 36] 61 37 x9 (s6 : List Disk) [(false, 1), (false, 1), (false, 1)])]) (fun p : (List (List UInt8)) => acts_Crash_J4 s11 p = some c13) ?_ ?_
        ·rintro j14 hm
         replace hm : acts_Crash_J4 s11 j14 = some c13 := hm
         unfold acts_Crash_J4 at hm
         show CWalk _ [.fact 8 (.rep [0, 11] (s5 : List Bool)), .fact 9 (.isv 23), .fact 10 (.rep [] (s7 : Int)), .fact 11 (.pto 24 (x9 * Rp.n Disk)), .fact 40 (.rep [] (((j4).length : Int) : Int)), .fact 41 (.rep [] (s7 : Int)), .fact 50 (.rep [17, 18, 19, 34, 35, 36] x10.Wait), .fact 51 (.rep [] (((x10.Wait).length : Int) : Int)), .fact 52 (.rep [] (s11 : Int)), .fact 100025 (.at 25 (.ow [28, 32] [17, 18, 19, 34, 35, 36] 37 (j14 : List (List UInt8)))), .fact 100026 (.at 26 (.rep [17, 18, 19, 34, 35, 36] x10.Wait)), .fact 100027 (.at 27 (.rep [17, 18, 19, 34, 35, 36] x10.Dead)), .fact 100023 (.lent hd61 23 24 [22] [17, 18, 19, 34, 35, 36] 61 37 x9 (s6 : List Disk) [(false, 1), (false, 1), (false, 1)])] _ _
         refine Cr ?_
         refine wo (Spec.addI (Hs rfl) Has.int) ?_
         refine mv ?_
         refine Wn ?_
         exact Leaf.next hm (su (sn (st (sn (st (st (su (st (st (Sub.cons (Has.at (HasG.cv (HasG.s rfl) (Cv.owM (T := [28, 32]) (te := [17, 18, 19, 34, 35, 36]) rfl rfl))) (sm (sf (sn Sub.nil)))))))))))))
        ·refine CWalk.block ?_
         refine Cs ?_
         refine Cr ?_
         refine mv ?_
         obtain ⟨x15, hx15, hm⟩ := bind_some hm
         refine wo (Spec.indexAddr hx15 sl59 (Hs rfl) (Hs rfl)) ?_
         refine wo (Spec.load ty86 (Hs rfl)) ?_
         refine ws (Step.allocObj (ls := [(false, 1, Fact.rep [] ((0 : Int) : Int)), (false, 1, Fact.nilv)]) 29 rfl rfl rfl rfl zl86) ?_
         refine wo (Spec.assign (Hs rfl)) ?_
         refine ws (Step.storeObj (ls := [(false, 1, Fact.rep [] x15.At), (false, 1, Fact.rep [17, 18, 19, 34, 35, 36] x15.Data)]) rfl ty86 rfl rfl (Hs rfl) rfl (HasL.flds (Has.cv (Hs rfl) (Cv.trans (Cv.opens (chWrite x15)) (Cv.flds (Vf (CvL.cons Cv.refl CvL.nil)))))) rfl) ?_
         refine Wn ?_
         refine Lt ?_
         refine Cs ?_
         refine Cr ?_
         refine mv ?_
         refine mv ?_
         obtain ⟨x16, hx16, hm⟩ := bind_some hm
         refine wo (Spec.indexAddr hx16 sl64 (Hs rfl) (Hs rfl)) ?_
         refine wo ((Spec.load ty4 (Hs rfl)).flat (T' := [])) ?_
         refine Wn ?_
         refine Lt ?_
         refine CWalk.cond rfl (fun hb => ?_) (fun hb => ?_)
         ·have hm := cond_t hb hm
          refine CWalk.ad (Ad.owF (i := 25) 32 rfl rfl rfl (ElT.tags rfl) rfl (Cv.owM (T := [28, 32]) (te := [17, 18, 19, 34, 35, 36]) (T' := [28, 32]) (te' := [17, 18, 19, 34, 35, 36]) rfl rfl)) ?_
          obtain ⟨x17, hx17, hm⟩ := bind_some hm
          refine CWalk.drawM [[], [0], [0, 1], [0, 1, 2], [], [4], [], [6], [0, 1, 2, 3, 4, 5, 6, 7], [0, 1, 2, 3, 4, 5, 6, 7, 8]] [[.fact 61 (.pto 24 (x9 * Rp.n Disk))], [.fact 62 (.pto 24 (x9 * Rp.n Disk))], [.fact 63 (.pto 24 (x9 * Rp.n Disk))], [.fact 64 (.isv 32)], [.fact 65 (.pto 29 0)], [.fact 66 (.rep [] x15.At)], [.fact 67 (.pto 29 1)], [.fact 68 (.rep [17, 18, 19, 34, 35, 36] x15.Data)], [.fact 69 (.pto 32 (x17 * Rp.n (List UInt8)))], [.fact 100032 (.own 32 [17, 18, 19, 34, 35, 36] 37 ((s12).set x17 x15.Data : List (List UInt8))), .kill 32]] mixed (by kernel_rfl) (ao (so (Spec.move (Hs rfl))) (ao (so (Spec.nilCheckO (Hs rfl))) (ao (so (Spec.fieldAddrO fd61_0 (Hs rfl))) (ao (so (Spec.loadFL (t := 23) (i := 0) hd61 ty36 rfl (Hs rfl) rfl rfl (HasG.s rfl))) (ao (so (Spec.fieldAddrO fd86_0 (Has.cv (Hs rfl) (Cv.isvP rfl)))) (ao (so (Spec.loadF (i := 0) ty3 rfl (Hs rfl) rfl (HasG.s rfl))) (ao (so (Spec.fieldAddrO fd86_1 (Has.cv (Hs rfl) (Cv.isvP rfl)))) (ao (so (Spec.loadF (i := 1) ty37 rfl (Hs rfl) rfl (HasG.s rfl))) (ao (so (Spec.idxOwn hx17 ow36 (Hs rfl) rfl (Hs rfl))) (ao (StepG.stE (Step.storeOwn (te' := [17, 18, 19, 34, 35, 36]) rfl (bnd_lt hx17 rfl) ty37 (Hs rfl) rfl (Hs rfl) (ElKeep.tags rfl rfl) (ElKeep.tags rfl rfl))) AllM.nil)))))))))) ?_
          refine Leaf.blockN ?_
          exact Leaf.join ((s12).set x17 x15.Data) hm (su (sn (st (sn (st (st (su (st (st (Sub.cons (Has.at (HasG.cv (HasG.s rfl) (Cv.trans (Cv.isvOw rfl) (Cv.owM (T := [32]) (te := [17, 18, 19, 34, 35, 36]) rfl rfl)))) (sm (sf (sn Sub.nil)))))))))))))
         ·have hm := cond_f hb hm
          refine CWalk.skip ?_
          refine Leaf.blockN ?_
          exact Leaf.join s12 hm (su (sn (st (sn (st (st (su (st (st (Sub.cons (Has.at (HasG.cv (HasG.s rfl) (Cv.owM (T := [28, 32]) (te := [17, 18, 19, 34, 35, 36]) rfl rfl))) (sm (sf (sn Sub.nil)))))))))))))
       ·have hm := cond_f hb hm
        refine CWalk.exit ?_
        refine Leaf.thenE ?_
        exact Leaf.brk hm (fun h => nomatch h) rfl (su (sn (st (sn (st (st (Sub.cons (Has.at (HasG.cv (HasG.s rfl) (Cv.owM (T := [28, 32]) (te := [17, 18, 19, 34, 35, 36]) rfl rfl))) (sm (sf (sn Sub.nil))))))))))
      ·intro _
       refine Leaf.blockE ?_
       refine Lt ?_
       refine Cs ?_
       refine Cr ?_
       refine mv ?_
       refine mv ?_
       refine wo (Spec.nilCheckO (Hs rfl)) ?_
       refine wo (Spec.fieldAddrO fd61_1 (Hs rfl)) ?_
       refine wo (Spec.loadFL (t := 23) (i := 1) hd61 ty59 rfl (Hs rfl) rfl rfl (HasG.s rfl)) ?_
       refine wo (Spec.len (Hs rfl) Try.underlying59) ?_
       obtain ⟨x19, hx19, hm⟩ := bind_some hm
       refine wo (Spec.slcLo hx19 sl64 (Hs rfl) (Hs rfl)) ?_
       refine wo (Spec.assign (Hs rfl)) ?_
       refine Wn ?_
       refine Lt ?_
       refine Cs ?_
       refine Cr ?_
       refine mv ?_
       refine wo (Spec.nilCheckO (Hs rfl)) ?_
       refine wo (Spec.fieldAddrO fd61_1 (Hs rfl)) ?_
       refine ws (Step.storeFL (t := 23) (i := 1) (f := Fact.nilv) hd61 rfl ty59 rfl (Hs rfl) rfl rfl (Has.cv Has.nilv (Cv.nil (T := []))) Has.nilv rfl rfl rfl) ?_
       refine Wn ?_
       refine Lt ?_
       refine Cr ?_
       refine mv ?_
       refine mv ?_
       refine mv ?_
       refine wo (Spec.nilCheckO (Hs rfl)) ?_
       refine wo (Spec.loadPartsL (t := 23) (ls := [(false, 1, Fact.ow [28, 32] [17, 18, 19, 34, 35, 36] 37 (b18 : List (List UInt8))), (false, 1, Fact.nilv), (false, 1, Fact.rep [17, 18, 19, 34, 35, 36] x10.Dead)]) hd61 ty61 rfl (Hs rfl) rfl (Gz rfl (Gz rfl (Gz rfl HasGs.nil)))) ?_
       obtain ⟨x20, hx20, hm⟩ := bind_some hm
       refine wo (f := Fact.flds [(false, 1, Fact.ow [33] [34] 37 (x20.Blocks : List (List UInt8))), (false, 1, Fact.ow [35] [36] 86 (x20.Wait : List Write)), (false, 1, Fact.rep [] x20.Dead)]) (Spec.callE [17, 18, 19, 28, 32, 34, 35, 36] 33 rfl en50 (disk_Twin_c (Disk.mk b18 ([] : List Write) x10.Dead) hx20) (HasAll.cons (Has.m (Has.cv (Hs rfl) (Cv.trans (Cv.flds (CvL.cons (Cv.trans (Cv.trans Cv.owSl (Cv.slRep (T' := [17, 18, 19, 28, 32, 34, 35, 36]) rfl rfl)) (Cv.m rfl)) (CvL.cons (Cv.trans (Cv.nil (T := [])) (Cv.m rfl)) (Vf CvL.nil)))) (Cv.close (T := [17, 18, 19, 28, 32, 34, 35, 36]) (chDisk (Disk.mk b18 ([] : List Write) x10.Dead))))) rfl) HasAll.nil)) ?_
       refine wo (Spec.idxLent hx9 ow49 (Hs rfl) rfl (Hs rfl)) ?_
       refine ws (Step.storeBack (t := 23) (y := x20) (es := [(⟨inferInstance, (x20.Wait : List Write)⟩ : Ent), (⟨inferInstance, (x20.Dead : Bool)⟩ : Ent)]) (T0 := [33]) (te' := [17, 18, 19, 34, 35, 36]) (l' := (s6).set x9 x20) hd61 22 ty61 (Hs rfl) rfl (Has.cv (Hs rfl) (Cv.flds (CvL.cons (Cv.owM (T := [33]) (te := [34]) rfl rfl) (CvL.cons (Cv.trans (Cv.trans Cv.owSl (Cv.slRep (T' := [35, 36]) rfl rfl)) (Cv.m rfl)) (Vf CvL.nil))))) rfl (hes61 x20) rfl rfl rfl rfl rfl rfl rfl) ?_
       refine Wn ?_
       refine Leaf.blockN ?_
       refine Lt ?_
       refine Cr ?_
       refine wo (Spec.addI (Hs rfl) Has.int) ?_
       refine mv ?_
       refine Wn ?_
       exact Leaf.next hm (su (Sub.cons (Has.cv (Hs rfl) (Cv.trans (Cv.isvOw2 rfl) (Cv.ow2M (T := [23]) (Tr := [22]) (te := [17, 18, 19, 34, 35, 36]) rfl rfl rfl))) (st (st Sub.nil))))
     ·have hm := cond_f hb hm
      refine CWalk.exit ?_
      refine Leaf.thenE ?_
      exact Leaf.brk hm (fun h => nomatch h) rfl (Sub.cons (Has.cv (Hs rfl) (Cv.ow2M (T := [21, 23]) (Tr := [22]) (te := [17, 18, 19, 34, 35, 36]) rfl rfl rfl)) Sub.nil)
    ·intro _
     refine Leaf.blockE ?_
     refine Lt ?_
     refine Cs ?_
     refine Cr ?_
     refine mv ?_
     refine wo (Spec.assign (Hs rfl)) ?_
     refine wo (Spec.assign Has.int) ?_
     refine Wn ?_
     refine Lt ?_
     refine CWalk.ret ?_
     obtain rfl := Option.some.inj hm
     exact Leaf.retC2 rfl (HasR.cv (HasR.tmp (Hs rfl)) (Cv.trans Cv.ow2Ow (Cv.owM (T := [21, 23]) (te := [22, 17, 18, 19, 34, 35, 36]) rfl rfl))) (HasR.cv (HasR.tmp (Hs rfl)) Cv.fl)

def law27_flushed_J2 (s1 : List Disk) (s2 : Int) (j6 : List (List UInt8)) (j7 : List Write) (j8 : Bool) : Option (Ctl ((List Disk) × Int) ((List Disk))) :=
  Option.bind (app s1 ([(Disk.mk j6 j7 j8)])) (fun x9 => some (Ctl.next (x9, (wI (s2 + (1 : Int))))))
def law27_flushed_L1 (a0 : List Disk) (s1 : List Disk) (s2 : Int) : Option (Ctl ((List Disk) × Int) ((List Disk))) :=
  (bif (decide (s2 < ((a0).length : Int))) then Option.bind (idx a0 s2) (fun x4 => Option.bind (disk_Flush x4) (fun x5 => (bif (x5.2 != (0 : Int)) then Option.bind (idx a0 s2) (fun x10 => (law27_flushed_J2 s1 s2 x10.Blocks x10.Wait x10.Dead)) else (law27_flushed_J2 s1 s2 x5.1.Blocks x5.1.Wait x5.1.Dead)))) else some (Ctl.brk s1))
/-- freeboard/freeboardlaw27.flushed -/
def law27_flushed (a0 : List Disk) : Option ((List Disk)) :=
  Option.bind (loopM (fun s : (List Disk) × Int => law27_flushed_L1 a0 s.1 s.2) FUEL (([] : List Disk), (0 : Int))) (fun b11 => some b11)
theorem law27_flushed_c (a0 : List Disk) {r : (List Disk)} (hm : law27_flushed a0 = some r) : Ctr Try.prog 25 [.rep 0 a0] (.own 0 (some 1) 61 r) [1] := by
 refine ctr_of_walk [[19], [0, 10, 11, 12, 13, 18]] 32 Try.func25 rfl rfl rfl rfl (fun w0 om => ?_)
 unfold law27_flushed at hm
 refine CWalk.sub (G' := [.fact 0 (.rep [0] (a0 : List Disk))]) (sn Sub.nil) ?_
 refine Cs ?_
 refine Cr ?_
 refine wo (Spec.assign Has.nilv) ?_
 refine Wn ?_
 refine Lt ?_
 refine Cs ?_
 refine Cr ?_
 refine wo (Spec.assign Has.nilv) ?_
 refine Wn ?_
 refine Lt ?_
 refine Cs ?_
 refine Cs ?_
 refine Cr ?_
 refine wo (Spec.assign Has.int) ?_
 refine Wn ?_
 refine Lt ?_
 refine CWalk.block ?_
 obtain ⟨b11, hb11, hm⟩ := bind_some hm
 refine CWalk.loop (fun s : (List Disk) × Int => [.fact 0 (.rep [0] (a0 : List Disk)), .fact 3 (.ow [19] [0, 10, 11, 12, 13, 18] 61 (s.1 : List Disk)), .fact 4 (.rep [] s.2)]) (fun b : (List Disk) => (Exit.exit 0, [.fact 3 (.ow [19] [0, 10, 11, 12, 13, 18] 61 (b : List Disk))])) hb11 (su (Sub.cons (Has.cv (Hs rfl) (Cv.trans Cv.nilOw (Cv.owM (T := []) (te := []) rfl rfl))) (st Sub.nil))) ?_ ?_
 ·rintro ⟨s1, s2⟩ c3 hm
  replace hm : law27_flushed_L1 a0 s1 s2 = some c3 := hm
  unfold law27_flushed_L1 at hm
  show CWalk _ [.fact 0 (.rep [0] (a0 : List Disk)), .fact 3 (.ow [19] [0, 10, 11, 12, 13, 18] 61 (s1 : List Disk)), .fact 4 (.rep [] (s2 : Int))] _ _
  refine Cs ?_
  refine Cs ?_
  refine Cr ?_
  refine mv ?_
  refine mv ?_
  refine wo (Spec.len (Hs rfl) Try.underlying49) ?_
  refine wo (Spec.lssI (Hs rfl) (Hs rfl)) ?_
  refine Wn ?_
  refine Lt ?_
  refine CWalk.cond rfl (fun hb => ?_) (fun hb => ?_)
  ·have hm := cond_t hb hm
   refine CWalk.skip ?_
   refine Lt ?_
   refine Cs ?_
   refine CWalk.block ?_
   refine Cs ?_
   refine Cr ?_
   refine mv ?_
   refine mv ?_
   obtain ⟨x4, hx4, hm⟩ := bind_some hm
   refine wo (Spec.indexAddr hx4 sl49 (Hs rfl) (Hs rfl)) ?_
   refine wo (Spec.load ty61 (Hs rfl)) ?_
   obtain ⟨x5, hx5, hm⟩ := bind_some hm
   refine wo (f := Fact.tup2 (Fact.flds [(false, 1, Fact.ow [10] [11] 37 (x5.1.Blocks : List (List UInt8))), (false, 1, Fact.ow [12] [13] 86 (x5.1.Wait : List Write)), (false, 1, Fact.rep [] x5.1.Dead)]) (Fact.rep [] x5.2)) (Spec.callE [0] 10 rfl en52 (disk_Flush_c x4 hx5) (HasAll.cons (Has.m (Hs rfl) rfl) HasAll.nil)) ?_
   refine mv ?_
   refine wo (Spec.ext0 (Hs rfl)) ?_
   refine wo (Spec.ext1 (Hs rfl)) ?_
   refine ws (Step.allocObj (ls := [(false, 1, Fact.nilv), (false, 1, Fact.nilv), (false, 1, Fact.rep [] (false : Bool))]) 14 rfl rfl rfl rfl zl61) ?_
   refine ws (Step.storeObj (ls := [(false, 1, Fact.ow [10] [11] 37 (x5.1.Blocks : List (List UInt8))), (false, 1, Fact.ow [12] [13] 86 (x5.1.Wait : List Write)), (false, 1, Fact.rep [] x5.1.Dead)]) rfl ty61 rfl rfl (Hs rfl) rfl (HasL.flds (Hs rfl)) rfl) ?_
   refine wo (Spec.assign (Hs rfl)) ?_
   refine Wn ?_
   refine Lt ?_
   refine CWalk.seqJ (fun p : (List (List UInt8)) × (List Write) × Bool => [.fact 0 (.rep [0] (a0 : List Disk)), .fact 3 (.ow [19] [0, 10, 11, 12, 13, 18] 61 (s1 : List Disk)), .fact 4 (.rep [] (s2 : Int)), .fact 5 (.isv 14), .fact 100015 (.at 15 (.rep [0, 10, 11] p.1)), .fact 100016 (.at 16 (.rep [0, 12, 13] p.2.1)), .fact 100017 (.at 17 (.rep [] p.2.2)), .fact 100014 (.obj 14 [(false, 1), (false, 1), (false, 1)])]) (fun p : (List (List UInt8)) × (List Write) × Bool => law27_flushed_J2 s1 s2 p.1 p.2.1 p.2.2 = some c3) ?_ ?_
   ·rintro ⟨j6, j7, j8⟩ hm
    replace hm : law27_flushed_J2 s1 s2 j6 j7 j8 = some c3 := hm
    unfold law27_flushed_J2 at hm
    show CWalk _ [.fact 0 (.rep [0] (a0 : List Disk)), .fact 3 (.ow [19] [0, 10, 11, 12, 13, 18] 61 (s1 : List Disk)), .fact 4 (.rep [] (s2 : Int)), .fact 5 (.isv 14), .fact 100015 (.at 15 (.rep [0, 10, 11] (j6 : List (List UInt8)))), .fact 100016 (.at 16 (.rep [0, 12, 13] (j7 : List Write))), .fact 100017 (.at 17 (.rep [] (j8 : Bool))), .fact 100014 (.obj 14 [(false, 1), (false, 1), (false, 1)])] _ _
    refine Cr ?_
    refine mv ?_
    refine wo (Spec.loadObj (ls := [(false, 1, Fact.rep [0, 10, 11] (j6 : List (List UInt8))), (false, 1, Fact.rep [0, 12, 13] (j7 : List Write)), (false, 1, Fact.rep [] (j8 : Bool))]) ty61 rfl rfl (Hs rfl) rfl (Gz rfl (Gz rfl (Gz rfl HasGs.nil)))) ?_
    refine wo (Spec.lit (xs := [.tmp 28]) (T := [0, 10, 11, 12, 13]) 18 rfl ow49 rfl rfl rfl rfl (HasEach.cons (Has.m (Has.cv (Hs rfl) (Cv.trans (Cv.flds (CvL.cons (Cv.m rfl) (CvL.cons (Cv.m rfl) (Vf CvL.nil)))) (Cv.close (T := [0, 10, 11, 12, 13]) (chDisk (Disk.mk j6 j7 j8))))) rfl) HasEach.nil)) ?_
    obtain ⟨x9, hx9, hm⟩ := bind_some hm
    refine ws (Step.appendOw (T := [19]) (te' := [0, 10, 11, 12, 13, 18]) hx9 rfl rfl rfl ow49 (Hs rfl) (Hs rfl) (ElKeeps.tags rfl rfl) (ElKeeps.tags rfl rfl)) ?_
    refine wo (Spec.assign (Hs rfl)) ?_
    refine Wn ?_
    refine Leaf.blockN ?_
    refine Lt ?_
    refine Cr ?_
    refine mv ?_
    refine wo (Spec.addI (Hs rfl) Has.int) ?_
    refine wo (Spec.assign (Hs rfl)) ?_
    refine Wn ?_
    exact Leaf.next hm (su (Sub.cons (Has.cv (Hs rfl) (Cv.owM (T := [19]) (te := [0, 10, 11, 12, 13, 18]) rfl rfl)) (st Sub.nil)))
   ·refine Cs ?_
    refine Cr ?_
    refine mv ?_
    refine wo (Spec.neqI (Hs rfl) Has.int) ?_
    refine Wn ?_
    refine Lt ?_
    refine CWalk.cond rfl (fun hb => ?_) (fun hb => ?_)
    ·have hm := cond_t hb hm
     refine Cr ?_
     refine mv ?_
     refine mv ?_
     obtain ⟨x10, hx10, hm⟩ := bind_some hm
     refine wo (Spec.indexAddr hx10 sl49 (Hs rfl) (Hs rfl)) ?_
     refine wo (Spec.load ty61 (Hs rfl)) ?_
     refine ws (Step.storeObj (ls := [(false, 1, Fact.rep [0] x10.Blocks), (false, 1, Fact.rep [0] x10.Wait), (false, 1, Fact.rep [] x10.Dead)]) rfl ty61 rfl rfl (Hs rfl) rfl (HasL.flds (Has.cv (Hs rfl) (Cv.trans (Cv.opens (chDisk x10)) (Cv.flds (CvL.cons Cv.refl (CvL.cons Cv.refl (Vf CvL.nil))))))) rfl) ?_
     refine Wn ?_
     exact Leaf.join (x10.Blocks, x10.Wait, x10.Dead) hm (su (Sub.cons (Has.cv (Hs rfl) (Cv.owM (T := [19]) (te := [0, 10, 11, 12, 13, 18]) rfl rfl)) (st (sn (sm (sm (sf (sn Sub.nil))))))))
    ·have hm := cond_f hb hm
     refine CWalk.skip ?_
     exact Leaf.join (x5.1.Blocks, x5.1.Wait, x5.1.Dead) hm (su (Sub.cons (Has.cv (Hs rfl) (Cv.owM (T := [19]) (te := [0, 10, 11, 12, 13, 18]) rfl rfl)) (st (sn (Sub.cons (Has.at (HasG.cv (HasG.s rfl) (Cv.trans (Cv.trans Cv.owSl (Cv.slRep (T' := [10, 11]) rfl rfl)) (Cv.m rfl)))) (Sub.cons (Has.at (HasG.cv (HasG.s rfl) (Cv.trans (Cv.trans Cv.owSl (Cv.slRep (T' := [12, 13]) rfl rfl)) (Cv.m rfl)))) (sf (sn Sub.nil))))))))
  ·have hm := cond_f hb hm
   refine CWalk.exit ?_
   refine Leaf.thenE ?_
   exact Leaf.brk hm (fun h => nomatch h) rfl (Sub.cons (Has.cv (Hs rfl) (Cv.owM (T := [19]) (te := [0, 10, 11, 12, 13, 18]) rfl rfl)) Sub.nil)
 ·intro _
  refine Leaf.blockE ?_
  refine Lt ?_
  refine Cs ?_
  refine Cr ?_
  refine mv ?_
  refine wo (Spec.assign (Hs rfl)) ?_
  refine Wn ?_
  refine Lt ?_
  refine CWalk.ret ?_
  obtain rfl := Option.some.inj hm
  exact Leaf.retC1 rfl (HasR.cv (HasR.tmp (Hs rfl)) (Cv.owM (T := [19]) (te := [0, 10, 11, 12, 13, 18]) rfl rfl))

/-- freeboard/freeboardref04.Full -/
def ref04_Full (a0 : List UInt8) : Option ((List UInt8)) :=
  (bif (((a0).length : Int) == (0 : Int)) then Option.bind (makeL (0 : UInt8) (128 : Int)) (fun x1 => some x1) else Option.bind (app ([] : List UInt8) a0) (fun x2 => some x2))
theorem ref04_Full_c (a0 : List UInt8) {r : (List UInt8)} (hm : ref04_Full a0 = some r) : Ctr Try.prog 81 [.rep 0 a0] (.own 0 none 5 r) [] := by
 refine ctr_of_walk [[10, 11]] 11 Try.func81 rfl rfl rfl rfl (fun w0 om => ?_)
 unfold ref04_Full at hm
 refine CWalk.sub (G' := [.fact 0 (.rep [0] (a0 : List UInt8))]) (sn Sub.nil) ?_
 refine Cs ?_
 refine Cr ?_
 refine wo (Spec.assign Has.nilv) ?_
 refine Wn ?_
 refine Lt ?_
 refine Cs ?_
 refine Cs ?_
 refine Cr ?_
 refine mv ?_
 refine wo (Spec.len (Hs rfl) Try.underlying37) ?_
 refine wo (Spec.eqlI (Hs rfl) Has.int) ?_
 refine Wn ?_
 refine Lt ?_
 refine CWalk.cond rfl (fun hb => ?_) (fun hb => ?_)
 ·have hm := cond_t hb hm
  refine Cs ?_
  refine Cr ?_
  obtain ⟨x1, hx1, hm⟩ := bind_some hm
  refine ws (Step.makeOwn 10 hx1 rfl rfl ow37 zt5 Has.int) ?_
  refine wo (Spec.assign (Hs rfl)) ?_
  refine Wn ?_
  refine Lt ?_
  refine CWalk.ret ?_
  refine Leaf.thenR ?_
  obtain rfl := Option.some.inj hm
  exact Leaf.retC1 rfl (HasR.cv (HasR.tmp (Hs rfl)) (Cv.trans (Cv.isvOw rfl) (Cv.owF (T := [10]) (te := []) rfl)))
 ·have hm := cond_f hb hm
  refine CWalk.skip ?_
  refine Lt ?_
  refine Cs ?_
  refine Cr ?_
  refine wo (Spec.assign Has.nilv) ?_
  refine Wn ?_
  refine Lt ?_
  refine Cs ?_
  refine Cr ?_
  refine mv ?_
  refine mv ?_
  obtain ⟨x2, hx2, hm⟩ := bind_some hm
  refine wo (Spec.appNilO (te' := []) 11 hx2 rfl ow37 (Hs rfl) (Hs rfl) ElKeep.flat) ?_
  refine wo (Spec.assign (Hs rfl)) ?_
  refine Wn ?_
  refine Lt ?_
  refine CWalk.ret ?_
  obtain rfl := Option.some.inj hm
  exact Leaf.retC1 rfl (HasR.cv (HasR.tmp (Hs rfl)) (Cv.owF (T := [11]) (te := []) rfl))

def ref04_Same_L1 (a0 : Disk) (a1 : Disk) (s1 : Int) : Option (Ctl (Int) ((Unit) ⊕ (Unit))) :=
  (bif (decide (s1 < ((a0.Blocks).length : Int))) then Option.bind (idx a0.Blocks s1) (fun x3 => Option.bind (ref04_Full x3) (fun x4 => Option.bind (idx a1.Blocks s1) (fun x5 => Option.bind (ref04_Full x5) (fun x6 => (bif (!((Str.mk x4).s == (Str.mk x6).s)) then some (Ctl.brk (Sum.inr ())) else some (Ctl.next (wI (s1 + (1 : Int))))))))) else some (Ctl.brk (Sum.inl ())))
def ref04_Same_L2 (a0 : Disk) (a1 : Disk) (s9 : Int) : Option (Ctl (Int) ((Unit) ⊕ (Unit))) :=
  (bif (decide (s9 < ((a0.Wait).length : Int))) then Option.bind (idx a0.Wait s9) (fun x11 => Option.bind (idx a1.Wait s9) (fun x12 => Option.bind (gO (!(x11.At != x12.At)) (idx a0.Wait s9)) (fun x13 => Option.bind (gO (!(x11.At != x12.At)) (ref04_Full x13.Data)) (fun x14 => Option.bind (gO (!(x11.At != x12.At)) (idx a1.Wait s9)) (fun x15 => Option.bind (gO (!(x11.At != x12.At)) (ref04_Full x15.Data)) (fun x16 => (bif ((x11.At != x12.At) || (!((Str.mk x14).s == (Str.mk x16).s))) then some (Ctl.brk (Sum.inr ())) else some (Ctl.next (wI (s9 + (1 : Int))))))))))) else some (Ctl.brk (Sum.inl ())))
/-- freeboard/freeboardref04.Same -/
def ref04_Same (a0 : Disk) (a1 : Disk) : Option (Bool) :=
  (bif (((((a0.Blocks).length : Int) != ((a1.Blocks).length : Int)) || (((a0.Wait).length : Int) != ((a1.Wait).length : Int))) || (a0.Dead != a1.Dead)) then some false else Option.bind (loopM (fun s : Int => ref04_Same_L1 a0 a1 s) FUEL (0 : Int)) (fun b7 => Sum.elim (fun b8 => Option.bind (loopM (fun s : Int => ref04_Same_L2 a0 a1 s) FUEL (0 : Int)) (fun b17 => Sum.elim (fun b18 => some true) (fun b19 => some false) b17)) (fun b20 => some false) b7))
theorem ref04_Same_c (a0 : Disk) (a1 : Disk) {r : Bool} (hm : ref04_Same a0 a1 = some r) : Ctr Try.prog 51 [.rep 0 a0, .rep 0 a1] (.fl r) [] := by
 refine ctr_of_walk [[]] 91 Try.func51 rfl rfl rfl rfl (fun w0 om => ?_)
 unfold ref04_Same at hm
 refine CWalk.sub (G' := [.fact 0 (.rep [0] (a0 : Disk)), .fact 1 (.rep [0] (a1 : Disk))]) (sn (sn Sub.nil)) ?_
 refine Cs ?_
 refine Cr ?_
 refine ws (Step.boxObj (ls := [(false, 1, Fact.rep [0] a0.Blocks), (false, 1, Fact.rep [0] a0.Wait), (false, 1, Fact.rep [] a0.Dead)]) 10 rfl rfl rfl rfl (HasL.flds (Has.cv (Hs rfl) (Cv.trans (Cv.opens (chDisk a0)) (Cv.flds (CvL.cons Cv.refl (CvL.cons Cv.refl (Vf CvL.nil)))))))) ?_
 refine ws (Step.boxObj (ls := [(false, 1, Fact.rep [0] a1.Blocks), (false, 1, Fact.rep [0] a1.Wait), (false, 1, Fact.rep [] a1.Dead)]) 14 rfl rfl rfl rfl (HasL.flds (Has.cv (Hs rfl) (Cv.trans (Cv.opens (chDisk a1)) (Cv.flds (CvL.cons Cv.refl (CvL.cons Cv.refl (Vf CvL.nil)))))))) ?_
 refine wo (Spec.assign Has.bool) ?_
 refine Wn ?_
 refine Lt ?_
 refine Cs ?_
 refine Cs ?_
 refine Cr ?_
 refine wo (Spec.fieldAddrO fd61_0 (Has.cv (Hs rfl) (Cv.isvP rfl))) ?_
 refine wo (Spec.loadF (i := 0) ty36 rfl (Hs rfl) rfl (HasG.s rfl)) ?_
 refine wo (Spec.len (Hs rfl) Try.underlying36) ?_
 refine wo (Spec.fieldAddrO fd61_0 (Has.cv (Hs rfl) (Cv.isvP rfl))) ?_
 refine wo (Spec.loadF (i := 0) ty36 rfl (Hs rfl) rfl (HasG.s rfl)) ?_
 refine wo (Spec.len (Hs rfl) Try.underlying36) ?_
 refine wo (Spec.neqI (Hs rfl) (Hs rfl)) ?_
 refine mv ?_
 refine wg rfl rfl (fun hb => Spec.fieldAddrO fd61_1 (Has.cv (Hs rfl) (Cv.isvP rfl))) ?_
 refine wg rfl rfl (fun hb => Spec.loadF (i := 1) ty59 rfl (Has.u rfl hb) rfl (HasG.s rfl)) ?_
 refine wg rfl rfl (fun hb => Spec.len (Has.u rfl hb) Try.underlying59) ?_
 refine wg rfl rfl (fun hb => Spec.fieldAddrO fd61_1 (Has.cv (Hs rfl) (Cv.isvP rfl))) ?_
 refine wg rfl rfl (fun hb => Spec.loadF (i := 1) ty59 rfl (Has.u rfl hb) rfl (HasG.s rfl)) ?_
 refine wg rfl rfl (fun hb => Spec.len (Has.u rfl hb) Try.underlying59) ?_
 refine wg rfl rfl (fun hb => Spec.neqI (Has.u rfl hb) (Has.u rfl hb)) ?_
 refine wo (Spec.or (Hs rfl) (fun h => Has.u rfl h)) ?_
 refine mv ?_
 refine wg rfl rfl (fun hb => Spec.fieldAddrO fd61_2 (Has.cv (Hs rfl) (Cv.isvP rfl))) ?_
 refine wg rfl rfl (fun hb => Spec.loadF (i := 2) ty4 rfl (Has.u rfl hb) rfl (HasG.s rfl)) ?_
 refine wg rfl rfl (fun hb => Spec.fieldAddrO fd61_2 (Has.cv (Hs rfl) (Cv.isvP rfl))) ?_
 refine wg rfl rfl (fun hb => Spec.loadF (i := 2) ty4 rfl (Has.u rfl hb) rfl (HasG.s rfl)) ?_
 refine wg rfl rfl (fun hb => Spec.neqT (Has.u rfl hb) (Has.u rfl hb) Try.underlying4) ?_
 refine wo (Spec.or (Hs rfl) (fun h => Has.u rfl h)) ?_
 refine Wn ?_
 refine Lt ?_
 refine CWalk.cond rfl (fun hb => ?_) (fun hb => ?_)
 ·have hm := cond_t hb hm
  refine Cs ?_
  refine Cr ?_
  refine wo (Spec.assign Has.bool) ?_
  refine Wn ?_
  refine Lt ?_
  refine CWalk.ret ?_
  refine Leaf.thenR ?_
  obtain rfl := Option.some.inj hm
  exact Leaf.retC1 rfl (HasR.cv (HasR.tmp (Hs rfl)) Cv.fl)
 ·have hm := cond_f hb hm
  refine CWalk.skip ?_
  refine Lt ?_
  refine Cs ?_
  refine Cs ?_
  refine Cr ?_
  refine wo (Spec.assign Has.int) ?_
  refine Wn ?_
  refine Lt ?_
  refine CWalk.block ?_
  obtain ⟨b7, hb7, hm⟩ := bind_some hm
  refine CWalk.loop (fun s : Int => [.fact 2 (.isv 10), .fact 3 (.isv 14), .fact 5 (.rep [] (s : Int)), .fact 100011 (.at 11 (.rep [0] a0.Blocks)), .fact 100012 (.at 12 (.rep [0] a0.Wait)), .fact 100013 (.at 13 (.rep [] a0.Dead)), .fact 100015 (.at 15 (.rep [0] a1.Blocks)), .fact 100016 (.at 16 (.rep [0] a1.Wait)), .fact 100017 (.at 17 (.rep [] a1.Dead)), .fact 100010 (.obj 10 [(false, 1), (false, 1), (false, 1)]), .fact 100014 (.obj 14 [(false, 1), (false, 1), (false, 1)])]) (fun b : (Unit) ⊕ (Unit) => Sum.elim (fun b => (Exit.exit 0, [.fact 2 (.isv 10), .fact 3 (.isv 14), .fact 100011 (.at 11 (.rep [0] a0.Blocks)), .fact 100012 (.at 12 (.rep [0] a0.Wait)), .fact 100013 (.at 13 (.rep [] a0.Dead)), .fact 100015 (.at 15 (.rep [0] a1.Blocks)), .fact 100016 (.at 16 (.rep [0] a1.Wait)), .fact 100017 (.at 17 (.rep [] a1.Dead)), .fact 100010 (.obj 10 [(false, 1), (false, 1), (false, 1)]), .fact 100014 (.obj 14 [(false, 1), (false, 1), (false, 1)])])) (fun b => (Exit.ret, [.fact 4 (.rep [] (false : Bool))])) b) hb7 (sn (sn (st (sm (sm (sf (sm (sm (sf (sn (sn Sub.nil))))))))))) ?_ ?_
  ·rintro s1 c2 hm
   replace hm : ref04_Same_L1 a0 a1 s1 = some c2 := hm
   unfold ref04_Same_L1 at hm
   show CWalk _ [.fact 2 (.isv 10), .fact 3 (.isv 14), .fact 5 (.rep [] (s1 : Int)), .fact 100011 (.at 11 (.rep [0] a0.Blocks)), .fact 100012 (.at 12 (.rep [0] a0.Wait)), .fact 100013 (.at 13 (.rep [] a0.Dead)), .fact 100015 (.at 15 (.rep [0] a1.Blocks)), .fact 100016 (.at 16 (.rep [0] a1.Wait)), .fact 100017 (.at 17 (.rep [] a1.Dead)), .fact 100010 (.obj 10 [(false, 1), (false, 1), (false, 1)]), .fact 100014 (.obj 14 [(false, 1), (false, 1), (false, 1)])] _ _
   refine Cs ?_
   refine Cs ?_
   refine Cr ?_
   refine mv ?_
   refine wo (Spec.fieldAddrO fd61_0 (Has.cv (Hs rfl) (Cv.isvP rfl))) ?_
   refine wo (Spec.loadF (i := 0) ty36 rfl (Hs rfl) rfl (HasG.s rfl)) ?_
   refine wo (Spec.len (Hs rfl) Try.underlying36) ?_
   refine wo (Spec.lssI (Hs rfl) (Hs rfl)) ?_
   refine Wn ?_
   refine Lt ?_
   refine CWalk.cond rfl (fun hb => ?_) (fun hb => ?_)
   ·have hm := cond_t hb hm
    refine CWalk.skip ?_
    refine Lt ?_
    refine Cs ?_
    refine CWalk.block ?_
    refine Cs ?_
    obtain ⟨x3, hx3, hm⟩ := bind_some hm
    obtain ⟨x4, hx4, hm⟩ := bind_some hm
    obtain ⟨x5, hx5, hm⟩ := bind_some hm
    obtain ⟨x6, hx6, hm⟩ := bind_some hm
    refine CWalk.drawM [[], [0], [], [0, 1, 2], [0, 1, 2, 3], [0, 1, 2, 3, 4], [0, 1, 2, 3, 4, 5], [], [7], [], [7, 8, 9], [7, 8, 9, 10], [0, 1, 2, 3, 4, 5, 7, 8, 9, 10, 11], [0, 1, 2, 3, 4, 5, 7, 8, 9, 10, 11, 12], [0, 1, 2, 3, 4, 5, 6, 7, 8, 9, 10, 11, 12, 13]] [[.fact 37 (.pto 10 0)], [.fact 38 (.rep [0] a0.Blocks)], [.fact 39 (.rep [] (s1 : Int))], [.fact 40 (.ptr [0] (x3 : List UInt8))], [.fact 41 (.rep [0] (x3 : List UInt8))], [.fact 42 (.ow [18] [] 5 (x4 : List UInt8))], [.fact 43 (.rep [] ((Str.mk x4) : Str))], [.fact 44 (.pto 14 0)], [.fact 45 (.rep [0] a1.Blocks)], [.fact 46 (.rep [] (s1 : Int))], [.fact 47 (.ptr [0] (x5 : List UInt8))], [.fact 48 (.rep [0] (x5 : List UInt8))], [.fact 49 (.ow [19] [] 5 (x6 : List UInt8))], [.fact 50 (.rep [] ((Str.mk x6) : Str))], [.fact 51 (.rep [] ((!((Str.mk x4).s == (Str.mk x6).s)) : Bool))]] mixed (by kernel_rfl) (ao (so (Spec.fieldAddrO fd61_0 (Has.cv (Hs rfl) (Cv.isvP rfl)))) (ao (so (Spec.loadF (i := 0) ty36 rfl (Hs rfl) rfl (HasG.s rfl))) (ao (so (Spec.move (Hs rfl))) (ao (so (Spec.indexAddr hx3 sl36 (Hs rfl) (Hs rfl))) (ao (so (Spec.load ty37 (Hs rfl))) (ao (so (Spec.callE [0] 18 rfl en81 (ref04_Full_c x3 hx4) (HasAll.cons (Has.m (Hs rfl) rfl) HasAll.nil))) (ao (so (Spec.toStr Try.underlying37 Try.underlying5 Try.underlying9 (Has.cv (Hs rfl) (Cv.trans Cv.owSl (Cv.slRep (T' := [18]) rfl rfl))))) (ao (so (Spec.fieldAddrO fd61_0 (Has.cv (Hs rfl) (Cv.isvP rfl)))) (ao (so (Spec.loadF (i := 0) ty36 rfl (Hs rfl) rfl (HasG.s rfl))) (ao (so (Spec.move (Hs rfl))) (ao (so (Spec.indexAddr hx5 sl36 (Hs rfl) (Hs rfl))) (ao (so (Spec.load ty37 (Hs rfl))) (ao (so (Spec.callE [0] 19 rfl en81 (ref04_Full_c x5 hx6) (HasAll.cons (Has.m (Hs rfl) rfl) HasAll.nil))) (ao (so (Spec.toStr Try.underlying37 Try.underlying5 Try.underlying9 (Has.cv (Hs rfl) (Cv.trans Cv.owSl (Cv.slRep (T' := [19]) rfl rfl))))) (ao (so (Spec.neqS (Hs rfl) (Hs rfl))) AllM.nil))))))))))))))) ?_
    refine Lt ?_
    refine CWalk.cond rfl (fun hb => ?_) (fun hb => ?_)
    ·have hm := cond_t hb hm
     refine Cs ?_
     refine Cr ?_
     refine wo (Spec.assign Has.bool) ?_
     refine Wn ?_
     refine Lt ?_
     refine CWalk.ret ?_
     refine Leaf.blockR ?_
     refine Leaf.thenR ?_
     exact Leaf.brk hm (fun h => nomatch h) rfl (st Sub.nil)
    ·have hm := cond_f hb hm
     refine CWalk.skip ?_
     refine Leaf.blockN ?_
     refine Lt ?_
     refine Cr ?_
     refine mv ?_
     refine wo (Spec.addI (Hs rfl) Has.int) ?_
     refine wo (Spec.assign (Hs rfl)) ?_
     refine Wn ?_
     exact Leaf.next hm (sn (sn (st (sm (sm (sf (sm (sm (sf (sn (sn Sub.nil)))))))))))
   ·have hm := cond_f hb hm
    refine CWalk.exit ?_
    refine Leaf.thenE ?_
    exact Leaf.brk hm (fun h => nomatch h) rfl (sn (sn (sm (sm (sf (sm (sm (sf (sn (sn Sub.nil))))))))))
  ·intro _
   rcases b7 with b8 | b20
   ·have hm := selim_l hm
    refine Leaf.blockE ?_
    refine Lt ?_
    refine Cs ?_
    refine Cs ?_
    refine Cr ?_
    refine wo (Spec.assign Has.int) ?_
    refine Wn ?_
    refine Lt ?_
    refine CWalk.block ?_
    obtain ⟨b17, hb17, hm⟩ := bind_some hm
    refine CWalk.loop (fun s : Int => [.fact 2 (.isv 10), .fact 3 (.isv 14), .fact 6 (.rep [] (s : Int)), .fact 100011 (.at 11 (.rep [0] a0.Blocks)), .fact 100012 (.at 12 (.rep [0] a0.Wait)), .fact 100013 (.at 13 (.rep [] a0.Dead)), .fact 100015 (.at 15 (.rep [0] a1.Blocks)), .fact 100016 (.at 16 (.rep [0] a1.Wait)), .fact 100017 (.at 17 (.rep [] a1.Dead)), .fact 100010 (.obj 10 [(false, 1), (false, 1), (false, 1)]), .fact 100014 (.obj 14 [(false, 1), (false, 1), (false, 1)])]) (fun b : (Unit) ⊕ (Unit) => Sum.elim (fun b => (Exit.exit 2, [])) (fun b => (Exit.ret, [.fact 4 (.rep [] (false : Bool))])) b) hb17 (sn (sn (st (sm (sm (sf (sm (sm (sf (sn (sn Sub.nil))))))))))) ?_ ?_
    ·rintro s9 c10 hm
     replace hm : ref04_Same_L2 a0 a1 s9 = some c10 := hm
     unfold ref04_Same_L2 at hm
     show CWalk _ [.fact 2 (.isv 10), .fact 3 (.isv 14), .fact 6 (.rep [] (s9 : Int)), .fact 100011 (.at 11 (.rep [0] a0.Blocks)), .fact 100012 (.at 12 (.rep [0] a0.Wait)), .fact 100013 (.at 13 (.rep [] a0.Dead)), .fact 100015 (.at 15 (.rep [0] a1.Blocks)), .fact 100016 (.at 16 (.rep [0] a1.Wait)), .fact 100017 (.at 17 (.rep [] a1.Dead)), .fact 100010 (.obj 10 [(false, 1), (false, 1), (false, 1)]), .fact 100014 (.obj 14 [(false, 1), (false, 1), (false, 1)])] _ _
     refine Cs ?_
     refine Cs ?_
     refine Cr ?_
     refine mv ?_
     refine wo (Spec.fieldAddrO fd61_1 (Has.cv (Hs rfl) (Cv.isvP rfl))) ?_
     refine wo (Spec.loadF (i := 1) ty59 rfl (Hs rfl) rfl (HasG.s rfl)) ?_
     refine wo (Spec.len (Hs rfl) Try.underlying59) ?_
     refine wo (Spec.lssI (Hs rfl) (Hs rfl)) ?_
     refine Wn ?_
     refine Lt ?_
     refine CWalk.cond rfl (fun hb => ?_) (fun hb => ?_)
     ·have hm := cond_t hb hm
      refine CWalk.skip ?_
      refine Lt ?_
      refine Cs ?_
      refine CWalk.block ?_
      refine Cs ?_
      obtain ⟨x11, hx11, hm⟩ := bind_some hm
      obtain ⟨x12, hx12, hm⟩ := bind_some hm
      obtain ⟨x13, hx13, hm⟩ := bind_some hm
      obtain ⟨x14, hx14, hm⟩ := bind_some hm
      obtain ⟨x15, hx15, hm⟩ := bind_some hm
      obtain ⟨x16, hx16, hm⟩ := bind_some hm
      refine CWalk.drawM [[], [0], [], [0, 1, 2], [0, 1, 2, 3], [0, 1, 2, 3, 4], [], [6], [], [6, 7, 8], [6, 7, 8, 9], [6, 7, 8, 9, 10], [0, 1, 2, 3, 4, 5, 6, 7, 8, 9, 10, 11], [0, 1, 2, 3, 4, 5, 6, 7, 8, 9, 10, 11, 12], [0, 1, 2, 3, 4, 5, 6, 7, 8, 9, 10, 11, 12, 13], [0, 1, 2, 3, 4, 5, 6, 7, 8, 9, 10, 11, 12, 13, 14], [0, 1, 2, 3, 4, 5, 6, 7, 8, 9, 10, 11, 12, 13], [0, 1, 2, 3, 4, 5, 6, 7, 8, 9, 10, 11, 12, 13, 14, 15, 16], [0, 1, 2, 3, 4, 5, 6, 7, 8, 9, 10, 11, 12, 13, 14, 15, 16, 17], [0, 1, 2, 3, 4, 5, 6, 7, 8, 9, 10, 11, 12, 13, 14, 15, 16, 17, 18], [0, 1, 2, 3, 4, 5, 6, 7, 8, 9, 10, 11, 12, 13, 14, 15, 16, 17, 18, 19], [0, 1, 2, 3, 4, 5, 6, 7, 8, 9, 10, 11, 12, 13, 14, 15, 16, 17, 18, 19, 20], [0, 1, 2, 3, 4, 5, 6, 7, 8, 9, 10, 11, 12, 13], [0, 1, 2, 3, 4, 5, 6, 7, 8, 9, 10, 11, 12, 13, 22], [0, 1, 2, 3, 4, 5, 6, 7, 8, 9, 10, 11, 12, 13], [0, 1, 2, 3, 4, 5, 6, 7, 8, 9, 10, 11, 12, 13, 22, 23, 24], [0, 1, 2, 3, 4, 5, 6, 7, 8, 9, 10, 11, 12, 13, 22, 23, 24, 25], [0, 1, 2, 3, 4, 5, 6, 7, 8, 9, 10, 11, 12, 13, 22, 23, 24, 25, 26], [0, 1, 2, 3, 4, 5, 6, 7, 8, 9, 10, 11, 12, 13, 14, 15, 16, 17, 18, 19, 20, 22, 23, 24, 25, 26, 27], [0, 1, 2, 3, 4, 5, 6, 7, 8, 9, 10, 11, 12, 13, 14, 15, 16, 17, 18, 19, 20, 22, 23, 24, 25, 26, 27, 28], [0, 1, 2, 3, 4, 5, 6, 7, 8, 9, 10, 11, 12, 13, 14, 15, 16, 17, 18, 19, 20, 21, 22, 23, 24, 25, 26, 27, 28, 29], [0, 1, 2, 3, 4, 5, 6, 7, 8, 9, 10, 11, 12, 13, 14, 15, 16, 17, 18, 19, 20, 21, 22, 23, 24, 25, 26, 27, 28, 29, 30]] [[.fact 59 (.pto 10 1)], [.fact 60 (.rep [0] a0.Wait)], [.fact 61 (.rep [] (s9 : Int))], [.fact 62 (.ptr [0] (x11 : Write))], [.fact 63 (.ptr [0] (x11.At : Int))], [.fact 64 (.rep [] x11.At)], [.fact 65 (.pto 14 1)], [.fact 66 (.rep [0] a1.Wait)], [.fact 67 (.rep [] (s9 : Int))], [.fact 68 (.ptr [0] (x12 : Write))], [.fact 69 (.ptr [0] (x12.At : Int))], [.fact 70 (.rep [] x12.At)], [.fact 71 (.rep [] ((x11.At != x12.At) : Bool))], [.fact 72 (.rep [] ((x11.At != x12.At) : Bool))], [.fact 73 (.under ((x11.At != x12.At) = false) (.pto 10 1))], [.fact 74 (.under ((x11.At != x12.At) = false) (.rep [0] a0.Wait))], [.fact 75 (.under ((x11.At != x12.At) = false) (.rep [] (s9 : Int)))], [.fact 76 (.under ((x11.At != x12.At) = false) (.ptr [0] (x13 : Write)))], [.fact 77 (.under ((x11.At != x12.At) = false) (.ptr [0] (x13.Data : List UInt8)))], [.fact 78 (.under ((x11.At != x12.At) = false) (.rep [0] x13.Data))], [.fact 79 (.under ((x11.At != x12.At) = false) (.ow [20] [] 5 (x14 : List UInt8)))], [.fact 80 (.under ((x11.At != x12.At) = false) (.rep [] ((Str.mk x14) : Str)))], [.fact 81 (.under ((x11.At != x12.At) = false) (.pto 14 1))], [.fact 82 (.under ((x11.At != x12.At) = false) (.rep [0] a1.Wait))], [.fact 83 (.under ((x11.At != x12.At) = false) (.rep [] (s9 : Int)))], [.fact 84 (.under ((x11.At != x12.At) = false) (.ptr [0] (x15 : Write)))], [.fact 85 (.under ((x11.At != x12.At) = false) (.ptr [0] (x15.Data : List UInt8)))], [.fact 86 (.under ((x11.At != x12.At) = false) (.rep [0] x15.Data))], [.fact 87 (.under ((x11.At != x12.At) = false) (.ow [21] [] 5 (x16 : List UInt8)))], [.fact 88 (.under ((x11.At != x12.At) = false) (.rep [] ((Str.mk x16) : Str)))], [.fact 89 (.under ((x11.At != x12.At) = false) (.rep [] ((!((Str.mk x14).s == (Str.mk x16).s)) : Bool)))], [.fact 90 (.rep [] (((x11.At != x12.At) || (!((Str.mk x14).s == (Str.mk x16).s))) : Bool))]] mixed (by kernel_rfl) (ao (so (Spec.fieldAddrO fd61_1 (Has.cv (Hs rfl) (Cv.isvP rfl)))) (ao (so (Spec.loadF (i := 1) ty59 rfl (Hs rfl) rfl (HasG.s rfl))) (ao (so (Spec.move (Hs rfl))) (ao (so (Spec.indexAddr hx11 sl59 (Hs rfl) (Hs rfl))) (ao (so (Spec.fieldAddrP fd86_0 (chWrite x11) rfl (Hs rfl))) (ao (so ((Spec.load ty3 (Hs rfl)).flat (T' := []))) (ao (so (Spec.fieldAddrO fd61_1 (Has.cv (Hs rfl) (Cv.isvP rfl)))) (ao (so (Spec.loadF (i := 1) ty59 rfl (Hs rfl) rfl (HasG.s rfl))) (ao (so (Spec.move (Hs rfl))) (ao (so (Spec.indexAddr hx12 sl59 (Hs rfl) (Hs rfl))) (ao (so (Spec.fieldAddrP fd86_0 (chWrite x12) rfl (Hs rfl))) (ao (so ((Spec.load ty3 (Hs rfl)).flat (T' := []))) (ao (so (Spec.neqI (Hs rfl) (Hs rfl))) (ao (so (Spec.move (Hs rfl))) (ao (StepG.opg rfl rfl rfl (fun hb => Spec.fieldAddrO fd61_1 (Has.cv (Hs rfl) (Cv.isvP rfl)))) (ao (StepG.opg rfl rfl rfl (fun hb => Spec.loadF (i := 1) ty59 rfl (Has.u rfl hb) rfl (HasG.s rfl))) (ao (StepG.opg rfl rfl rfl (fun hb => Spec.move (Hs rfl))) (ao (StepG.opg rfl rfl rfl (fun hb => Spec.indexAddr (gO_t hx13 (not_t hb)) sl59 (Has.u rfl hb) (Has.u rfl hb))) (ao (StepG.opg rfl rfl rfl (fun hb => Spec.fieldAddrP fd86_1 (chWrite x13) rfl (Has.u rfl hb))) (ao (StepG.opg rfl rfl rfl (fun hb => Spec.load ty37 (Has.u rfl hb))) (ao (StepG.opg rfl rfl rfl (fun hb => Spec.callE [0] 20 rfl en81 (ref04_Full_c x13.Data (gO_t hx14 (not_t hb))) (HasAll.cons (Has.m (Has.u rfl hb) rfl) HasAll.nil))) (ao (StepG.opg rfl rfl rfl (fun hb => Spec.toStr Try.underlying37 Try.underlying5 Try.underlying9 (Has.cv (Has.u rfl hb) (Cv.trans Cv.owSl (Cv.slRep (T' := [20]) rfl rfl))))) (ao (StepG.opg rfl rfl rfl (fun hb => Spec.fieldAddrO fd61_1 (Has.cv (Hs rfl) (Cv.isvP rfl)))) (ao (StepG.opg rfl rfl rfl (fun hb => Spec.loadF (i := 1) ty59 rfl (Has.u rfl hb) rfl (HasG.s rfl))) (ao (StepG.opg rfl rfl rfl (fun hb => Spec.move (Hs rfl))) (ao (StepG.opg rfl rfl rfl (fun hb => Spec.indexAddr (gO_t hx15 (not_t hb)) sl59 (Has.u rfl hb) (Has.u rfl hb))) (ao (StepG.opg rfl rfl rfl (fun hb => Spec.fieldAddrP fd86_1 (chWrite x15) rfl (Has.u rfl hb))) (ao (StepG.opg rfl rfl rfl (fun hb => Spec.load ty37 (Has.u rfl hb))) (ao (StepG.opg rfl rfl rfl (fun hb => Spec.callE [0] 21 rfl en81 (ref04_Full_c x15.Data (gO_t hx16 (not_t hb))) (HasAll.cons (Has.m (Has.u rfl hb) rfl) HasAll.nil))) (ao (StepG.opg rfl rfl rfl (fun hb => Spec.toStr Try.underlying37 Try.underlying5 Try.underlying9 (Has.cv (Has.u rfl hb) (Cv.trans Cv.owSl (Cv.slRep (T' := [21]) rfl rfl))))) (ao (StepG.opg rfl rfl rfl (fun hb => Spec.neqS (Has.u rfl hb) (Has.u rfl hb))) (ao (so (Spec.or (Hs rfl) (fun h => Has.u rfl h))) AllM.nil)))))))))))))))))))))))))))))))) ?_
      refine Lt ?_
      refine CWalk.cond rfl (fun hb => ?_) (fun hb => ?_)
      ·have hm := cond_t hb hm
       refine Cs ?_
       refine Cr ?_
       refine wo (Spec.assign Has.bool) ?_
       refine Wn ?_
       refine Lt ?_
       refine CWalk.ret ?_
       refine Leaf.blockR ?_
       refine Leaf.thenR ?_
       exact Leaf.brk hm (fun h => nomatch h) rfl (st Sub.nil)
      ·have hm := cond_f hb hm
       refine CWalk.skip ?_
       refine Leaf.blockN ?_
       refine Lt ?_
       refine Cr ?_
       refine mv ?_
       refine wo (Spec.addI (Hs rfl) Has.int) ?_
       refine wo (Spec.assign (Hs rfl)) ?_
       refine Wn ?_
       exact Leaf.next hm (sn (sn (st (sm (sm (sf (sm (sm (sf (sn (sn Sub.nil)))))))))))
     ·have hm := cond_f hb hm
      refine CWalk.exit ?_
      refine Leaf.thenE ?_
      exact Leaf.brk hm (fun h => nomatch h) rfl (Sub.nil)
    ·intro _
     rcases b17 with b18 | b19
     ·have hm := selim_l hm
      refine Leaf.blockE ?_
      refine Lt ?_
      refine Cs ?_
      refine Cr ?_
      refine wo (Spec.assign Has.bool) ?_
      refine Wn ?_
      refine Lt ?_
      refine CWalk.ret ?_
      obtain rfl := Option.some.inj hm
      exact Leaf.retC1 rfl (HasR.cv (HasR.tmp (Hs rfl)) Cv.fl)
     ·have hm := selim_r hm
      refine Leaf.blockR ?_
      refine Leaf.thenR ?_
      obtain rfl := Option.some.inj hm
      exact Leaf.retC1 rfl (HasR.cv (HasR.tmp (Hs rfl)) Cv.fl)
   ·have hm := selim_r hm
    refine Leaf.blockR ?_
    refine Leaf.thenR ?_
    obtain rfl := Option.some.inj hm
    exact Leaf.retC1 rfl (HasR.cv (HasR.tmp (Hs rfl)) Cv.fl)

def ref05_SameDisks_L1 (a0 : List Disk) (a1 : List Disk) (s1 : Int) : Option (Ctl (Int) ((Unit) ⊕ (Unit))) :=
  (bif (decide (s1 < ((a0).length : Int))) then Option.bind (idx a0 s1) (fun x3 => Option.bind (idx a1 s1) (fun x4 => Option.bind (ref04_Same x3 x4) (fun x5 => (bif (!x5) then some (Ctl.brk (Sum.inr ())) else some (Ctl.next (wI (s1 + (1 : Int)))))))) else some (Ctl.brk (Sum.inl ())))
/-- freeboard/freeboardref05.SameDisks -/
def ref05_SameDisks (a0 : List Disk) (a1 : List Disk) : Option (Bool) :=
  (bif (((a0).length : Int) != ((a1).length : Int)) then some false else Option.bind (loopM (fun s : Int => ref05_SameDisks_L1 a0 a1 s) FUEL (0 : Int)) (fun b6 => Sum.elim (fun b7 => some true) (fun b8 => some false) b6))
theorem ref05_SameDisks_c (a0 : List Disk) (a1 : List Disk) {r : Bool} (hm : ref05_SameDisks a0 a1 = some r) : Ctr Try.prog 24 [.rep 0 a0, .rep 0 a1] (.fl r) [] := by
 refine ctr_of_walk [[]] 27 Try.func24 rfl rfl rfl rfl (fun w0 om => ?_)
 unfold ref05_SameDisks at hm
 refine CWalk.sub (G' := [.fact 0 (.rep [0] (a0 : List Disk)), .fact 1 (.rep [0] (a1 : List Disk))]) (sn (sn Sub.nil)) ?_
 refine Cs ?_
 refine Cr ?_
 refine wo (Spec.assign Has.bool) ?_
 refine Wn ?_
 refine Lt ?_
 refine Cs ?_
 refine Cs ?_
 refine Cr ?_
 refine mv ?_
 refine wo (Spec.len (Hs rfl) Try.underlying49) ?_
 refine mv ?_
 refine wo (Spec.len (Hs rfl) Try.underlying49) ?_
 refine wo (Spec.neqI (Hs rfl) (Hs rfl)) ?_
 refine Wn ?_
 refine Lt ?_
 refine CWalk.cond rfl (fun hb => ?_) (fun hb => ?_)
 ·have hm := cond_t hb hm
  refine Cs ?_
  refine Cr ?_
  refine wo (Spec.assign Has.bool) ?_
  refine Wn ?_
  refine Lt ?_
  refine CWalk.ret ?_
  refine Leaf.thenR ?_
  obtain rfl := Option.some.inj hm
  exact Leaf.retC1 rfl (HasR.cv (HasR.tmp (Hs rfl)) Cv.fl)
 ·have hm := cond_f hb hm
  refine CWalk.skip ?_
  refine Lt ?_
  refine Cs ?_
  refine Cs ?_
  refine Cr ?_
  refine wo (Spec.assign Has.int) ?_
  refine Wn ?_
  refine Lt ?_
  refine CWalk.block ?_
  obtain ⟨b6, hb6, hm⟩ := bind_some hm
  refine CWalk.loop (fun s : Int => [.fact 0 (.rep [0] (a0 : List Disk)), .fact 1 (.rep [0] (a1 : List Disk)), .fact 5 (.rep [] (s : Int))]) (fun b : (Unit) ⊕ (Unit) => Sum.elim (fun b => (Exit.exit 0, [])) (fun b => (Exit.ret, [.fact 4 (.rep [] (false : Bool))])) b) hb6 (su (su (st Sub.nil))) ?_ ?_
  ·rintro s1 c2 hm
   replace hm : ref05_SameDisks_L1 a0 a1 s1 = some c2 := hm
   unfold ref05_SameDisks_L1 at hm
   show CWalk _ [.fact 0 (.rep [0] (a0 : List Disk)), .fact 1 (.rep [0] (a1 : List Disk)), .fact 5 (.rep [] (s1 : Int))] _ _
   refine Cs ?_
   refine Cs ?_
   refine Cr ?_
   refine mv ?_
   refine mv ?_
   refine wo (Spec.len (Hs rfl) Try.underlying49) ?_
   refine wo (Spec.lssI (Hs rfl) (Hs rfl)) ?_
   refine Wn ?_
   refine Lt ?_
   refine CWalk.cond rfl (fun hb => ?_) (fun hb => ?_)
   ·have hm := cond_t hb hm
    refine CWalk.skip ?_
    refine Lt ?_
    refine Cs ?_
    refine CWalk.block ?_
    refine Cs ?_
    obtain ⟨x3, hx3, hm⟩ := bind_some hm
    obtain ⟨x4, hx4, hm⟩ := bind_some hm
    obtain ⟨x5, hx5, hm⟩ := bind_some hm
    refine CWalk.drawM [[], [], [0, 1], [0, 1, 2], [], [], [4, 5], [4, 5, 6], [0, 1, 2, 3, 4, 5, 6, 7], [0, 1, 2, 3, 4, 5, 6, 7, 8]] [[.fact 17 (.rep [0] (a0 : List Disk))], [.fact 18 (.rep [] (s1 : Int))], [.fact 19 (.ptr [0] (x3 : Disk))], [.fact 20 (.rep [0] (x3 : Disk))], [.fact 21 (.rep [0] (a1 : List Disk))], [.fact 22 (.rep [] (s1 : Int))], [.fact 23 (.ptr [0] (x4 : Disk))], [.fact 24 (.rep [0] (x4 : Disk))], [.fact 25 (.rep [] (x5 : Bool))], [.fact 26 (.rep [] ((!x5) : Bool))]] mixed (by kernel_rfl) (ao (so (Spec.move (Hs rfl))) (ao (so (Spec.move (Hs rfl))) (ao (so (Spec.indexAddr hx3 sl49 (Hs rfl) (Hs rfl))) (ao (so (Spec.load ty61 (Hs rfl))) (ao (so (Spec.move (Hs rfl))) (ao (so (Spec.move (Hs rfl))) (ao (so (Spec.indexAddr hx4 sl49 (Hs rfl) (Hs rfl))) (ao (so (Spec.load ty61 (Hs rfl))) (ao (so (Spec.callE [0] 10 rfl en51 (ref04_Same_c x3 x4 hx5) (HasAll.cons (Has.m (Hs rfl) rfl) (HasAll.cons (Has.m (Hs rfl) rfl) HasAll.nil)))) (ao (so (Spec.not (Hs rfl))) AllM.nil)))))))))) ?_
    refine Lt ?_
    refine CWalk.cond rfl (fun hb => ?_) (fun hb => ?_)
    ·have hm := cond_t hb hm
     refine Cs ?_
     refine Cr ?_
     refine wo (Spec.assign Has.bool) ?_
     refine Wn ?_
     refine Lt ?_
     refine CWalk.ret ?_
     refine Leaf.blockR ?_
     refine Leaf.thenR ?_
     exact Leaf.brk hm (fun h => nomatch h) rfl (st Sub.nil)
    ·have hm := cond_f hb hm
     refine CWalk.skip ?_
     refine Leaf.blockN ?_
     refine Lt ?_
     refine Cr ?_
     refine mv ?_
     refine wo (Spec.addI (Hs rfl) Has.int) ?_
     refine wo (Spec.assign (Hs rfl)) ?_
     refine Wn ?_
     exact Leaf.next hm (su (su (st Sub.nil)))
   ·have hm := cond_f hb hm
    refine CWalk.exit ?_
    refine Leaf.thenE ?_
    exact Leaf.brk hm (fun h => nomatch h) rfl (Sub.nil)
  ·intro _
   rcases b6 with b7 | b8
   ·have hm := selim_l hm
    refine Leaf.blockE ?_
    refine Lt ?_
    refine Cs ?_
    refine Cr ?_
    refine wo (Spec.assign Has.bool) ?_
    refine Wn ?_
    refine Lt ?_
    refine CWalk.ret ?_
    obtain rfl := Option.some.inj hm
    exact Leaf.retC1 rfl (HasR.cv (HasR.tmp (Hs rfl)) Cv.fl)
   ·have hm := selim_r hm
    refine Leaf.blockR ?_
    refine Leaf.thenR ?_
    obtain rfl := Option.some.inj hm
    exact Leaf.retC1 rfl (HasR.cv (HasR.tmp (Hs rfl)) Cv.fl)

/-- freeboard/freeboardlaw27.RedoTwice -/
def law27_RedoTwice (a0 : Config) (a1 : Loss) (a2 : List Found) (a3 : List Disk) (a4 : Int) (a5 : List Bool) : Option (Bool) :=
  Option.bind (law27_alive) (fun x1 => Option.bind (ref27_Great a2) (fun x2 => Option.bind (gO (!x2) (ref05_Great a3)) (fun x3 => Option.bind (gO (!((x2 || x3) || (decide (((a5).length : Int) > (2000 : Int))))) (eye_Check a0 a3)) (fun x4 => (bif ((((x2 || x3) || (decide (((a5).length : Int) > (2000 : Int)))) || (x4 != (0 : Int))) || (!x1)) then some x1 else Option.bind (redo_Acts a0 a1 a2) (fun x5 => Option.bind (acts_Waits a3) (fun x6 => (bif (((((x5.2.2 != (0 : Int)) || (x6.2 != (0 : Int))) || (decide (x6.1 > (0 : Int)))) || (decide (a4 < (0 : Int)))) || (decide (a4 > ((x5.1).length : Int)))) then some x1 else Option.bind (acts_Run a3 x5.1 ((x5.1).length : Int)) (fun x7 => (bif (x7.2 != (0 : Int)) then some x1 else Option.bind (acts_Run a3 x5.1 a4) (fun x8 => (bif (x8.2 != (0 : Int)) then some false else Option.bind (acts_Waits x8.1) (fun x9 => (bif ((x9.2 != (0 : Int)) || (decide (x9.1 < (0 : Int)))) then some false else Option.bind (app ([] : List Bool) a5) (fun x10 => Option.bind (appZ false x10 x9.1) (fun x11 => Option.bind (slc x11 0 x9.1) (fun x12 => Option.bind (acts_Crash x8.1 x12) (fun x13 => (bif (x13.2 != (0 : Int)) then some false else Option.bind (acts_Run x13.1 x5.1 ((x5.1).length : Int)) (fun x14 => Option.bind (gO ((x1 && (x14.2 == (0 : Int)))) (law27_flushed x14.1)) (fun x15 => Option.bind (gO ((x1 && (x14.2 == (0 : Int)))) (law27_flushed x7.1)) (fun x16 => Option.bind (gO ((x1 && (x14.2 == (0 : Int)))) (ref05_SameDisks x15 x16)) (fun x17 => some ((x1 && (x14.2 == (0 : Int))) && x17))))))))))))))))))))))))
theorem law27_RedoTwice_c (a0 : Config) (a1 : Loss) (a2 : List Found) (a3 : List Disk) (a4 : Int) (a5 : List Bool) {r : Bool} (hm : law27_RedoTwice a0 a1 a2 a3 a4 a5 = some r) : Ctr Try.prog 6 [.rep 0 a0, .rep 0 a1, .rep 0 a2, .rep 0 a3, .rep 0 a4, .rep 0 a5] (.fl r) [] := by
 refine ctr_of_walk [[]] 150 Try.func6 rfl rfl rfl rfl (fun w0 om => ?_)
 unfold law27_RedoTwice at hm
 refine CWalk.sub (G' := [.fact 0 (.rep [] (a0 : Config)), .fact 1 (.rep [] (a1 : Loss)), .fact 2 (.rep [0] (a2 : List Found)), .fact 3 (.rep [0] (a3 : List Disk)), .fact 4 (.rep [] (a4 : Int)), .fact 5 (.rep [0] (a5 : List Bool))]) (Sub.cons (Has.fl (Hs rfl)) (Sub.cons (Has.fl (Hs rfl)) (sn (sn (Sub.cons (Has.fl (Hs rfl)) (sn Sub.nil)))))) ?_
 refine Cs ?_
 refine Cr ?_
 refine ws (Step.boxObj (ls := [(false, 1, Fact.rep [] a0.Id), (false, 1, Fact.rep [] a0.Members), (false, 1, Fact.rep [] a0.Chunk), (false, 1, Fact.rep [] a0.Rows), (false, 1, Fact.rep [] a0.Log), (false, 1, Fact.rep [] a0.Heads)]) 10 rfl rfl rfl rfl (HasL.flds (Has.cv (Hs rfl) (Cv.trans (Cv.opens (chConfig a0)) (Cv.flds (Vf (Vf (Vf (Vf (Vf (Vf CvL.nil))))))))))) ?_
 refine ws (Step.boxObj (ls := [(false, 1, Fact.rep [] a1.Events), (false, 1, Fact.rep [] a1.Lost), (false, 1, Fact.rep [] a1.Spare), (false, 1, Fact.rep [] a1.Pos), (false, 1, Fact.rep [] a1.Done), (false, 1, Fact.rep [] a1.NoLog), (false, 1, Fact.rep [] a1.Broken)]) 17 rfl rfl rfl rfl (HasL.flds (Has.cv (Hs rfl) (Cv.trans (Cv.opens (chLoss a1)) (Cv.flds (Vf (Vf (Vf (Vf (Vf (Vf (Vf CvL.nil)))))))))))) ?_
 refine wo (Spec.assign Has.bool) ?_
 refine Wn ?_
 refine Lt ?_
 refine Cs ?_
 refine Cr ?_
 obtain ⟨x1, hx1, hm⟩ := bind_some hm
 refine wo (f := Fact.rep [] (x1 : Bool)) (Spec.callE [] 25 rfl en7 (law27_alive_c  hx1) HasAll.nil) ?_
 refine wo (Spec.assign (Hs rfl)) ?_
 refine Wn ?_
 refine Lt ?_
 refine Cs ?_
 refine Cs ?_
 refine Cr ?_
 refine mv ?_
 obtain ⟨x2, hx2, hm⟩ := bind_some hm
 refine wo (f := Fact.rep [] (x2 : Bool)) (Spec.callE [0] 26 rfl en13 (ref27_Great_c a2 hx2) (HasAll.cons (Has.m (Hs rfl) rfl) HasAll.nil)) ?_
 refine mv ?_
 refine wg rfl rfl (fun hb => Spec.move (Hs rfl)) ?_
 obtain ⟨x3, hx3, hm⟩ := bind_some hm
 refine wg (f := Fact.rep [] (x3 : Bool)) rfl rfl (fun hb => Spec.callE [0] 27 rfl en15 (ref05_Great_c a3 (gO_t hx3 (not_t hb))) (HasAll.cons (Has.m (Has.u rfl hb) rfl) HasAll.nil)) ?_
 refine wo (Spec.or (Hs rfl) (fun h => Has.u rfl h)) ?_
 refine mv ?_
 refine wg rfl rfl (fun hb => Spec.move (Hs rfl)) ?_
 refine wg rfl rfl (fun hb => Spec.len (Has.u rfl hb) Try.underlying64) ?_
 refine wg rfl rfl (fun hb => Spec.gtrI (Has.u rfl hb) Has.int) ?_
 refine wo (Spec.or (Hs rfl) (fun h => Has.u rfl h)) ?_
 refine mv ?_
 refine wg rfl rfl (fun hb => Spec.loadObj (ls := [(false, 1, Fact.rep [] a0.Id), (false, 1, Fact.rep [] a0.Members), (false, 1, Fact.rep [] a0.Chunk), (false, 1, Fact.rep [] a0.Rows), (false, 1, Fact.rep [] a0.Log), (false, 1, Fact.rep [] a0.Heads)]) ty30 rfl rfl (Hs rfl) rfl (Gz rfl (Gz rfl (Gz rfl (Gz rfl (Gz rfl (Gz rfl HasGs.nil))))))) ?_
 refine wg rfl rfl (fun hb => Spec.move (Hs rfl)) ?_
 obtain ⟨x4, hx4, hm⟩ := bind_some hm
 refine wg (f := Fact.rep [] (x4 : Int)) rfl rfl (fun hb => Spec.callE [0] 28 rfl en16 (eye_Check_c a0 a3 (gO_t hx4 (not_t hb))) (HasAll.cons (Has.fl (Has.cv (Has.u rfl hb) (Cv.trans (Cv.flds (Vf (Vf (Vf (Vf (Vf (Vf CvL.nil))))))) (Cv.close (T := []) (chConfig a0))))) (HasAll.cons (Has.m (Has.u rfl hb) rfl) HasAll.nil))) ?_
 refine wg rfl rfl (fun hb => Spec.neqI (Has.u rfl hb) Has.int) ?_
 refine wo (Spec.or (Hs rfl) (fun h => Has.u rfl h)) ?_
 refine mv ?_
 refine wg rfl rfl (fun hb => Spec.move (Hs rfl)) ?_
 refine wg rfl rfl (fun hb => Spec.not (Has.u rfl hb)) ?_
 refine wo (Spec.or (Hs rfl) (fun h => Has.u rfl h)) ?_
 refine Wn ?_
 refine Lt ?_
 refine CWalk.cond rfl (fun hb => ?_) (fun hb => ?_)
 ·have hm := cond_t hb hm
  refine Cs ?_
  refine Cr ?_
  refine mv ?_
  refine wo (Spec.assign (Hs rfl)) ?_
  refine Wn ?_
  refine Lt ?_
  refine CWalk.ret ?_
  refine Leaf.thenR ?_
  obtain rfl := Option.some.inj hm
  exact Leaf.retC1 rfl (HasR.cv (HasR.tmp (Hs rfl)) Cv.fl)
 ·have hm := cond_f hb hm
  refine CWalk.skip ?_
  refine Lt ?_
  refine Cs ?_
  refine Cr ?_
  refine wo (Spec.loadObj (ls := [(false, 1, Fact.rep [] a0.Id), (false, 1, Fact.rep [] a0.Members), (false, 1, Fact.rep [] a0.Chunk), (false, 1, Fact.rep [] a0.Rows), (false, 1, Fact.rep [] a0.Log), (false, 1, Fact.rep [] a0.Heads)]) ty30 rfl rfl (Hs rfl) rfl (Gz rfl (Gz rfl (Gz rfl (Gz rfl (Gz rfl (Gz rfl HasGs.nil))))))) ?_
  refine wo (Spec.loadObj (ls := [(false, 1, Fact.rep [] a1.Events), (false, 1, Fact.rep [] a1.Lost), (false, 1, Fact.rep [] a1.Spare), (false, 1, Fact.rep [] a1.Pos), (false, 1, Fact.rep [] a1.Done), (false, 1, Fact.rep [] a1.NoLog), (false, 1, Fact.rep [] a1.Broken)]) ty33 rfl rfl (Hs rfl) rfl (Gz rfl (Gz rfl (Gz rfl (Gz rfl (Gz rfl (Gz rfl (Gz rfl HasGs.nil)))))))) ?_
  refine mv ?_
  obtain ⟨x5, hx5, hm⟩ := bind_some hm
  refine wo (f := Fact.tup3 (Fact.ow [29] [30] 45 (x5.1 : List Act45)) (Fact.ow [31] [32] 39 (x5.2.1 : List Deal)) (Fact.rep [] x5.2.2)) (Spec.callE [0] 29 rfl en8 (redo_Acts_c a0 a1 a2 hx5) (HasAll.cons (Has.fl (Has.cv (Hs rfl) (Cv.trans (Cv.flds (Vf (Vf (Vf (Vf (Vf (Vf CvL.nil))))))) (Cv.close (T := []) (chConfig a0))))) (HasAll.cons (Has.fl (Has.cv (Hs rfl) (Cv.trans (Cv.flds (Vf (Vf (Vf (Vf (Vf (Vf (Vf CvL.nil)))))))) (Cv.close (T := []) (chLoss a1))))) (HasAll.cons (Has.m (Hs rfl) rfl) HasAll.nil)))) ?_
  refine mv ?_
  refine wo (Spec.ext0_3 (Hs rfl)) ?_
  refine wo (Spec.ext1_3 (Hs rfl)) ?_
  refine wo (Spec.ext2_3 (Hs rfl)) ?_
  refine wo (Spec.assign (Hs rfl)) ?_
  refine wo (Spec.assign (Hs rfl)) ?_
  refine wo (Spec.assign (Hs rfl)) ?_
  refine Wn ?_
  refine Lt ?_
  refine Cs ?_
  refine Cr ?_
  refine mv ?_
  obtain ⟨x6, hx6, hm⟩ := bind_some hm
  refine wo (f := Fact.tup2 (Fact.rep [] x6.1) (Fact.rep [] x6.2)) (Spec.callE [0] 33 rfl en22 (acts_Waits_c a3 hx6) (HasAll.cons (Has.m (Hs rfl) rfl) HasAll.nil)) ?_
  refine mv ?_
  refine wo (Spec.ext0 (Hs rfl)) ?_
  refine wo (Spec.ext1 (Hs rfl)) ?_
  refine wo (Spec.assign (Hs rfl)) ?_
  refine wo (Spec.assign (Hs rfl)) ?_
  refine Wn ?_
  refine Lt ?_
  refine Cs ?_
  refine Cs ?_
  refine Cr ?_
  refine mv ?_
  refine wo (Spec.neqI (Hs rfl) Has.int) ?_
  refine mv ?_
  refine wg rfl rfl (fun hb => Spec.move (Hs rfl)) ?_
  refine wg rfl rfl (fun hb => Spec.neqI (Has.u rfl hb) Has.int) ?_
  refine wo (Spec.or (Hs rfl) (fun h => Has.u rfl h)) ?_
  refine mv ?_
  refine wg rfl rfl (fun hb => Spec.move (Hs rfl)) ?_
  refine wg rfl rfl (fun hb => Spec.gtrI (Has.u rfl hb) Has.int) ?_
  refine wo (Spec.or (Hs rfl) (fun h => Has.u rfl h)) ?_
  refine mv ?_
  refine wg rfl rfl (fun hb => Spec.move (Hs rfl)) ?_
  refine wg rfl rfl (fun hb => Spec.lssI (Has.u rfl hb) Has.int) ?_
  refine wo (Spec.or (Hs rfl) (fun h => Has.u rfl h)) ?_
  refine mv ?_
  refine wg rfl rfl (fun hb => Spec.move (Hs rfl)) ?_
  refine wg rfl rfl (fun hb => Spec.move (Hs rfl)) ?_
  refine wg rfl rfl (fun hb => Spec.len (Has.cv (Has.u rfl hb) (Cv.trans Cv.owSl (Cv.slRep (T' := [29, 30]) rfl rfl))) Try.underlying23) ?_
  refine wg rfl rfl (fun hb => Spec.gtrI (Has.u rfl hb) (Has.u rfl hb)) ?_
  refine wo (Spec.or (Hs rfl) (fun h => Has.u rfl h)) ?_
  refine Wn ?_
  refine Lt ?_
  refine CWalk.cond rfl (fun hb => ?_) (fun hb => ?_)
  ·have hm := cond_t hb hm
   refine Cs ?_
   refine Cr ?_
   refine mv ?_
   refine wo (Spec.assign (Hs rfl)) ?_
   refine Wn ?_
   refine Lt ?_
   refine CWalk.ret ?_
   refine Leaf.thenR ?_
   obtain rfl := Option.some.inj hm
   exact Leaf.retC1 rfl (HasR.cv (HasR.tmp (Hs rfl)) Cv.fl)
  ·have hm := cond_f hb hm
   refine CWalk.skip ?_
   refine Lt ?_
   refine Cs ?_
   refine Cr ?_
   refine mv ?_
   refine mv ?_
   refine mv ?_
   refine wo (Spec.len (Has.cv (Hs rfl) (Cv.trans Cv.owSl (Cv.slRep (T' := [29, 30]) rfl rfl))) Try.underlying23) ?_
   obtain ⟨x7, hx7, hm⟩ := bind_some hm
   refine wo (f := Fact.tup2 (Fact.ow [34] [35] 61 (x7.1 : List Disk)) (Fact.rep [] x7.2)) (Spec.callE [0, 29, 30] 34 rfl en18 (acts_Run_c a3 x5.1 ((x5.1).length : Int) hx7) (HasAll.cons (Has.m (Hs rfl) rfl) (HasAll.cons (Has.m (Has.cv (Hs rfl) (Cv.trans Cv.owSl (Cv.slRep (T' := [29, 30]) rfl rfl))) rfl) (HasAll.cons (Has.fl (Hs rfl)) HasAll.nil)))) ?_
   refine mv ?_
   refine wo (Spec.ext0 (Hs rfl)) ?_
   refine wo (Spec.ext1 (Hs rfl)) ?_
   refine wo (Spec.assign (Hs rfl)) ?_
   refine wo (Spec.assign (Hs rfl)) ?_
   refine Wn ?_
   refine Lt ?_
   refine Cs ?_
   refine Cs ?_
   refine Cr ?_
   refine mv ?_
   refine wo (Spec.neqI (Hs rfl) Has.int) ?_
   refine Wn ?_
   refine Lt ?_
   refine CWalk.cond rfl (fun hb => ?_) (fun hb => ?_)
   ·have hm := cond_t hb hm
    refine Cs ?_
    refine Cr ?_
    refine mv ?_
    refine wo (Spec.assign (Hs rfl)) ?_
    refine Wn ?_
    refine Lt ?_
    refine CWalk.ret ?_
    refine Leaf.thenR ?_
    obtain rfl := Option.some.inj hm
    exact Leaf.retC1 rfl (HasR.cv (HasR.tmp (Hs rfl)) Cv.fl)
   ·have hm := cond_f hb hm
    refine CWalk.skip ?_
    refine Lt ?_
    refine Cs ?_
    refine Cr ?_
    refine mv ?_
    refine mv ?_
    refine mv ?_
    obtain ⟨x8, hx8, hm⟩ := bind_some hm
    refine wo (f := Fact.tup2 (Fact.ow [36] [37] 61 (x8.1 : List Disk)) (Fact.rep [] x8.2)) (Spec.callE [0, 29, 30] 36 rfl en18 (acts_Run_c a3 x5.1 a4 hx8) (HasAll.cons (Has.m (Hs rfl) rfl) (HasAll.cons (Has.m (Has.cv (Hs rfl) (Cv.trans Cv.owSl (Cv.slRep (T' := [29, 30]) rfl rfl))) rfl) (HasAll.cons (Has.fl (Hs rfl)) HasAll.nil)))) ?_
    refine mv ?_
    refine wo (Spec.ext0 (Hs rfl)) ?_
    refine wo (Spec.ext1 (Hs rfl)) ?_
    refine wo (Spec.assign (Hs rfl)) ?_
    refine wo (Spec.assign (Hs rfl)) ?_
    refine Wn ?_
    refine Lt ?_
    refine Cs ?_
    refine Cs ?_
    refine Cr ?_
    refine mv ?_
    refine wo (Spec.neqI (Hs rfl) Has.int) ?_
    refine Wn ?_
    refine Lt ?_
    refine CWalk.cond rfl (fun hb => ?_) (fun hb => ?_)
    ·have hm := cond_t hb hm
     refine Cs ?_
     refine Cr ?_
     refine wo (Spec.assign Has.bool) ?_
     refine Wn ?_
     refine Lt ?_
     refine CWalk.ret ?_
     refine Leaf.thenR ?_
     obtain rfl := Option.some.inj hm
     exact Leaf.retC1 rfl (HasR.cv (HasR.tmp (Hs rfl)) Cv.fl)
    ·have hm := cond_f hb hm
     refine CWalk.skip ?_
     refine Lt ?_
     refine Cs ?_
     refine Cr ?_
     refine mv ?_
     obtain ⟨x9, hx9, hm⟩ := bind_some hm
     refine wo (f := Fact.tup2 (Fact.rep [] x9.1) (Fact.rep [] x9.2)) (Spec.callE [36, 37] 38 rfl en22 (acts_Waits_c x8.1 hx9) (HasAll.cons (Has.m (Has.cv (Hs rfl) (Cv.trans Cv.owSl (Cv.slRep (T' := [36, 37]) rfl rfl))) rfl) HasAll.nil)) ?_
     refine mv ?_
     refine wo (Spec.ext0 (Hs rfl)) ?_
     refine wo (Spec.ext1 (Hs rfl)) ?_
     refine wo (Spec.assign (Hs rfl)) ?_
     refine wo (Spec.assign (Hs rfl)) ?_
     refine Wn ?_
     refine Lt ?_
     refine Cs ?_
     refine Cs ?_
     refine Cr ?_
     refine mv ?_
     refine wo (Spec.neqI (Hs rfl) Has.int) ?_
     refine mv ?_
     refine wg rfl rfl (fun hb => Spec.move (Hs rfl)) ?_
     refine wg rfl rfl (fun hb => Spec.lssI (Has.u rfl hb) Has.int) ?_
     refine wo (Spec.or (Hs rfl) (fun h => Has.u rfl h)) ?_
     refine Wn ?_
     refine Lt ?_
     refine CWalk.cond rfl (fun hb => ?_) (fun hb => ?_)
     ·have hm := cond_t hb hm
      refine Cs ?_
      refine Cr ?_
      refine wo (Spec.assign Has.bool) ?_
      refine Wn ?_
      refine Lt ?_
      refine CWalk.ret ?_
      refine Leaf.thenR ?_
      obtain rfl := Option.some.inj hm
      exact Leaf.retC1 rfl (HasR.cv (HasR.tmp (Hs rfl)) Cv.fl)
     ·have hm := cond_f hb hm
      refine CWalk.skip ?_
      refine Lt ?_
      refine Cs ?_
      refine Cr ?_
      refine mv ?_
      refine mv ?_
      obtain ⟨x10, hx10, hm⟩ := bind_some hm
      refine wo (Spec.appNilO (te' := []) 39 hx10 rfl ow64 Has.nilv (Hs rfl) ElKeep.flat) ?_
      refine mv ?_
      obtain ⟨x11, hx11, hm⟩ := bind_some hm
      refine ws (Step.appZOw (T := [39]) (te' := []) hx11 rfl rfl rfl ow64 zt4 Try.underlying3 (Hs rfl) (Hs rfl) ElKeeps.flat) ?_
      refine mv ?_
      obtain ⟨x12, hx12, hm⟩ := bind_some hm
      refine wo (Spec.slcHiOw hx12 ow64 (Hs rfl) (Hs rfl)) ?_
      obtain ⟨x13, hx13, hm⟩ := bind_some hm
      refine wo (f := Fact.tup2 (Fact.ow [40] [41] 61 (x13.1 : List Disk)) (Fact.rep [] x13.2)) (Spec.callE [36, 37, 39] 40 rfl en23 (acts_Crash_c x8.1 x12 hx13) (HasAll.cons (Has.m (Has.cv (Hs rfl) (Cv.trans Cv.owSl (Cv.slRep (T' := [36, 37]) rfl rfl))) rfl) (HasAll.cons (Has.m (Has.cv (Hs rfl) (Cv.trans Cv.owSl (Cv.slRep (T' := [39]) rfl rfl))) rfl) HasAll.nil))) ?_
      refine mv ?_
      refine wo (Spec.ext0 (Hs rfl)) ?_
      refine wo (Spec.ext1 (Hs rfl)) ?_
      refine wo (Spec.assign (Hs rfl)) ?_
      refine wo (Spec.assign (Hs rfl)) ?_
      refine Wn ?_
      refine Lt ?_
      refine Cs ?_
      refine Cs ?_
      refine Cr ?_
      refine mv ?_
      refine wo (Spec.neqI (Hs rfl) Has.int) ?_
      refine Wn ?_
      refine Lt ?_
      refine CWalk.cond rfl (fun hb => ?_) (fun hb => ?_)
      ·have hm := cond_t hb hm
       refine Cs ?_
       refine Cr ?_
       refine wo (Spec.assign Has.bool) ?_
       refine Wn ?_
       refine Lt ?_
       refine CWalk.ret ?_
       refine Leaf.thenR ?_
       obtain rfl := Option.some.inj hm
       exact Leaf.retC1 rfl (HasR.cv (HasR.tmp (Hs rfl)) Cv.fl)
      ·have hm := cond_f hb hm
       refine CWalk.skip ?_
       refine Lt ?_
       refine Cs ?_
       refine Cr ?_
       refine mv ?_
       refine mv ?_
       refine mv ?_
       refine wo (Spec.len (Has.cv (Hs rfl) (Cv.trans Cv.owSl (Cv.slRep (T' := [29, 30]) rfl rfl))) Try.underlying23) ?_
       obtain ⟨x14, hx14, hm⟩ := bind_some hm
       refine wo (f := Fact.tup2 (Fact.ow [42] [43] 61 (x14.1 : List Disk)) (Fact.rep [] x14.2)) (Spec.callE [29, 30, 40, 41] 42 rfl en18 (acts_Run_c x13.1 x5.1 ((x5.1).length : Int) hx14) (HasAll.cons (Has.m (Has.cv (Hs rfl) (Cv.trans Cv.owSl (Cv.slRep (T' := [40, 41]) rfl rfl))) rfl) (HasAll.cons (Has.m (Has.cv (Hs rfl) (Cv.trans Cv.owSl (Cv.slRep (T' := [29, 30]) rfl rfl))) rfl) (HasAll.cons (Has.fl (Hs rfl)) HasAll.nil)))) ?_
       refine mv ?_
       refine wo (Spec.ext0 (Hs rfl)) ?_
       refine wo (Spec.ext1 (Hs rfl)) ?_
       refine wo (Spec.assign (Hs rfl)) ?_
       refine wo (Spec.assign (Hs rfl)) ?_
       refine Wn ?_
       refine Lt ?_
       refine Cs ?_
       refine Cr ?_
       refine mv ?_
       refine mv ?_
       refine wg rfl rfl (fun hb => Spec.move (Hs rfl)) ?_
       refine wg rfl rfl (fun hb => Spec.eqlI (Has.u rfl hb) Has.int) ?_
       refine wo (Spec.and (Hs rfl) (fun h => Has.u rfl h)) ?_
       refine mv ?_
       refine wg rfl rfl (fun hb => Spec.move (Hs rfl)) ?_
       obtain ⟨x15, hx15, hm⟩ := bind_some hm
       refine wg (f := Fact.ow [44] [45, 42, 43] 61 (x15 : List Disk)) rfl rfl (fun hb => Spec.callE [42, 43] 44 rfl en25 (law27_flushed_c x14.1 (gO_t hx15 hb)) (HasAll.cons (Has.m (Has.cv (Has.u rfl hb) (Cv.trans Cv.owSl (Cv.slRep (T' := [42, 43]) rfl rfl))) rfl) HasAll.nil)) ?_
       refine wg rfl rfl (fun hb => Spec.move (Hs rfl)) ?_
       obtain ⟨x16, hx16, hm⟩ := bind_some hm
       refine wg (f := Fact.ow [46] [47, 34, 35] 61 (x16 : List Disk)) rfl rfl (fun hb => Spec.callE [34, 35] 46 rfl en25 (law27_flushed_c x7.1 (gO_t hx16 hb)) (HasAll.cons (Has.m (Has.cv (Has.u rfl hb) (Cv.trans Cv.owSl (Cv.slRep (T' := [34, 35]) rfl rfl))) rfl) HasAll.nil)) ?_
       obtain ⟨x17, hx17, hm⟩ := bind_some hm
       refine wg (f := Fact.rep [] (x17 : Bool)) rfl rfl (fun hb => Spec.callE [34, 35, 42, 43, 44, 45, 46, 47] 48 rfl en24 (ref05_SameDisks_c x15 x16 (gO_t hx17 hb)) (HasAll.cons (Has.m (Has.cv (Has.u rfl hb) (Cv.trans Cv.owSl (Cv.slRep (T' := [42, 43, 44, 45]) rfl rfl))) rfl) (HasAll.cons (Has.m (Has.cv (Has.u rfl hb) (Cv.trans Cv.owSl (Cv.slRep (T' := [34, 35, 46, 47]) rfl rfl))) rfl) HasAll.nil))) ?_
       refine wo (Spec.and (Hs rfl) (fun h => Has.u rfl h)) ?_
       refine wo (Spec.assign (Hs rfl)) ?_
       refine Wn ?_
       refine Lt ?_
       refine CWalk.ret ?_
       obtain rfl := Option.some.inj hm
       exact Leaf.retC1 rfl (HasR.cv (HasR.tmp (Hs rfl)) Cv.fl)

end Go.Proofs.Ytmlmlfghogoadaa
