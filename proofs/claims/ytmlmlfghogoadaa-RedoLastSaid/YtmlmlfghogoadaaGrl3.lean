/- Printed by a program of ours: models of functions, and that calls do what they say. -/
import Derived.Test.YtmlmlfghogoadaaGrl2
set_option linter.unusedVariables false
set_option linter.unusedSimpArgs false
set_option linter.unnecessarySimpa false
namespace Go.Proofs.Ytmlmlfghogoadaa
open Go GL
set_option linter.unusedVariables false

/-- freeboard/acts.devices$1 -/
def acts_devices_1 (a0 : Disk) : Option (Bool) :=
  Option.bind (disk_Check a0) (fun x1 => some (x1 != (0 : Int)))
set_option maxRecDepth 100000 in
set_option maxHeartbeats 2000000 in
theorem acts_devices_1_c (a0 : Disk) {r : Bool} (hm : acts_devices_1 a0 = some r) : Ctr Try.prog 79 [.rep 0 a0] (.fl r) [] := by
 refine ctr_of_walk [[]] 6 Try.func79 rfl rfl rfl rfl (fun w0 om => ?_)
 unfold acts_devices_1 at hm
 refine CWalk.sub (G' := [.fact 0 (.rep [0] (a0 : Disk))]) (sn Sub.nil) ?_
 refine CWalk.seq ?_
 refine CWalk.region ?_
 refine ws (Step.boxObj (ls := [(false, 1, Fact.rep [0] a0.Blocks), (false, 1, Fact.rep [0] a0.Wait), (false, 1, Fact.rep [] a0.Dead)]) 10 rfl rfl rfl rfl (HasL.flds (Has.cv (Has.s rfl) (Cv.trans (Cv.opens (chDisk a0)) (Cv.flds (CvL.cons Cv.refl (CvL.cons Cv.refl (CvL.cons Cv.fl CvL.nil)))))))) ?_
 refine wo (Spec.assign Has.bool) ?_
 refine Walk.nil ?_
 refine Leaf.thenN ?_
 refine CWalk.seq ?_
 refine CWalk.region ?_
 refine wo (Spec.loadObj (ls := [(false, 1, Fact.rep [0] a0.Blocks), (false, 1, Fact.rep [0] a0.Wait), (false, 1, Fact.rep [] a0.Dead)]) ty61 rfl rfl (Has.s rfl) rfl (HasGs.cons (HasG.s rfl) (HasGs.cons (HasG.s rfl) (HasGs.cons (HasG.s rfl) HasGs.nil)))) ?_
 obtain ⟨x1, hx1, hm⟩ := bind_some hm
 refine wo (f := Fact.rep [] (x1 : Int)) (Spec.callE [0] 14 rfl en39 (disk_Check_c a0 hx1) (HasAll.cons (Has.m (Has.cv (Has.s rfl) (Cv.trans (Cv.flds (CvL.cons (Cv.m rfl) (CvL.cons (Cv.m rfl) (CvL.cons Cv.fl CvL.nil)))) (Cv.close (T := [0]) (chDisk a0)))) rfl) HasAll.nil)) ?_
 refine wo (Spec.neqI (Has.s rfl) Has.int) ?_
 refine wo (Spec.assign (Has.s rfl)) ?_
 refine Walk.nil ?_
 refine Leaf.thenN ?_
 refine CWalk.ret ?_
 obtain rfl := Option.some.inj hm
 exact Leaf.retC1 rfl (HasR.cv (HasR.tmp (Has.s rfl)) Cv.fl)

/-- freeboard/acts.devices -/
def acts_devices (a0 : List Disk) : Option (Int) :=
  Option.bind (gO (!((decide (((a0).length : Int) < (1 : Int))) || (decide (((a0).length : Int) > (17 : Int))))) (slices_ContainsFunc_api_Disk_api_Disk a0 (fun y => acts_devices_1 y))) (fun x1 => (bif (((decide (((a0).length : Int) < (1 : Int))) || (decide (((a0).length : Int) > (17 : Int)))) || x1) then some (8 : Int) else some (0 : Int)))
set_option maxRecDepth 100000 in
set_option maxHeartbeats 2000000 in
theorem acts_devices_c (a0 : List Disk) {r : Int} (hm : acts_devices a0 = some r) : Ctr Try.prog 49 [.rep 0 a0] (.fl r) [] := by
 refine ctr_of_walk [[]] 17 Try.func49 rfl rfl rfl rfl (fun w0 om => ?_)
 unfold acts_devices at hm
 refine CWalk.sub (G' := [.fact 0 (.rep [0] (a0 : List Disk))]) (sn Sub.nil) ?_
 refine CWalk.seq ?_
 refine CWalk.region ?_
 refine wo (Spec.assign Has.int) ?_
 refine Walk.nil ?_
 refine Leaf.thenN ?_
 refine CWalk.seq ?_
 refine CWalk.region ?_
 refine wo (Spec.assign Has.func) ?_
 refine Walk.nil ?_
 refine Leaf.thenN ?_
 refine CWalk.seq ?_
 refine CWalk.seq ?_
 refine CWalk.region ?_
 refine mv ?_
 refine wo (Spec.len (Has.s rfl) Try.underlying49) ?_
 refine wo (Spec.lssI (Has.s rfl) Has.int) ?_
 refine mv ?_
 refine wg rfl rfl (fun hb => Spec.move (Has.s rfl)) ?_
 refine wg rfl rfl (fun hb => Spec.len (Has.u rfl hb) Try.underlying49) ?_
 refine wg rfl rfl (fun hb => Spec.gtrI (Has.u rfl hb) Has.int) ?_
 refine wo (Spec.or (Has.s rfl) (fun h => Has.u rfl h)) ?_
 refine mv ?_
 refine wg rfl rfl (fun hb => Spec.move (Has.s rfl)) ?_
 refine wg rfl rfl (fun hb => Spec.move (Has.s rfl)) ?_
 obtain ⟨x1, hx1, hm⟩ := bind_some hm
 refine wg (f := Fact.rep [] (x1 : Bool)) rfl rfl (fun hb => Spec.callE [0] 10 rfl en80 (slices_ContainsFunc_api_Disk_api_Disk_c a0 (fun y => acts_devices_1 y) (gO_t hx1 (not_t hb))) (HasAll.cons (Has.m (Has.u rfl hb) rfl) (HasAll.cons (Has.cv (Has.u rfl hb) (Cv.fn (pu := []) (pc := []) (shc := []) en79 CvF.nil CvF.nil (fun y r h => acts_devices_1_c y h))) HasAll.nil))) ?_
 refine wo (Spec.or (Has.s rfl) (fun h => Has.u rfl h)) ?_
 refine Walk.nil ?_
 refine Leaf.thenN ?_
 refine CWalk.cond rfl (fun hb => ?_) (fun hb => ?_)
 ·have hm := cond_t hb hm
  refine CWalk.seq ?_
  refine CWalk.region ?_
  refine wo (Spec.assign Has.int) ?_
  refine Walk.nil ?_
  refine Leaf.thenN ?_
  refine CWalk.ret ?_
  refine Leaf.thenR ?_
  obtain rfl := Option.some.inj hm
  exact Leaf.retC1 rfl (HasR.cv (HasR.tmp (Has.s rfl)) Cv.fl)
 ·have hm := cond_f hb hm
  refine CWalk.skip ?_
  refine Leaf.thenN ?_
  refine CWalk.seq ?_
  refine CWalk.region ?_
  refine wo (Spec.assign Has.int) ?_
  refine Walk.nil ?_
  refine Leaf.thenN ?_
  refine CWalk.ret ?_
  obtain rfl := Option.some.inj hm
  exact Leaf.retC1 rfl (HasR.cv (HasR.tmp (Has.s rfl)) Cv.fl)

/-- freeboard/acts.does -/
def acts_does (a0 : UInt8) : Option ((FnI [73, 74, 75])) :=
  (bif (decide ((wI (a0.toNat : Int)) ≥ (4 : Int))) then some (⟨0⟩ : FnI [73, 74, 75]) else Option.bind (bnd 4 (a0.toNat : Int)) (fun x1 => Option.bind ((([(⟨0⟩ : FnI [73, 74, 75]), (⟨1⟩ : FnI [73, 74, 75]), (⟨2⟩ : FnI [73, 74, 75]), (⟨3⟩ : FnI [73, 74, 75])] : List (FnI [73, 74, 75])))[x1]?) (fun x2 => some x2)))
set_option maxRecDepth 100000 in
set_option maxHeartbeats 2000000 in
theorem acts_does_c (a0 : UInt8) {r : (FnI [73, 74, 75])} (hm : acts_does a0 = some r) : Ctr Try.prog 44 [.rep 0 a0] (.fl r) [] := by
 refine ctr_of_walk [[]] 11 Try.func44 rfl rfl rfl rfl (fun w0 om => ?_)
 unfold acts_does at hm
 refine CWalk.sub (G' := [.fact 0 (.rep [] (a0 : UInt8))]) (Sub.cons (Has.fl (Has.s rfl)) Sub.nil) ?_
 refine CWalk.seq ?_
 refine CWalk.region ?_
 refine wo (Spec.assign (Has.fniNil (ks := [73, 74, 75]))) ?_
 refine Walk.nil ?_
 refine Leaf.thenN ?_
 refine CWalk.seq ?_
 refine CWalk.region ?_
 refine wo (Spec.buildA (us := [(1, .func 73), (2, .func 74), (3, .func 75)]) (ls' := [(false, 1, Fact.rep [] ((⟨0⟩ : FnI [73, 74, 75]) : FnI [73, 74, 75])), (false, 1, Fact.rep [] ((⟨1⟩ : FnI [73, 74, 75]) : FnI [73, 74, 75])), (false, 1, Fact.rep [] ((⟨2⟩ : FnI [73, 74, 75]) : FnI [73, 74, 75])), (false, 1, Fact.rep [] ((⟨3⟩ : FnI [73, 74, 75]) : FnI [73, 74, 75]))]) bd125 rfl (BP.cons rfl rfl (Has.cv Has.func (Cv.fni (ks := [73, 74, 75]) (n := 1) rfl)) (Has.cv Has.func (Cv.fni (ks := [73, 74, 75]) (n := 1) rfl)) (BP.cons rfl rfl (Has.cv Has.func (Cv.fni (ks := [73, 74, 75]) (n := 2) rfl)) (Has.cv Has.func (Cv.fni (ks := [73, 74, 75]) (n := 2) rfl)) (BP.cons rfl rfl (Has.cv Has.func (Cv.fni (ks := [73, 74, 75]) (n := 3) rfl)) (Has.cv Has.func (Cv.fni (ks := [73, 74, 75]) (n := 3) rfl)) BP.nil)))) ?_
 refine ws (Step.allocObj (ls := [(false, 1, Fact.rep [] ((⟨0⟩ : FnI [73, 74, 75]) : FnI [73, 74, 75])), (false, 1, Fact.rep [] ((⟨0⟩ : FnI [73, 74, 75]) : FnI [73, 74, 75])), (false, 1, Fact.rep [] ((⟨0⟩ : FnI [73, 74, 75]) : FnI [73, 74, 75])), (false, 1, Fact.rep [] ((⟨0⟩ : FnI [73, 74, 75]) : FnI [73, 74, 75]))]) 10 rfl rfl rfl rfl zl125) ?_
 refine ws (Step.storeObj (ls := [(false, 1, Fact.rep [] ((⟨0⟩ : FnI [73, 74, 75]) : FnI [73, 74, 75])), (false, 1, Fact.rep [] ((⟨1⟩ : FnI [73, 74, 75]) : FnI [73, 74, 75])), (false, 1, Fact.rep [] ((⟨2⟩ : FnI [73, 74, 75]) : FnI [73, 74, 75])), (false, 1, Fact.rep [] ((⟨3⟩ : FnI [73, 74, 75]) : FnI [73, 74, 75]))]) rfl ty125 rfl rfl (Has.s rfl) rfl (HasL.flds (Has.s rfl)) rfl) ?_
 refine Walk.nil ?_
 refine Leaf.thenN ?_
 refine CWalk.seq ?_
 refine CWalk.seq ?_
 refine CWalk.region ?_
 refine mv ?_
 refine wo (Spec.conv (α := UInt8) (β := Int) Try.underlying5 Try.underlying3 (Has.s rfl)) ?_
 refine wo (Spec.geqI (Has.s rfl) Has.int) ?_
 refine Walk.nil ?_
 refine Leaf.thenN ?_
 refine CWalk.cond rfl (fun hb => ?_) (fun hb => ?_)
 ·have hm := cond_t hb hm
  refine CWalk.seq ?_
  refine CWalk.region ?_
  refine wo (Spec.assign (Has.fniNil (ks := [73, 74, 75]))) ?_
  refine Walk.nil ?_
  refine Leaf.thenN ?_
  refine CWalk.ret ?_
  refine Leaf.thenR ?_
  obtain rfl := Option.some.inj hm
  exact Leaf.retC1 rfl (HasR.cv (HasR.tmp (Has.s rfl)) Cv.fl)
 ·have hm := cond_f hb hm
  refine CWalk.skip ?_
  refine Leaf.thenN ?_
  refine CWalk.seq ?_
  refine CWalk.region ?_
  refine mv ?_
  obtain ⟨x1, hx1, hm⟩ := bind_some hm
  refine wo (Spec.idxVar8 hx1 sm125 (Has.cv (Has.s rfl) (Cv.isvP rfl)) (Has.s rfl)) ?_
  obtain ⟨x2, hx2, hm⟩ := bind_some hm
  refine wo (Spec.loadV (T := []) (l := ([(⟨0⟩ : FnI [73, 74, 75]), (⟨1⟩ : FnI [73, 74, 75]), (⟨2⟩ : FnI [73, 74, 75]), (⟨3⟩ : FnI [73, 74, 75])] : List (FnI [73, 74, 75]))) hx2 ty96 rfl rfl (Has.s rfl) rfl (HasVs.cons (HasG.s rfl) (HasVs.cons (HasG.s rfl) (HasVs.cons (HasG.s rfl) (HasVs.cons (HasG.s rfl) HasVs.nil))))) ?_
  refine wo (Spec.assign (Has.s rfl)) ?_
  refine Walk.nil ?_
  refine Leaf.thenN ?_
  refine CWalk.ret ?_
  obtain rfl := Option.some.inj hm
  exact Leaf.retC1 rfl (HasR.cv (HasR.tmp (Has.s rfl)) Cv.fl)

/-- (freeboard/acts.act).may -/
def acts_act_may (a0 : Act45) (a1 : List Disk) : Option (Bool) :=
  Option.bind (gO (!((decide (a0.Disk < (0 : Int))) || (decide (a0.Disk ≥ ((a1).length : Int))))) (acts_does a0.Kind)) (fun x1 => (bif (((decide (a0.Disk < (0 : Int))) || (decide (a0.Disk ≥ ((a1).length : Int)))) || (fnAt [73, 74, 75] x1.i).isNone) then some false else (bif (a0.Kind == (3 : UInt8)) then some ((a0.At == (0 : Int)) && (((a0.Data).length : Int) == (0 : Int))) else Option.bind (gO ((decide (a0.At ≥ (0 : Int)))) (idx a1 a0.Disk)) (fun x2 => some (((decide (a0.At ≥ (0 : Int))) && (decide (a0.At < ((x2.Blocks).length : Int)))) && ((((a0.Data).length : Int) == (0 : Int)) || (((a0.Data).length : Int) == (128 : Int))))))))
set_option maxRecDepth 100000 in
set_option maxHeartbeats 2000000 in
theorem acts_act_may_c (a0 : Act45) (a1 : List Disk) {r : Bool} (hm : acts_act_may a0 a1 = some r) : Ctr Try.prog 72 [.rep 0 a0, .rep 0 a1] (.fl r) [] := by
 refine ctr_of_walk [[]] 60 Try.func72 rfl rfl rfl rfl (fun w0 om => ?_)
 unfold acts_act_may at hm
 refine CWalk.sub (G' := [.fact 0 (.rep [0] (a0 : Act45)), .fact 1 (.rep [0] (a1 : List Disk))]) (sn (sn Sub.nil)) ?_
 refine CWalk.seq ?_
 refine CWalk.region ?_
 refine ws (Step.boxObj (ls := [(false, 1, Fact.rep [] a0.Disk), (false, 1, Fact.rep [] a0.Kind), (false, 1, Fact.rep [] a0.At), (false, 1, Fact.rep [0] a0.Data)]) 10 rfl rfl rfl rfl (HasL.flds (Has.cv (Has.s rfl) (Cv.trans (Cv.opens (chAct45 a0)) (Cv.flds (CvL.cons Cv.fl (CvL.cons Cv.fl (CvL.cons Cv.fl (CvL.cons Cv.refl CvL.nil))))))))) ?_
 refine wo (Spec.assign Has.bool) ?_
 refine Walk.nil ?_
 refine Leaf.thenN ?_
 refine CWalk.seq ?_
 refine CWalk.seq ?_
 refine CWalk.region ?_
 refine wo (Spec.fieldAddrO fd98_0 (Has.cv (Has.s rfl) (Cv.isvP rfl))) ?_
 refine wo (Spec.loadF (i := 0) ty3 rfl (Has.s rfl) rfl (HasG.s rfl)) ?_
 refine wo (Spec.lssI (Has.s rfl) Has.int) ?_
 refine mv ?_
 refine wg rfl rfl (fun hb => Spec.fieldAddrO fd98_0 (Has.cv (Has.s rfl) (Cv.isvP rfl))) ?_
 refine wg rfl rfl (fun hb => Spec.loadF (i := 0) ty3 rfl (Has.u rfl hb) rfl (HasG.s rfl)) ?_
 refine wg rfl rfl (fun hb => Spec.move (Has.s rfl)) ?_
 refine wg rfl rfl (fun hb => Spec.len (Has.u rfl hb) Try.underlying49) ?_
 refine wg rfl rfl (fun hb => Spec.geqI (Has.u rfl hb) (Has.u rfl hb)) ?_
 refine wo (Spec.or (Has.s rfl) (fun h => Has.u rfl h)) ?_
 refine mv ?_
 refine wg rfl rfl (fun hb => Spec.fieldAddrO fd98_1 (Has.cv (Has.s rfl) (Cv.isvP rfl))) ?_
 refine wg rfl rfl (fun hb => Spec.loadF (i := 1) ty5 rfl (Has.u rfl hb) rfl (HasG.s rfl)) ?_
 obtain ⟨x1, hx1, hm⟩ := bind_some hm
 refine wg (f := Fact.rep [] (x1 : FnI [73, 74, 75])) rfl rfl (fun hb => Spec.callE [] 15 rfl en44 (acts_does_c a0.Kind (gO_t hx1 (not_t hb))) (HasAll.cons (Has.fl (Has.u rfl hb)) HasAll.nil)) ?_
 refine wg rfl rfl (fun hb => Spec.eqlFni Try.underlying96 (Has.u rfl hb)) ?_
 refine wo (Spec.or (Has.s rfl) (fun h => Has.u rfl h)) ?_
 refine Walk.nil ?_
 refine Leaf.thenN ?_
 refine CWalk.cond rfl (fun hb => ?_) (fun hb => ?_)
 ·have hm := cond_t hb hm
  refine CWalk.seq ?_
  refine CWalk.region ?_
  refine wo (Spec.assign Has.bool) ?_
  refine Walk.nil ?_
  refine Leaf.thenN ?_
  refine CWalk.ret ?_
  refine Leaf.thenR ?_
  obtain rfl := Option.some.inj hm
  exact Leaf.retC1 rfl (HasR.cv (HasR.tmp (Has.s rfl)) Cv.fl)
 ·have hm := cond_f hb hm
  refine CWalk.skip ?_
  refine Leaf.thenN ?_
  refine CWalk.seq ?_
  refine CWalk.seq ?_
  refine CWalk.region ?_
  refine wo (Spec.fieldAddrO fd98_1 (Has.cv (Has.s rfl) (Cv.isvP rfl))) ?_
  refine wo (Spec.loadF (i := 1) ty5 rfl (Has.s rfl) rfl (HasG.s rfl)) ?_
  refine wo (Spec.eqlB (Has.s rfl) (Has.u8 3 rfl)) ?_
  refine Walk.nil ?_
  refine Leaf.thenN ?_
  refine CWalk.cond rfl (fun hb => ?_) (fun hb => ?_)
  ·have hm := cond_t hb hm
   refine CWalk.seq ?_
   refine CWalk.region ?_
   refine wo (Spec.fieldAddrO fd98_2 (Has.cv (Has.s rfl) (Cv.isvP rfl))) ?_
   refine wo (Spec.loadF (i := 2) ty3 rfl (Has.s rfl) rfl (HasG.s rfl)) ?_
   refine wo (Spec.eqlI (Has.s rfl) Has.int) ?_
   refine mv ?_
   refine wg rfl rfl (fun hb => Spec.fieldAddrO fd98_3 (Has.cv (Has.s rfl) (Cv.isvP rfl))) ?_
   refine wg rfl rfl (fun hb => Spec.loadF (i := 3) ty37 rfl (Has.u rfl hb) rfl (HasG.s rfl)) ?_
   refine wg rfl rfl (fun hb => Spec.len (Has.u rfl hb) Try.underlying37) ?_
   refine wg rfl rfl (fun hb => Spec.eqlI (Has.u rfl hb) Has.int) ?_
   refine wo (Spec.and (Has.s rfl) (fun h => Has.u rfl h)) ?_
   refine wo (Spec.assign (Has.s rfl)) ?_
   refine Walk.nil ?_
   refine Leaf.thenN ?_
   refine CWalk.ret ?_
   refine Leaf.thenR ?_
   obtain rfl := Option.some.inj hm
   exact Leaf.retC1 rfl (HasR.cv (HasR.tmp (Has.s rfl)) Cv.fl)
  ·have hm := cond_f hb hm
   refine CWalk.skip ?_
   refine Leaf.thenN ?_
   refine CWalk.seq ?_
   obtain ⟨x2, hx2, hm⟩ := bind_some hm
   refine CWalk.drawM [[], [0], [0, 1], [0, 1, 2], [0, 1, 2, 3], [0, 1, 2, 3, 4], [0, 1, 2, 3], [0, 1, 2, 3], [0, 1, 2, 3, 7], [0, 1, 2, 3, 6, 7, 8], [0, 1, 2, 3, 6, 7, 8, 9], [0, 1, 2, 3, 6, 7, 8, 9, 10], [0, 1, 2, 3, 6, 7, 8, 9, 10, 11], [0, 1, 2, 3, 4, 5, 6, 7, 8, 9, 10, 11, 12], [0, 1, 2, 3, 4, 5, 6, 7, 8, 9, 10, 11, 12, 13], [0, 1, 2, 3, 4, 5, 6, 7, 8, 9, 10, 11, 12, 13, 14], [0, 1, 2, 3, 4, 5, 6, 7, 8, 9, 10, 11, 12, 13, 14, 15], [0, 1, 2, 3, 4, 5, 6, 7, 8, 9, 10, 11, 12, 13, 14, 15, 16], [0, 1, 2, 3, 4, 5, 6, 7, 8, 9, 10, 11, 12, 13, 14, 15, 16, 17], [0, 1, 2, 3, 4, 5, 6, 7, 8, 9, 10, 11, 12, 13, 14, 15, 16, 17, 18], [0, 1, 2, 3, 4, 5, 6, 7, 8, 9, 10, 11, 12, 13, 14, 15, 16, 17, 18, 19], [0, 1, 2, 3, 4, 5, 6, 7, 8, 9, 10, 11, 12, 13, 14, 15, 16, 17, 18, 19, 20], [0, 1, 2, 3, 4, 5, 6, 7, 8, 9, 10, 11, 12, 13, 14, 15, 16, 17, 18, 19, 20, 21], [0, 1, 2, 3, 4, 5, 6, 7, 8, 9, 10, 11, 12, 13, 14, 15, 16, 17, 18, 19, 20, 21, 22], [0, 1, 2, 3, 4, 5, 6, 7, 8, 9, 10, 11, 12, 13, 14, 15, 16, 17, 18, 19, 20, 21, 22, 23], [0, 1, 2, 3, 4, 5, 6, 7, 8, 9, 10, 11, 12, 13, 14, 15, 16, 17, 18, 19, 20, 21, 22, 23, 24], [0, 1, 2, 3, 4, 5, 6, 7, 8, 9, 10, 11, 12, 13, 14, 15, 16, 17, 18, 19, 20, 21, 22, 23, 24, 25], [0, 1, 2, 3, 4, 5, 6, 7, 8, 9, 10, 11, 12, 13, 14, 15, 16, 17, 18, 19, 20, 21, 22, 23, 24, 25, 26]] [[.fact 33 (.pto 10 2)], [.fact 34 (.rep [] a0.At)], [.fact 35 (.rep [] ((decide (a0.At ≥ (0 : Int))) : Bool))], [.fact 36 (.rep [] ((decide (a0.At ≥ (0 : Int))) : Bool))], [.fact 37 (.under ((decide (a0.At ≥ (0 : Int))) = true) (.pto 10 2))], [.fact 38 (.under ((decide (a0.At ≥ (0 : Int))) = true) (.rep [] a0.At))], [.fact 39 (.under ((decide (a0.At ≥ (0 : Int))) = true) (.rep [0] (a1 : List Disk)))], [.fact 40 (.under ((decide (a0.At ≥ (0 : Int))) = true) (.pto 10 0))], [.fact 41 (.under ((decide (a0.At ≥ (0 : Int))) = true) (.rep [] a0.Disk))], [.fact 42 (.under ((decide (a0.At ≥ (0 : Int))) = true) (.ptr [0] (x2 : Disk)))], [.fact 43 (.under ((decide (a0.At ≥ (0 : Int))) = true) (.ptr [0] (x2.Blocks : List (List UInt8))))], [.fact 44 (.under ((decide (a0.At ≥ (0 : Int))) = true) (.rep [0] x2.Blocks))], [.fact 45 (.under ((decide (a0.At ≥ (0 : Int))) = true) (.rep [] (((x2.Blocks).length : Int) : Int)))], [.fact 46 (.under ((decide (a0.At ≥ (0 : Int))) = true) (.rep [] ((decide (a0.At < ((x2.Blocks).length : Int))) : Bool)))], [.fact 47 (.rep [] (((decide (a0.At ≥ (0 : Int))) && (decide (a0.At < ((x2.Blocks).length : Int)))) : Bool))], [.fact 48 (.rep [] (((decide (a0.At ≥ (0 : Int))) && (decide (a0.At < ((x2.Blocks).length : Int)))) : Bool))], [.fact 49 (.under (((decide (a0.At ≥ (0 : Int))) && (decide (a0.At < ((x2.Blocks).length : Int)))) = true) (.pto 10 3))], [.fact 50 (.under (((decide (a0.At ≥ (0 : Int))) && (decide (a0.At < ((x2.Blocks).length : Int)))) = true) (.rep [0] a0.Data))], [.fact 51 (.under (((decide (a0.At ≥ (0 : Int))) && (decide (a0.At < ((x2.Blocks).length : Int)))) = true) (.rep [] (((a0.Data).length : Int) : Int)))], [.fact 52 (.under (((decide (a0.At ≥ (0 : Int))) && (decide (a0.At < ((x2.Blocks).length : Int)))) = true) (.rep [] ((((a0.Data).length : Int) == (0 : Int)) : Bool)))], [.fact 53 (.under (((decide (a0.At ≥ (0 : Int))) && (decide (a0.At < ((x2.Blocks).length : Int)))) = true) (.rep [] ((((a0.Data).length : Int) == (0 : Int)) : Bool)))], [.fact 54 (.under ((((decide (a0.At ≥ (0 : Int))) && (decide (a0.At < ((x2.Blocks).length : Int)))) = true) ∧ ((((a0.Data).length : Int) == (0 : Int)) = false)) (.pto 10 3))], [.fact 55 (.under ((((decide (a0.At ≥ (0 : Int))) && (decide (a0.At < ((x2.Blocks).length : Int)))) = true) ∧ ((((a0.Data).length : Int) == (0 : Int)) = false)) (.rep [0] a0.Data))], [.fact 56 (.under ((((decide (a0.At ≥ (0 : Int))) && (decide (a0.At < ((x2.Blocks).length : Int)))) = true) ∧ ((((a0.Data).length : Int) == (0 : Int)) = false)) (.rep [] (((a0.Data).length : Int) : Int)))], [.fact 57 (.under ((((decide (a0.At ≥ (0 : Int))) && (decide (a0.At < ((x2.Blocks).length : Int)))) = true) ∧ ((((a0.Data).length : Int) == (0 : Int)) = false)) (.rep [] ((((a0.Data).length : Int) == (128 : Int)) : Bool)))], [.fact 58 (.under (((decide (a0.At ≥ (0 : Int))) && (decide (a0.At < ((x2.Blocks).length : Int)))) = true) (.rep [] (((((a0.Data).length : Int) == (0 : Int)) || (((a0.Data).length : Int) == (128 : Int))) : Bool)))], [.fact 59 (.rep [] ((((decide (a0.At ≥ (0 : Int))) && (decide (a0.At < ((x2.Blocks).length : Int)))) && ((((a0.Data).length : Int) == (0 : Int)) || (((a0.Data).length : Int) == (128 : Int)))) : Bool))], [.fact 4 (.rep [] ((((decide (a0.At ≥ (0 : Int))) && (decide (a0.At < ((x2.Blocks).length : Int)))) && ((((a0.Data).length : Int) == (0 : Int)) || (((a0.Data).length : Int) == (128 : Int)))) : Bool))]] mixed (by kernel_rfl) (ao (so (Spec.fieldAddrO fd98_2 (Has.cv (Has.s rfl) (Cv.isvP rfl)))) (ao (so (Spec.loadF (i := 2) ty3 rfl (Has.s rfl) rfl (HasG.s rfl))) (ao (so (Spec.geqI (Has.s rfl) Has.int)) (ao (so (Spec.move (Has.s rfl))) (ao (StepG.opg rfl rfl rfl (fun hb => Spec.fieldAddrO fd98_2 (Has.cv (Has.s rfl) (Cv.isvP rfl)))) (ao (StepG.opg rfl rfl rfl (fun hb => Spec.loadF (i := 2) ty3 rfl (Has.u rfl hb) rfl (HasG.s rfl))) (ao (StepG.opg rfl rfl rfl (fun hb => Spec.move (Has.s rfl))) (ao (StepG.opg rfl rfl rfl (fun hb => Spec.fieldAddrO fd98_0 (Has.cv (Has.s rfl) (Cv.isvP rfl)))) (ao (StepG.opg rfl rfl rfl (fun hb => Spec.loadF (i := 0) ty3 rfl (Has.u rfl hb) rfl (HasG.s rfl))) (ao (StepG.opg rfl rfl rfl (fun hb => Spec.indexAddr (gO_t hx2 hb) sl49 (Has.u rfl hb) (Has.u rfl hb))) (ao (StepG.opg rfl rfl rfl (fun hb => Spec.fieldAddrP fd61_0 (chDisk x2) rfl (Has.u rfl hb))) (ao (StepG.opg rfl rfl rfl (fun hb => Spec.load ty36 (Has.u rfl hb))) (ao (StepG.opg rfl rfl rfl (fun hb => Spec.len (Has.u rfl hb) Try.underlying36)) (ao (StepG.opg rfl rfl rfl (fun hb => Spec.lssI (Has.u rfl hb) (Has.u rfl hb))) (ao (so (Spec.and (Has.s rfl) (fun h => Has.u rfl h))) (ao (so (Spec.move (Has.s rfl))) (ao (StepG.opg rfl rfl rfl (fun hb => Spec.fieldAddrO fd98_3 (Has.cv (Has.s rfl) (Cv.isvP rfl)))) (ao (StepG.opg rfl rfl rfl (fun hb => Spec.loadF (i := 3) ty37 rfl (Has.u rfl hb) rfl (HasG.s rfl))) (ao (StepG.opg rfl rfl rfl (fun hb => Spec.len (Has.u rfl hb) Try.underlying37)) (ao (StepG.opg rfl rfl rfl (fun hb => Spec.eqlI (Has.u rfl hb) Has.int)) (ao (StepG.opg rfl rfl rfl (fun hb => Spec.move (Has.u rfl hb))) (ao (StepG.opgu rfl rfl rfl (fun hb => Spec.fieldAddrO fd98_3 (Has.cv (Has.s rfl) (Cv.isvP rfl)))) (ao (StepG.opgu rfl rfl rfl (fun hb => Spec.loadF (i := 3) ty37 rfl (Has.u rfl hb) rfl (HasG.s rfl))) (ao (StepG.opgu rfl rfl rfl (fun hb => Spec.len (Has.u rfl hb) Try.underlying37)) (ao (StepG.opgu rfl rfl rfl (fun hb => Spec.eqlI (Has.u rfl hb) Has.int)) (ao (StepG.opg rfl rfl rfl (fun hb => Spec.or (Has.u rfl hb) (fun h => Has.u rfl ⟨hb, h⟩))) (ao (so (Spec.and (Has.s rfl) (fun h => Has.u rfl h))) (ao (so (Spec.assign (Has.s rfl))) AllM.nil)))))))))))))))))))))))))))) ?_
   refine Leaf.thenN ?_
   refine CWalk.ret ?_
   obtain rfl := Option.some.inj hm
   exact Leaf.retC1 rfl (HasR.cv (HasR.tmp (Has.s rfl)) Cv.fl)

def acts_Check_L1 (a0 : List Act45) (a1 : List Disk) (s2 : Int) : Option (Ctl (Int) ((Unit) ⊕ (Unit))) :=
  (bif (decide (s2 < ((a0).length : Int))) then Option.bind (idx a0 s2) (fun x4 => Option.bind (acts_act_may x4 a1) (fun x5 => (bif (!x5) then some (Ctl.brk (Sum.inr ())) else some (Ctl.next (wI (s2 + (1 : Int))))))) else some (Ctl.brk (Sum.inl ())))
/-- freeboard/acts.Check -/
def acts_Check (a0 : List Act45) (a1 : List Disk) : Option (Int) :=
  Option.bind (acts_devices a1) (fun x1 => (bif (x1 != (0 : Int)) then some x1 else (bif (decide (((a0).length : Int) > (1024 : Int))) then some (4 : Int) else Option.bind (loopM (fun s : Int => acts_Check_L1 a0 a1 s) FUEL (0 : Int)) (fun b6 => Sum.elim (fun b7 => some (0 : Int)) (fun b8 => some (2 : Int)) b6))))
set_option maxRecDepth 100000 in
set_option maxHeartbeats 2000000 in
theorem acts_Check_c (a0 : List Act45) (a1 : List Disk) {r : Int} (hm : acts_Check a0 a1 = some r) : Ctr Try.prog 42 [.rep 0 a0, .rep 0 a1] (.fl r) [] := by
 refine ctr_of_walk [[]] 27 Try.func42 rfl rfl rfl rfl (fun w0 om => ?_)
 unfold acts_Check at hm
 refine CWalk.sub (G' := [.fact 0 (.rep [0] (a0 : List Act45)), .fact 1 (.rep [0] (a1 : List Disk))]) (sn (sn Sub.nil)) ?_
 refine CWalk.seq ?_
 refine CWalk.region ?_
 refine wo (Spec.assign Has.int) ?_
 refine Walk.nil ?_
 refine Leaf.thenN ?_
 refine CWalk.seq ?_
 refine CWalk.seq ?_
 refine CWalk.region ?_
 refine mv ?_
 obtain ⟨x1, hx1, hm⟩ := bind_some hm
 refine wo (f := Fact.rep [] (x1 : Int)) (Spec.callE [0] 10 rfl en49 (acts_devices_c a1 hx1) (HasAll.cons (Has.m (Has.s rfl) rfl) HasAll.nil)) ?_
 refine wo (Spec.assign (Has.s rfl)) ?_
 refine Walk.nil ?_
 refine Leaf.thenN ?_
 refine CWalk.seq ?_
 refine CWalk.region ?_
 refine mv ?_
 refine wo (Spec.neqI (Has.s rfl) Has.int) ?_
 refine Walk.nil ?_
 refine Leaf.thenN ?_
 refine CWalk.cond rfl (fun hb => ?_) (fun hb => ?_)
 ·have hm := cond_t hb hm
  refine CWalk.seq ?_
  refine CWalk.region ?_
  refine mv ?_
  refine wo (Spec.assign (Has.s rfl)) ?_
  refine Walk.nil ?_
  refine Leaf.thenN ?_
  refine CWalk.ret ?_
  refine Leaf.thenR ?_
  obtain rfl := Option.some.inj hm
  exact Leaf.retC1 rfl (HasR.cv (HasR.tmp (Has.s rfl)) Cv.fl)
 ·have hm := cond_f hb hm
  refine CWalk.skip ?_
  refine Leaf.thenN ?_
  refine CWalk.seq ?_
  refine CWalk.seq ?_
  refine CWalk.region ?_
  refine mv ?_
  refine wo (Spec.len (Has.s rfl) Try.underlying23) ?_
  refine wo (Spec.gtrI (Has.s rfl) Has.int) ?_
  refine Walk.nil ?_
  refine Leaf.thenN ?_
  refine CWalk.cond rfl (fun hb => ?_) (fun hb => ?_)
  ·have hm := cond_t hb hm
   refine CWalk.seq ?_
   refine CWalk.region ?_
   refine wo (Spec.assign Has.int) ?_
   refine Walk.nil ?_
   refine Leaf.thenN ?_
   refine CWalk.ret ?_
   refine Leaf.thenR ?_
   obtain rfl := Option.some.inj hm
   exact Leaf.retC1 rfl (HasR.cv (HasR.tmp (Has.s rfl)) Cv.fl)
  ·have hm := cond_f hb hm
   refine CWalk.skip ?_
   refine Leaf.thenN ?_
   refine CWalk.seq ?_
   refine CWalk.seq ?_
   refine CWalk.region ?_
   refine mv ?_
   refine wo (Spec.len (Has.s rfl) Try.underlying23) ?_
   refine wo (Spec.move Has.int) ?_
   refine Walk.nil ?_
   refine Leaf.thenN ?_
   refine CWalk.block ?_
   obtain ⟨b6, hb6, hm⟩ := bind_some hm
   refine CWalk.loop (fun s : Int => [.fact 1 (.rep [0] (a1 : List Disk)), .fact 16 (.rep [0] (a0 : List Act45)), .fact 17 (.rep [] (((a0).length : Int) : Int)), .fact 18 (.rep [] (s : Int))]) (fun b : (Unit) ⊕ (Unit) => Sum.elim (fun b => (Exit.exit 0, [])) (fun b => (Exit.ret, [.fact 4 (.rep [] ((2 : Int) : Int))])) b) hb6 (su (su (st (st Sub.nil)))) ?_ ?_
   ·rintro s2 c3 hm
    replace hm : acts_Check_L1 a0 a1 s2 = some c3 := hm
    unfold acts_Check_L1 at hm
    show CWalk _ [.fact 1 (.rep [0] (a1 : List Disk)), .fact 16 (.rep [0] (a0 : List Act45)), .fact 17 (.rep [] (((a0).length : Int) : Int)), .fact 18 (.rep [] (s2 : Int))] _ _
    refine CWalk.seq ?_
    refine CWalk.region ?_
    refine wo (Spec.lssI (Has.s rfl) (Has.s rfl)) ?_
    refine Walk.nil ?_
    refine Leaf.thenN ?_
    refine CWalk.seq ?_
    refine CWalk.cond rfl (fun hb => ?_) (fun hb => ?_)
    ·have hm := cond_t hb hm
     refine CWalk.skip ?_
     refine Leaf.thenN ?_
     refine CWalk.seq ?_
     refine CWalk.block ?_
     refine CWalk.seq ?_
     refine CWalk.region ?_
     obtain ⟨x4, hx4, hm⟩ := bind_some hm
     refine wo (Spec.indexAddr hx4 sl23 (Has.s rfl) (Has.s rfl)) ?_
     refine wo (Spec.load ty45 (Has.s rfl)) ?_
     refine ws (Step.allocObj (ls := [(false, 1, Fact.rep [] ((0 : Int) : Int)), (false, 1, Fact.rep [] ((0 : UInt8) : UInt8)), (false, 1, Fact.rep [] ((0 : Int) : Int)), (false, 1, Fact.nilv)]) 11 rfl rfl rfl rfl zl45) ?_
     refine ws (Step.storeObj (ls := [(false, 1, Fact.rep [] x4.Disk), (false, 1, Fact.rep [] x4.Kind), (false, 1, Fact.rep [] x4.At), (false, 1, Fact.rep [0] x4.Data)]) rfl ty45 rfl rfl (Has.s rfl) rfl (HasL.flds (Has.cv (Has.s rfl) (Cv.trans (Cv.opens (chAct45 x4)) (Cv.flds (CvL.cons Cv.fl (CvL.cons Cv.fl (CvL.cons Cv.fl (CvL.cons Cv.refl CvL.nil)))))))) rfl) ?_
     refine Walk.nil ?_
     refine Leaf.thenN ?_
     refine CWalk.seq ?_
     refine CWalk.region ?_
     refine wo (Spec.loadObj (ls := [(false, 1, Fact.rep [] x4.Disk), (false, 1, Fact.rep [] x4.Kind), (false, 1, Fact.rep [] x4.At), (false, 1, Fact.rep [0] x4.Data)]) ty45 rfl rfl (Has.s rfl) rfl (HasGs.cons (HasG.s rfl) (HasGs.cons (HasG.s rfl) (HasGs.cons (HasG.s rfl) (HasGs.cons (HasG.s rfl) HasGs.nil))))) ?_
     refine mv ?_
     obtain ⟨x5, hx5, hm⟩ := bind_some hm
     refine wo (f := Fact.rep [] (x5 : Bool)) (Spec.callE [0] 16 rfl en72 (acts_act_may_c x4 a1 hx5) (HasAll.cons (Has.m (Has.cv (Has.s rfl) (Cv.trans (Cv.flds (CvL.cons Cv.fl (CvL.cons Cv.fl (CvL.cons Cv.fl (CvL.cons (Cv.m rfl) CvL.nil))))) (Cv.close (T := [0]) (chAct45 x4)))) rfl) (HasAll.cons (Has.m (Has.s rfl) rfl) HasAll.nil))) ?_
     refine wo (Spec.not (Has.s rfl)) ?_
     refine Walk.nil ?_
     refine Leaf.thenN ?_
     refine CWalk.cond rfl (fun hb => ?_) (fun hb => ?_)
     ·have hm := cond_t hb hm
      refine CWalk.seq ?_
      refine CWalk.region ?_
      refine wo (Spec.assign Has.int) ?_
      refine Walk.nil ?_
      refine Leaf.thenN ?_
      refine CWalk.ret ?_
      refine Leaf.blockR ?_
      refine Leaf.thenR ?_
      exact Leaf.brk hm (fun h => nomatch h) rfl (st Sub.nil)
     ·have hm := cond_f hb hm
      refine CWalk.skip ?_
      refine Leaf.blockN ?_
      refine Leaf.thenN ?_
      refine CWalk.region ?_
      refine wo (Spec.addI (Has.s rfl) Has.int) ?_
      refine mv ?_
      refine Walk.nil ?_
      exact Leaf.next hm (su (su (st (st Sub.nil))))
    ·have hm := cond_f hb hm
     refine CWalk.exit ?_
     refine Leaf.thenE ?_
     exact Leaf.brk hm (fun h => nomatch h) rfl (Sub.nil)
   ·intro _
    rcases b6 with b7 | b8
    ·have hm := selim_l hm
     refine Leaf.blockE ?_
     refine Leaf.thenN ?_
     refine CWalk.seq ?_
     refine CWalk.region ?_
     refine wo (Spec.assign Has.int) ?_
     refine Walk.nil ?_
     refine Leaf.thenN ?_
     refine CWalk.ret ?_
     obtain rfl := Option.some.inj hm
     exact Leaf.retC1 rfl (HasR.cv (HasR.tmp (Has.s rfl)) Cv.fl)
    ·have hm := selim_r hm
     refine Leaf.blockR ?_
     refine Leaf.thenR ?_
     obtain rfl := Option.some.inj hm
     exact Leaf.retC1 rfl (HasR.cv (HasR.tmp (Has.s rfl)) Cv.fl)

def disk_Twin_L1 (a0 : Disk) (s1 : Int) (s2 : List (List UInt8)) : Option (Ctl (Int × (List (List UInt8))) ((List (List UInt8)))) :=
  (bif (decide (s1 < ((a0.Blocks).length : Int))) then Option.bind (idx a0.Blocks s1) (fun x4 => Option.bind (slices_Clone_byte_byte x4) (fun x5 => Option.bind (app s2 ([x5])) (fun x6 => some (Ctl.next ((wI (s1 + (1 : Int))), x6))))) else some (Ctl.brk s2))
def disk_Twin_L2 (a0 : Disk) (s8 : Int) (s9 : List Write) : Option (Ctl (Int × (List Write)) ((List Write))) :=
  (bif (decide (s8 < ((a0.Wait).length : Int))) then Option.bind (idx a0.Wait s8) (fun x11 => Option.bind (slices_Clone_byte_byte x11.Data) (fun x12 => Option.bind (app s9 ([(Write.mk x11.At x12)])) (fun x13 => some (Ctl.next ((wI (s8 + (1 : Int))), x13))))) else some (Ctl.brk s9))
/-- freeboard/disk.Twin -/
def disk_Twin (a0 : Disk) : Option (Disk) :=
  Option.bind (loopM (fun s : Int × (List (List UInt8)) => disk_Twin_L1 a0 s.1 s.2) FUEL ((0 : Int), ([] : List (List UInt8)))) (fun b7 => Option.bind (loopM (fun s : Int × (List Write) => disk_Twin_L2 a0 s.1 s.2) FUEL ((0 : Int), ([] : List Write))) (fun b14 => some (Disk.mk b7 b14 a0.Dead)))
set_option maxRecDepth 100000 in
set_option maxHeartbeats 2000000 in
theorem disk_Twin_c (a0 : Disk) {r : Disk} (hm : disk_Twin a0 = some r) : Ctr Try.prog 50 [.rep 0 a0] (.flds [(false, 1, (.own 0 (some 1) 37 r.Blocks)), (false, 1, (.own 2 (some 3) 86 r.Wait)), (false, 1, (.fl r.Dead))]) [] := by
 refine ctr_of_walk [[24], [22, 23], [30], [28, 29]] 46 Try.func50 rfl rfl rfl rfl (fun w0 om => ?_)
 unfold disk_Twin at hm
 refine CWalk.sub (G' := [.fact 0 (.rep [0] (a0 : Disk))]) (sn Sub.nil) ?_
 refine CWalk.seq ?_
 refine CWalk.region ?_
 refine ws (Step.boxObj (ls := [(false, 1, Fact.rep [0] a0.Blocks), (false, 1, Fact.rep [0] a0.Wait), (false, 1, Fact.rep [] a0.Dead)]) 10 rfl rfl rfl rfl (HasL.flds (Has.cv (Has.s rfl) (Cv.trans (Cv.opens (chDisk a0)) (Cv.flds (CvL.cons Cv.refl (CvL.cons Cv.refl (CvL.cons Cv.fl CvL.nil)))))))) ?_
 refine ws (Step.allocObj (ls := [(false, 1, Fact.nilv), (false, 1, Fact.nilv), (false, 1, Fact.rep [] (false : Bool))]) 14 rfl rfl rfl rfl zl61) ?_
 refine Walk.nil ?_
 refine Leaf.thenN ?_
 refine CWalk.seq ?_
 refine CWalk.region ?_
 refine wo (Spec.fieldAddrO fd61_2 (Has.cv (Has.s rfl) (Cv.isvP rfl))) ?_
 refine wo (Spec.loadF (i := 2) ty4 rfl (Has.s rfl) rfl (HasG.s rfl)) ?_
 refine wo (Spec.build (us := [(2, .tmp 9)]) (ls' := [(false, 1, Fact.nilv), (false, 1, Fact.nilv), (false, 1, Fact.rep [] a0.Dead)]) bd61 rfl (BP.cons rfl rfl (Has.s rfl) (Has.s rfl) BP.nil)) ?_
 refine ws (Step.allocObj (ls := [(false, 1, Fact.nilv), (false, 1, Fact.nilv), (false, 1, Fact.rep [] (false : Bool))]) 18 rfl rfl rfl rfl zl61) ?_
 refine ws (Step.storeObj (ls := [(false, 1, Fact.nilv), (false, 1, Fact.nilv), (false, 1, Fact.rep [] a0.Dead)]) rfl ty61 rfl rfl (Has.s rfl) rfl (HasL.flds (Has.s rfl)) rfl) ?_
 refine Walk.nil ?_
 refine Leaf.thenN ?_
 refine CWalk.seq ?_
 refine CWalk.seq ?_
 refine CWalk.region ?_
 refine wo (Spec.fieldAddrO fd61_0 (Has.cv (Has.s rfl) (Cv.isvP rfl))) ?_
 refine wo (Spec.loadF (i := 0) ty36 rfl (Has.s rfl) rfl (HasG.s rfl)) ?_
 refine wo (Spec.len (Has.s rfl) Try.underlying36) ?_
 refine wo (Spec.move Has.int) ?_
 refine Walk.nil ?_
 refine Leaf.thenN ?_
 refine CWalk.block ?_
 obtain ⟨b7, hb7, hm⟩ := bind_some hm
 refine CWalk.loop (fun s : Int × (List (List UInt8)) => [.fact 1 (.isv 10), .fact 2 (.isv 14), .fact 3 (.isv 18), .fact 12 (.rep [0] a0.Blocks), .fact 13 (.rep [] (((a0.Blocks).length : Int) : Int)), .fact 14 (.rep [] s.1), .fact 100011 (.at 11 (.rep [0] a0.Blocks)), .fact 100012 (.at 12 (.rep [0] a0.Wait)), .fact 100013 (.at 13 (.rep [] a0.Dead)), .fact 100015 (.at 15 (.nilv)), .fact 100016 (.at 16 (.nilv)), .fact 100017 (.at 17 (.rep [] (false : Bool))), .fact 100019 (.at 19 (.ow [24] [22, 23] 37 (s.2 : List (List UInt8)))), .fact 100020 (.at 20 (.nilv)), .fact 100021 (.at 21 (.rep [] a0.Dead)), .fact 100010 (.obj 10 [(false, 1), (false, 1), (false, 1)]), .fact 100014 (.obj 14 [(false, 1), (false, 1), (false, 1)]), .fact 100018 (.obj 18 [(false, 1), (false, 1), (false, 1)])]) (fun b : (List (List UInt8)) => (Exit.exit 0, [.fact 1 (.isv 10), .fact 2 (.isv 14), .fact 3 (.isv 18), .fact 100011 (.at 11 (.rep [0] a0.Blocks)), .fact 100012 (.at 12 (.rep [0] a0.Wait)), .fact 100013 (.at 13 (.rep [] a0.Dead)), .fact 100015 (.at 15 (.nilv)), .fact 100016 (.at 16 (.nilv)), .fact 100017 (.at 17 (.rep [] (false : Bool))), .fact 100019 (.at 19 (.ow [24] [22, 23] 37 (b : List (List UInt8)))), .fact 100020 (.at 20 (.nilv)), .fact 100021 (.at 21 (.rep [] a0.Dead)), .fact 100010 (.obj 10 [(false, 1), (false, 1), (false, 1)]), .fact 100014 (.obj 14 [(false, 1), (false, 1), (false, 1)]), .fact 100018 (.obj 18 [(false, 1), (false, 1), (false, 1)])])) hb7 (sn (sn (sn (su (st (st (sm (sm (sf (sg (sg (sf (Sub.cons (Has.at (HasG.cv (HasG.s rfl) (Cv.trans Cv.nilOw (Cv.owM (T := []) (te := []) rfl rfl)))) (sg (sf (sn (sn (sn Sub.nil)))))))))))))))))) ?_ ?_
 ·rintro ⟨s1, s2⟩ c3 hm
  replace hm : disk_Twin_L1 a0 s1 s2 = some c3 := hm
  unfold disk_Twin_L1 at hm
  show CWalk _ [.fact 1 (.isv 10), .fact 2 (.isv 14), .fact 3 (.isv 18), .fact 12 (.rep [0] a0.Blocks), .fact 13 (.rep [] (((a0.Blocks).length : Int) : Int)), .fact 14 (.rep [] (s1 : Int)), .fact 100011 (.at 11 (.rep [0] a0.Blocks)), .fact 100012 (.at 12 (.rep [0] a0.Wait)), .fact 100013 (.at 13 (.rep [] a0.Dead)), .fact 100015 (.at 15 (.nilv)), .fact 100016 (.at 16 (.nilv)), .fact 100017 (.at 17 (.rep [] (false : Bool))), .fact 100019 (.at 19 (.ow [24] [22, 23] 37 (s2 : List (List UInt8)))), .fact 100020 (.at 20 (.nilv)), .fact 100021 (.at 21 (.rep [] a0.Dead)), .fact 100010 (.obj 10 [(false, 1), (false, 1), (false, 1)]), .fact 100014 (.obj 14 [(false, 1), (false, 1), (false, 1)]), .fact 100018 (.obj 18 [(false, 1), (false, 1), (false, 1)])] _ _
  refine CWalk.seq ?_
  refine CWalk.region ?_
  refine wo (Spec.lssI (Has.s rfl) (Has.s rfl)) ?_
  refine Walk.nil ?_
  refine Leaf.thenN ?_
  refine CWalk.seq ?_
  refine CWalk.cond rfl (fun hb => ?_) (fun hb => ?_)
  ·have hm := cond_t hb hm
   refine CWalk.skip ?_
   refine Leaf.thenN ?_
   refine CWalk.seq ?_
   refine CWalk.block ?_
   refine CWalk.seq ?_
   refine CWalk.region ?_
   obtain ⟨x4, hx4, hm⟩ := bind_some hm
   refine wo (Spec.indexAddr hx4 sl36 (Has.s rfl) (Has.s rfl)) ?_
   refine wo (Spec.load ty37 (Has.s rfl)) ?_
   refine wo (Spec.assign (Has.s rfl)) ?_
   refine Walk.nil ?_
   refine Leaf.thenN ?_
   obtain ⟨x5, hx5, hm⟩ := bind_some hm
   obtain ⟨x6, hx6, hm⟩ := bind_some hm
   refine CWalk.drawM [[], [0], [], [2], [2, 3], [0, 1, 2, 3, 4], [0, 1, 2, 3, 4, 5], [0, 1, 2, 3, 4, 5, 6]] [[.fact 18 (.pto 18 0)], [.fact 19 (.ow [24] [22, 23] 37 (s2 : List (List UInt8)))], [.fact 20 (.rep [0] (x4 : List UInt8))], [.fact 21 (.ow [22] [] 5 (x5 : List UInt8))], [.fact 22 (.rep [23, 22] ([x5] : List (List UInt8)))], [.fact 23 (.ow [24] [22, 23] 37 (x6 : List (List UInt8))), .kill 24], [.fact 24 (.pto 18 0)], [.fact 100019 (.at 19 (.ow [24] [22, 23] 37 (x6 : List (List UInt8)))), .fact 100018 (.obj 18 [(false, 1), (false, 1), (false, 1)]), .kill 18, .killId 19]] mixed (by kernel_rfl) (ao (so (Spec.fieldAddrO fd61_0 (Has.cv (Has.s rfl) (Cv.isvP rfl)))) (ao (so (Spec.loadF (i := 0) ty36 rfl (Has.s rfl) rfl (HasG.s rfl))) (ao (so (Spec.move (Has.s rfl))) (ao (so (Spec.callE [0] 22 rfl en78 (slices_Clone_byte_byte_c x4 hx5) (HasAll.cons (Has.m (Has.s rfl) rfl) HasAll.nil))) (ao (so (Spec.lit (xs := [.tmp 21]) (T := [22]) 23 rfl ow36 rfl rfl rfl rfl (HasEach.cons (Has.m (Has.cv (Has.s rfl) (Cv.trans Cv.owSl (Cv.slRep (T' := [22]) rfl rfl))) rfl) HasEach.nil))) (ao (StepG.stE (Step.appendOw (T := [24]) (te' := [22, 23]) hx6 rfl rfl rfl ow36 (Has.s rfl) (Has.s rfl) (ElKeeps.tags rfl rfl) (ElKeeps.tags rfl rfl))) (ao (so (Spec.fieldAddrO fd61_0 (Has.cv (Has.s rfl) (Cv.isvP rfl)))) (ao (StepG.stE (Step.storeF (i := 0) (f := Fact.ow [24] [22, 23] 37 (x6 : List (List UInt8))) rfl ty36 rfl (Has.s rfl) rfl (Has.cv (Has.s rfl) (Cv.trans Cv.owSl (Cv.slRep (T' := [22, 23, 24]) rfl rfl))) (Has.s rfl) rfl)) AllM.nil)))))))) ?_
   refine Leaf.blockN ?_
   refine Leaf.thenN ?_
   refine CWalk.region ?_
   refine wo (Spec.addI (Has.s rfl) Has.int) ?_
   refine mv ?_
   refine Walk.nil ?_
   exact Leaf.next hm (sn (sn (sn (su (st (st (sm (sm (sf (sg (sg (sf (Sub.cons (Has.at (HasG.cv (HasG.s rfl) (Cv.owM (T := [24]) (te := [22, 23]) rfl rfl))) (sg (sf (sn (sn (sn Sub.nil))))))))))))))))))
  ·have hm := cond_f hb hm
   refine CWalk.exit ?_
   refine Leaf.thenE ?_
   exact Leaf.brk hm (fun h => nomatch h) rfl (sn (sn (sn (sm (sm (sf (sg (sg (sf (Sub.cons (Has.at (HasG.cv (HasG.s rfl) (Cv.owM (T := [24]) (te := [22, 23]) rfl rfl))) (sg (sf (sn (sn (sn Sub.nil)))))))))))))))
 ·intro _
  refine Leaf.blockE ?_
  refine Leaf.thenN ?_
  refine CWalk.seq ?_
  refine CWalk.seq ?_
  refine CWalk.region ?_
  refine wo (Spec.fieldAddrO fd61_1 (Has.cv (Has.s rfl) (Cv.isvP rfl))) ?_
  refine wo (Spec.loadF (i := 1) ty59 rfl (Has.s rfl) rfl (HasG.s rfl)) ?_
  refine wo (Spec.len (Has.s rfl) Try.underlying59) ?_
  refine wo (Spec.move Has.int) ?_
  refine Walk.nil ?_
  refine Leaf.thenN ?_
  refine CWalk.block ?_
  obtain ⟨b14, hb14, hm⟩ := bind_some hm
  refine CWalk.loop (fun s : Int × (List Write) => [.fact 2 (.isv 14), .fact 3 (.isv 18), .fact 27 (.rep [0] a0.Wait), .fact 28 (.rep [] (((a0.Wait).length : Int) : Int)), .fact 29 (.rep [] s.1), .fact 100015 (.at 15 (.nilv)), .fact 100016 (.at 16 (.nilv)), .fact 100017 (.at 17 (.rep [] (false : Bool))), .fact 100019 (.at 19 (.ow [24] [22, 23] 37 (b7 : List (List UInt8)))), .fact 100020 (.at 20 (.ow [30] [28, 29] 86 (s.2 : List Write))), .fact 100021 (.at 21 (.rep [] a0.Dead)), .fact 100014 (.obj 14 [(false, 1), (false, 1), (false, 1)]), .fact 100018 (.obj 18 [(false, 1), (false, 1), (false, 1)])]) (fun b : (List Write) => (Exit.exit 2, [.fact 2 (.isv 14), .fact 3 (.isv 18), .fact 100015 (.at 15 (.nilv)), .fact 100016 (.at 16 (.nilv)), .fact 100017 (.at 17 (.rep [] (false : Bool))), .fact 100019 (.at 19 (.ow [24] [22, 23] 37 (b7 : List (List UInt8)))), .fact 100020 (.at 20 (.ow [30] [28, 29] 86 (b : List Write))), .fact 100021 (.at 21 (.rep [] a0.Dead)), .fact 100014 (.obj 14 [(false, 1), (false, 1), (false, 1)]), .fact 100018 (.obj 18 [(false, 1), (false, 1), (false, 1)])])) hb14 (sn (sn (su (st (st (sg (sg (sf (Sub.cons (Has.at (HasG.cv (HasG.s rfl) (Cv.owM (T := [24]) (te := [22, 23]) rfl rfl))) (Sub.cons (Has.at (HasG.cv (HasG.s rfl) (Cv.trans Cv.nilOw (Cv.owM (T := []) (te := []) rfl rfl)))) (sf (sn (sn Sub.nil))))))))))))) ?_ ?_
  ·rintro ⟨s8, s9⟩ c10 hm
   replace hm : disk_Twin_L2 a0 s8 s9 = some c10 := hm
   unfold disk_Twin_L2 at hm
   show CWalk _ [.fact 2 (.isv 14), .fact 3 (.isv 18), .fact 27 (.rep [0] a0.Wait), .fact 28 (.rep [] (((a0.Wait).length : Int) : Int)), .fact 29 (.rep [] (s8 : Int)), .fact 100015 (.at 15 (.nilv)), .fact 100016 (.at 16 (.nilv)), .fact 100017 (.at 17 (.rep [] (false : Bool))), .fact 100019 (.at 19 (.ow [24] [22, 23] 37 (b7 : List (List UInt8)))), .fact 100020 (.at 20 (.ow [30] [28, 29] 86 (s9 : List Write))), .fact 100021 (.at 21 (.rep [] a0.Dead)), .fact 100014 (.obj 14 [(false, 1), (false, 1), (false, 1)]), .fact 100018 (.obj 18 [(false, 1), (false, 1), (false, 1)])] _ _
   refine CWalk.seq ?_
   refine CWalk.region ?_
   refine wo (Spec.lssI (Has.s rfl) (Has.s rfl)) ?_
   refine Walk.nil ?_
   refine Leaf.thenN ?_
   refine CWalk.seq ?_
   refine CWalk.cond rfl (fun hb => ?_) (fun hb => ?_)
   ·have hm := cond_t hb hm
    refine CWalk.skip ?_
    refine Leaf.thenN ?_
    refine CWalk.seq ?_
    refine CWalk.block ?_
    refine CWalk.seq ?_
    refine CWalk.region ?_
    obtain ⟨x11, hx11, hm⟩ := bind_some hm
    refine wo (Spec.indexAddr hx11 sl59 (Has.s rfl) (Has.s rfl)) ?_
    refine wo (Spec.load ty86 (Has.s rfl)) ?_
    refine ws (Step.allocObj (ls := [(false, 1, Fact.rep [] ((0 : Int) : Int)), (false, 1, Fact.nilv)]) 25 rfl rfl rfl rfl zl86) ?_
    refine ws (Step.storeObj (ls := [(false, 1, Fact.rep [] x11.At), (false, 1, Fact.rep [0] x11.Data)]) rfl ty86 rfl rfl (Has.s rfl) rfl (HasL.flds (Has.cv (Has.s rfl) (Cv.trans (Cv.opens (chWrite x11)) (Cv.flds (CvL.cons Cv.fl (CvL.cons Cv.refl CvL.nil)))))) rfl) ?_
    refine Walk.nil ?_
    refine Leaf.thenN ?_
    obtain ⟨x12, hx12, hm⟩ := bind_some hm
    obtain ⟨x13, hx13, hm⟩ := bind_some hm
    refine CWalk.drawM [[], [0], [], [2], [], [4], [4, 5], [2, 3, 4, 5, 6], [2, 3, 4, 5, 6, 7], [0, 1, 2, 3, 4, 5, 6, 7, 8], [0, 1, 2, 3, 4, 5, 6, 7, 8, 9], [0, 1, 2, 3, 4, 5, 6, 7, 8, 9, 10]] [[.fact 33 (.pto 18 1)], [.fact 34 (.ow [30] [28, 29] 86 (s9 : List Write))], [.fact 35 (.pto 25 0)], [.fact 36 (.rep [] x11.At)], [.fact 37 (.pto 25 1)], [.fact 38 (.rep [0] x11.Data)], [.fact 39 (.ow [28] [] 5 (x12 : List UInt8))], [.fact 40 (.flds [(false, 1, Fact.rep [] x11.At), (false, 1, Fact.ow [28] [] 5 (x12 : List UInt8))])], [.fact 41 (.rep [29, 28] ([(Write.mk x11.At x12)] : List Write))], [.fact 42 (.ow [30] [28, 29] 86 (x13 : List Write)), .kill 30], [.fact 43 (.pto 18 1)], [.fact 100020 (.at 20 (.ow [30] [28, 29] 86 (x13 : List Write))), .fact 100018 (.obj 18 [(false, 1), (false, 1), (false, 1)]), .kill 18, .killId 20]] mixed (by kernel_rfl) (ao (so (Spec.fieldAddrO fd61_1 (Has.cv (Has.s rfl) (Cv.isvP rfl)))) (ao (so (Spec.loadF (i := 1) ty59 rfl (Has.s rfl) rfl (HasG.s rfl))) (ao (so (Spec.fieldAddrO fd86_0 (Has.cv (Has.s rfl) (Cv.isvP rfl)))) (ao (so (Spec.loadF (i := 0) ty3 rfl (Has.s rfl) rfl (HasG.s rfl))) (ao (so (Spec.fieldAddrO fd86_1 (Has.cv (Has.s rfl) (Cv.isvP rfl)))) (ao (so (Spec.loadF (i := 1) ty37 rfl (Has.s rfl) rfl (HasG.s rfl))) (ao (so (Spec.callE [0] 28 rfl en78 (slices_Clone_byte_byte_c x11.Data hx12) (HasAll.cons (Has.m (Has.s rfl) rfl) HasAll.nil))) (ao (so (Spec.build (us := [(0, .tmp 36), (1, .tmp 39)]) (ls' := [(false, 1, Fact.rep [] x11.At), (false, 1, Fact.ow [28] [] 5 (x12 : List UInt8))]) bd86 rfl (BP.cons rfl rfl (Has.s rfl) (Has.s rfl) (BP.cons rfl rfl (Has.cv (Has.s rfl) (Cv.trans Cv.owSl (Cv.slRep (T' := [28]) rfl rfl))) (Has.s rfl) BP.nil)))) (ao (so (Spec.lit (xs := [.tmp 40]) (T := [28]) 29 rfl ow59 rfl rfl rfl rfl (HasEach.cons (Has.m (Has.cv (Has.s rfl) (Cv.trans (Cv.flds (CvL.cons Cv.fl (CvL.cons (Cv.trans (Cv.trans Cv.owSl (Cv.slRep (T' := [28]) rfl rfl)) (Cv.m rfl)) CvL.nil))) (Cv.close (T := [28]) (chWrite (Write.mk x11.At x12))))) rfl) HasEach.nil))) (ao (StepG.stE (Step.appendOw (T := [30]) (te' := [28, 29]) hx13 rfl rfl rfl ow59 (Has.s rfl) (Has.s rfl) (ElKeeps.tags rfl rfl) (ElKeeps.tags rfl rfl))) (ao (so (Spec.fieldAddrO fd61_1 (Has.cv (Has.s rfl) (Cv.isvP rfl)))) (ao (StepG.stE (Step.storeF (i := 1) (f := Fact.ow [30] [28, 29] 86 (x13 : List Write)) rfl ty59 rfl (Has.s rfl) rfl (Has.cv (Has.s rfl) (Cv.trans Cv.owSl (Cv.slRep (T' := [28, 29, 30]) rfl rfl))) (Has.s rfl) rfl)) AllM.nil)))))))))))) ?_
    refine Leaf.blockN ?_
    refine Leaf.thenN ?_
    refine CWalk.region ?_
    refine wo (Spec.addI (Has.s rfl) Has.int) ?_
    refine mv ?_
    refine Walk.nil ?_
    exact Leaf.next hm (sn (sn (su (st (st (sg (sg (sf (Sub.cons (Has.at (HasG.cv (HasG.s rfl) (Cv.owM (T := [24]) (te := [22, 23]) rfl rfl))) (Sub.cons (Has.at (HasG.cv (HasG.s rfl) (Cv.owM (T := [30]) (te := [28, 29]) rfl rfl))) (sf (sn (sn Sub.nil)))))))))))))
   ·have hm := cond_f hb hm
    refine CWalk.exit ?_
    refine Leaf.thenE ?_
    exact Leaf.brk hm (fun h => nomatch h) rfl (sn (sn (sg (sg (sf (Sub.cons (Has.at (HasG.cv (HasG.s rfl) (Cv.owM (T := [24]) (te := [22, 23]) rfl rfl))) (Sub.cons (Has.at (HasG.cv (HasG.s rfl) (Cv.owM (T := [30]) (te := [28, 29]) rfl rfl))) (sf (sn (sn Sub.nil))))))))))
  ·intro _
   refine Leaf.blockE ?_
   refine Leaf.thenN ?_
   refine CWalk.seq ?_
   refine CWalk.region ?_
   refine wo (Spec.loadObj (ls := [(false, 1, Fact.ow [24] [22, 23] 37 (b7 : List (List UInt8))), (false, 1, Fact.ow [30] [28, 29] 86 (b14 : List Write)), (false, 1, Fact.rep [] a0.Dead)]) ty61 rfl rfl (Has.s rfl) rfl (HasGs.cons (HasG.s rfl) (HasGs.cons (HasG.s rfl) (HasGs.cons (HasG.s rfl) HasGs.nil)))) ?_
   refine ws (Step.storeObj (ls := [(false, 1, Fact.ow [24] [22, 23] 37 (b7 : List (List UInt8))), (false, 1, Fact.ow [30] [28, 29] 86 (b14 : List Write)), (false, 1, Fact.rep [] a0.Dead)]) rfl ty61 rfl rfl (Has.s rfl) rfl (HasL.flds (Has.s rfl)) rfl) ?_
   refine Walk.nil ?_
   refine Leaf.thenN ?_
   refine CWalk.ret ?_
   obtain rfl := Option.some.inj hm
   exact Leaf.retC1 rfl (HasR.cv (HasR.obj (ls := [(false, 1, Fact.ow [24] [22, 23] 37 (b7 : List (List UInt8))), (false, 1, Fact.ow [30] [28, 29] 86 (b14 : List Write)), (false, 1, Fact.rep [] a0.Dead)]) ty61 rfl rfl (Has.s rfl) rfl (HasGs.cons (HasG.s rfl) (HasGs.cons (HasG.s rfl) (HasGs.cons (HasG.s rfl) HasGs.nil)))) (Cv.flds (CvL.cons (Cv.owM (T := [24]) (te := [22, 23]) rfl rfl) (CvL.cons (Cv.owM (T := [30]) (te := [28, 29]) rfl rfl) (CvL.cons Cv.fl CvL.nil)))))

def acts_twins_L1 (a0 : List Disk) (s1 : List Disk) (s2 : Int) : Option (Ctl ((List Disk) × Int) ((List Disk))) :=
  (bif (decide (s2 < ((a0).length : Int))) then Option.bind (idx a0 s2) (fun x4 => Option.bind (disk_Twin x4) (fun x5 => Option.bind (app s1 ([x5])) (fun x6 => some (Ctl.next (x6, (wI (s2 + (1 : Int)))))))) else some (Ctl.brk s1))
/-- freeboard/acts.twins -/
def acts_twins (a0 : List Disk) : Option ((List Disk)) :=
  Option.bind (loopM (fun s : (List Disk) × Int => acts_twins_L1 a0 s.1 s.2) FUEL (([] : List Disk), (0 : Int))) (fun b7 => some b7)
set_option maxRecDepth 100000 in
set_option maxHeartbeats 2000000 in
theorem acts_twins_c (a0 : List Disk) {r : (List Disk)} (hm : acts_twins a0 = some r) : Ctr Try.prog 43 [.rep 0 a0] (.own 0 (some 1) 61 r) [] := by
 refine ctr_of_walk [[19], [14, 15, 16, 17, 18]] 19 Try.func43 rfl rfl rfl rfl (fun w0 om => ?_)
 unfold acts_twins at hm
 refine CWalk.sub (G' := [.fact 0 (.rep [0] (a0 : List Disk))]) (sn Sub.nil) ?_
 refine CWalk.seq ?_
 refine CWalk.region ?_
 refine wo (Spec.assign Has.nilv) ?_
 refine Walk.nil ?_
 refine Leaf.thenN ?_
 refine CWalk.seq ?_
 refine CWalk.region ?_
 refine wo (Spec.assign Has.nilv) ?_
 refine Walk.nil ?_
 refine Leaf.thenN ?_
 refine CWalk.seq ?_
 refine CWalk.seq ?_
 refine CWalk.region ?_
 refine mv ?_
 refine wo (Spec.len (Has.s rfl) Try.underlying49) ?_
 refine wo (Spec.move Has.int) ?_
 refine Walk.nil ?_
 refine Leaf.thenN ?_
 refine CWalk.block ?_
 obtain ⟨b7, hb7, hm⟩ := bind_some hm
 refine CWalk.loop (fun s : (List Disk) × Int => [.fact 3 (.ow [19] [14, 15, 16, 17, 18] 61 (s.1 : List Disk)), .fact 6 (.rep [0] (a0 : List Disk)), .fact 7 (.rep [] (((a0).length : Int) : Int)), .fact 8 (.rep [] s.2)]) (fun b : (List Disk) => (Exit.exit 0, [.fact 3 (.ow [19] [14, 15, 16, 17, 18] 61 (b : List Disk))])) hb7 (Sub.cons (Has.cv (Has.s rfl) (Cv.trans Cv.nilOw (Cv.owM (T := []) (te := []) rfl rfl))) (su (st (st Sub.nil)))) ?_ ?_
 ·rintro ⟨s1, s2⟩ c3 hm
  replace hm : acts_twins_L1 a0 s1 s2 = some c3 := hm
  unfold acts_twins_L1 at hm
  show CWalk _ [.fact 3 (.ow [19] [14, 15, 16, 17, 18] 61 (s1 : List Disk)), .fact 6 (.rep [0] (a0 : List Disk)), .fact 7 (.rep [] (((a0).length : Int) : Int)), .fact 8 (.rep [] (s2 : Int))] _ _
  refine CWalk.seq ?_
  refine CWalk.region ?_
  refine wo (Spec.lssI (Has.s rfl) (Has.s rfl)) ?_
  refine Walk.nil ?_
  refine Leaf.thenN ?_
  refine CWalk.seq ?_
  refine CWalk.cond rfl (fun hb => ?_) (fun hb => ?_)
  ·have hm := cond_t hb hm
   refine CWalk.skip ?_
   refine Leaf.thenN ?_
   refine CWalk.seq ?_
   refine CWalk.block ?_
   refine CWalk.seq ?_
   refine CWalk.region ?_
   obtain ⟨x4, hx4, hm⟩ := bind_some hm
   refine wo (Spec.indexAddr hx4 sl49 (Has.s rfl) (Has.s rfl)) ?_
   refine wo (Spec.load ty61 (Has.s rfl)) ?_
   refine ws (Step.allocObj (ls := [(false, 1, Fact.nilv), (false, 1, Fact.nilv), (false, 1, Fact.rep [] (false : Bool))]) 10 rfl rfl rfl rfl zl61) ?_
   refine ws (Step.storeObj (ls := [(false, 1, Fact.rep [0] x4.Blocks), (false, 1, Fact.rep [0] x4.Wait), (false, 1, Fact.rep [] x4.Dead)]) rfl ty61 rfl rfl (Has.s rfl) rfl (HasL.flds (Has.cv (Has.s rfl) (Cv.trans (Cv.opens (chDisk x4)) (Cv.flds (CvL.cons Cv.refl (CvL.cons Cv.refl (CvL.cons Cv.fl CvL.nil))))))) rfl) ?_
   refine Walk.nil ?_
   refine Leaf.thenN ?_
   refine CWalk.region ?_
   refine mv ?_
   refine wo (Spec.loadObj (ls := [(false, 1, Fact.rep [0] x4.Blocks), (false, 1, Fact.rep [0] x4.Wait), (false, 1, Fact.rep [] x4.Dead)]) ty61 rfl rfl (Has.s rfl) rfl (HasGs.cons (HasG.s rfl) (HasGs.cons (HasG.s rfl) (HasGs.cons (HasG.s rfl) HasGs.nil)))) ?_
   obtain ⟨x5, hx5, hm⟩ := bind_some hm
   refine wo (f := Fact.flds [(false, 1, Fact.ow [14] [15] 37 (x5.Blocks : List (List UInt8))), (false, 1, Fact.ow [16] [17] 86 (x5.Wait : List Write)), (false, 1, Fact.rep [] x5.Dead)]) (Spec.callE [0] 14 rfl en50 (disk_Twin_c x4 hx5) (HasAll.cons (Has.m (Has.cv (Has.s rfl) (Cv.trans (Cv.flds (CvL.cons (Cv.m rfl) (CvL.cons (Cv.m rfl) (CvL.cons Cv.fl CvL.nil)))) (Cv.close (T := [0]) (chDisk x4)))) rfl) HasAll.nil)) ?_
   refine wo (Spec.lit (xs := [.tmp 14]) (T := [14, 15, 16, 17]) 18 rfl ow49 rfl rfl rfl rfl (HasEach.cons (Has.m (Has.cv (Has.s rfl) (Cv.trans (Cv.flds (CvL.cons (Cv.trans (Cv.trans Cv.owSl (Cv.slRep (T' := [14, 15]) rfl rfl)) (Cv.m rfl)) (CvL.cons (Cv.trans (Cv.trans Cv.owSl (Cv.slRep (T' := [16, 17]) rfl rfl)) (Cv.m rfl)) (CvL.cons Cv.fl CvL.nil)))) (Cv.close (T := [14, 15, 16, 17]) (chDisk x5)))) rfl) HasEach.nil)) ?_
   obtain ⟨x6, hx6, hm⟩ := bind_some hm
   refine ws (Step.appendOw (T := [19]) (te' := [14, 15, 16, 17, 18]) hx6 rfl rfl rfl ow49 (Has.s rfl) (Has.s rfl) (ElKeeps.tags rfl rfl) (ElKeeps.tags rfl rfl)) ?_
   refine wo (Spec.assign (Has.s rfl)) ?_
   refine Walk.nil ?_
   refine Leaf.blockN ?_
   refine Leaf.thenN ?_
   refine CWalk.region ?_
   refine wo (Spec.addI (Has.s rfl) Has.int) ?_
   refine mv ?_
   refine Walk.nil ?_
   exact Leaf.next hm (Sub.cons (Has.cv (Has.s rfl) (Cv.owM (T := [19]) (te := [14, 15, 16, 17, 18]) rfl rfl)) (su (st (st Sub.nil))))
  ·have hm := cond_f hb hm
   refine CWalk.exit ?_
   refine Leaf.thenE ?_
   exact Leaf.brk hm (fun h => nomatch h) rfl (Sub.cons (Has.cv (Has.s rfl) (Cv.owM (T := [19]) (te := [14, 15, 16, 17, 18]) rfl rfl)) Sub.nil)
 ·intro _
  refine Leaf.blockE ?_
  refine Leaf.thenN ?_
  refine CWalk.seq ?_
  refine CWalk.region ?_
  refine mv ?_
  refine wo (Spec.assign (Has.s rfl)) ?_
  refine Walk.nil ?_
  refine Leaf.thenN ?_
  refine CWalk.ret ?_
  obtain rfl := Option.some.inj hm
  exact Leaf.retC1 rfl (HasR.cv (HasR.tmp (Has.s rfl)) (Cv.owM (T := [19]) (te := [14, 15, 16, 17, 18]) rfl rfl))

/-- freeboard/disk.place -/
def disk_place (a0 : Disk) (a1 : Int) : Option (Int) :=
  Option.bind (disk_Check a0) (fun x1 => (bif (x1 != (0 : Int)) then some x1 else (bif ((decide (a1 < (0 : Int))) || (decide (a1 ≥ ((a0.Blocks).length : Int)))) then some (2 : Int) else some (0 : Int))))
set_option maxRecDepth 100000 in
set_option maxHeartbeats 2000000 in
theorem disk_place_c (a0 : Disk) (a1 : Int) {r : Int} (hm : disk_place a0 a1 = some r) : Ctr Try.prog 76 [.rep 0 a0, .rep 0 a1] (.fl r) [] := by
 refine ctr_of_walk [[]] 20 Try.func76 rfl rfl rfl rfl (fun w0 om => ?_)
 unfold disk_place at hm
 refine CWalk.sub (G' := [.fact 0 (.rep [0] (a0 : Disk)), .fact 1 (.rep [] (a1 : Int))]) (sn (Sub.cons (Has.fl (Has.s rfl)) Sub.nil)) ?_
 refine CWalk.seq ?_
 refine CWalk.region ?_
 refine ws (Step.boxObj (ls := [(false, 1, Fact.rep [0] a0.Blocks), (false, 1, Fact.rep [0] a0.Wait), (false, 1, Fact.rep [] a0.Dead)]) 10 rfl rfl rfl rfl (HasL.flds (Has.cv (Has.s rfl) (Cv.trans (Cv.opens (chDisk a0)) (Cv.flds (CvL.cons Cv.refl (CvL.cons Cv.refl (CvL.cons Cv.fl CvL.nil)))))))) ?_
 refine wo (Spec.assign Has.int) ?_
 refine Walk.nil ?_
 refine Leaf.thenN ?_
 refine CWalk.seq ?_
 refine CWalk.seq ?_
 refine CWalk.region ?_
 refine wo (Spec.loadObj (ls := [(false, 1, Fact.rep [0] a0.Blocks), (false, 1, Fact.rep [0] a0.Wait), (false, 1, Fact.rep [] a0.Dead)]) ty61 rfl rfl (Has.s rfl) rfl (HasGs.cons (HasG.s rfl) (HasGs.cons (HasG.s rfl) (HasGs.cons (HasG.s rfl) HasGs.nil)))) ?_
 obtain ⟨x1, hx1, hm⟩ := bind_some hm
 refine wo (f := Fact.rep [] (x1 : Int)) (Spec.callE [0] 14 rfl en39 (disk_Check_c a0 hx1) (HasAll.cons (Has.m (Has.cv (Has.s rfl) (Cv.trans (Cv.flds (CvL.cons (Cv.m rfl) (CvL.cons (Cv.m rfl) (CvL.cons Cv.fl CvL.nil)))) (Cv.close (T := [0]) (chDisk a0)))) rfl) HasAll.nil)) ?_
 refine wo (Spec.assign (Has.s rfl)) ?_
 refine Walk.nil ?_
 refine Leaf.thenN ?_
 refine CWalk.seq ?_
 refine CWalk.region ?_
 refine mv ?_
 refine wo (Spec.neqI (Has.s rfl) Has.int) ?_
 refine Walk.nil ?_
 refine Leaf.thenN ?_
 refine CWalk.cond rfl (fun hb => ?_) (fun hb => ?_)
 ·have hm := cond_t hb hm
  refine CWalk.seq ?_
  refine CWalk.region ?_
  refine mv ?_
  refine wo (Spec.assign (Has.s rfl)) ?_
  refine Walk.nil ?_
  refine Leaf.thenN ?_
  refine CWalk.ret ?_
  refine Leaf.thenR ?_
  obtain rfl := Option.some.inj hm
  exact Leaf.retC1 rfl (HasR.cv (HasR.tmp (Has.s rfl)) Cv.fl)
 ·have hm := cond_f hb hm
  refine CWalk.skip ?_
  refine Leaf.thenN ?_
  refine CWalk.seq ?_
  refine CWalk.seq ?_
  refine CWalk.region ?_
  refine mv ?_
  refine wo (Spec.lssI (Has.s rfl) Has.int) ?_
  refine mv ?_
  refine wg rfl rfl (fun hb => Spec.move (Has.s rfl)) ?_
  refine wg rfl rfl (fun hb => Spec.fieldAddrO fd61_0 (Has.cv (Has.s rfl) (Cv.isvP rfl))) ?_
  refine wg rfl rfl (fun hb => Spec.loadF (i := 0) ty36 rfl (Has.u rfl hb) rfl (HasG.s rfl)) ?_
  refine wg rfl rfl (fun hb => Spec.len (Has.u rfl hb) Try.underlying36) ?_
  refine wg rfl rfl (fun hb => Spec.geqI (Has.u rfl hb) (Has.u rfl hb)) ?_
  refine wo (Spec.or (Has.s rfl) (fun h => Has.u rfl h)) ?_
  refine Walk.nil ?_
  refine Leaf.thenN ?_
  refine CWalk.cond rfl (fun hb => ?_) (fun hb => ?_)
  ·have hm := cond_t hb hm
   refine CWalk.seq ?_
   refine CWalk.region ?_
   refine wo (Spec.assign Has.int) ?_
   refine Walk.nil ?_
   refine Leaf.thenN ?_
   refine CWalk.ret ?_
   refine Leaf.thenR ?_
   obtain rfl := Option.some.inj hm
   exact Leaf.retC1 rfl (HasR.cv (HasR.tmp (Has.s rfl)) Cv.fl)
  ·have hm := cond_f hb hm
   refine CWalk.skip ?_
   refine Leaf.thenN ?_
   refine CWalk.seq ?_
   refine CWalk.region ?_
   refine wo (Spec.assign Has.int) ?_
   refine Walk.nil ?_
   refine Leaf.thenN ?_
   refine CWalk.ret ?_
   obtain rfl := Option.some.inj hm
   exact Leaf.retC1 rfl (HasR.cv (HasR.tmp (Has.s rfl)) Cv.fl)

/-- freeboard/disk.write -/
def disk_write (a0 : Disk) (a1 : Int) (a2 : List UInt8) : Option (Int) :=
  Option.bind (disk_place a0 a1) (fun x1 => (bif (x1 != (0 : Int)) then some x1 else Option.bind (disk_odd a2) (fun x2 => (bif x2 then some (3 : Int) else (bif a0.Dead then some (40 : Int) else some (0 : Int))))))
set_option maxRecDepth 100000 in
set_option maxHeartbeats 2000000 in
theorem disk_write_c (a0 : Disk) (a1 : Int) (a2 : List UInt8) {r : Int} (hm : disk_write a0 a1 a2 = some r) : Ctr Try.prog 102 [.rep 0 a0, .rep 0 a1, .rep 0 a2] (.fl r) [] := by
 refine ctr_of_walk [[]] 21 Try.func102 rfl rfl rfl rfl (fun w0 om => ?_)
 unfold disk_write at hm
 refine CWalk.sub (G' := [.fact 0 (.rep [0] (a0 : Disk)), .fact 1 (.rep [] (a1 : Int)), .fact 2 (.rep [0] (a2 : List UInt8))]) (sn (Sub.cons (Has.fl (Has.s rfl)) (sn Sub.nil))) ?_
 refine CWalk.seq ?_
 refine CWalk.region ?_
 refine ws (Step.boxObj (ls := [(false, 1, Fact.rep [0] a0.Blocks), (false, 1, Fact.rep [0] a0.Wait), (false, 1, Fact.rep [] a0.Dead)]) 10 rfl rfl rfl rfl (HasL.flds (Has.cv (Has.s rfl) (Cv.trans (Cv.opens (chDisk a0)) (Cv.flds (CvL.cons Cv.refl (CvL.cons Cv.refl (CvL.cons Cv.fl CvL.nil)))))))) ?_
 refine wo (Spec.assign Has.int) ?_
 refine Walk.nil ?_
 refine Leaf.thenN ?_
 refine CWalk.seq ?_
 refine CWalk.region ?_
 refine wo (Spec.loadObj (ls := [(false, 1, Fact.rep [0] a0.Blocks), (false, 1, Fact.rep [0] a0.Wait), (false, 1, Fact.rep [] a0.Dead)]) ty61 rfl rfl (Has.s rfl) rfl (HasGs.cons (HasG.s rfl) (HasGs.cons (HasG.s rfl) (HasGs.cons (HasG.s rfl) HasGs.nil)))) ?_
 refine mv ?_
 obtain ⟨x1, hx1, hm⟩ := bind_some hm
 refine wo (f := Fact.rep [] (x1 : Int)) (Spec.callE [0] 14 rfl en76 (disk_place_c a0 a1 hx1) (HasAll.cons (Has.m (Has.cv (Has.s rfl) (Cv.trans (Cv.flds (CvL.cons (Cv.m rfl) (CvL.cons (Cv.m rfl) (CvL.cons Cv.fl CvL.nil)))) (Cv.close (T := [0]) (chDisk a0)))) rfl) (HasAll.cons (Has.fl (Has.s rfl)) HasAll.nil))) ?_
 refine wo (Spec.assign (Has.s rfl)) ?_
 refine Walk.nil ?_
 refine Leaf.thenN ?_
 refine CWalk.seq ?_
 refine CWalk.block ?_
 refine CWalk.seq ?_
 refine CWalk.region ?_
 refine mv ?_
 refine wo (Spec.neqI (Has.s rfl) Has.int) ?_
 refine wo (Spec.assign (Has.s rfl)) ?_
 refine Walk.nil ?_
 refine Leaf.thenN ?_
 refine CWalk.cond rfl (fun hb => ?_) (fun hb => ?_)
 ·have hm := cond_t hb hm
  refine CWalk.seq ?_
  refine CWalk.region ?_
  refine mv ?_
  refine wo (Spec.assign (Has.s rfl)) ?_
  refine Walk.nil ?_
  refine Leaf.thenN ?_
  refine CWalk.ret ?_
  refine Leaf.blockR ?_
  refine Leaf.thenR ?_
  obtain rfl := Option.some.inj hm
  exact Leaf.retC1 rfl (HasR.cv (HasR.tmp (Has.s rfl)) Cv.fl)
 ·have hm := cond_f hb hm
  refine CWalk.seq ?_
  refine CWalk.region ?_
  refine mv ?_
  obtain ⟨x2, hx2, hm⟩ := bind_some hm
  refine wo (f := Fact.rep [] (x2 : Bool)) (Spec.callE [0] 15 rfl en66 (disk_odd_c a2 hx2) (HasAll.cons (Has.m (Has.s rfl) rfl) HasAll.nil)) ?_
  refine wo (Spec.assign (Has.s rfl)) ?_
  refine Walk.nil ?_
  refine Leaf.thenN ?_
  refine CWalk.cond rfl (fun hb => ?_) (fun hb => ?_)
  ·have hm := cond_t hb hm
   refine CWalk.seq ?_
   refine CWalk.region ?_
   refine wo (Spec.assign Has.int) ?_
   refine Walk.nil ?_
   refine Leaf.thenN ?_
   refine CWalk.ret ?_
   refine Leaf.blockR ?_
   refine Leaf.thenR ?_
   obtain rfl := Option.some.inj hm
   exact Leaf.retC1 rfl (HasR.cv (HasR.tmp (Has.s rfl)) Cv.fl)
  ·have hm := cond_f hb hm
   refine CWalk.seq ?_
   refine CWalk.region ?_
   refine wo (Spec.fieldAddrO fd61_2 (Has.cv (Has.s rfl) (Cv.isvP rfl))) ?_
   refine wo (Spec.loadF (i := 2) ty4 rfl (Has.s rfl) rfl (HasG.s rfl)) ?_
   refine wo (Spec.assign (Has.s rfl)) ?_
   refine Walk.nil ?_
   refine Leaf.thenN ?_
   refine CWalk.cond rfl (fun hb => ?_) (fun hb => ?_)
   ·have hm := cond_t hb hm
    refine CWalk.seq ?_
    refine CWalk.region ?_
    refine wo (Spec.assign Has.int) ?_
    refine Walk.nil ?_
    refine Leaf.thenN ?_
    refine CWalk.ret ?_
    refine Leaf.blockR ?_
    refine Leaf.thenR ?_
    obtain rfl := Option.some.inj hm
    exact Leaf.retC1 rfl (HasR.cv (HasR.tmp (Has.s rfl)) Cv.fl)
   ·have hm := cond_f hb hm
    refine CWalk.skip ?_
    refine Leaf.blockN ?_
    refine Leaf.thenN ?_
    refine CWalk.seq ?_
    refine CWalk.region ?_
    refine wo (Spec.assign Has.int) ?_
    refine Walk.nil ?_
    refine Leaf.thenN ?_
    refine CWalk.ret ?_
    obtain rfl := Option.some.inj hm
    exact Leaf.retC1 rfl (HasR.cv (HasR.tmp (Has.s rfl)) Cv.fl)

/-- freeboard/disk.block -/
def disk_block (a0 : List UInt8) : Option ((List UInt8)) :=
  (bif (((a0).length : Int) == (0 : Int)) then Option.bind (makeL (0 : UInt8) (128 : Int)) (fun x1 => some x1) else Option.bind (slices_Clone_byte_byte a0) (fun x2 => some x2))
set_option maxRecDepth 100000 in
set_option maxHeartbeats 2000000 in
theorem disk_block_c (a0 : List UInt8) {r : (List UInt8)} (hm : disk_block a0 = some r) : Ctr Try.prog 48 [.rep 0 a0] (.own 0 none 5 r) [] := by
 refine ctr_of_walk [[10, 11]] 9 Try.func48 rfl rfl rfl rfl (fun w0 om => ?_)
 unfold disk_block at hm
 refine CWalk.sub (G' := [.fact 0 (.rep [0] (a0 : List UInt8))]) (sn Sub.nil) ?_
 refine CWalk.seq ?_
 refine CWalk.region ?_
 refine wo (Spec.assign Has.nilv) ?_
 refine Walk.nil ?_
 refine Leaf.thenN ?_
 refine CWalk.seq ?_
 refine CWalk.seq ?_
 refine CWalk.region ?_
 refine mv ?_
 refine wo (Spec.len (Has.s rfl) Try.underlying37) ?_
 refine wo (Spec.eqlI (Has.s rfl) Has.int) ?_
 refine Walk.nil ?_
 refine Leaf.thenN ?_
 refine CWalk.cond rfl (fun hb => ?_) (fun hb => ?_)
 ·have hm := cond_t hb hm
  refine CWalk.seq ?_
  refine CWalk.region ?_
  obtain ⟨x1, hx1, hm⟩ := bind_some hm
  refine ws (Step.makeOwn 10 hx1 rfl rfl ow37 zt5 Has.int) ?_
  refine wo (Spec.assign (Has.s rfl)) ?_
  refine Walk.nil ?_
  refine Leaf.thenN ?_
  refine CWalk.ret ?_
  refine Leaf.thenR ?_
  obtain rfl := Option.some.inj hm
  exact Leaf.retC1 rfl (HasR.cv (HasR.tmp (Has.s rfl)) (Cv.trans (Cv.isvOw rfl) (Cv.owF (T := [10]) (te := []) rfl)))
 ·have hm := cond_f hb hm
  refine CWalk.skip ?_
  refine Leaf.thenN ?_
  refine CWalk.seq ?_
  refine CWalk.region ?_
  refine mv ?_
  obtain ⟨x2, hx2, hm⟩ := bind_some hm
  refine wo (f := Fact.ow [11] [] 5 (x2 : List UInt8)) (Spec.callE [0] 11 rfl en78 (slices_Clone_byte_byte_c a0 hx2) (HasAll.cons (Has.m (Has.s rfl) rfl) HasAll.nil)) ?_
  refine wo (Spec.assign (Has.s rfl)) ?_
  refine Walk.nil ?_
  refine Leaf.thenN ?_
  refine CWalk.ret ?_
  obtain rfl := Option.some.inj hm
  exact Leaf.retC1 rfl (HasR.cv (HasR.tmp (Has.s rfl)) (Cv.owF (T := [11]) (te := []) rfl))

/-- freeboard/disk.Write -/
def disk_Write (a0 : Disk) (a1 : Int) (a2 : List UInt8) : Option (Disk × Int) :=
  Option.bind (disk_write a0 a1 a2) (fun x1 => (bif (x1 != (0 : Int)) then some ((Disk.mk ([] : List (List UInt8)) ([] : List Write) false), x1) else (bif (((a0.Wait).length : Int) == (1024 : Int)) then some ((Disk.mk ([] : List (List UInt8)) ([] : List Write) false), (9 : Int)) else Option.bind (disk_Twin a0) (fun x2 => Option.bind (disk_block a2) (fun x3 => Option.bind (app x2.Wait ([(Write.mk a1 x3)])) (fun x4 => some ((Disk.mk x2.Blocks x4 x2.Dead), (0 : Int))))))))
set_option maxRecDepth 100000 in
set_option maxHeartbeats 2000000 in
theorem disk_Write_c (a0 : Disk) (a1 : Int) (a2 : List UInt8) {r : Disk × Int} (hm : disk_Write a0 a1 a2 = some r) : Ctr Try.prog 95 [.rep 0 a0, .rep 0 a1, .rep 0 a2] (.tup2 (.flds [(false, 1, (.own 0 (some 1) 37 r.1.Blocks)), (false, 1, (.own 2 (some 3) 86 r.1.Wait)), (false, 1, (.fl r.1.Dead))]) (.fl r.2)) [] := by
 refine ctr_of_walk [[19], [20], [21], [22, 23, 24]] 34 Try.func95 rfl rfl rfl rfl (fun w0 om => ?_)
 unfold disk_Write at hm
 refine CWalk.sub (G' := [.fact 0 (.rep [0] (a0 : Disk)), .fact 1 (.rep [] (a1 : Int)), .fact 2 (.rep [0] (a2 : List UInt8))]) (sn (Sub.cons (Has.fl (Has.s rfl)) (sn Sub.nil))) ?_
 refine CWalk.seq ?_
 refine CWalk.region ?_
 refine ws (Step.boxObj (ls := [(false, 1, Fact.rep [0] a0.Blocks), (false, 1, Fact.rep [0] a0.Wait), (false, 1, Fact.rep [] a0.Dead)]) 10 rfl rfl rfl rfl (HasL.flds (Has.cv (Has.s rfl) (Cv.trans (Cv.opens (chDisk a0)) (Cv.flds (CvL.cons Cv.refl (CvL.cons Cv.refl (CvL.cons Cv.fl CvL.nil)))))))) ?_
 refine ws (Step.allocObj (ls := [(false, 1, Fact.nilv), (false, 1, Fact.nilv), (false, 1, Fact.rep [] (false : Bool))]) 14 rfl rfl rfl rfl zl61) ?_
 refine wo (Spec.assign Has.int) ?_
 refine Walk.nil ?_
 refine Leaf.thenN ?_
 refine CWalk.seq ?_
 refine CWalk.seq ?_
 refine CWalk.region ?_
 refine wo (Spec.loadObj (ls := [(false, 1, Fact.rep [0] a0.Blocks), (false, 1, Fact.rep [0] a0.Wait), (false, 1, Fact.rep [] a0.Dead)]) ty61 rfl rfl (Has.s rfl) rfl (HasGs.cons (HasG.s rfl) (HasGs.cons (HasG.s rfl) (HasGs.cons (HasG.s rfl) HasGs.nil)))) ?_
 refine mv ?_
 refine mv ?_
 obtain ⟨x1, hx1, hm⟩ := bind_some hm
 refine wo (f := Fact.rep [] (x1 : Int)) (Spec.callE [0] 18 rfl en102 (disk_write_c a0 a1 a2 hx1) (HasAll.cons (Has.m (Has.cv (Has.s rfl) (Cv.trans (Cv.flds (CvL.cons (Cv.m rfl) (CvL.cons (Cv.m rfl) (CvL.cons Cv.fl CvL.nil)))) (Cv.close (T := [0]) (chDisk a0)))) rfl) (HasAll.cons (Has.fl (Has.s rfl)) (HasAll.cons (Has.m (Has.s rfl) rfl) HasAll.nil)))) ?_
 refine wo (Spec.assign (Has.s rfl)) ?_
 refine Walk.nil ?_
 refine Leaf.thenN ?_
 refine CWalk.seq ?_
 refine CWalk.region ?_
 refine mv ?_
 refine wo (Spec.neqI (Has.s rfl) Has.int) ?_
 refine Walk.nil ?_
 refine Leaf.thenN ?_
 refine CWalk.cond rfl (fun hb => ?_) (fun hb => ?_)
 ·have hm := cond_t hb hm
  refine CWalk.seq ?_
  refine CWalk.region ?_
  refine wo (Spec.build (us := []) (ls' := [(false, 1, Fact.nilv), (false, 1, Fact.nilv), (false, 1, Fact.rep [] (false : Bool))]) bd61 rfl BP.nil) ?_
  refine mv ?_
  refine ws (Step.storeObj (ls := [(false, 1, Fact.nilv), (false, 1, Fact.nilv), (false, 1, Fact.rep [] (false : Bool))]) rfl ty61 rfl rfl (Has.s rfl) rfl (HasL.flds (Has.s rfl)) rfl) ?_
  refine wo (Spec.assign (Has.s rfl)) ?_
  refine Walk.nil ?_
  refine Leaf.thenN ?_
  refine CWalk.ret ?_
  refine Leaf.thenR ?_
  obtain rfl := Option.some.inj hm
  exact Leaf.retC2 rfl (HasR.cv (HasR.obj (ls := [(false, 1, Fact.nilv), (false, 1, Fact.nilv), (false, 1, Fact.rep [] (false : Bool))]) ty61 rfl rfl (Has.s rfl) rfl (HasGs.cons (HasG.s rfl) (HasGs.cons (HasG.s rfl) (HasGs.cons (HasG.s rfl) HasGs.nil)))) (Cv.flds (CvL.cons (Cv.trans Cv.nilOw (Cv.owM (T := []) (te := []) rfl rfl)) (CvL.cons (Cv.trans Cv.nilOw (Cv.owM (T := []) (te := []) rfl rfl)) (CvL.cons Cv.fl CvL.nil))))) (HasR.cv (HasR.tmp (Has.s rfl)) Cv.fl)
 ·have hm := cond_f hb hm
  refine CWalk.skip ?_
  refine Leaf.thenN ?_
  refine CWalk.seq ?_
  refine CWalk.seq ?_
  refine CWalk.region ?_
  refine wo (Spec.fieldAddrO fd61_1 (Has.cv (Has.s rfl) (Cv.isvP rfl))) ?_
  refine wo (Spec.loadF (i := 1) ty59 rfl (Has.s rfl) rfl (HasG.s rfl)) ?_
  refine wo (Spec.len (Has.s rfl) Try.underlying59) ?_
  refine wo (Spec.eqlI (Has.s rfl) Has.int) ?_
  refine Walk.nil ?_
  refine Leaf.thenN ?_
  refine CWalk.cond rfl (fun hb => ?_) (fun hb => ?_)
  ·have hm := cond_t hb hm
   refine CWalk.seq ?_
   refine CWalk.region ?_
   refine wo (Spec.build (us := []) (ls' := [(false, 1, Fact.nilv), (false, 1, Fact.nilv), (false, 1, Fact.rep [] (false : Bool))]) bd61 rfl BP.nil) ?_
   refine ws (Step.storeObj (ls := [(false, 1, Fact.nilv), (false, 1, Fact.nilv), (false, 1, Fact.rep [] (false : Bool))]) rfl ty61 rfl rfl (Has.s rfl) rfl (HasL.flds (Has.s rfl)) rfl) ?_
   refine wo (Spec.assign Has.int) ?_
   refine Walk.nil ?_
   refine Leaf.thenN ?_
   refine CWalk.ret ?_
   refine Leaf.thenR ?_
   obtain rfl := Option.some.inj hm
   exact Leaf.retC2 rfl (HasR.cv (HasR.obj (ls := [(false, 1, Fact.nilv), (false, 1, Fact.nilv), (false, 1, Fact.rep [] (false : Bool))]) ty61 rfl rfl (Has.s rfl) rfl (HasGs.cons (HasG.s rfl) (HasGs.cons (HasG.s rfl) (HasGs.cons (HasG.s rfl) HasGs.nil)))) (Cv.flds (CvL.cons (Cv.trans Cv.nilOw (Cv.owM (T := []) (te := []) rfl rfl)) (CvL.cons (Cv.trans Cv.nilOw (Cv.owM (T := []) (te := []) rfl rfl)) (CvL.cons Cv.fl CvL.nil))))) (HasR.cv (HasR.tmp (Has.s rfl)) Cv.fl)
  ·have hm := cond_f hb hm
   refine CWalk.skip ?_
   refine Leaf.thenN ?_
   refine CWalk.seq ?_
   refine CWalk.region ?_
   refine wo (Spec.loadObj (ls := [(false, 1, Fact.rep [0] a0.Blocks), (false, 1, Fact.rep [0] a0.Wait), (false, 1, Fact.rep [] a0.Dead)]) ty61 rfl rfl (Has.s rfl) rfl (HasGs.cons (HasG.s rfl) (HasGs.cons (HasG.s rfl) (HasGs.cons (HasG.s rfl) HasGs.nil)))) ?_
   obtain ⟨x2, hx2, hm⟩ := bind_some hm
   refine wo (f := Fact.flds [(false, 1, Fact.ow [19] [20] 37 (x2.Blocks : List (List UInt8))), (false, 1, Fact.ow [21] [22] 86 (x2.Wait : List Write)), (false, 1, Fact.rep [] x2.Dead)]) (Spec.callE [0] 19 rfl en50 (disk_Twin_c a0 hx2) (HasAll.cons (Has.m (Has.cv (Has.s rfl) (Cv.trans (Cv.flds (CvL.cons (Cv.m rfl) (CvL.cons (Cv.m rfl) (CvL.cons Cv.fl CvL.nil)))) (Cv.close (T := [0]) (chDisk a0)))) rfl) HasAll.nil)) ?_
   refine ws (Step.storeObj (ls := [(false, 1, Fact.ow [19] [20] 37 (x2.Blocks : List (List UInt8))), (false, 1, Fact.ow [21] [22] 86 (x2.Wait : List Write)), (false, 1, Fact.rep [] x2.Dead)]) rfl ty61 rfl rfl (Has.s rfl) rfl (HasL.flds (Has.s rfl)) rfl) ?_
   refine Walk.nil ?_
   refine Leaf.thenN ?_
   refine CWalk.seq ?_
   obtain ⟨x3, hx3, hm⟩ := bind_some hm
   obtain ⟨x4, hx4, hm⟩ := bind_some hm
   refine CWalk.drawM [[], [0], [], [], [3], [2, 3, 4], [2, 3, 4, 5], [0, 1, 2, 3, 4, 5, 6], [0, 1, 2, 3, 4, 5, 6, 7], [0, 1, 2, 3, 4, 5, 6, 7, 8]] [[.fact 24 (.pto 10 1)], [.fact 25 (.ow [21] [22] 86 (x2.Wait : List Write))], [.fact 26 (.rep [] (a1 : Int))], [.fact 27 (.rep [0] (a2 : List UInt8))], [.fact 28 (.ow [23] [] 5 (x3 : List UInt8))], [.fact 29 (.flds [(false, 1, Fact.rep [] (a1 : Int)), (false, 1, Fact.ow [23] [] 5 (x3 : List UInt8))])], [.fact 30 (.rep [24, 23] ([(Write.mk a1 x3)] : List Write))], [.fact 31 (.ow [21] [22, 23, 24] 86 (x4 : List Write)), .kill 21], [.fact 32 (.pto 10 1)], [.fact 100012 (.at 12 (.ow [21] [22, 23, 24] 86 (x4 : List Write))), .fact 100010 (.obj 10 [(false, 1), (false, 1), (false, 1)]), .kill 10, .killId 12]] mixed (by kernel_rfl) (ao (so (Spec.fieldAddrO fd61_1 (Has.cv (Has.s rfl) (Cv.isvP rfl)))) (ao (so (Spec.loadF (i := 1) ty59 rfl (Has.s rfl) rfl (HasG.s rfl))) (ao (so (Spec.move (Has.s rfl))) (ao (so (Spec.move (Has.s rfl))) (ao (so (Spec.callE [0] 23 rfl en48 (disk_block_c a2 hx3) (HasAll.cons (Has.m (Has.s rfl) rfl) HasAll.nil))) (ao (so (Spec.build (us := [(0, .tmp 26), (1, .tmp 28)]) (ls' := [(false, 1, Fact.rep [] (a1 : Int)), (false, 1, Fact.ow [23] [] 5 (x3 : List UInt8))]) bd86 rfl (BP.cons rfl rfl (Has.s rfl) (Has.s rfl) (BP.cons rfl rfl (Has.cv (Has.s rfl) (Cv.trans Cv.owSl (Cv.slRep (T' := [23]) rfl rfl))) (Has.s rfl) BP.nil)))) (ao (so (Spec.lit (xs := [.tmp 29]) (T := [23]) 24 rfl ow59 rfl rfl rfl rfl (HasEach.cons (Has.m (Has.cv (Has.s rfl) (Cv.trans (Cv.flds (CvL.cons Cv.fl (CvL.cons (Cv.trans (Cv.trans Cv.owSl (Cv.slRep (T' := [23]) rfl rfl)) (Cv.m rfl)) CvL.nil))) (Cv.close (T := [23]) (chWrite (Write.mk a1 x3))))) rfl) HasEach.nil))) (ao (StepG.stE (Step.appendOw (T := [21]) (te' := [22, 23, 24]) hx4 rfl rfl rfl ow59 (Has.s rfl) (Has.s rfl) (ElKeeps.tags rfl rfl) (ElKeeps.tags rfl rfl))) (ao (so (Spec.fieldAddrO fd61_1 (Has.cv (Has.s rfl) (Cv.isvP rfl)))) (ao (StepG.stE (Step.storeF (i := 1) (f := Fact.ow [21] [22, 23, 24] 86 (x4 : List Write)) rfl ty59 rfl (Has.s rfl) rfl (Has.cv (Has.s rfl) (Cv.trans Cv.owSl (Cv.slRep (T' := [21, 22, 23, 24]) rfl rfl))) (Has.s rfl) rfl)) AllM.nil)))))))))) ?_
   refine Leaf.thenN ?_
   refine CWalk.seq ?_
   refine CWalk.region ?_
   refine wo (Spec.loadObj (ls := [(false, 1, Fact.ow [19] [20] 37 (x2.Blocks : List (List UInt8))), (false, 1, Fact.ow [21] [22, 23, 24] 86 (x4 : List Write)), (false, 1, Fact.rep [] x2.Dead)]) ty61 rfl rfl (Has.s rfl) rfl (HasGs.cons (HasG.s rfl) (HasGs.cons (HasG.s rfl) (HasGs.cons (HasG.s rfl) HasGs.nil)))) ?_
   refine ws (Step.storeObj (ls := [(false, 1, Fact.ow [19] [20] 37 (x2.Blocks : List (List UInt8))), (false, 1, Fact.ow [21] [22, 23, 24] 86 (x4 : List Write)), (false, 1, Fact.rep [] x2.Dead)]) rfl ty61 rfl rfl (Has.s rfl) rfl (HasL.flds (Has.s rfl)) rfl) ?_
   refine wo (Spec.assign Has.int) ?_
   refine Walk.nil ?_
   refine Leaf.thenN ?_
   refine CWalk.ret ?_
   obtain rfl := Option.some.inj hm
   exact Leaf.retC2 rfl (HasR.cv (HasR.obj (ls := [(false, 1, Fact.ow [19] [20] 37 (x2.Blocks : List (List UInt8))), (false, 1, Fact.ow [21] [22, 23, 24] 86 (x4 : List Write)), (false, 1, Fact.rep [] x2.Dead)]) ty61 rfl rfl (Has.s rfl) rfl (HasGs.cons (HasG.s rfl) (HasGs.cons (HasG.s rfl) (HasGs.cons (HasG.s rfl) HasGs.nil)))) (Cv.flds (CvL.cons (Cv.owM (T := [19]) (te := [20]) rfl rfl) (CvL.cons (Cv.owM (T := [21]) (te := [22, 23, 24]) rfl rfl) (CvL.cons Cv.fl CvL.nil))))) (HasR.cv (HasR.tmp (Has.s rfl)) Cv.fl)

/-- (freeboard/acts.act).write -/
def acts_act_write (a0 : Act45) (a1 : Disk) : Option (Disk × Int) :=
  Option.bind (disk_Write a1 a0.At a0.Data) (fun x1 => some (x1.1, x1.2))
set_option maxRecDepth 100000 in
set_option maxHeartbeats 2000000 in
theorem acts_act_write_c (a0 : Act45) (a1 : Disk) {r : Disk × Int} (hm : acts_act_write a0 a1 = some r) : Ctr Try.prog 73 [.rep 0 a0, .rep 0 a1] (.tup2 (.flds [(false, 1, (.own 0 (some 1) 37 r.1.Blocks)), (false, 1, (.own 2 (some 3) 86 r.1.Wait)), (false, 1, (.fl r.1.Dead))]) (.fl r.2)) [] := by
 refine ctr_of_walk [[23], [24], [25], [26]] 14 Try.func73 rfl rfl rfl rfl (fun w0 om => ?_)
 unfold acts_act_write at hm
 refine CWalk.sub (G' := [.fact 0 (.rep [0] (a0 : Act45)), .fact 1 (.rep [0] (a1 : Disk))]) (sn (sn Sub.nil)) ?_
 refine CWalk.seq ?_
 refine CWalk.region ?_
 refine ws (Step.boxObj (ls := [(false, 1, Fact.rep [] a0.Disk), (false, 1, Fact.rep [] a0.Kind), (false, 1, Fact.rep [] a0.At), (false, 1, Fact.rep [0] a0.Data)]) 10 rfl rfl rfl rfl (HasL.flds (Has.cv (Has.s rfl) (Cv.trans (Cv.opens (chAct45 a0)) (Cv.flds (CvL.cons Cv.fl (CvL.cons Cv.fl (CvL.cons Cv.fl (CvL.cons Cv.refl CvL.nil))))))))) ?_
 refine ws (Step.boxObj (ls := [(false, 1, Fact.rep [0] a1.Blocks), (false, 1, Fact.rep [0] a1.Wait), (false, 1, Fact.rep [] a1.Dead)]) 15 rfl rfl rfl rfl (HasL.flds (Has.cv (Has.s rfl) (Cv.trans (Cv.opens (chDisk a1)) (Cv.flds (CvL.cons Cv.refl (CvL.cons Cv.refl (CvL.cons Cv.fl CvL.nil)))))))) ?_
 refine ws (Step.allocObj (ls := [(false, 1, Fact.nilv), (false, 1, Fact.nilv), (false, 1, Fact.rep [] (false : Bool))]) 19 rfl rfl rfl rfl zl61) ?_
 refine wo (Spec.assign Has.int) ?_
 refine Walk.nil ?_
 refine Leaf.thenN ?_
 refine CWalk.seq ?_
 refine CWalk.region ?_
 refine wo (Spec.loadObj (ls := [(false, 1, Fact.rep [0] a1.Blocks), (false, 1, Fact.rep [0] a1.Wait), (false, 1, Fact.rep [] a1.Dead)]) ty61 rfl rfl (Has.s rfl) rfl (HasGs.cons (HasG.s rfl) (HasGs.cons (HasG.s rfl) (HasGs.cons (HasG.s rfl) HasGs.nil)))) ?_
 refine wo (Spec.fieldAddrO fd98_2 (Has.cv (Has.s rfl) (Cv.isvP rfl))) ?_
 refine wo (Spec.loadF (i := 2) ty3 rfl (Has.s rfl) rfl (HasG.s rfl)) ?_
 refine wo (Spec.fieldAddrO fd98_3 (Has.cv (Has.s rfl) (Cv.isvP rfl))) ?_
 refine wo (Spec.loadF (i := 3) ty37 rfl (Has.s rfl) rfl (HasG.s rfl)) ?_
 obtain ⟨x1, hx1, hm⟩ := bind_some hm
 refine wo (f := Fact.tup2 (Fact.flds [(false, 1, Fact.ow [23] [24] 37 (x1.1.Blocks : List (List UInt8))), (false, 1, Fact.ow [25] [26] 86 (x1.1.Wait : List Write)), (false, 1, Fact.rep [] x1.1.Dead)]) (Fact.rep [] x1.2)) (Spec.callE [0] 23 rfl en95 (disk_Write_c a1 a0.At a0.Data hx1) (HasAll.cons (Has.m (Has.cv (Has.s rfl) (Cv.trans (Cv.flds (CvL.cons (Cv.m rfl) (CvL.cons (Cv.m rfl) (CvL.cons Cv.fl CvL.nil)))) (Cv.close (T := [0]) (chDisk a1)))) rfl) (HasAll.cons (Has.fl (Has.s rfl)) (HasAll.cons (Has.m (Has.s rfl) rfl) HasAll.nil)))) ?_
 refine wo (Spec.ext0 (Has.s rfl)) ?_
 refine wo (Spec.ext1 (Has.s rfl)) ?_
 refine ws (Step.storeObj (ls := [(false, 1, Fact.ow [23] [24] 37 (x1.1.Blocks : List (List UInt8))), (false, 1, Fact.ow [25] [26] 86 (x1.1.Wait : List Write)), (false, 1, Fact.rep [] x1.1.Dead)]) rfl ty61 rfl rfl (Has.s rfl) rfl (HasL.flds (Has.s rfl)) rfl) ?_
 refine wo (Spec.assign (Has.s rfl)) ?_
 refine Walk.nil ?_
 refine Leaf.thenN ?_
 refine CWalk.ret ?_
 obtain rfl := Option.some.inj hm
 exact Leaf.retC2 rfl (HasR.cv (HasR.obj (ls := [(false, 1, Fact.ow [23] [24] 37 (x1.1.Blocks : List (List UInt8))), (false, 1, Fact.ow [25] [26] 86 (x1.1.Wait : List Write)), (false, 1, Fact.rep [] x1.1.Dead)]) ty61 rfl rfl (Has.s rfl) rfl (HasGs.cons (HasG.s rfl) (HasGs.cons (HasG.s rfl) (HasGs.cons (HasG.s rfl) HasGs.nil)))) (Cv.flds (CvL.cons (Cv.owM (T := [23]) (te := [24]) rfl rfl) (CvL.cons (Cv.owM (T := [25]) (te := [26]) rfl rfl) (CvL.cons Cv.fl CvL.nil))))) (HasR.cv (HasR.tmp (Has.s rfl)) Cv.fl)

/-- freeboard/disk.Fua$1 -/
def disk_Fua_1 (a0 : Write) (a1 : Int) : Option (Bool) :=
  some (a0.At == a1)
set_option maxRecDepth 100000 in
set_option maxHeartbeats 2000000 in
theorem disk_Fua_1_c (a0 : Write) (a1 : Int) {r : Bool} (hm : disk_Fua_1 a0 a1 = some r) : Ctr Try.prog 104 [.rep 0 a0, .ptr 0 a1] (.fl r) [] := by
 refine ctr_of_walk [[]] 8 Try.func104 rfl rfl rfl rfl (fun w0 om => ?_)
 unfold disk_Fua_1 at hm
 refine CWalk.sub (G' := [.fact 0 (.rep [0] (a0 : Write)), .fact 1 (.ptr [0] (a1 : Int))]) (sn (sn Sub.nil)) ?_
 refine CWalk.seq ?_
 refine CWalk.region ?_
 refine ws (Step.boxObj (ls := [(false, 1, Fact.rep [] a0.At), (false, 1, Fact.rep [0] a0.Data)]) 10 rfl rfl rfl rfl (HasL.flds (Has.cv (Has.s rfl) (Cv.trans (Cv.opens (chWrite a0)) (Cv.flds (CvL.cons Cv.fl (CvL.cons Cv.refl CvL.nil))))))) ?_
 refine wo (Spec.assign Has.bool) ?_
 refine Walk.nil ?_
 refine Leaf.thenN ?_
 refine CWalk.seq ?_
 refine CWalk.region ?_
 refine wo (Spec.fieldAddrO fd86_0 (Has.cv (Has.s rfl) (Cv.isvP rfl))) ?_
 refine wo (Spec.loadF (i := 0) ty3 rfl (Has.s rfl) rfl (HasG.s rfl)) ?_
 refine wo ((Spec.load ty3 (Has.s rfl)).flat (T' := [])) ?_
 refine wo (Spec.eqlI (Has.s rfl) (Has.s rfl)) ?_
 refine wo (Spec.assign (Has.s rfl)) ?_
 refine Walk.nil ?_
 refine Leaf.thenN ?_
 refine CWalk.ret ?_
 obtain rfl := Option.some.inj hm
 exact Leaf.retC1 rfl (HasR.cv (HasR.tmp (Has.s rfl)) Cv.fl)

def disk_Fua_J1 (x2 : Disk) (x3 : (List UInt8)) (x4 : Nat) (j5 : List Write) : Option (Disk × Int) :=
  some ((Disk.mk ((x2.Blocks).set x4 x3) j5 x2.Dead), (0 : Int))
def disk_Fua_J3 (s9 : Int) (j11 : List Write) (j12 : Int) : Option (Ctl ((List Write) × Int × Int) ((List Write) × Int)) :=
  some (Ctl.next (j11, j12, (wI (s9 + (1 : Int)))))
def disk_Fua_J4 (a1 : Int) (s7 : List Write) (s8 : Int) (s9 : Int) (x13 : Write) : Option (Ctl ((List Write) × Int × Int) ((List Write) × Int)) :=
  (bif (!(x13.At == a1)) then Option.bind (bnd (s7).length s8) (fun x14 => (disk_Fua_J3 s9 ((s7).set x14 x13) (wI (s8 + (1 : Int))))) else (disk_Fua_J3 s9 s7 s8))
def disk_Fua_L2 (a1 : Int) (s7 : List Write) (s8 : Int) (s9 : Int) : Option (Ctl ((List Write) × Int × Int) ((List Write) × Int)) :=
  (bif (decide (s9 < ((s7).length : Int))) then Option.bind (idx s7 s9) (fun x13 => (disk_Fua_J4 a1 s7 s8 s9 x13)) else some (Ctl.brk (s7, s8)))
/-- freeboard/disk.Fua -/
def disk_Fua (a0 : Disk) (a1 : Int) (a2 : List UInt8) : Option (Disk × Int) :=
  Option.bind (disk_write a0 a1 a2) (fun x1 => (bif (x1 != (0 : Int)) then some ((Disk.mk ([] : List (List UInt8)) ([] : List Write) false), x1) else Option.bind (disk_Twin a0) (fun x2 => Option.bind (disk_block a2) (fun x3 => Option.bind (bnd (x2.Blocks).length a1) (fun x4 => Option.bind (slices_IndexFunc_api_Write_api_Write x2.Wait (fun y => disk_Fua_1 y a1)) (fun x6 => (bif (x6 == (-1 : Int)) then (disk_Fua_J1 x2 x3 x4 x2.Wait) else Option.bind (loopM (fun s : (List Write) × Int × Int => disk_Fua_L2 a1 s.1 s.2.1 s.2.2) FUEL (x2.Wait, x6, (wI (x6 + (1 : Int))))) (fun b15 => Option.bind (slc b15.1 b15.2 (b15.1).length) (fun x16 => Option.bind (slc ((b15.1).take (Int.toNat b15.2) ++ List.replicate ((b15.1).length - (Int.toNat b15.2)) (Write.mk (0 : Int) ([] : List UInt8))) 0 b15.2) (fun x17 => (disk_Fua_J1 x2 x3 x4 x17)))))))))))
set_option maxRecDepth 100000 in
set_option maxHeartbeats 2000000 in
theorem disk_Fua_c (a0 : Disk) (a1 : Int) (a2 : List UInt8) {r : Disk × Int} (hm : disk_Fua a0 a1 a2 = some r) : Ctr Try.prog 96 [.rep 0 a0, .rep 0 a1, .rep 0 a2] (.tup2 (.flds [(false, 1, (.own 0 (some 1) 37 r.1.Blocks)), (false, 1, (.own 2 (some 3) 86 r.1.Wait)), (false, 1, (.fl r.1.Dead))]) (.fl r.2)) [] := by
 refine ctr_of_walk [[25], [22, 26], [23, 35], [24]] 31 Try.func96 rfl rfl rfl rfl (fun w0 om => ?_)
 unfold disk_Fua at hm
 refine CWalk.sub (G' := [.fact 0 (.rep [0] (a0 : Disk)), .fact 1 (.rep [] (a1 : Int)), .fact 2 (.rep [0] (a2 : List UInt8))]) (sn (Sub.cons (Has.fl (Has.s rfl)) (sn Sub.nil))) ?_
 refine CWalk.seq ?_
 refine CWalk.region ?_
 refine ws (Step.boxObj (ls := [(false, 1, Fact.rep [0] a0.Blocks), (false, 1, Fact.rep [0] a0.Wait), (false, 1, Fact.rep [] a0.Dead)]) 10 rfl rfl rfl rfl (HasL.flds (Has.cv (Has.s rfl) (Cv.trans (Cv.opens (chDisk a0)) (Cv.flds (CvL.cons Cv.refl (CvL.cons Cv.refl (CvL.cons Cv.fl CvL.nil)))))))) ?_
 refine ws (Step.boxObj (ls := [(false, 1, Fact.rep [] (a1 : Int))]) 14 rfl rfl rfl rfl (HasL.one (Has.s rfl) rfl (Has.s rfl))) ?_
 refine ws (Step.allocObj (ls := [(false, 1, Fact.nilv), (false, 1, Fact.nilv), (false, 1, Fact.rep [] (false : Bool))]) 16 rfl rfl rfl rfl zl61) ?_
 refine wo (Spec.assign Has.int) ?_
 refine Walk.nil ?_
 refine Leaf.thenN ?_
 refine CWalk.seq ?_
 refine CWalk.seq ?_
 refine CWalk.region ?_
 refine wo (Spec.loadObj (ls := [(false, 1, Fact.rep [0] a0.Blocks), (false, 1, Fact.rep [0] a0.Wait), (false, 1, Fact.rep [] a0.Dead)]) ty61 rfl rfl (Has.s rfl) rfl (HasGs.cons (HasG.s rfl) (HasGs.cons (HasG.s rfl) (HasGs.cons (HasG.s rfl) HasGs.nil)))) ?_
 refine wo (Spec.loadF (i := 0) ty3 rfl (Has.cv (Has.s rfl) (Cv.isvP rfl)) rfl (HasG.s rfl)) ?_
 refine mv ?_
 obtain ⟨x1, hx1, hm⟩ := bind_some hm
 refine wo (f := Fact.rep [] (x1 : Int)) (Spec.callE [0] 20 rfl en102 (disk_write_c a0 a1 a2 hx1) (HasAll.cons (Has.m (Has.cv (Has.s rfl) (Cv.trans (Cv.flds (CvL.cons (Cv.m rfl) (CvL.cons (Cv.m rfl) (CvL.cons Cv.fl CvL.nil)))) (Cv.close (T := [0]) (chDisk a0)))) rfl) (HasAll.cons (Has.fl (Has.s rfl)) (HasAll.cons (Has.m (Has.s rfl) rfl) HasAll.nil)))) ?_
 refine wo (Spec.assign (Has.s rfl)) ?_
 refine Walk.nil ?_
 refine Leaf.thenN ?_
 refine CWalk.seq ?_
 refine CWalk.region ?_
 refine mv ?_
 refine wo (Spec.neqI (Has.s rfl) Has.int) ?_
 refine Walk.nil ?_
 refine Leaf.thenN ?_
 refine CWalk.cond rfl (fun hb => ?_) (fun hb => ?_)
 ·have hm := cond_t hb hm
  refine CWalk.seq ?_
  refine CWalk.region ?_
  refine wo (Spec.build (us := []) (ls' := [(false, 1, Fact.nilv), (false, 1, Fact.nilv), (false, 1, Fact.rep [] (false : Bool))]) bd61 rfl BP.nil) ?_
  refine mv ?_
  refine ws (Step.storeObj (ls := [(false, 1, Fact.nilv), (false, 1, Fact.nilv), (false, 1, Fact.rep [] (false : Bool))]) rfl ty61 rfl rfl (Has.s rfl) rfl (HasL.flds (Has.s rfl)) rfl) ?_
  refine wo (Spec.assign (Has.s rfl)) ?_
  refine Walk.nil ?_
  refine Leaf.thenN ?_
  refine CWalk.ret ?_
  refine Leaf.thenR ?_
  obtain rfl := Option.some.inj hm
  exact Leaf.retC2 rfl (HasR.cv (HasR.obj (ls := [(false, 1, Fact.nilv), (false, 1, Fact.nilv), (false, 1, Fact.rep [] (false : Bool))]) ty61 rfl rfl (Has.s rfl) rfl (HasGs.cons (HasG.s rfl) (HasGs.cons (HasG.s rfl) (HasGs.cons (HasG.s rfl) HasGs.nil)))) (Cv.flds (CvL.cons (Cv.trans Cv.nilOw (Cv.owM (T := []) (te := []) rfl rfl)) (CvL.cons (Cv.trans Cv.nilOw (Cv.owM (T := []) (te := []) rfl rfl)) (CvL.cons Cv.fl CvL.nil))))) (HasR.cv (HasR.tmp (Has.s rfl)) Cv.fl)
 ·have hm := cond_f hb hm
  refine CWalk.skip ?_
  refine Leaf.thenN ?_
  refine CWalk.seq ?_
  refine CWalk.region ?_
  refine wo (Spec.loadObj (ls := [(false, 1, Fact.rep [0] a0.Blocks), (false, 1, Fact.rep [0] a0.Wait), (false, 1, Fact.rep [] a0.Dead)]) ty61 rfl rfl (Has.s rfl) rfl (HasGs.cons (HasG.s rfl) (HasGs.cons (HasG.s rfl) (HasGs.cons (HasG.s rfl) HasGs.nil)))) ?_
  obtain ⟨x2, hx2, hm⟩ := bind_some hm
  refine wo (f := Fact.flds [(false, 1, Fact.ow [21] [22] 37 (x2.Blocks : List (List UInt8))), (false, 1, Fact.ow [23] [24] 86 (x2.Wait : List Write)), (false, 1, Fact.rep [] x2.Dead)]) (Spec.callE [0] 21 rfl en50 (disk_Twin_c a0 hx2) (HasAll.cons (Has.m (Has.cv (Has.s rfl) (Cv.trans (Cv.flds (CvL.cons (Cv.m rfl) (CvL.cons (Cv.m rfl) (CvL.cons Cv.fl CvL.nil)))) (Cv.close (T := [0]) (chDisk a0)))) rfl) HasAll.nil)) ?_
  refine ws (Step.storeObj (ls := [(false, 1, Fact.ow [21] [22] 37 (x2.Blocks : List (List UInt8))), (false, 1, Fact.ow [23] [24] 86 (x2.Wait : List Write)), (false, 1, Fact.rep [] x2.Dead)]) rfl ty61 rfl rfl (Has.s rfl) rfl (HasL.flds (Has.s rfl)) rfl) ?_
  refine Walk.nil ?_
  refine Leaf.thenN ?_
  refine CWalk.seq ?_
  refine CWalk.ad (Ad.owF (i := 11) 25 rfl rfl rfl (ElT.tags rfl) rfl (Cv.owM (T := [21]) (te := [22]) (T' := [21]) (te' := [22]) rfl rfl)) ?_
  obtain ⟨x3, hx3, hm⟩ := bind_some hm
  obtain ⟨x4, hx4, hm⟩ := bind_some hm
  refine CWalk.drawM [[], [0], [], [], [3], [0, 1, 2, 3, 4], [0, 1, 2, 3, 4, 5]] [[.fact 19 (.pto 10 0)], [.fact 20 (.isv 25)], [.fact 21 (.rep [] (a1 : Int))], [.fact 22 (.rep [0] (a2 : List UInt8))], [.fact 23 (.ow [26] [] 5 (x3 : List UInt8))], [.fact 24 (.pto 25 (x4 * Rp.n (List UInt8)))], [.fact 100025 (.own 25 [22, 26] 37 ((x2.Blocks).set x4 x3 : List (List UInt8))), .kill 25]] mixed (by kernel_rfl) (ao (so (Spec.fieldAddrO fd61_0 (Has.cv (Has.s rfl) (Cv.isvP rfl)))) (ao (so (Spec.loadF (i := 0) ty36 rfl (Has.s rfl) rfl (HasG.s rfl))) (ao (so (Spec.loadF (i := 0) ty3 rfl (Has.cv (Has.s rfl) (Cv.isvP rfl)) rfl (HasG.s rfl))) (ao (so (Spec.move (Has.s rfl))) (ao (so (Spec.callE [0] 26 rfl en48 (disk_block_c a2 hx3) (HasAll.cons (Has.m (Has.s rfl) rfl) HasAll.nil))) (ao (so (Spec.idxOwn hx4 ow36 (Has.s rfl) rfl (Has.s rfl))) (ao (StepG.stE (Step.storeOwn (te' := [22, 26]) rfl (bnd_lt hx4 rfl) ty37 (Has.s rfl) rfl (Has.cv (Has.s rfl) (Cv.trans Cv.owSl (Cv.slRep (T' := [26]) rfl rfl))) (ElKeep.tags rfl rfl) (ElKeep.tags rfl rfl))) AllM.nil))))))) ?_
  refine Leaf.thenN ?_
  refine CWalk.seq ?_
  refine CWalk.region ?_
  refine wo (Spec.fieldAddrO fd61_1 (Has.cv (Has.s rfl) (Cv.isvP rfl))) ?_
  refine wo (Spec.loadF (i := 1) ty59 rfl (Has.s rfl) rfl (HasG.s rfl)) ?_
  refine wo (Spec.makeFunc (xs := []) (ys := [.tmp 4]) rfl rfl HasF.nil (HasF.cons (Has.s rfl) HasF.nil) (fun _ _ _ => rfl)) ?_
  refine Walk.inline (S := (List Write)) (fun p : (List Write) => [.fact 3 (.isv 10), .fact 6 (.isv 16), .fact 28 (.ow [23, 35] [24] 86 (p : List Write)), .fact 100011 (.at 11 (.isv 25)), .fact 100013 (.at 13 (.rep [] x2.Dead)), .fact 100017 (.at 17 (.nilv)), .fact 100018 (.at 18 (.nilv)), .fact 100019 (.at 19 (.rep [] (false : Bool))), .fact 100010 (.obj 10 [(false, 1), (false, 1), (false, 1)]), .fact 100016 (.obj 16 [(false, 1), (false, 1), (false, 1)]), .fact 100025 (.own 25 [22, 26] 37 ((x2.Blocks).set x4 x3 : List (List UInt8)))]) (fun p : (List Write) => disk_Fua_J1 x2 x3 x4 p = some r) (fun u1 => [.fact 100011 (.at 11 (.isv 25)), .fact 100012 (.at 12 (.ow [23] [24] 86 (x2.Wait : List Write))), .fact 100013 (.at 13 (.rep [] x2.Dead)), .fact 100015 (.at 15 (.rep [] (a1 : Int))), .fact 100017 (.at 17 (.nilv)), .fact 100018 (.at 18 (.nilv)), .fact 100019 (.at 19 (.rep [] (false : Bool))), .fact 902003 (.cst (u1 3) (Fact.isv 10)), .fact 902006 (.cst (u1 6) (Fact.isv 16)), .fact 100014 (.obj 14 [(false, 1)]), .fact 100016 (.obj 16 [(false, 1), (false, 1), (false, 1)]), .fact 100010 (.obj 10 [(false, 1), (false, 1), (false, 1)]), .fact 100025 (.own 25 [22, 26] 37 ((x2.Blocks).set x4 x3 : List (List UInt8)))]) (FA := [Fact.ow [23] [24] 86 (x2.Wait : List Write), Fact.fnv 104 [] [Fact.isv 14]]) rfl Try.func103 rfl rfl rfl (CallOk.fn en103 (HasF.cons (Has.s rfl) (HasF.cons (Has.s rfl) HasF.nil))) (fun u1 => (ck (ck (ck (ck (ck (ck (ck (cs 902000 3 (cs 902000 6 (ck (ck (ck (ck Carry.nil)))))))))))))) (fun u1 => ?_) ?_
  ·refine CWalk.seq ?_
   refine CWalk.region ?_
   refine wo (Spec.assign Has.nilv) ?_
   refine Walk.nil ?_
   refine Leaf.thenN ?_
   refine CWalk.seq ?_
   refine CWalk.region ?_
   refine mv ?_
   refine mv ?_
   obtain ⟨x6, hx6, hm⟩ := bind_some hm
   refine wo (f := Fact.rep [] (x6 : Int)) (Spec.callE [14, 23, 24] 27 rfl en94 (slices_IndexFunc_api_Write_api_Write_c x2.Wait (fun y => disk_Fua_1 y a1) hx6) (HasAll.cons (Has.m (Has.cv (Has.s rfl) (Cv.trans Cv.owSl (Cv.slRep (T' := [23, 24]) rfl rfl))) rfl) (HasAll.cons (Has.cv (Has.s rfl) (Cv.fn (pu := []) (pc := [.ptr 0 a1]) (shc := []) en104 CvF.nil (CvF.cons (Cv.trans (Cv.objPtr1 (f := Fact.rep [] (a1 : Int)) rfl rfl (HasG.s rfl) (Cv.fl (T' := []))) (Cv.ptrM rfl)) CvF.nil) (fun y r h => disk_Fua_1_c y a1 h))) HasAll.nil))) ?_
   refine wo (Spec.assign (Has.s rfl)) ?_
   refine Walk.nil ?_
   refine Leaf.thenN ?_
   refine CWalk.seq ?_
   refine CWalk.seq ?_
   refine CWalk.region ?_
   refine mv ?_
   refine wo (Spec.eqlI (Has.s rfl) Has.int) ?_
   refine Walk.nil ?_
   refine Leaf.thenN ?_
   refine CWalk.cond rfl (fun hb => ?_) (fun hb => ?_)
   ·have hm := cond_t hb hm
    refine CWalk.seq ?_
    refine CWalk.region ?_
    refine mv ?_
    refine wo (Spec.assign (Has.s rfl)) ?_
    refine Walk.nil ?_
    refine Leaf.thenN ?_
    refine CWalk.ret ?_
    refine Leaf.thenR ?_
    exact Leaf.in1 x2.Wait hm rfl rfl (HasR.cv (HasR.tmp (Has.s rfl)) (Cv.owM (T := [23]) (te := [24]) rfl rfl)) (ls 902003 (ls 902006 (Low.res (lg (lf (lg (lg (lf (lo (lo (Low.keepR (fun _ _ _ _ h => h) (Has.ownM (Has.s rfl) rfl) Low.nil)))))))))))
   ·have hm := cond_f hb hm
    refine CWalk.skip ?_
    refine Leaf.thenN ?_
    refine CWalk.seq ?_
    refine CWalk.seq ?_
    refine CWalk.region ?_
    refine mv ?_
    refine wo (Spec.addI (Has.s rfl) Has.int) ?_
    refine wo (Spec.assign (Has.s rfl)) ?_
    refine Walk.nil ?_
    refine Leaf.thenN ?_
    refine CWalk.block ?_
    obtain ⟨b15, hb15, hm⟩ := bind_some hm
    refine CWalk.loop (fun s : (List Write) × Int × Int => [.fact 0 (.ow [23, 34] [24] 86 (s.1 : List Write)), .fact 1 (.fnv 104 [] [Fact.isv 14]), .fact 5 (.rep [] s.2.1), .fact 6 (.rep [] s.2.2), .fact 902003 (.cst (u1 3) (Fact.isv 10)), .fact 902006 (.cst (u1 6) (Fact.isv 16)), .fact 100015 (.at 15 (.rep [] (a1 : Int))), .fact 100011 (.at 11 (.isv 25)), .fact 100013 (.at 13 (.rep [] x2.Dead)), .fact 100017 (.at 17 (.nilv)), .fact 100018 (.at 18 (.nilv)), .fact 100019 (.at 19 (.rep [] (false : Bool))), .fact 100014 (.obj 14 [(false, 1)]), .fact 100010 (.obj 10 [(false, 1), (false, 1), (false, 1)]), .fact 100016 (.obj 16 [(false, 1), (false, 1), (false, 1)]), .fact 100025 (.own 25 [22, 26] 37 ((x2.Blocks).set x4 x3 : List (List UInt8)))]) (fun b : (List Write) × Int => (Exit.exit 0, [.fact 0 (.ow [23, 34] [24] 86 (b.1 : List Write)), .fact 5 (.rep [] b.2), .fact 902003 (.cst (u1 3) (Fact.isv 10)), .fact 902006 (.cst (u1 6) (Fact.isv 16)), .fact 100011 (.at 11 (.isv 25)), .fact 100013 (.at 13 (.rep [] x2.Dead)), .fact 100017 (.at 17 (.nilv)), .fact 100018 (.at 18 (.nilv)), .fact 100019 (.at 19 (.rep [] (false : Bool))), .fact 100010 (.obj 10 [(false, 1), (false, 1), (false, 1)]), .fact 100016 (.obj 16 [(false, 1), (false, 1), (false, 1)]), .fact 100025 (.own 25 [22, 26] 37 ((x2.Blocks).set x4 x3 : List (List UInt8)))])) hb15 (Sub.cons (Has.cv (Has.s rfl) (Cv.owM (T := [23]) (te := [24]) rfl rfl)) (sn (st (st (sc (sc (sf (sg (sf (sg (sg (sf (sn (sn (sn (Sub.cons (Has.ownM (Has.s rfl) rfl) Sub.nil)))))))))))))))) ?_ ?_
    ·rintro ⟨s7, s8, s9⟩ c10 hm
     replace hm : disk_Fua_L2 a1 s7 s8 s9 = some c10 := hm
     unfold disk_Fua_L2 at hm
     show CWalk _ [.fact 0 (.ow [23, 34] [24] 86 (s7 : List Write)), .fact 1 (.fnv 104 [] [Fact.isv 14]), .fact 5 (.rep [] (s8 : Int)), .fact 6 (.rep [] (s9 : Int)), .fact 902003 (.cst (u1 3) (Fact.isv 10)), .fact 902006 (.cst (u1 6) (Fact.isv 16)), .fact 100015 (.at 15 (.rep [] (a1 : Int))), .fact 100011 (.at 11 (.isv 25)), .fact 100013 (.at 13 (.rep [] x2.Dead)), .fact 100017 (.at 17 (.nilv)), .fact 100018 (.at 18 (.nilv)), .fact 100019 (.at 19 (.rep [] (false : Bool))), .fact 100014 (.obj 14 [(false, 1)]), .fact 100010 (.obj 10 [(false, 1), (false, 1), (false, 1)]), .fact 100016 (.obj 16 [(false, 1), (false, 1), (false, 1)]), .fact 100025 (.own 25 [22, 26] 37 ((x2.Blocks).set x4 x3 : List (List UInt8)))] _ _
     refine CWalk.seq ?_
     refine CWalk.seq ?_
     refine CWalk.region ?_
     refine mv ?_
     refine mv ?_
     refine wo (Spec.len (Has.cv (Has.s rfl) (Cv.trans Cv.owSl (Cv.slRep (T' := [23, 24, 34]) rfl rfl))) Try.underlying59) ?_
     refine wo (Spec.lssI (Has.s rfl) (Has.s rfl)) ?_
     refine Walk.nil ?_
     refine Leaf.thenN ?_
     refine CWalk.cond rfl (fun hb => ?_) (fun hb => ?_)
     ·have hm := cond_t hb hm
      refine CWalk.skip ?_
      refine Leaf.thenN ?_
      refine CWalk.seqJ (fun p : (List Write) × Int => [.fact 0 (.ow [23, 34] [24] 86 (p.1 : List Write)), .fact 1 (.fnv 104 [] [Fact.isv 14]), .fact 5 (.rep [] p.2), .fact 6 (.rep [] (s9 : Int)), .fact 902003 (.cst (u1 3) (Fact.isv 10)), .fact 902006 (.cst (u1 6) (Fact.isv 16)), .fact 100015 (.at 15 (.rep [] (a1 : Int))), .fact 100011 (.at 11 (.isv 25)), .fact 100013 (.at 13 (.rep [] x2.Dead)), .fact 100017 (.at 17 (.nilv)), .fact 100018 (.at 18 (.nilv)), .fact 100019 (.at 19 (.rep [] (false : Bool))), .fact 100014 (.obj 14 [(false, 1)]), .fact 100010 (.obj 10 [(false, 1), (false, 1), (false, 1)]), .fact 100016 (.obj 16 [(false, 1), (false, 1), (false, 1)]), .fact 100025 (.own 25 [22, 26] 37 ((x2.Blocks).set x4 x3 : List (List UInt8)))]) (fun p : (List Write) × Int => disk_Fua_J3 s9 p.1 p.2 = some c10) ?_ ?_
      ·rintro ⟨j11, j12⟩ hm
       replace hm : disk_Fua_J3 s9 j11 j12 = some c10 := hm
       unfold disk_Fua_J3 at hm
       show CWalk _ [.fact 0 (.ow [23, 34] [24] 86 (j11 : List Write)), .fact 1 (.fnv 104 [] [Fact.isv 14]), .fact 5 (.rep [] (j12 : Int)), .fact 6 (.rep [] (s9 : Int)), .fact 902003 (.cst (u1 3) (Fact.isv 10)), .fact 902006 (.cst (u1 6) (Fact.isv 16)), .fact 100015 (.at 15 (.rep [] (a1 : Int))), .fact 100011 (.at 11 (.isv 25)), .fact 100013 (.at 13 (.rep [] x2.Dead)), .fact 100017 (.at 17 (.nilv)), .fact 100018 (.at 18 (.nilv)), .fact 100019 (.at 19 (.rep [] (false : Bool))), .fact 100014 (.obj 14 [(false, 1)]), .fact 100010 (.obj 10 [(false, 1), (false, 1), (false, 1)]), .fact 100016 (.obj 16 [(false, 1), (false, 1), (false, 1)]), .fact 100025 (.own 25 [22, 26] 37 ((x2.Blocks).set x4 x3 : List (List UInt8)))] _ _
       refine CWalk.region ?_
       refine mv ?_
       refine wo (Spec.addI (Has.s rfl) Has.int) ?_
       refine wo (Spec.assign (Has.s rfl)) ?_
       refine Walk.nil ?_
       exact Leaf.next hm (Sub.cons (Has.cv (Has.s rfl) (Cv.owM (T := [23, 34]) (te := [24]) rfl rfl)) (sn (st (st (sc (sc (sf (sg (sf (sg (sg (sf (sn (sn (sn (Sub.cons (Has.ownM (Has.s rfl) rfl) Sub.nil))))))))))))))))
      ·refine CWalk.block ?_
       refine CWalk.seq ?_
       refine CWalk.region ?_
       refine mv ?_
       refine mv ?_
       obtain ⟨x13, hx13, hm⟩ := bind_some hm
       refine wo (Spec.indexSl hx13 sl59 (Has.cv (Has.s rfl) Cv.owSl) (Has.s rfl)) ?_
       refine wo (Spec.loadS ty86 (Has.s rfl)) ?_
       refine ws (Step.allocObj (ls := [(false, 1, Fact.rep [] ((0 : Int) : Int)), (false, 1, Fact.nilv)]) 28 rfl rfl rfl rfl zl86) ?_
       refine ws (Step.storeObj (ls := [(false, 1, Fact.rep [] x13.At), (false, 1, Fact.rep [24] x13.Data)]) rfl ty86 rfl rfl (Has.s rfl) rfl (HasL.flds (Has.cv (Has.s rfl) (Cv.trans (Cv.opens (chWrite x13)) (Cv.flds (CvL.cons Cv.fl (CvL.cons Cv.refl CvL.nil)))))) rfl) ?_
       refine Walk.nil ?_
       refine Leaf.thenN ?_
       refine CWalk.seq ?_
       refine CWalk.region ?_
       refine mv ?_
       refine wo (Spec.loadObj (ls := [(false, 1, Fact.rep [] x13.At), (false, 1, Fact.rep [24] x13.Data)]) ty86 rfl rfl (Has.s rfl) rfl (HasGs.cons (HasG.s rfl) (HasGs.cons (HasG.s rfl) HasGs.nil))) ?_
       refine Walk.inline (S := Unit) (fun p : Unit => [.fact 0 (.ow [23, 34] [24] 86 (s7 : List Write)), .fact 1 (.fnv 104 [] [Fact.isv 14]), .fact 5 (.rep [] (s8 : Int)), .fact 6 (.rep [] (s9 : Int)), .fact 7 (.isv 28), .fact 28 (.rep [] ((x13.At == a1) : Bool)), .fact 902003 (.cst (u1 3) (Fact.isv 10)), .fact 902006 (.cst (u1 6) (Fact.isv 16)), .fact 100015 (.at 15 (.rep [] (a1 : Int))), .fact 100029 (.at 29 (.rep [] x13.At)), .fact 100030 (.at 30 (.rep [24] x13.Data)), .fact 100011 (.at 11 (.isv 25)), .fact 100013 (.at 13 (.rep [] x2.Dead)), .fact 100017 (.at 17 (.nilv)), .fact 100018 (.at 18 (.nilv)), .fact 100019 (.at 19 (.rep [] (false : Bool))), .fact 100014 (.obj 14 [(false, 1)]), .fact 100028 (.obj 28 [(false, 1), (false, 1)]), .fact 100010 (.obj 10 [(false, 1), (false, 1), (false, 1)]), .fact 100016 (.obj 16 [(false, 1), (false, 1), (false, 1)]), .fact 100025 (.own 25 [22, 26] 37 ((x2.Blocks).set x4 x3 : List (List UInt8)))]) (fun p : Unit => disk_Fua_J4 a1 s7 s8 s9 x13 = some c10) (fun u2 => [.fact 100011 (.at 11 (.isv 25)), .fact 100013 (.at 13 (.rep [] x2.Dead)), .fact 100015 (.at 15 (.rep [] (a1 : Int))), .fact 100017 (.at 17 (.nilv)), .fact 100018 (.at 18 (.nilv)), .fact 100019 (.at 19 (.rep [] (false : Bool))), .fact 100029 (.at 29 (.rep [] x13.At)), .fact 100030 (.at 30 (.rep [24] x13.Data)), .fact 902003 (.cst (u1 3) (Fact.isv 10)), .fact 902006 (.cst (u1 6) (Fact.isv 16)), .fact 904000 (.cst (u2 0) (Fact.ow [23, 34] [24] 86 (s7 : List Write))), .fact 904001 (.cst (u2 1) (Fact.fnv 104 [] [Fact.isv 14])), .fact 904005 (.cst (u2 5) (Fact.rep [] (s8 : Int))), .fact 904006 (.cst (u2 6) (Fact.rep [] (s9 : Int))), .fact 904007 (.cst (u2 7) (Fact.isv 28)), .fact 100014 (.obj 14 [(false, 1)]), .fact 100010 (.obj 10 [(false, 1), (false, 1), (false, 1)]), .fact 100016 (.obj 16 [(false, 1), (false, 1), (false, 1)]), .fact 100025 (.own 25 [22, 26] 37 ((x2.Blocks).set x4 x3 : List (List UInt8))), .fact 100028 (.obj 28 [(false, 1), (false, 1)])]) (FA := [Fact.flds [(false, 1, Fact.rep [] x13.At), (false, 1, Fact.rep [24] x13.Data)], Fact.isv 14]) rfl Try.func104 rfl rfl rfl (CallOk.valE en104 (Has.s rfl) (HasF.cons (Has.s rfl) HasF.nil)) (fun u2 => (ck (ck (ck (ck (ck (ck (ck (ck (ck (ck (cs 904000 0 (cs 904000 1 (cs 904000 5 (cs 904000 6 (cs 904000 7 (ck (ck (ck (ck (ck Carry.nil))))))))))))))))))))) (fun u2 => ?_) ?_
       ·refine CWalk.seq ?_
        refine CWalk.region ?_
        refine ws (Step.boxObj (ls := [(false, 1, Fact.rep [] x13.At), (false, 1, Fact.rep [24] x13.Data)]) 31 rfl rfl rfl rfl (HasL.flds (Has.s rfl))) ?_
        refine wo (Spec.assign Has.bool) ?_
        refine Walk.nil ?_
        refine Leaf.thenN ?_
        refine CWalk.seq ?_
        refine CWalk.region ?_
        refine wo (Spec.fieldAddrO fd86_0 (Has.cv (Has.s rfl) (Cv.isvP rfl))) ?_
        refine wo (Spec.loadF (i := 0) ty3 rfl (Has.s rfl) rfl (HasG.s rfl)) ?_
        refine wo (Spec.loadF (i := 0) ty3 rfl (Has.cv (Has.s rfl) (Cv.isvP rfl)) rfl (HasG.s rfl)) ?_
        refine wo (Spec.eqlI (Has.s rfl) (Has.s rfl)) ?_
        refine wo (Spec.assign (Has.s rfl)) ?_
        refine Walk.nil ?_
        refine Leaf.thenN ?_
        refine CWalk.ret ?_
        exact Leaf.in1 () hm rfl rfl (HasR.cv (HasR.tmp (Has.s rfl)) Cv.fl) (Low.slot rfl (HasC.cv (HasC.s (s := 904000) rfl) (Cv.owM (T := [23, 34]) (te := [24]) rfl rfl)) (ls 904001 (Low.slot rfl (HasC.cv (HasC.s (s := 904005) rfl) Cv.fl) (Low.slot rfl (HasC.cv (HasC.s (s := 904006) rfl) Cv.fl) (ls 904007 (Low.res (lc (lc (lf (lf (lm (lg (lf (lg (lg (lf (lo (lo (lo (lo (Low.keepR (fun _ _ _ _ h => h) (Has.ownM (Has.s rfl) rfl) Low.nil)))))))))))))))))))))
       ·rintro _ hm
        replace hm : disk_Fua_J4 a1 s7 s8 s9 x13 = some c10 := hm
        unfold disk_Fua_J4 at hm
        show Walk _ _ _ [.fact 0 (.ow [23, 34] [24] 86 (s7 : List Write)), .fact 1 (.fnv 104 [] [Fact.isv 14]), .fact 5 (.rep [] (s8 : Int)), .fact 6 (.rep [] (s9 : Int)), .fact 7 (.isv 28), .fact 28 (.rep [] ((x13.At == a1) : Bool)), .fact 902003 (.cst (u1 3) (Fact.isv 10)), .fact 902006 (.cst (u1 6) (Fact.isv 16)), .fact 100015 (.at 15 (.rep [] (a1 : Int))), .fact 100029 (.at 29 (.rep [] x13.At)), .fact 100030 (.at 30 (.rep [24] x13.Data)), .fact 100011 (.at 11 (.isv 25)), .fact 100013 (.at 13 (.rep [] x2.Dead)), .fact 100017 (.at 17 (.nilv)), .fact 100018 (.at 18 (.nilv)), .fact 100019 (.at 19 (.rep [] (false : Bool))), .fact 100014 (.obj 14 [(false, 1)]), .fact 100028 (.obj 28 [(false, 1), (false, 1)]), .fact 100010 (.obj 10 [(false, 1), (false, 1), (false, 1)]), .fact 100016 (.obj 16 [(false, 1), (false, 1), (false, 1)]), .fact 100025 (.own 25 [22, 26] 37 ((x2.Blocks).set x4 x3 : List (List UInt8)))] _
        refine wo (Spec.not (Has.s rfl)) ?_
        refine Walk.nil ?_
        refine Leaf.thenN ?_
        refine CWalk.cond rfl (fun hb => ?_) (fun hb => ?_)
        ·have hm := cond_t hb hm
         refine CWalk.seq ?_
         refine CWalk.ad (Ad.ow (s := 0) 34 rfl rfl (ElT.tags rfl) rfl (Cv.owM (T := [23, 34]) (te := [24]) (T' := [23, 34]) (te' := [24]) rfl rfl)) ?_
         refine CWalk.region ?_
         refine mv ?_
         refine mv ?_
         refine wo (Spec.loadObj (ls := [(false, 1, Fact.rep [] x13.At), (false, 1, Fact.rep [24] x13.Data)]) ty86 rfl rfl (Has.s rfl) rfl (HasGs.cons (HasG.s rfl) (HasGs.cons (HasG.s rfl) HasGs.nil))) ?_
         obtain ⟨x14, hx14, hm⟩ := bind_some hm
         refine wo (Spec.idxOwn hx14 ow59 (Has.s rfl) rfl (Has.s rfl)) ?_
         refine ws (Step.storeOwn (te' := [24]) rfl (bnd_lt hx14 rfl) ty86 (Has.s rfl) rfl (Has.cv (Has.s rfl) (Cv.trans (Cv.flds (CvL.cons Cv.fl (CvL.cons (Cv.m rfl) CvL.nil))) (Cv.close (T := [24]) (chWrite x13)))) (ElKeep.tags rfl rfl) (ElKeep.tags rfl rfl)) ?_
         refine Walk.nil ?_
         refine Leaf.thenN ?_
         refine CWalk.region ?_
         refine mv ?_
         refine wo (Spec.addI (Has.s rfl) Has.int) ?_
         refine wo (Spec.assign (Has.s rfl)) ?_
         refine Walk.nil ?_
         refine Leaf.blockN ?_
         exact Leaf.join ((s7).set x14 x13, (wI (s8 + (1 : Int)))) hm (Sub.cons (Has.cv (Has.s rfl) (Cv.trans (Cv.isvOw rfl) (Cv.owM (T := [34]) (te := [24]) rfl rfl))) (sn (st (st (sc (sc (sf (sg (sf (sg (sg (sf (sn (sn (sn (Sub.cons (Has.ownM (Has.s rfl) rfl) Sub.nil))))))))))))))))
        ·have hm := cond_f hb hm
         refine CWalk.skip ?_
         refine Leaf.blockN ?_
         exact Leaf.join (s7, s8) hm (Sub.cons (Has.cv (Has.s rfl) (Cv.owM (T := [23, 34]) (te := [24]) rfl rfl)) (sn (st (st (sc (sc (sf (sg (sf (sg (sg (sf (sn (sn (sn (Sub.cons (Has.ownM (Has.s rfl) rfl) Sub.nil))))))))))))))))
     ·have hm := cond_f hb hm
      refine CWalk.exit ?_
      refine Leaf.thenE ?_
      exact Leaf.brk hm (fun h => nomatch h) rfl (Sub.cons (Has.cv (Has.s rfl) (Cv.owM (T := [23, 34]) (te := [24]) rfl rfl)) (st (sc (sc (sg (sf (sg (sg (sf (sn (sn (Sub.cons (Has.ownM (Has.s rfl) rfl) Sub.nil))))))))))))
    ·intro _
     refine Leaf.blockE ?_
     refine Leaf.thenN ?_
     refine CWalk.seq ?_
     refine CWalk.ad (Ad.ow (s := 0) 35 rfl rfl (ElT.tags rfl) rfl (Cv.owM (T := [23, 34]) (te := [24]) (T' := [23, 34]) (te' := [24]) rfl rfl)) ?_
     refine CWalk.region ?_
     refine mv ?_
     refine mv ?_
     obtain ⟨x16, hx16, hm⟩ := bind_some hm
     refine wo (Spec.slcWin hx16 ow59 (Has.s rfl) rfl (Has.s rfl)) ?_
     refine ws (Step.clearWin (te' := [24]) ow59 zt86 rfl (Has.s rfl) rfl (ElKeep.tags rfl rfl)) ?_
     refine Walk.nil ?_
     refine Leaf.thenN ?_
     refine CWalk.seq ?_
     refine CWalk.region ?_
     refine mv ?_
     refine mv ?_
     obtain ⟨x17, hx17, hm⟩ := bind_some hm
     refine wo (Spec.slcHiOw hx17 ow59 (Has.cv (Has.s rfl) (Cv.isvOw rfl)) (Has.s rfl)) ?_
     refine wo (Spec.assign (Has.s rfl)) ?_
     refine Walk.nil ?_
     refine Leaf.thenN ?_
     refine CWalk.ret ?_
     exact Leaf.in1 x17 hm rfl rfl (HasR.cv (HasR.tmp (Has.s rfl)) (Cv.owM (T := [35]) (te := [24]) rfl rfl)) (ls 902003 (ls 902006 (Low.res (lg (lf (lg (lg (lf (lo (lo (Low.keepR (fun _ _ _ _ h => h) (Has.ownM (Has.s rfl) rfl) Low.nil)))))))))))
  ·rintro j5 hm
   replace hm : disk_Fua_J1 x2 x3 x4 j5 = some r := hm
   unfold disk_Fua_J1 at hm
   show Walk _ _ _ [.fact 3 (.isv 10), .fact 6 (.isv 16), .fact 28 (.ow [23, 35] [24] 86 (j5 : List Write)), .fact 100011 (.at 11 (.isv 25)), .fact 100013 (.at 13 (.rep [] x2.Dead)), .fact 100017 (.at 17 (.nilv)), .fact 100018 (.at 18 (.nilv)), .fact 100019 (.at 19 (.rep [] (false : Bool))), .fact 100010 (.obj 10 [(false, 1), (false, 1), (false, 1)]), .fact 100016 (.obj 16 [(false, 1), (false, 1), (false, 1)]), .fact 100025 (.own 25 [22, 26] 37 ((x2.Blocks).set x4 x3 : List (List UInt8)))] _
   refine wo (Spec.fieldAddrO fd61_1 (Has.cv (Has.s rfl) (Cv.isvP rfl))) ?_
   refine ws (Step.storeF (i := 1) (f := Fact.ow [23, 35] [24] 86 (j5 : List Write)) rfl ty59 rfl (Has.s rfl) rfl (Has.cv (Has.s rfl) (Cv.trans Cv.owSl (Cv.slRep (T' := [23, 24, 35]) rfl rfl))) (Has.s rfl) rfl) ?_
   refine Walk.nil ?_
   refine Leaf.thenN ?_
   refine CWalk.seq ?_
   refine CWalk.region ?_
   refine wo (Spec.loadObj (ls := [(false, 1, Fact.isv 25), (false, 1, Fact.ow [23, 35] [24] 86 (j5 : List Write)), (false, 1, Fact.rep [] x2.Dead)]) ty61 rfl rfl (Has.s rfl) rfl (HasGs.cons (HasG.s rfl) (HasGs.cons (HasG.s rfl) (HasGs.cons (HasG.s rfl) HasGs.nil)))) ?_
   refine ws (Step.storeObj (ls := [(false, 1, Fact.isv 25), (false, 1, Fact.ow [23, 35] [24] 86 (j5 : List Write)), (false, 1, Fact.rep [] x2.Dead)]) rfl ty61 rfl rfl (Has.s rfl) rfl (HasL.flds (Has.s rfl)) rfl) ?_
   refine wo (Spec.assign Has.int) ?_
   refine Walk.nil ?_
   refine Leaf.thenN ?_
   refine CWalk.ret ?_
   obtain rfl := Option.some.inj hm
   exact Leaf.retC2 rfl (HasR.cv (HasR.obj (ls := [(false, 1, Fact.isv 25), (false, 1, Fact.ow [23, 35] [24] 86 (j5 : List Write)), (false, 1, Fact.rep [] x2.Dead)]) ty61 rfl rfl (Has.s rfl) rfl (HasGs.cons (HasG.s rfl) (HasGs.cons (HasG.s rfl) (HasGs.cons (HasG.s rfl) HasGs.nil)))) (Cv.flds (CvL.cons (Cv.trans (Cv.isvOw rfl) (Cv.owM (T := [25]) (te := [22, 26]) rfl rfl)) (CvL.cons (Cv.owM (T := [23, 35]) (te := [24]) rfl rfl) (CvL.cons Cv.fl CvL.nil))))) (HasR.cv (HasR.tmp (Has.s rfl)) Cv.fl)

/-- (freeboard/acts.act).fua -/
def acts_act_fua (a0 : Act45) (a1 : Disk) : Option (Disk × Int) :=
  Option.bind (disk_Fua a1 a0.At a0.Data) (fun x1 => some (x1.1, x1.2))
set_option maxRecDepth 100000 in
set_option maxHeartbeats 2000000 in
theorem acts_act_fua_c (a0 : Act45) (a1 : Disk) {r : Disk × Int} (hm : acts_act_fua a0 a1 = some r) : Ctr Try.prog 74 [.rep 0 a0, .rep 0 a1] (.tup2 (.flds [(false, 1, (.own 0 (some 1) 37 r.1.Blocks)), (false, 1, (.own 2 (some 3) 86 r.1.Wait)), (false, 1, (.fl r.1.Dead))]) (.fl r.2)) [] := by
 refine ctr_of_walk [[23], [24], [25], [26]] 14 Try.func74 rfl rfl rfl rfl (fun w0 om => ?_)
 unfold acts_act_fua at hm
 refine CWalk.sub (G' := [.fact 0 (.rep [0] (a0 : Act45)), .fact 1 (.rep [0] (a1 : Disk))]) (sn (sn Sub.nil)) ?_
 refine CWalk.seq ?_
 refine CWalk.region ?_
 refine ws (Step.boxObj (ls := [(false, 1, Fact.rep [] a0.Disk), (false, 1, Fact.rep [] a0.Kind), (false, 1, Fact.rep [] a0.At), (false, 1, Fact.rep [0] a0.Data)]) 10 rfl rfl rfl rfl (HasL.flds (Has.cv (Has.s rfl) (Cv.trans (Cv.opens (chAct45 a0)) (Cv.flds (CvL.cons Cv.fl (CvL.cons Cv.fl (CvL.cons Cv.fl (CvL.cons Cv.refl CvL.nil))))))))) ?_
 refine ws (Step.boxObj (ls := [(false, 1, Fact.rep [0] a1.Blocks), (false, 1, Fact.rep [0] a1.Wait), (false, 1, Fact.rep [] a1.Dead)]) 15 rfl rfl rfl rfl (HasL.flds (Has.cv (Has.s rfl) (Cv.trans (Cv.opens (chDisk a1)) (Cv.flds (CvL.cons Cv.refl (CvL.cons Cv.refl (CvL.cons Cv.fl CvL.nil)))))))) ?_
 refine ws (Step.allocObj (ls := [(false, 1, Fact.nilv), (false, 1, Fact.nilv), (false, 1, Fact.rep [] (false : Bool))]) 19 rfl rfl rfl rfl zl61) ?_
 refine wo (Spec.assign Has.int) ?_
 refine Walk.nil ?_
 refine Leaf.thenN ?_
 refine CWalk.seq ?_
 refine CWalk.region ?_
 refine wo (Spec.loadObj (ls := [(false, 1, Fact.rep [0] a1.Blocks), (false, 1, Fact.rep [0] a1.Wait), (false, 1, Fact.rep [] a1.Dead)]) ty61 rfl rfl (Has.s rfl) rfl (HasGs.cons (HasG.s rfl) (HasGs.cons (HasG.s rfl) (HasGs.cons (HasG.s rfl) HasGs.nil)))) ?_
 refine wo (Spec.fieldAddrO fd98_2 (Has.cv (Has.s rfl) (Cv.isvP rfl))) ?_
 refine wo (Spec.loadF (i := 2) ty3 rfl (Has.s rfl) rfl (HasG.s rfl)) ?_
 refine wo (Spec.fieldAddrO fd98_3 (Has.cv (Has.s rfl) (Cv.isvP rfl))) ?_
 refine wo (Spec.loadF (i := 3) ty37 rfl (Has.s rfl) rfl (HasG.s rfl)) ?_
 obtain ⟨x1, hx1, hm⟩ := bind_some hm
 refine wo (f := Fact.tup2 (Fact.flds [(false, 1, Fact.ow [23] [24] 37 (x1.1.Blocks : List (List UInt8))), (false, 1, Fact.ow [25] [26] 86 (x1.1.Wait : List Write)), (false, 1, Fact.rep [] x1.1.Dead)]) (Fact.rep [] x1.2)) (Spec.callE [0] 23 rfl en96 (disk_Fua_c a1 a0.At a0.Data hx1) (HasAll.cons (Has.m (Has.cv (Has.s rfl) (Cv.trans (Cv.flds (CvL.cons (Cv.m rfl) (CvL.cons (Cv.m rfl) (CvL.cons Cv.fl CvL.nil)))) (Cv.close (T := [0]) (chDisk a1)))) rfl) (HasAll.cons (Has.fl (Has.s rfl)) (HasAll.cons (Has.m (Has.s rfl) rfl) HasAll.nil)))) ?_
 refine wo (Spec.ext0 (Has.s rfl)) ?_
 refine wo (Spec.ext1 (Has.s rfl)) ?_
 refine ws (Step.storeObj (ls := [(false, 1, Fact.ow [23] [24] 37 (x1.1.Blocks : List (List UInt8))), (false, 1, Fact.ow [25] [26] 86 (x1.1.Wait : List Write)), (false, 1, Fact.rep [] x1.1.Dead)]) rfl ty61 rfl rfl (Has.s rfl) rfl (HasL.flds (Has.s rfl)) rfl) ?_
 refine wo (Spec.assign (Has.s rfl)) ?_
 refine Walk.nil ?_
 refine Leaf.thenN ?_
 refine CWalk.ret ?_
 obtain rfl := Option.some.inj hm
 exact Leaf.retC2 rfl (HasR.cv (HasR.obj (ls := [(false, 1, Fact.ow [23] [24] 37 (x1.1.Blocks : List (List UInt8))), (false, 1, Fact.ow [25] [26] 86 (x1.1.Wait : List Write)), (false, 1, Fact.rep [] x1.1.Dead)]) ty61 rfl rfl (Has.s rfl) rfl (HasGs.cons (HasG.s rfl) (HasGs.cons (HasG.s rfl) (HasGs.cons (HasG.s rfl) HasGs.nil)))) (Cv.flds (CvL.cons (Cv.owM (T := [23]) (te := [24]) rfl rfl) (CvL.cons (Cv.owM (T := [25]) (te := [26]) rfl rfl) (CvL.cons Cv.fl CvL.nil))))) (HasR.cv (HasR.tmp (Has.s rfl)) Cv.fl)

def disk_Flush_L1 (x2 : Disk) (s3 : Int) (s4 : List (List UInt8)) : Option (Ctl (Int × (List (List UInt8))) ((List (List UInt8)))) :=
  (bif (decide (s3 < ((x2.Wait).length : Int))) then Option.bind (idx x2.Wait s3) (fun x6 => Option.bind (bnd (s4).length x6.At) (fun x7 => some (Ctl.next ((wI (s3 + (1 : Int))), (s4).set x7 x6.Data)))) else some (Ctl.brk s4))
/-- freeboard/disk.Flush -/
def disk_Flush (a0 : Disk) : Option (Disk × Int) :=
  Option.bind (disk_Check a0) (fun x1 => (bif (x1 != (0 : Int)) then some ((Disk.mk ([] : List (List UInt8)) ([] : List Write) false), x1) else (bif a0.Dead then some ((Disk.mk ([] : List (List UInt8)) ([] : List Write) false), (40 : Int)) else Option.bind (disk_Twin a0) (fun x2 => Option.bind (loopM (fun s : Int × (List (List UInt8)) => disk_Flush_L1 x2 s.1 s.2) FUEL ((0 : Int), x2.Blocks)) (fun b8 => Option.bind (disk_Twin (Disk.mk b8 ([] : List Write) x2.Dead)) (fun x9 => some (x9, (0 : Int))))))))
set_option maxRecDepth 100000 in
set_option maxHeartbeats 2000000 in
theorem disk_Flush_c (a0 : Disk) {r : Disk × Int} (hm : disk_Flush a0 = some r) : Ctr Try.prog 52 [.rep 0 a0] (.tup2 (.flds [(false, 1, (.own 0 (some 1) 37 r.1.Blocks)), (false, 1, (.own 2 (some 3) 86 r.1.Wait)), (false, 1, (.fl r.1.Dead))]) (.fl r.2)) [] := by
 refine ctr_of_walk [[27], [28], [29], [30]] 36 Try.func52 rfl rfl rfl rfl (fun w0 om => ?_)
 unfold disk_Flush at hm
 refine CWalk.sub (G' := [.fact 0 (.rep [0] (a0 : Disk))]) (sn Sub.nil) ?_
 refine CWalk.seq ?_
 refine CWalk.region ?_
 refine ws (Step.boxObj (ls := [(false, 1, Fact.rep [0] a0.Blocks), (false, 1, Fact.rep [0] a0.Wait), (false, 1, Fact.rep [] a0.Dead)]) 10 rfl rfl rfl rfl (HasL.flds (Has.cv (Has.s rfl) (Cv.trans (Cv.opens (chDisk a0)) (Cv.flds (CvL.cons Cv.refl (CvL.cons Cv.refl (CvL.cons Cv.fl CvL.nil)))))))) ?_
 refine ws (Step.allocObj (ls := [(false, 1, Fact.nilv), (false, 1, Fact.nilv), (false, 1, Fact.rep [] (false : Bool))]) 14 rfl rfl rfl rfl zl61) ?_
 refine wo (Spec.assign Has.int) ?_
 refine Walk.nil ?_
 refine Leaf.thenN ?_
 refine CWalk.seq ?_
 refine CWalk.seq ?_
 refine CWalk.region ?_
 refine wo (Spec.loadObj (ls := [(false, 1, Fact.rep [0] a0.Blocks), (false, 1, Fact.rep [0] a0.Wait), (false, 1, Fact.rep [] a0.Dead)]) ty61 rfl rfl (Has.s rfl) rfl (HasGs.cons (HasG.s rfl) (HasGs.cons (HasG.s rfl) (HasGs.cons (HasG.s rfl) HasGs.nil)))) ?_
 obtain ⟨x1, hx1, hm⟩ := bind_some hm
 refine wo (f := Fact.rep [] (x1 : Int)) (Spec.callE [0] 18 rfl en39 (disk_Check_c a0 hx1) (HasAll.cons (Has.m (Has.cv (Has.s rfl) (Cv.trans (Cv.flds (CvL.cons (Cv.m rfl) (CvL.cons (Cv.m rfl) (CvL.cons Cv.fl CvL.nil)))) (Cv.close (T := [0]) (chDisk a0)))) rfl) HasAll.nil)) ?_
 refine wo (Spec.assign (Has.s rfl)) ?_
 refine Walk.nil ?_
 refine Leaf.thenN ?_
 refine CWalk.seq ?_
 refine CWalk.region ?_
 refine mv ?_
 refine wo (Spec.neqI (Has.s rfl) Has.int) ?_
 refine Walk.nil ?_
 refine Leaf.thenN ?_
 refine CWalk.cond rfl (fun hb => ?_) (fun hb => ?_)
 ·have hm := cond_t hb hm
  refine CWalk.seq ?_
  refine CWalk.region ?_
  refine wo (Spec.build (us := []) (ls' := [(false, 1, Fact.nilv), (false, 1, Fact.nilv), (false, 1, Fact.rep [] (false : Bool))]) bd61 rfl BP.nil) ?_
  refine mv ?_
  refine ws (Step.storeObj (ls := [(false, 1, Fact.nilv), (false, 1, Fact.nilv), (false, 1, Fact.rep [] (false : Bool))]) rfl ty61 rfl rfl (Has.s rfl) rfl (HasL.flds (Has.s rfl)) rfl) ?_
  refine wo (Spec.assign (Has.s rfl)) ?_
  refine Walk.nil ?_
  refine Leaf.thenN ?_
  refine CWalk.ret ?_
  refine Leaf.thenR ?_
  obtain rfl := Option.some.inj hm
  exact Leaf.retC2 rfl (HasR.cv (HasR.obj (ls := [(false, 1, Fact.nilv), (false, 1, Fact.nilv), (false, 1, Fact.rep [] (false : Bool))]) ty61 rfl rfl (Has.s rfl) rfl (HasGs.cons (HasG.s rfl) (HasGs.cons (HasG.s rfl) (HasGs.cons (HasG.s rfl) HasGs.nil)))) (Cv.flds (CvL.cons (Cv.trans Cv.nilOw (Cv.owM (T := []) (te := []) rfl rfl)) (CvL.cons (Cv.trans Cv.nilOw (Cv.owM (T := []) (te := []) rfl rfl)) (CvL.cons Cv.fl CvL.nil))))) (HasR.cv (HasR.tmp (Has.s rfl)) Cv.fl)
 ·have hm := cond_f hb hm
  refine CWalk.skip ?_
  refine Leaf.thenN ?_
  refine CWalk.seq ?_
  refine CWalk.seq ?_
  refine CWalk.region ?_
  refine wo (Spec.fieldAddrO fd61_2 (Has.cv (Has.s rfl) (Cv.isvP rfl))) ?_
  refine wo (Spec.loadF (i := 2) ty4 rfl (Has.s rfl) rfl (HasG.s rfl)) ?_
  refine Walk.nil ?_
  refine Leaf.thenN ?_
  refine CWalk.cond rfl (fun hb => ?_) (fun hb => ?_)
  ·have hm := cond_t hb hm
   refine CWalk.seq ?_
   refine CWalk.region ?_
   refine wo (Spec.build (us := []) (ls' := [(false, 1, Fact.nilv), (false, 1, Fact.nilv), (false, 1, Fact.rep [] (false : Bool))]) bd61 rfl BP.nil) ?_
   refine ws (Step.storeObj (ls := [(false, 1, Fact.nilv), (false, 1, Fact.nilv), (false, 1, Fact.rep [] (false : Bool))]) rfl ty61 rfl rfl (Has.s rfl) rfl (HasL.flds (Has.s rfl)) rfl) ?_
   refine wo (Spec.assign Has.int) ?_
   refine Walk.nil ?_
   refine Leaf.thenN ?_
   refine CWalk.ret ?_
   refine Leaf.thenR ?_
   obtain rfl := Option.some.inj hm
   exact Leaf.retC2 rfl (HasR.cv (HasR.obj (ls := [(false, 1, Fact.nilv), (false, 1, Fact.nilv), (false, 1, Fact.rep [] (false : Bool))]) ty61 rfl rfl (Has.s rfl) rfl (HasGs.cons (HasG.s rfl) (HasGs.cons (HasG.s rfl) (HasGs.cons (HasG.s rfl) HasGs.nil)))) (Cv.flds (CvL.cons (Cv.trans Cv.nilOw (Cv.owM (T := []) (te := []) rfl rfl)) (CvL.cons (Cv.trans Cv.nilOw (Cv.owM (T := []) (te := []) rfl rfl)) (CvL.cons Cv.fl CvL.nil))))) (HasR.cv (HasR.tmp (Has.s rfl)) Cv.fl)
  ·have hm := cond_f hb hm
   refine CWalk.skip ?_
   refine Leaf.thenN ?_
   refine CWalk.seq ?_
   refine CWalk.region ?_
   refine wo (Spec.loadObj (ls := [(false, 1, Fact.rep [0] a0.Blocks), (false, 1, Fact.rep [0] a0.Wait), (false, 1, Fact.rep [] a0.Dead)]) ty61 rfl rfl (Has.s rfl) rfl (HasGs.cons (HasG.s rfl) (HasGs.cons (HasG.s rfl) (HasGs.cons (HasG.s rfl) HasGs.nil)))) ?_
   obtain ⟨x2, hx2, hm⟩ := bind_some hm
   refine wo (f := Fact.flds [(false, 1, Fact.ow [19] [20] 37 (x2.Blocks : List (List UInt8))), (false, 1, Fact.ow [21] [22] 86 (x2.Wait : List Write)), (false, 1, Fact.rep [] x2.Dead)]) (Spec.callE [0] 19 rfl en50 (disk_Twin_c a0 hx2) (HasAll.cons (Has.m (Has.cv (Has.s rfl) (Cv.trans (Cv.flds (CvL.cons (Cv.m rfl) (CvL.cons (Cv.m rfl) (CvL.cons Cv.fl CvL.nil)))) (Cv.close (T := [0]) (chDisk a0)))) rfl) HasAll.nil)) ?_
   refine ws (Step.storeObj (ls := [(false, 1, Fact.ow [19] [20] 37 (x2.Blocks : List (List UInt8))), (false, 1, Fact.ow [21] [22] 86 (x2.Wait : List Write)), (false, 1, Fact.rep [] x2.Dead)]) rfl ty61 rfl rfl (Has.s rfl) rfl (HasL.flds (Has.s rfl)) rfl) ?_
   refine Walk.nil ?_
   refine Leaf.thenN ?_
   refine CWalk.seq ?_
   refine CWalk.seq ?_
   refine CWalk.region ?_
   refine wo (Spec.fieldAddrO fd61_1 (Has.cv (Has.s rfl) (Cv.isvP rfl))) ?_
   refine wo (Spec.loadF (i := 1) ty59 rfl (Has.s rfl) rfl (HasG.s rfl)) ?_
   refine wo (Spec.len (Has.cv (Has.s rfl) (Cv.trans Cv.owSl (Cv.slRep (T' := [21, 22]) rfl rfl))) Try.underlying59) ?_
   refine wo (Spec.move Has.int) ?_
   refine Walk.nil ?_
   refine Leaf.thenN ?_
   refine CWalk.block ?_
   obtain ⟨b8, hb8, hm⟩ := bind_some hm
   refine CWalk.loop (fun s : Int × (List (List UInt8)) => [.fact 1 (.isv 10), .fact 2 (.isv 14), .fact 19 (.ow [21] [22] 86 (x2.Wait : List Write)), .fact 20 (.rep [] (((x2.Wait).length : Int) : Int)), .fact 21 (.rep [] s.1), .fact 100011 (.at 11 (.ow [19, 26] [20, 22] 37 (s.2 : List (List UInt8)))), .fact 100012 (.at 12 (.ow [21] [22] 86 (x2.Wait : List Write))), .fact 100013 (.at 13 (.rep [] x2.Dead)), .fact 100015 (.at 15 (.nilv)), .fact 100016 (.at 16 (.nilv)), .fact 100017 (.at 17 (.rep [] (false : Bool))), .fact 100010 (.obj 10 [(false, 1), (false, 1), (false, 1)]), .fact 100014 (.obj 14 [(false, 1), (false, 1), (false, 1)])]) (fun b : (List (List UInt8)) => (Exit.exit 0, [.fact 1 (.isv 10), .fact 2 (.isv 14), .fact 100011 (.at 11 (.ow [19, 26] [20, 22] 37 (b : List (List UInt8)))), .fact 100012 (.at 12 (.ow [21] [22] 86 (x2.Wait : List Write))), .fact 100013 (.at 13 (.rep [] x2.Dead)), .fact 100015 (.at 15 (.nilv)), .fact 100016 (.at 16 (.nilv)), .fact 100017 (.at 17 (.rep [] (false : Bool))), .fact 100010 (.obj 10 [(false, 1), (false, 1), (false, 1)]), .fact 100014 (.obj 14 [(false, 1), (false, 1), (false, 1)])])) hb8 (sn (sn (Sub.cons (Has.cv (Has.s rfl) (Cv.owM (T := [21]) (te := [22]) rfl rfl)) (st (st (Sub.cons (Has.at (HasG.cv (HasG.s rfl) (Cv.owM (T := [19]) (te := [20]) rfl rfl))) (Sub.cons (Has.at (HasG.cv (HasG.s rfl) (Cv.owM (T := [21]) (te := [22]) rfl rfl))) (sf (sg (sg (sf (sn (sn Sub.nil))))))))))))) ?_ ?_
   ·rintro ⟨s3, s4⟩ c5 hm
    replace hm : disk_Flush_L1 x2 s3 s4 = some c5 := hm
    unfold disk_Flush_L1 at hm
    show CWalk _ [.fact 1 (.isv 10), .fact 2 (.isv 14), .fact 19 (.ow [21] [22] 86 (x2.Wait : List Write)), .fact 20 (.rep [] (((x2.Wait).length : Int) : Int)), .fact 21 (.rep [] (s3 : Int)), .fact 100011 (.at 11 (.ow [19, 26] [20, 22] 37 (s4 : List (List UInt8)))), .fact 100012 (.at 12 (.ow [21] [22] 86 (x2.Wait : List Write))), .fact 100013 (.at 13 (.rep [] x2.Dead)), .fact 100015 (.at 15 (.nilv)), .fact 100016 (.at 16 (.nilv)), .fact 100017 (.at 17 (.rep [] (false : Bool))), .fact 100010 (.obj 10 [(false, 1), (false, 1), (false, 1)]), .fact 100014 (.obj 14 [(false, 1), (false, 1), (false, 1)])] _ _
    refine CWalk.seq ?_
    refine CWalk.region ?_
    refine wo (Spec.lssI (Has.s rfl) (Has.s rfl)) ?_
    refine Walk.nil ?_
    refine Leaf.thenN ?_
    refine CWalk.seq ?_
    refine CWalk.cond rfl (fun hb => ?_) (fun hb => ?_)
    ·have hm := cond_t hb hm
     refine CWalk.skip ?_
     refine Leaf.thenN ?_
     refine CWalk.seq ?_
     refine CWalk.block ?_
     refine CWalk.seq ?_
     refine CWalk.region ?_
     obtain ⟨x6, hx6, hm⟩ := bind_some hm
     refine wo (Spec.indexSl hx6 sl59 (Has.cv (Has.s rfl) Cv.owSl) (Has.s rfl)) ?_
     refine wo (Spec.loadS ty86 (Has.s rfl)) ?_
     refine ws (Step.allocObj (ls := [(false, 1, Fact.rep [] ((0 : Int) : Int)), (false, 1, Fact.nilv)]) 23 rfl rfl rfl rfl zl86) ?_
     refine ws (Step.storeObj (ls := [(false, 1, Fact.rep [] x6.At), (false, 1, Fact.rep [22] x6.Data)]) rfl ty86 rfl rfl (Has.s rfl) rfl (HasL.flds (Has.cv (Has.s rfl) (Cv.trans (Cv.opens (chWrite x6)) (Cv.flds (CvL.cons Cv.fl (CvL.cons Cv.refl CvL.nil)))))) rfl) ?_
     refine Walk.nil ?_
     refine Leaf.thenN ?_
     refine CWalk.ad (Ad.owF (i := 11) 26 rfl rfl rfl (ElT.tags rfl) rfl (Cv.owM (T := [19, 26]) (te := [20, 22]) (T' := [19, 26]) (te' := [20, 22]) rfl rfl)) ?_
     refine CWalk.region ?_
     refine wo (Spec.fieldAddrO fd61_0 (Has.cv (Has.s rfl) (Cv.isvP rfl))) ?_
     refine wo (Spec.loadF (i := 0) ty36 rfl (Has.s rfl) rfl (HasG.s rfl)) ?_
     refine wo (Spec.fieldAddrO fd86_0 (Has.cv (Has.s rfl) (Cv.isvP rfl))) ?_
     refine wo (Spec.loadF (i := 0) ty3 rfl (Has.s rfl) rfl (HasG.s rfl)) ?_
     refine wo (Spec.fieldAddrO fd86_1 (Has.cv (Has.s rfl) (Cv.isvP rfl))) ?_
     refine wo (Spec.loadF (i := 1) ty37 rfl (Has.s rfl) rfl (HasG.s rfl)) ?_
     obtain ⟨x7, hx7, hm⟩ := bind_some hm
     refine wo (Spec.idxOwn hx7 ow36 (Has.s rfl) rfl (Has.s rfl)) ?_
     refine ws (Step.storeOwn (te' := [20, 22]) rfl (bnd_lt hx7 rfl) ty37 (Has.s rfl) rfl (Has.s rfl) (ElKeep.tags rfl rfl) (ElKeep.tags rfl rfl)) ?_
     refine Walk.nil ?_
     refine Leaf.blockN ?_
     refine Leaf.thenN ?_
     refine CWalk.region ?_
     refine wo (Spec.addI (Has.s rfl) Has.int) ?_
     refine mv ?_
     refine Walk.nil ?_
     exact Leaf.next hm (sn (sn (Sub.cons (Has.cv (Has.s rfl) (Cv.owM (T := [21]) (te := [22]) rfl rfl)) (st (st (Sub.cons (Has.at (HasG.cv (HasG.s rfl) (Cv.trans (Cv.isvOw rfl) (Cv.owM (T := [26]) (te := [20, 22]) rfl rfl)))) (Sub.cons (Has.at (HasG.cv (HasG.s rfl) (Cv.owM (T := [21]) (te := [22]) rfl rfl))) (sf (sg (sg (sf (sn (sn Sub.nil)))))))))))))
    ·have hm := cond_f hb hm
     refine CWalk.exit ?_
     refine Leaf.thenE ?_
     exact Leaf.brk hm (fun h => nomatch h) rfl (sn (sn (Sub.cons (Has.at (HasG.cv (HasG.s rfl) (Cv.owM (T := [19, 26]) (te := [20, 22]) rfl rfl))) (Sub.cons (Has.at (HasG.cv (HasG.s rfl) (Cv.owM (T := [21]) (te := [22]) rfl rfl))) (sf (sg (sg (sf (sn (sn Sub.nil))))))))))
   ·intro _
    refine Leaf.blockE ?_
    refine Leaf.thenN ?_
    refine CWalk.seq ?_
    refine CWalk.region ?_
    refine wo (Spec.fieldAddrO fd61_1 (Has.cv (Has.s rfl) (Cv.isvP rfl))) ?_
    refine ws (Step.storeF (i := 1) (f := Fact.nilv) rfl ty59 rfl (Has.s rfl) rfl (Has.cv Has.nilv (Cv.nil (T := []))) Has.nilv rfl) ?_
    refine Walk.nil ?_
    refine Leaf.thenN ?_
    refine CWalk.seq ?_
    refine CWalk.region ?_
    refine wo (Spec.loadObj (ls := [(false, 1, Fact.ow [19, 26] [20, 22] 37 (b8 : List (List UInt8))), (false, 1, Fact.nilv), (false, 1, Fact.rep [] x2.Dead)]) ty61 rfl rfl (Has.s rfl) rfl (HasGs.cons (HasG.s rfl) (HasGs.cons (HasG.s rfl) (HasGs.cons (HasG.s rfl) HasGs.nil)))) ?_
    obtain ⟨x9, hx9, hm⟩ := bind_some hm
    refine wo (f := Fact.flds [(false, 1, Fact.ow [27] [28] 37 (x9.Blocks : List (List UInt8))), (false, 1, Fact.ow [29] [30] 86 (x9.Wait : List Write)), (false, 1, Fact.rep [] x9.Dead)]) (Spec.callE [19, 20, 22, 26] 27 rfl en50 (disk_Twin_c (Disk.mk b8 ([] : List Write) x2.Dead) hx9) (HasAll.cons (Has.m (Has.cv (Has.s rfl) (Cv.trans (Cv.flds (CvL.cons (Cv.trans (Cv.trans Cv.owSl (Cv.slRep (T' := [19, 20, 22, 26]) rfl rfl)) (Cv.m rfl)) (CvL.cons (Cv.trans (Cv.nil (T := [])) (Cv.m rfl)) (CvL.cons Cv.fl CvL.nil)))) (Cv.close (T := [19, 20, 22, 26]) (chDisk (Disk.mk b8 ([] : List Write) x2.Dead))))) rfl) HasAll.nil)) ?_
    refine ws (Step.storeObj (ls := [(false, 1, Fact.ow [27] [28] 37 (x9.Blocks : List (List UInt8))), (false, 1, Fact.ow [29] [30] 86 (x9.Wait : List Write)), (false, 1, Fact.rep [] x9.Dead)]) rfl ty61 rfl rfl (Has.s rfl) rfl (HasL.flds (Has.s rfl)) rfl) ?_
    refine wo (Spec.assign Has.int) ?_
    refine Walk.nil ?_
    refine Leaf.thenN ?_
    refine CWalk.ret ?_
    obtain rfl := Option.some.inj hm
    exact Leaf.retC2 rfl (HasR.cv (HasR.obj (ls := [(false, 1, Fact.ow [27] [28] 37 (x9.Blocks : List (List UInt8))), (false, 1, Fact.ow [29] [30] 86 (x9.Wait : List Write)), (false, 1, Fact.rep [] x9.Dead)]) ty61 rfl rfl (Has.s rfl) rfl (HasGs.cons (HasG.s rfl) (HasGs.cons (HasG.s rfl) (HasGs.cons (HasG.s rfl) HasGs.nil)))) (Cv.flds (CvL.cons (Cv.owM (T := [27]) (te := [28]) rfl rfl) (CvL.cons (Cv.owM (T := [29]) (te := [30]) rfl rfl) (CvL.cons Cv.fl CvL.nil))))) (HasR.cv (HasR.tmp (Has.s rfl)) Cv.fl)

/-- (freeboard/acts.act).flush -/
def acts_act_flush (a0 : Act45) (a1 : Disk) : Option (Disk × Int) :=
  Option.bind (disk_Flush a1) (fun x1 => some (x1.1, x1.2))
set_option maxRecDepth 100000 in
set_option maxHeartbeats 2000000 in
theorem acts_act_flush_c (a0 : Act45) (a1 : Disk) {r : Disk × Int} (hm : acts_act_flush a0 a1 = some r) : Ctr Try.prog 75 [.rep 0 a0, .rep 0 a1] (.tup2 (.flds [(false, 1, (.own 0 (some 1) 37 r.1.Blocks)), (false, 1, (.own 2 (some 3) 86 r.1.Wait)), (false, 1, (.fl r.1.Dead))]) (.fl r.2)) [] := by
 refine ctr_of_walk [[23], [24], [25], [26]] 10 Try.func75 rfl rfl rfl rfl (fun w0 om => ?_)
 unfold acts_act_flush at hm
 refine CWalk.sub (G' := [.fact 0 (.rep [0] (a0 : Act45)), .fact 1 (.rep [0] (a1 : Disk))]) (sn (sn Sub.nil)) ?_
 refine CWalk.seq ?_
 refine CWalk.region ?_
 refine ws (Step.boxObj (ls := [(false, 1, Fact.rep [] a0.Disk), (false, 1, Fact.rep [] a0.Kind), (false, 1, Fact.rep [] a0.At), (false, 1, Fact.rep [0] a0.Data)]) 10 rfl rfl rfl rfl (HasL.flds (Has.cv (Has.s rfl) (Cv.trans (Cv.opens (chAct45 a0)) (Cv.flds (CvL.cons Cv.fl (CvL.cons Cv.fl (CvL.cons Cv.fl (CvL.cons Cv.refl CvL.nil))))))))) ?_
 refine ws (Step.boxObj (ls := [(false, 1, Fact.rep [0] a1.Blocks), (false, 1, Fact.rep [0] a1.Wait), (false, 1, Fact.rep [] a1.Dead)]) 15 rfl rfl rfl rfl (HasL.flds (Has.cv (Has.s rfl) (Cv.trans (Cv.opens (chDisk a1)) (Cv.flds (CvL.cons Cv.refl (CvL.cons Cv.refl (CvL.cons Cv.fl CvL.nil)))))))) ?_
 refine ws (Step.allocObj (ls := [(false, 1, Fact.nilv), (false, 1, Fact.nilv), (false, 1, Fact.rep [] (false : Bool))]) 19 rfl rfl rfl rfl zl61) ?_
 refine wo (Spec.assign Has.int) ?_
 refine Walk.nil ?_
 refine Leaf.thenN ?_
 refine CWalk.seq ?_
 refine CWalk.region ?_
 refine wo (Spec.loadObj (ls := [(false, 1, Fact.rep [0] a1.Blocks), (false, 1, Fact.rep [0] a1.Wait), (false, 1, Fact.rep [] a1.Dead)]) ty61 rfl rfl (Has.s rfl) rfl (HasGs.cons (HasG.s rfl) (HasGs.cons (HasG.s rfl) (HasGs.cons (HasG.s rfl) HasGs.nil)))) ?_
 obtain ⟨x1, hx1, hm⟩ := bind_some hm
 refine wo (f := Fact.tup2 (Fact.flds [(false, 1, Fact.ow [23] [24] 37 (x1.1.Blocks : List (List UInt8))), (false, 1, Fact.ow [25] [26] 86 (x1.1.Wait : List Write)), (false, 1, Fact.rep [] x1.1.Dead)]) (Fact.rep [] x1.2)) (Spec.callE [0] 23 rfl en52 (disk_Flush_c a1 hx1) (HasAll.cons (Has.m (Has.cv (Has.s rfl) (Cv.trans (Cv.flds (CvL.cons (Cv.m rfl) (CvL.cons (Cv.m rfl) (CvL.cons Cv.fl CvL.nil)))) (Cv.close (T := [0]) (chDisk a1)))) rfl) HasAll.nil)) ?_
 refine wo (Spec.ext0 (Has.s rfl)) ?_
 refine wo (Spec.ext1 (Has.s rfl)) ?_
 refine ws (Step.storeObj (ls := [(false, 1, Fact.ow [23] [24] 37 (x1.1.Blocks : List (List UInt8))), (false, 1, Fact.ow [25] [26] 86 (x1.1.Wait : List Write)), (false, 1, Fact.rep [] x1.1.Dead)]) rfl ty61 rfl rfl (Has.s rfl) rfl (HasL.flds (Has.s rfl)) rfl) ?_
 refine wo (Spec.assign (Has.s rfl)) ?_
 refine Walk.nil ?_
 refine Leaf.thenN ?_
 refine CWalk.ret ?_
 obtain rfl := Option.some.inj hm
 exact Leaf.retC2 rfl (HasR.cv (HasR.obj (ls := [(false, 1, Fact.ow [23] [24] 37 (x1.1.Blocks : List (List UInt8))), (false, 1, Fact.ow [25] [26] 86 (x1.1.Wait : List Write)), (false, 1, Fact.rep [] x1.1.Dead)]) ty61 rfl rfl (Has.s rfl) rfl (HasGs.cons (HasG.s rfl) (HasGs.cons (HasG.s rfl) (HasGs.cons (HasG.s rfl) HasGs.nil)))) (Cv.flds (CvL.cons (Cv.owM (T := [23]) (te := [24]) rfl rfl) (CvL.cons (Cv.owM (T := [25]) (te := [26]) rfl rfl) (CvL.cons Cv.fl CvL.nil))))) (HasR.cv (HasR.tmp (Has.s rfl)) Cv.fl)

/-- a call of one of some functions -/
def fncall96 (m : FnI [73, 74, 75]) (a0 : Act45) (a1 : Disk) : Option (Disk × Int) :=
  match m.i with
  | 1 => acts_act_write a0 a1
  | 2 => acts_act_fua a0 a1
  | 3 => acts_act_flush a0 a1
  | _ => none
theorem fncall96_c (m : FnI [73, 74, 75]) (a0 : Act45) (a1 : Disk) {r : Disk × Int} (hm : fncall96 m a0 a1 = some r) : ∃ k, fnAt [73, 74, 75] m.i = some k ∧ enters Try.prog k = true ∧ Ctr Try.prog k [.rep 0 a0, .rep 0 a1] (.tup2 (.flds [(false, 1, (.own 0 (some 1) 37 r.1.Blocks)), (false, 1, (.own 2 (some 3) 86 r.1.Wait)), (false, 1, (.fl r.1.Dead))]) (.fl r.2)) [] := by
  obtain ⟨i⟩ := m
  match i, hm with
  | 0, hm => cases hm
  | 1, hm => exact ⟨73, rfl, en73, acts_act_write_c a0 a1 hm⟩
  | 2, hm => exact ⟨74, rfl, en74, acts_act_fua_c a0 a1 hm⟩
  | 3, hm => exact ⟨75, rfl, en75, acts_act_flush_c a0 a1 hm⟩
  | _ + 4, hm => cases hm

def acts_Run_J2 (s5 : Int) (j7 : List Disk) : Option (Ctl ((List Disk) × Int) (((List Disk)) ⊕ (Int))) :=
  some (Ctl.next (j7, (wI (s5 + (1 : Int)))))
def acts_Run_L1 (x3 : List Act45) (s4 : List Disk) (s5 : Int) : Option (Ctl ((List Disk) × Int) (((List Disk)) ⊕ (Int))) :=
  (bif (decide (s5 < ((x3).length : Int))) then Option.bind (idx x3 s5) (fun x8 => Option.bind (idx s4 x8.Disk) (fun x9 => (bif x9.Dead then (acts_Run_J2 s5 s4) else Option.bind (acts_does x8.Kind) (fun x10 => Option.bind (fncall96 x10 x8 x9) (fun x11 => (bif (x11.2 != (0 : Int)) then some (Ctl.brk (Sum.inr x11.2)) else Option.bind (bnd (s4).length x8.Disk) (fun x12 => (acts_Run_J2 s5 ((s4).set x12 x11.1))))))))) else some (Ctl.brk (Sum.inl s4)))
/-- freeboard/acts.Run -/
def acts_Run (a0 : List Disk) (a1 : List Act45) (a2 : Int) : Option ((List Disk) × Int) :=
  Option.bind (acts_Check a1 a0) (fun x1 => (bif (x1 != (0 : Int)) then some (([] : List Disk), x1) else (bif ((decide (a2 < (0 : Int))) || (decide (a2 > ((a1).length : Int)))) then some (([] : List Disk), (2 : Int)) else Option.bind (acts_twins a0) (fun x2 => Option.bind (slc a1 0 a2) (fun x3 => Option.bind (loopM (fun s : (List Disk) × Int => acts_Run_L1 x3 s.1 s.2) FUEL (x2, (0 : Int))) (fun b13 => Sum.elim (fun b14 => some (b14, (0 : Int))) (fun b15 => some (([] : List Disk), b15)) b13))))))
set_option maxRecDepth 100000 in
set_option maxHeartbeats 2000000 in
theorem acts_Run_c (a0 : List Disk) (a1 : List Act45) (a2 : Int) {r : (List Disk) × Int} (hm : acts_Run a0 a1 a2 = some r) : Ctr Try.prog 18 [.rep 0 a0, .rep 0 a1, .rep 0 a2] (.tup2 (.own 0 (some 1) 61 r.1) (.fl r.2)) [] := by
 refine ctr_of_walk [[11, 31], [12, 23, 24, 25, 26]] 65 Try.func18 rfl rfl rfl rfl (fun w0 om => ?_)
 unfold acts_Run at hm
 refine CWalk.sub (G' := [.fact 0 (.rep [0] (a0 : List Disk)), .fact 1 (.rep [0] (a1 : List Act45)), .fact 2 (.rep [] (a2 : Int))]) (sn (sn (Sub.cons (Has.fl (Has.s rfl)) Sub.nil))) ?_
 refine CWalk.seq ?_
 refine CWalk.region ?_
 refine wo (Spec.assign Has.nilv) ?_
 refine wo (Spec.assign Has.int) ?_
 refine Walk.nil ?_
 refine Leaf.thenN ?_
 refine CWalk.seq ?_
 refine CWalk.seq ?_
 refine CWalk.region ?_
 refine mv ?_
 refine mv ?_
 obtain ⟨x1, hx1, hm⟩ := bind_some hm
 refine wo (f := Fact.rep [] (x1 : Int)) (Spec.callE [0] 10 rfl en42 (acts_Check_c a1 a0 hx1) (HasAll.cons (Has.m (Has.s rfl) rfl) (HasAll.cons (Has.m (Has.s rfl) rfl) HasAll.nil))) ?_
 refine wo (Spec.assign (Has.s rfl)) ?_
 refine Walk.nil ?_
 refine Leaf.thenN ?_
 refine CWalk.seq ?_
 refine CWalk.region ?_
 refine mv ?_
 refine wo (Spec.neqI (Has.s rfl) Has.int) ?_
 refine Walk.nil ?_
 refine Leaf.thenN ?_
 refine CWalk.cond rfl (fun hb => ?_) (fun hb => ?_)
 ·have hm := cond_t hb hm
  refine CWalk.seq ?_
  refine CWalk.region ?_
  refine mv ?_
  refine wo (Spec.assign Has.nilv) ?_
  refine wo (Spec.assign (Has.s rfl)) ?_
  refine Walk.nil ?_
  refine Leaf.thenN ?_
  refine CWalk.ret ?_
  refine Leaf.thenR ?_
  obtain rfl := Option.some.inj hm
  exact Leaf.retC2 rfl (HasR.cv (HasR.tmp (Has.s rfl)) (Cv.trans Cv.nilOw (Cv.owM (T := []) (te := []) rfl rfl))) (HasR.cv (HasR.tmp (Has.s rfl)) Cv.fl)
 ·have hm := cond_f hb hm
  refine CWalk.skip ?_
  refine Leaf.thenN ?_
  refine CWalk.seq ?_
  refine CWalk.seq ?_
  refine CWalk.region ?_
  refine mv ?_
  refine wo (Spec.lssI (Has.s rfl) Has.int) ?_
  refine mv ?_
  refine wg rfl rfl (fun hb => Spec.move (Has.s rfl)) ?_
  refine wg rfl rfl (fun hb => Spec.move (Has.s rfl)) ?_
  refine wg rfl rfl (fun hb => Spec.len (Has.u rfl hb) Try.underlying23) ?_
  refine wg rfl rfl (fun hb => Spec.gtrI (Has.u rfl hb) (Has.u rfl hb)) ?_
  refine wo (Spec.or (Has.s rfl) (fun h => Has.u rfl h)) ?_
  refine Walk.nil ?_
  refine Leaf.thenN ?_
  refine CWalk.cond rfl (fun hb => ?_) (fun hb => ?_)
  ·have hm := cond_t hb hm
   refine CWalk.seq ?_
   refine CWalk.region ?_
   refine wo (Spec.assign Has.nilv) ?_
   refine wo (Spec.assign Has.int) ?_
   refine Walk.nil ?_
   refine Leaf.thenN ?_
   refine CWalk.ret ?_
   refine Leaf.thenR ?_
   obtain rfl := Option.some.inj hm
   exact Leaf.retC2 rfl (HasR.cv (HasR.tmp (Has.s rfl)) (Cv.trans Cv.nilOw (Cv.owM (T := []) (te := []) rfl rfl))) (HasR.cv (HasR.tmp (Has.s rfl)) Cv.fl)
  ·have hm := cond_f hb hm
   refine CWalk.skip ?_
   refine Leaf.thenN ?_
   refine CWalk.seq ?_
   refine CWalk.region ?_
   refine mv ?_
   obtain ⟨x2, hx2, hm⟩ := bind_some hm
   refine wo (f := Fact.ow [11] [12] 61 (x2 : List Disk)) (Spec.callE [0] 11 rfl en43 (acts_twins_c a0 hx2) (HasAll.cons (Has.m (Has.s rfl) rfl) HasAll.nil)) ?_
   refine wo (Spec.assign (Has.s rfl)) ?_
   refine Walk.nil ?_
   refine Leaf.thenN ?_
   refine CWalk.seq ?_
   refine CWalk.seq ?_
   refine CWalk.region ?_
   refine mv ?_
   refine mv ?_
   obtain ⟨x3, hx3, hm⟩ := bind_some hm
   refine wo (Spec.slcHi hx3 sl23 (Has.s rfl) (Has.s rfl)) ?_
   refine wo (Spec.len (Has.s rfl) Try.underlying23) ?_
   refine wo (Spec.move Has.int) ?_
   refine Walk.nil ?_
   refine Leaf.thenN ?_
   refine CWalk.block ?_
   obtain ⟨b13, hb13, hm⟩ := bind_some hm
   refine CWalk.loop (fun s : (List Disk) × Int => [.fact 9 (.ow [11, 31] [12, 23, 24, 25, 26] 61 (s.1 : List Disk)), .fact 33 (.rep [0] (x3 : List Act45)), .fact 34 (.rep [] (((x3).length : Int) : Int)), .fact 35 (.rep [] s.2)]) (fun b : ((List Disk)) ⊕ (Int) => Sum.elim (fun b => (Exit.exit 0, [.fact 9 (.ow [11, 31] [12, 23, 24, 25, 26] 61 (b : List Disk))])) (fun b => (Exit.ret, [.fact 6 (.nilv), .fact 7 (.rep [] (b : Int))])) b) hb13 (Sub.cons (Has.cv (Has.s rfl) (Cv.owM (T := [11]) (te := [12]) rfl rfl)) (su (st (st Sub.nil)))) ?_ ?_
   ·rintro ⟨s4, s5⟩ c6 hm
    replace hm : acts_Run_L1 x3 s4 s5 = some c6 := hm
    unfold acts_Run_L1 at hm
    show CWalk _ [.fact 9 (.ow [11, 31] [12, 23, 24, 25, 26] 61 (s4 : List Disk)), .fact 33 (.rep [0] (x3 : List Act45)), .fact 34 (.rep [] (((x3).length : Int) : Int)), .fact 35 (.rep [] (s5 : Int))] _ _
    refine CWalk.seq ?_
    refine CWalk.region ?_
    refine wo (Spec.lssI (Has.s rfl) (Has.s rfl)) ?_
    refine Walk.nil ?_
    refine Leaf.thenN ?_
    refine CWalk.seq ?_
    refine CWalk.cond rfl (fun hb => ?_) (fun hb => ?_)
    ·have hm := cond_t hb hm
     refine CWalk.skip ?_
     refine Leaf.thenN ?_
     refine CWalk.seqJ (fun p : (List Disk) => [.fact 9 (.ow [11, 31] [12, 23, 24, 25, 26] 61 (p : List Disk)), .fact 33 (.rep [0] (x3 : List Act45)), .fact 34 (.rep [] (((x3).length : Int) : Int)), .fact 35 (.rep [] (s5 : Int))]) (fun p : (List Disk) => acts_Run_J2 s5 p = some c6) ?_ ?_
     ·rintro j7 hm
      replace hm : acts_Run_J2 s5 j7 = some c6 := hm
      unfold acts_Run_J2 at hm
      show CWalk _ [.fact 9 (.ow [11, 31] [12, 23, 24, 25, 26] 61 (j7 : List Disk)), .fact 33 (.rep [0] (x3 : List Act45)), .fact 34 (.rep [] (((x3).length : Int) : Int)), .fact 35 (.rep [] (s5 : Int))] _ _
      refine CWalk.region ?_
      refine wo (Spec.addI (Has.s rfl) Has.int) ?_
      refine mv ?_
      refine Walk.nil ?_
      exact Leaf.next hm (Sub.cons (Has.cv (Has.s rfl) (Cv.owM (T := [11, 31]) (te := [12, 23, 24, 25, 26]) rfl rfl)) (su (st (st Sub.nil))))
     ·refine CWalk.block ?_
      refine CWalk.seq ?_
      refine CWalk.region ?_
      obtain ⟨x8, hx8, hm⟩ := bind_some hm
      refine wo (Spec.indexAddr hx8 sl23 (Has.s rfl) (Has.s rfl)) ?_
      refine wo (Spec.load ty45 (Has.s rfl)) ?_
      refine ws (Step.allocObj (ls := [(false, 1, Fact.rep [] ((0 : Int) : Int)), (false, 1, Fact.rep [] ((0 : UInt8) : UInt8)), (false, 1, Fact.rep [] ((0 : Int) : Int)), (false, 1, Fact.nilv)]) 13 rfl rfl rfl rfl zl45) ?_
      refine ws (Step.storeObj (ls := [(false, 1, Fact.rep [] x8.Disk), (false, 1, Fact.rep [] x8.Kind), (false, 1, Fact.rep [] x8.At), (false, 1, Fact.rep [0] x8.Data)]) rfl ty45 rfl rfl (Has.s rfl) rfl (HasL.flds (Has.cv (Has.s rfl) (Cv.trans (Cv.opens (chAct45 x8)) (Cv.flds (CvL.cons Cv.fl (CvL.cons Cv.fl (CvL.cons Cv.fl (CvL.cons Cv.refl CvL.nil)))))))) rfl) ?_
      refine Walk.nil ?_
      refine Leaf.thenN ?_
      refine CWalk.seq ?_
      refine CWalk.region ?_
      refine mv ?_
      refine wo (Spec.fieldAddrO fd45_0 (Has.cv (Has.s rfl) (Cv.isvP rfl))) ?_
      refine wo (Spec.loadF (i := 0) ty3 rfl (Has.s rfl) rfl (HasG.s rfl)) ?_
      obtain ⟨x9, hx9, hm⟩ := bind_some hm
      refine wo (Spec.indexSl hx9 sl49 (Has.cv (Has.s rfl) Cv.owSl) (Has.s rfl)) ?_
      refine wo (Spec.loadS ty61 (Has.s rfl)) ?_
      refine ws (Step.allocObj (ls := [(false, 1, Fact.nilv), (false, 1, Fact.nilv), (false, 1, Fact.rep [] (false : Bool))]) 18 rfl rfl rfl rfl zl61) ?_
      refine ws (Step.storeObj (ls := [(false, 1, Fact.rep [12, 23, 24, 25, 26] x9.Blocks), (false, 1, Fact.rep [12, 23, 24, 25, 26] x9.Wait), (false, 1, Fact.rep [] x9.Dead)]) rfl ty61 rfl rfl (Has.s rfl) rfl (HasL.flds (Has.cv (Has.s rfl) (Cv.trans (Cv.opens (chDisk x9)) (Cv.flds (CvL.cons Cv.refl (CvL.cons Cv.refl (CvL.cons Cv.fl CvL.nil))))))) rfl) ?_
      refine Walk.nil ?_
      refine Leaf.thenN ?_
      refine CWalk.seq ?_
      refine CWalk.seq ?_
      refine CWalk.region ?_
      refine wo (Spec.fieldAddrO fd61_2 (Has.cv (Has.s rfl) (Cv.isvP rfl))) ?_
      refine wo (Spec.loadF (i := 2) ty4 rfl (Has.s rfl) rfl (HasG.s rfl)) ?_
      refine Walk.nil ?_
      refine Leaf.thenN ?_
      refine CWalk.cond rfl (fun hb => ?_) (fun hb => ?_)
      ·have hm := cond_t hb hm
       refine CWalk.exit ?_
       refine Leaf.thenE ?_
       refine Leaf.blockE ?_
       exact Leaf.join s4 hm (Sub.cons (Has.cv (Has.s rfl) (Cv.owM (T := [11, 31]) (te := [12, 23, 24, 25, 26]) rfl rfl)) (su (st (st Sub.nil))))
      ·have hm := cond_f hb hm
       refine CWalk.skip ?_
       refine Leaf.thenN ?_
       refine CWalk.seq ?_
       obtain ⟨x10, hx10, hm⟩ := bind_some hm
       obtain ⟨x11, hx11, hm⟩ := bind_some hm
       refine CWalk.drawM [[], [0], [0, 1], [], [], [0, 1, 2, 3, 4], [0, 1, 2, 3, 4, 5], [0, 1, 2, 3, 4, 5, 6], [0, 1, 2, 3, 4, 5, 6], [], [0, 1, 2, 3, 4, 5, 6, 7, 9], [0, 1, 2, 3, 4, 5, 6, 7, 8, 9, 10]] [[.fact 47 (.pto 13 1)], [.fact 48 (.rep [] x8.Kind)], [.fact 49 (.rep [] (x10 : FnI [73, 74, 75]))], [.fact 50 (.flds [(false, 1, Fact.rep [] x8.Disk), (false, 1, Fact.rep [] x8.Kind), (false, 1, Fact.rep [] x8.At), (false, 1, Fact.rep [0] x8.Data)])], [.fact 51 (.flds [(false, 1, Fact.rep [12, 23, 24, 25, 26] x9.Blocks), (false, 1, Fact.rep [12, 23, 24, 25, 26] x9.Wait), (false, 1, Fact.rep [] x9.Dead)])], [.fact 52 (.tup2 (Fact.flds [(false, 1, Fact.ow [23] [24] 37 (x11.1.Blocks : List (List UInt8))), (false, 1, Fact.ow [25] [26] 86 (x11.1.Wait : List Write)), (false, 1, Fact.rep [] x11.1.Dead)]) (Fact.rep [] x11.2))], [.fact 46 (.tup2 (Fact.flds [(false, 1, Fact.ow [23] [24] 37 (x11.1.Blocks : List (List UInt8))), (false, 1, Fact.ow [25] [26] 86 (x11.1.Wait : List Write)), (false, 1, Fact.rep [] x11.1.Dead)]) (Fact.rep [] x11.2))], [.fact 53 (.flds [(false, 1, Fact.ow [23] [24] 37 (x11.1.Blocks : List (List UInt8))), (false, 1, Fact.ow [25] [26] 86 (x11.1.Wait : List Write)), (false, 1, Fact.rep [] x11.1.Dead)])], [.fact 54 (.rep [] x11.2)], [.fact 13 (.isv 27), .fact 100027 (.obj 27 [(false, 1), (false, 1), (false, 1)]), .fact 100028 (.at 28 (.nilv)), .fact 100029 (.at 29 (.nilv)), .fact 100030 (.at 30 (.rep [] (false : Bool))), .killId 27, .killId 28, .killId 29, .killId 30], [.fact 100027 (.obj 27 [(false, 1), (false, 1), (false, 1)]), .fact 100028 (.at 28 (.ow [23] [24] 37 (x11.1.Blocks : List (List UInt8)))), .fact 100029 (.at 29 (.ow [25] [26] 86 (x11.1.Wait : List Write))), .fact 100030 (.at 30 (.rep [] x11.1.Dead)), .kill 27, .killId 28, .killId 29, .killId 30], [.fact 14 (.rep [] x11.2)]] mixed (by kernel_rfl) (ao (so (Spec.fieldAddrO fd45_1 (Has.cv (Has.s rfl) (Cv.isvP rfl)))) (ao (so (Spec.loadF (i := 1) ty5 rfl (Has.s rfl) rfl (HasG.s rfl))) (ao (so (Spec.callE [] 22 rfl en44 (acts_does_c x8.Kind hx10) (HasAll.cons (Has.fl (Has.s rfl)) HasAll.nil))) (ao (so (Spec.loadObj (ls := [(false, 1, Fact.rep [] x8.Disk), (false, 1, Fact.rep [] x8.Kind), (false, 1, Fact.rep [] x8.At), (false, 1, Fact.rep [0] x8.Data)]) ty45 rfl rfl (Has.s rfl) rfl (HasGs.cons (HasG.s rfl) (HasGs.cons (HasG.s rfl) (HasGs.cons (HasG.s rfl) (HasGs.cons (HasG.s rfl) HasGs.nil)))))) (ao (so (Spec.loadObj (ls := [(false, 1, Fact.rep [12, 23, 24, 25, 26] x9.Blocks), (false, 1, Fact.rep [12, 23, 24, 25, 26] x9.Wait), (false, 1, Fact.rep [] x9.Dead)]) ty61 rfl rfl (Has.s rfl) rfl (HasGs.cons (HasG.s rfl) (HasGs.cons (HasG.s rfl) (HasGs.cons (HasG.s rfl) HasGs.nil))))) (ao (so (Spec.callIE (xs := [.tmp 50, .tmp 51]) [0, 12, 23, 24, 25, 26] 23 rfl (Has.s rfl) (fncall96_c x10 x8 x9 hx11) (HasAll.cons (Has.m (Has.cv (Has.s rfl) (Cv.trans (Cv.flds (CvL.cons Cv.fl (CvL.cons Cv.fl (CvL.cons Cv.fl (CvL.cons (Cv.m rfl) CvL.nil))))) (Cv.close (T := [0]) (chAct45 x8)))) rfl) (HasAll.cons (Has.m (Has.cv (Has.s rfl) (Cv.trans (Cv.flds (CvL.cons (Cv.m rfl) (CvL.cons (Cv.m rfl) (CvL.cons Cv.fl CvL.nil)))) (Cv.close (T := [12, 23, 24, 25, 26]) (chDisk x9)))) rfl) HasAll.nil)))) (ao (so (Spec.move (Has.s rfl))) (ao (so (Spec.ext0 (Has.s rfl))) (ao (so (Spec.ext1 (Has.s rfl))) (ao (StepG.stE (Step.allocObj (ls := [(false, 1, Fact.nilv), (false, 1, Fact.nilv), (false, 1, Fact.rep [] (false : Bool))]) 27 rfl rfl rfl rfl zl61)) (ao (StepG.stE (Step.storeObj (ls := [(false, 1, Fact.ow [23] [24] 37 (x11.1.Blocks : List (List UInt8))), (false, 1, Fact.ow [25] [26] 86 (x11.1.Wait : List Write)), (false, 1, Fact.rep [] x11.1.Dead)]) rfl ty61 rfl rfl (Has.s rfl) rfl (HasL.flds (Has.s rfl)) rfl)) (ao (so (Spec.assign (Has.s rfl))) AllM.nil)))))))))))) ?_
       refine Leaf.thenN ?_
       refine CWalk.seq ?_
       refine CWalk.seq ?_
       refine CWalk.region ?_
       refine mv ?_
       refine wo (Spec.neqI (Has.s rfl) Has.int) ?_
       refine Walk.nil ?_
       refine Leaf.thenN ?_
       refine CWalk.cond rfl (fun hb => ?_) (fun hb => ?_)
       ·have hm := cond_t hb hm
        refine CWalk.seq ?_
        refine CWalk.region ?_
        refine mv ?_
        refine wo (Spec.assign Has.nilv) ?_
        refine wo (Spec.assign (Has.s rfl)) ?_
        refine Walk.nil ?_
        refine Leaf.thenN ?_
        refine CWalk.ret ?_
        refine Leaf.thenR ?_
        refine Leaf.blockR ?_
        refine Leaf.thenR ?_
        exact Leaf.brk hm (fun h => nomatch h) rfl (sn (st Sub.nil))
       ·have hm := cond_f hb hm
        refine CWalk.skip ?_
        refine Leaf.thenN ?_
        refine CWalk.ad (Ad.ow (s := 9) 31 rfl rfl (ElT.tags rfl) rfl (Cv.owM (T := [11, 31]) (te := [12, 23, 24, 25, 26]) (T' := [11, 31]) (te' := [12, 23, 24, 25, 26]) rfl rfl)) ?_
        refine CWalk.region ?_
        refine mv ?_
        refine wo (Spec.fieldAddrO fd45_0 (Has.cv (Has.s rfl) (Cv.isvP rfl))) ?_
        refine wo (Spec.loadF (i := 0) ty3 rfl (Has.s rfl) rfl (HasG.s rfl)) ?_
        refine wo (Spec.loadObj (ls := [(false, 1, Fact.ow [23] [24] 37 (x11.1.Blocks : List (List UInt8))), (false, 1, Fact.ow [25] [26] 86 (x11.1.Wait : List Write)), (false, 1, Fact.rep [] x11.1.Dead)]) ty61 rfl rfl (Has.s rfl) rfl (HasGs.cons (HasG.s rfl) (HasGs.cons (HasG.s rfl) (HasGs.cons (HasG.s rfl) HasGs.nil)))) ?_
        obtain ⟨x12, hx12, hm⟩ := bind_some hm
        refine wo (Spec.idxOwn hx12 ow49 (Has.s rfl) rfl (Has.s rfl)) ?_
        refine ws (Step.storeOwn (te' := [12, 23, 24, 25, 26]) rfl (bnd_lt hx12 rfl) ty61 (Has.s rfl) rfl (Has.cv (Has.s rfl) (Cv.trans (Cv.flds (CvL.cons (Cv.trans (Cv.trans Cv.owSl (Cv.slRep (T' := [23, 24]) rfl rfl)) (Cv.m rfl)) (CvL.cons (Cv.trans (Cv.trans Cv.owSl (Cv.slRep (T' := [25, 26]) rfl rfl)) (Cv.m rfl)) (CvL.cons Cv.fl CvL.nil)))) (Cv.close (T := [23, 24, 25, 26]) (chDisk x11.1)))) (ElKeep.tags rfl rfl) (ElKeep.tags rfl rfl)) ?_
        refine Walk.nil ?_
        refine Leaf.blockN ?_
        exact Leaf.join ((s4).set x12 x11.1) hm (Sub.cons (Has.cv (Has.s rfl) (Cv.trans (Cv.isvOw rfl) (Cv.owM (T := [31]) (te := [12, 23, 24, 25, 26]) rfl rfl))) (su (st (st Sub.nil))))
    ·have hm := cond_f hb hm
     refine CWalk.exit ?_
     refine Leaf.thenE ?_
     exact Leaf.brk hm (fun h => nomatch h) rfl (Sub.cons (Has.cv (Has.s rfl) (Cv.owM (T := [11, 31]) (te := [12, 23, 24, 25, 26]) rfl rfl)) Sub.nil)
   ·intro _
    rcases b13 with b14 | b15
    ·have hm := selim_l hm
     refine Leaf.blockE ?_
     refine Leaf.thenN ?_
     refine CWalk.seq ?_
     refine CWalk.region ?_
     refine mv ?_
     refine wo (Spec.assign (Has.s rfl)) ?_
     refine wo (Spec.assign Has.int) ?_
     refine Walk.nil ?_
     refine Leaf.thenN ?_
     refine CWalk.ret ?_
     obtain rfl := Option.some.inj hm
     exact Leaf.retC2 rfl (HasR.cv (HasR.tmp (Has.s rfl)) (Cv.owM (T := [11, 31]) (te := [12, 23, 24, 25, 26]) rfl rfl)) (HasR.cv (HasR.tmp (Has.s rfl)) Cv.fl)
    ·have hm := selim_r hm
     refine Leaf.blockR ?_
     refine Leaf.thenR ?_
     obtain rfl := Option.some.inj hm
     exact Leaf.retC2 rfl (HasR.cv (HasR.tmp (Has.s rfl)) (Cv.trans Cv.nilOw (Cv.owM (T := []) (te := []) rfl rfl))) (HasR.cv (HasR.tmp (Has.s rfl)) Cv.fl)

/-- freeboard/disk.Lasting -/
def disk_Lasting (a0 : Disk) (a1 : Int) : Option ((List UInt8) × Int) :=
  Option.bind (disk_place a0 a1) (fun x1 => (bif (x1 != (0 : Int)) then some (([] : List UInt8), x1) else (bif a0.Dead then some (([] : List UInt8), (40 : Int)) else Option.bind (idx a0.Blocks a1) (fun x2 => Option.bind (disk_block x2) (fun x3 => some (x3, (0 : Int)))))))
set_option maxRecDepth 100000 in
set_option maxHeartbeats 2000000 in
theorem disk_Lasting_c (a0 : Disk) (a1 : Int) {r : (List UInt8) × Int} (hm : disk_Lasting a0 a1 = some r) : Ctr Try.prog 46 [.rep 0 a0, .rep 0 a1] (.tup2 (.own 0 none 5 r.1) (.fl r.2)) [] := by
 refine ctr_of_walk [[15]] 21 Try.func46 rfl rfl rfl rfl (fun w0 om => ?_)
 unfold disk_Lasting at hm
 refine CWalk.sub (G' := [.fact 0 (.rep [0] (a0 : Disk)), .fact 1 (.rep [] (a1 : Int))]) (sn (Sub.cons (Has.fl (Has.s rfl)) Sub.nil)) ?_
 refine CWalk.seq ?_
 refine CWalk.region ?_
 refine ws (Step.boxObj (ls := [(false, 1, Fact.rep [0] a0.Blocks), (false, 1, Fact.rep [0] a0.Wait), (false, 1, Fact.rep [] a0.Dead)]) 10 rfl rfl rfl rfl (HasL.flds (Has.cv (Has.s rfl) (Cv.trans (Cv.opens (chDisk a0)) (Cv.flds (CvL.cons Cv.refl (CvL.cons Cv.refl (CvL.cons Cv.fl CvL.nil)))))))) ?_
 refine wo (Spec.assign Has.nilv) ?_
 refine wo (Spec.assign Has.int) ?_
 refine Walk.nil ?_
 refine Leaf.thenN ?_
 refine CWalk.seq ?_
 refine CWalk.seq ?_
 refine CWalk.region ?_
 refine wo (Spec.loadObj (ls := [(false, 1, Fact.rep [0] a0.Blocks), (false, 1, Fact.rep [0] a0.Wait), (false, 1, Fact.rep [] a0.Dead)]) ty61 rfl rfl (Has.s rfl) rfl (HasGs.cons (HasG.s rfl) (HasGs.cons (HasG.s rfl) (HasGs.cons (HasG.s rfl) HasGs.nil)))) ?_
 refine mv ?_
 obtain ⟨x1, hx1, hm⟩ := bind_some hm
 refine wo (f := Fact.rep [] (x1 : Int)) (Spec.callE [0] 14 rfl en76 (disk_place_c a0 a1 hx1) (HasAll.cons (Has.m (Has.cv (Has.s rfl) (Cv.trans (Cv.flds (CvL.cons (Cv.m rfl) (CvL.cons (Cv.m rfl) (CvL.cons Cv.fl CvL.nil)))) (Cv.close (T := [0]) (chDisk a0)))) rfl) (HasAll.cons (Has.fl (Has.s rfl)) HasAll.nil))) ?_
 refine wo (Spec.assign (Has.s rfl)) ?_
 refine Walk.nil ?_
 refine Leaf.thenN ?_
 refine CWalk.seq ?_
 refine CWalk.region ?_
 refine mv ?_
 refine wo (Spec.neqI (Has.s rfl) Has.int) ?_
 refine Walk.nil ?_
 refine Leaf.thenN ?_
 refine CWalk.cond rfl (fun hb => ?_) (fun hb => ?_)
 ·have hm := cond_t hb hm
  refine CWalk.seq ?_
  refine CWalk.region ?_
  refine mv ?_
  refine wo (Spec.assign Has.nilv) ?_
  refine wo (Spec.assign (Has.s rfl)) ?_
  refine Walk.nil ?_
  refine Leaf.thenN ?_
  refine CWalk.ret ?_
  refine Leaf.thenR ?_
  obtain rfl := Option.some.inj hm
  exact Leaf.retC2 rfl (HasR.cv (HasR.tmp (Has.s rfl)) (Cv.trans Cv.nilOw (Cv.owF (T := []) (te := []) rfl))) (HasR.cv (HasR.tmp (Has.s rfl)) Cv.fl)
 ·have hm := cond_f hb hm
  refine CWalk.skip ?_
  refine Leaf.thenN ?_
  refine CWalk.seq ?_
  refine CWalk.seq ?_
  refine CWalk.region ?_
  refine wo (Spec.fieldAddrO fd61_2 (Has.cv (Has.s rfl) (Cv.isvP rfl))) ?_
  refine wo (Spec.loadF (i := 2) ty4 rfl (Has.s rfl) rfl (HasG.s rfl)) ?_
  refine Walk.nil ?_
  refine Leaf.thenN ?_
  refine CWalk.cond rfl (fun hb => ?_) (fun hb => ?_)
  ·have hm := cond_t hb hm
   refine CWalk.seq ?_
   refine CWalk.region ?_
   refine wo (Spec.assign Has.nilv) ?_
   refine wo (Spec.assign Has.int) ?_
   refine Walk.nil ?_
   refine Leaf.thenN ?_
   refine CWalk.ret ?_
   refine Leaf.thenR ?_
   obtain rfl := Option.some.inj hm
   exact Leaf.retC2 rfl (HasR.cv (HasR.tmp (Has.s rfl)) (Cv.trans Cv.nilOw (Cv.owF (T := []) (te := []) rfl))) (HasR.cv (HasR.tmp (Has.s rfl)) Cv.fl)
  ·have hm := cond_f hb hm
   refine CWalk.skip ?_
   refine Leaf.thenN ?_
   refine CWalk.seq ?_
   refine CWalk.region ?_
   refine wo (Spec.fieldAddrO fd61_0 (Has.cv (Has.s rfl) (Cv.isvP rfl))) ?_
   refine wo (Spec.loadF (i := 0) ty36 rfl (Has.s rfl) rfl (HasG.s rfl)) ?_
   refine mv ?_
   obtain ⟨x2, hx2, hm⟩ := bind_some hm
   refine wo (Spec.indexAddr hx2 sl36 (Has.s rfl) (Has.s rfl)) ?_
   refine wo (Spec.load ty37 (Has.s rfl)) ?_
   obtain ⟨x3, hx3, hm⟩ := bind_some hm
   refine wo (f := Fact.ow [15] [] 5 (x3 : List UInt8)) (Spec.callE [0] 15 rfl en48 (disk_block_c x2 hx3) (HasAll.cons (Has.m (Has.s rfl) rfl) HasAll.nil)) ?_
   refine wo (Spec.assign (Has.s rfl)) ?_
   refine wo (Spec.assign Has.int) ?_
   refine Walk.nil ?_
   refine Leaf.thenN ?_
   refine CWalk.ret ?_
   obtain rfl := Option.some.inj hm
   exact Leaf.retC2 rfl (HasR.cv (HasR.tmp (Has.s rfl)) (Cv.owF (T := [15]) (te := []) rfl)) (HasR.cv (HasR.tmp (Has.s rfl)) Cv.fl)

def disk_Read_L2 (a0 : Disk) (a1 : Int) (s2 : Int) : Option (Ctl (Int) ((Unit) ⊕ ((List UInt8)))) :=
  (bif (decide (s2 ≥ (0 : Int))) then Option.bind (idx a0.Wait s2) (fun x4 => (bif (x4.At == a1) then Option.bind (disk_block x4.Data) (fun x5 => some (Ctl.brk (Sum.inr x5))) else some (Ctl.next (wI (s2 - (1 : Int)))))) else some (Ctl.brk (Sum.inl ())))
def disk_Read_J1 (a0 : Disk) (a1 : Int) (x1 : (List UInt8) × Int) : Option ((List UInt8) × Int) :=
  Option.bind (loopM (fun s : Int => disk_Read_L2 a0 a1 s) FUEL (wI (((a0.Wait).length : Int) - (1 : Int)))) (fun b6 => Sum.elim (fun b7 => some (x1.1, (0 : Int))) (fun b8 => some (b8, (0 : Int))) b6)
/-- freeboard/disk.Read -/
def disk_Read (a0 : Disk) (a1 : Int) : Option ((List UInt8) × Int) :=
  Option.bind (disk_Lasting a0 a1) (fun x1 => (bif (x1.2 != (0 : Int)) then some (([] : List UInt8), x1.2) else (disk_Read_J1 a0 a1 x1)))
set_option maxRecDepth 100000 in
set_option maxHeartbeats 2000000 in
theorem disk_Read_c (a0 : Disk) (a1 : Int) {r : (List UInt8) × Int} (hm : disk_Read a0 a1 = some r) : Ctr Try.prog 20 [.rep 0 a0, .rep 0 a1] (.tup2 (.own 0 none 5 r.1) (.fl r.2)) [] := by
 refine ctr_of_walkM [[20, 28]] 32 Try.func20 rfl rfl rfl rfl (fun w0 om => ?_)
 unfold disk_Read at hm
 refine CWalk.sub (G' := [.fact 0 (.rep [0] (a0 : Disk)), .fact 1 (.rep [] (a1 : Int))]) (sn (Sub.cons (Has.fl (Has.s rfl)) Sub.nil)) ?_
 refine CWalk.seq ?_
 refine CWalk.region ?_
 refine ws (Step.boxObj (ls := [(false, 1, Fact.rep [0] a0.Blocks), (false, 1, Fact.rep [0] a0.Wait), (false, 1, Fact.rep [] a0.Dead)]) 10 rfl rfl rfl rfl (HasL.flds (Has.cv (Has.s rfl) (Cv.trans (Cv.opens (chDisk a0)) (Cv.flds (CvL.cons Cv.refl (CvL.cons Cv.refl (CvL.cons Cv.fl CvL.nil)))))))) ?_
 refine ws (Step.boxObj (ls := [(false, 1, Fact.rep [] (a1 : Int))]) 14 rfl rfl rfl rfl (HasL.one (Has.s rfl) rfl (Has.s rfl))) ?_
 refine ws (Step.allocObj (ls := [(false, 1, Fact.nilv)]) 16 rfl rfl rfl rfl zl37) ?_
 refine ws (Step.allocObj (ls := [(false, 1, Fact.rep [] ((0 : Int) : Int))]) 18 rfl rfl rfl rfl zl25) ?_
 refine Walk.nil ?_
 refine Leaf.thenN ?_
 refine CWalk.seq ?_
 refine CWalk.region ?_
 refine wo (Spec.loadObj (ls := [(false, 1, Fact.rep [0] a0.Blocks), (false, 1, Fact.rep [0] a0.Wait), (false, 1, Fact.rep [] a0.Dead)]) ty61 rfl rfl (Has.s rfl) rfl (HasGs.cons (HasG.s rfl) (HasGs.cons (HasG.s rfl) (HasGs.cons (HasG.s rfl) HasGs.nil)))) ?_
 refine wo (Spec.loadF (i := 0) ty3 rfl (Has.cv (Has.s rfl) (Cv.isvP rfl)) rfl (HasG.s rfl)) ?_
 obtain ⟨x1, hx1, hm⟩ := bind_some hm
 refine wo (f := Fact.tup2 (Fact.ow [20] [] 5 (x1.1 : List UInt8)) (Fact.rep [] x1.2)) (Spec.callE [0] 20 rfl en46 (disk_Lasting_c a0 a1 hx1) (HasAll.cons (Has.m (Has.cv (Has.s rfl) (Cv.trans (Cv.flds (CvL.cons (Cv.m rfl) (CvL.cons (Cv.m rfl) (CvL.cons Cv.fl CvL.nil)))) (Cv.close (T := [0]) (chDisk a0)))) rfl) (HasAll.cons (Has.fl (Has.s rfl)) HasAll.nil))) ?_
 refine mv ?_
 refine wo (Spec.ext0 (Has.s rfl)) ?_
 refine wo (Spec.ext1 (Has.s rfl)) ?_
 refine wo (Spec.assign (Has.s rfl)) ?_
 refine wo (Spec.assign (Has.s rfl)) ?_
 refine Walk.nil ?_
 refine Leaf.thenN ?_
 refine CWalk.seq ?_
 refine CWalk.seq ?_
 refine CWalk.region ?_
 refine mv ?_
 refine wo (Spec.neqI (Has.s rfl) Has.int) ?_
 refine Walk.nil ?_
 refine Leaf.thenN ?_
 refine CWalk.cond rfl (fun hb => ?_) (fun hb => ?_)
 ·have hm := cond_t hb hm
  refine CWalk.seq ?_
  refine CWalk.region ?_
  refine mv ?_
  refine ws (Step.storeF (i := 0) (f := Fact.nilv) rfl ty37 rfl (Has.cv (Has.s rfl) (Cv.isvP rfl)) rfl (Has.cv Has.nilv (Cv.nil (T := []))) Has.nilv rfl) ?_
  refine ws (Step.storeF (i := 0) (f := Fact.rep [] x1.2) rfl ty25 rfl (Has.cv (Has.s rfl) (Cv.isvP rfl)) rfl (Has.s rfl) (Has.s rfl) rfl) ?_
  refine Walk.nil ?_
  refine Leaf.thenN ?_
  refine CWalk.ret ?_
  refine Leaf.thenR ?_
  obtain rfl := Option.some.inj hm
  exact Leaf.retM (Leaf.retC2 rfl (HasR.cv (HasR.cell1 ty37 rfl (Has.s rfl) rfl (HasG.s rfl)) (Cv.trans Cv.nilOw (Cv.owF (T := []) (te := []) rfl))) (HasR.cv (HasR.cell1 ty25 rfl (Has.s rfl) rfl (HasG.s rfl)) Cv.fl))
 ·have hm := cond_f hb hm
  refine CWalk.skip ?_
  refine Leaf.thenN ?_
  refine CWalk.seq ?_
  refine CWalk.seq ?_
  refine CWalk.region ?_
  refine wo (Spec.fieldAddrO fd61_1 (Has.cv (Has.s rfl) (Cv.isvP rfl))) ?_
  refine wo (Spec.loadF (i := 1) ty59 rfl (Has.s rfl) rfl (HasG.s rfl)) ?_
  refine Walk.inline (S := Unit) (fun p : Unit => [.fact 3 (.isv 14), .fact 4 (.isv 16), .fact 5 (.isv 18), .fact 6 (.ow [20] [] 5 (x1.1 : List UInt8)), .fact 21 (.fnv 77 [] [Fact.isv 21]), .fact 100015 (.at 15 (.rep [] (a1 : Int))), .fact 100017 (.at 17 (.nilv)), .fact 100019 (.at 19 (.rep [] ((0 : Int) : Int))), .fact 100022 (.at 22 (.rep [0] a0.Wait)), .fact 100014 (.obj 14 [(false, 1)]), .fact 100016 (.obj 16 [(false, 1)]), .fact 100018 (.obj 18 [(false, 1)]), .fact 100021 (.obj 21 [(false, 1)])]) (fun p : Unit => disk_Read_J1 a0 a1 x1 = some r) (fun u1 => [.fact 100015 (.at 15 (.rep [] (a1 : Int))), .fact 100017 (.at 17 (.nilv)), .fact 100019 (.at 19 (.rep [] ((0 : Int) : Int))), .fact 902003 (.cst (u1 3) (Fact.isv 14)), .fact 902004 (.cst (u1 4) (Fact.isv 16)), .fact 902005 (.cst (u1 5) (Fact.isv 18)), .fact 902006 (.cst (u1 6) (Fact.ow [20] [] 5 (x1.1 : List UInt8))), .fact 100014 (.obj 14 [(false, 1)]), .fact 100016 (.obj 16 [(false, 1)]), .fact 100018 (.obj 18 [(false, 1)])]) (FA := [Fact.rep [0] a0.Wait]) rfl Try.func47 rfl rfl rfl (CallOk.fn en47 (HasF.cons (Has.s rfl) HasF.nil)) (fun u1 => (ck (ck (ck (cs 902000 3 (cs 902000 4 (cs 902000 5 (cs 902000 6 (ck (ck (ck Carry.nil))))))))))) (fun u1 => ?_) ?_
  ·refine CWalk.seq ?_
   refine CWalk.region ?_
   refine ws (Step.boxObj (ls := [(false, 1, Fact.rep [0] a0.Wait)]) 21 rfl rfl rfl rfl (HasL.one (Has.s rfl) rfl (Has.s rfl))) ?_
   refine wo (Spec.assign Has.top) ?_
   refine Walk.nil ?_
   refine Leaf.thenN ?_
   refine CWalk.seq ?_
   refine CWalk.region ?_
   refine wo (Spec.makeFunc (xs := []) (ys := [.tmp 1]) rfl rfl HasF.nil (HasF.cons (Has.s rfl) HasF.nil) (fun _ _ _ => rfl)) ?_
   refine wo (Spec.assign (Has.s rfl)) ?_
   refine Walk.nil ?_
   refine Leaf.thenN ?_
   refine CWalk.ret ?_
   exact Leaf.in1 () hm rfl rfl (HasR.tmp (Has.s rfl)) (ls 902003 (ls 902004 (ls 902005 (Low.slot rfl (HasC.cv (HasC.s (s := 902006) rfl) (Cv.owF (T := [20]) (te := []) rfl)) (Low.res (lf (lg (lf (lm (lo (lo (lo (lo Low.nil)))))))))))))
  ·rintro _ hm
   replace hm : disk_Read_J1 a0 a1 x1 = some r := hm
   unfold disk_Read_J1 at hm
   show Walk _ _ _ [.fact 3 (.isv 14), .fact 4 (.isv 16), .fact 5 (.isv 18), .fact 6 (.ow [20] [] 5 (x1.1 : List UInt8)), .fact 21 (.fnv 77 [] [Fact.isv 21]), .fact 100015 (.at 15 (.rep [] (a1 : Int))), .fact 100017 (.at 17 (.nilv)), .fact 100019 (.at 19 (.rep [] ((0 : Int) : Int))), .fact 100022 (.at 22 (.rep [0] a0.Wait)), .fact 100014 (.obj 14 [(false, 1)]), .fact 100016 (.obj 16 [(false, 1)]), .fact 100018 (.obj 18 [(false, 1)]), .fact 100021 (.obj 21 [(false, 1)])] _
   refine Walk.nil ?_
   refine Leaf.thenN ?_
   refine CWalk.block ?_
   refine CWalk.rangeFunc (cs := [Fact.isv 21]) 23 (fun u1 => [.fact 902003 (.cst (u1 3) (Fact.isv 14)), .fact 902004 (.cst (u1 4) (Fact.isv 16)), .fact 902005 (.cst (u1 5) (Fact.isv 18)), .fact 902006 (.cst (u1 6) (Fact.ow [20] [] 5 (x1.1 : List UInt8))), .fact 902021 (.cst (u1 21) (Fact.fnv 77 [] [Fact.isv 21])), .fact 100015 (.at 15 (.rep [] (a1 : Int))), .fact 100017 (.at 17 (.nilv)), .fact 100019 (.at 19 (.rep [] ((0 : Int) : Int))), .fact 100022 (.at 22 (.rep [0] a0.Wait)), .fact 100014 (.obj 14 [(false, 1)]), .fact 100016 (.obj 16 [(false, 1)]), .fact 100018 (.obj 18 [(false, 1)]), .fact 100021 (.obj 21 [(false, 1)])]) rfl rfl rfl rfl Try.func77 rfl rfl en77 rfl (fun u1 => (cs 902000 3 (cs 902000 4 (cs 902000 5 (cs 902000 6 (cs 902000 21 (ck (ck (ck (ck (ck (ck (ck (ck Carry.nil)))))))))))))) (fun u1 rr1 hrr1 => ?_)
   refine CWalk.seq ?_
   refine CWalk.region ?_
   refine wo (Spec.loadF (i := 0) ty59 rfl (Has.cv (Has.s rfl) (Cv.isvP rfl)) rfl (HasG.s rfl)) ?_
   refine wo (Spec.len (Has.s rfl) Try.underlying59) ?_
   refine wo (Spec.subI (Has.s rfl) Has.int) ?_
   refine wo (Spec.assign (Has.s rfl)) ?_
   refine Walk.nil ?_
   refine Leaf.thenN ?_
   refine CWalk.block ?_
   obtain ⟨b6, hb6, hm⟩ := bind_some hm
   refine CWalk.loop (fun s : Int => [.fact 0 (.yv rr1.l), .fact 1 (.isv 21), .fact 3 (.rep [] (s : Int)), .fact 902003 (.cst (u1 3) (Fact.isv 14)), .fact 902004 (.cst (u1 4) (Fact.isv 16)), .fact 902005 (.cst (u1 5) (Fact.isv 18)), .fact 902006 (.cst (u1 6) (Fact.ow [20] [] 5 (x1.1 : List UInt8))), .fact 902021 (.cst (u1 21) (Fact.fnv 77 [] [Fact.isv 21])), .fact 100022 (.at 22 (.rep [0] a0.Wait)), .fact 100015 (.at 15 (.rep [] (a1 : Int))), .fact 100017 (.at 17 (.nilv)), .fact 100019 (.at 19 (.rep [] ((0 : Int) : Int))), .fact 100021 (.obj 21 [(false, 1)]), .fact 100014 (.obj 14 [(false, 1)]), .fact 100016 (.obj 16 [(false, 1)]), .fact 100018 (.obj 18 [(false, 1)]), .fact 100023 (.rc 23 rr1 .ready none), .fact 100024 (.dm 24 rr1.D)]) (fun b : (Unit) ⊕ ((List UInt8)) => Sum.elim (fun b => (Exit.exit 0, [.fact 902003 (.cst (u1 3) (Fact.isv 14)), .fact 902004 (.cst (u1 4) (Fact.isv 16)), .fact 902005 (.cst (u1 5) (Fact.isv 18)), .fact 902006 (.cst (u1 6) (Fact.ow [20] [] 5 (x1.1 : List UInt8))), .fact 902021 (.cst (u1 21) (Fact.fnv 77 [] [Fact.isv 21])), .fact 100015 (.at 15 (.rep [] (a1 : Int))), .fact 100017 (.at 17 (.nilv)), .fact 100019 (.at 19 (.rep [] ((0 : Int) : Int))), .fact 100022 (.at 22 (.rep [0] a0.Wait)), .fact 100014 (.obj 14 [(false, 1)]), .fact 100016 (.obj 16 [(false, 1)]), .fact 100018 (.obj 18 [(false, 1)]), .fact 100021 (.obj 21 [(false, 1)]), .fact 100023 (.rc 23 rr1 .ready none), .fact 100024 (.dm 24 rr1.D)])) (fun b => (Exit.ret, [.fact 902003 (.cst (u1 3) (Fact.isv 14)), .fact 902004 (.cst (u1 4) (Fact.isv 16)), .fact 902005 (.cst (u1 5) (Fact.isv 18)), .fact 902006 (.cst (u1 6) (Fact.ow [20] [] 5 (x1.1 : List UInt8))), .fact 902021 (.cst (u1 21) (Fact.fnv 77 [] [Fact.isv 21])), .fact 100015 (.at 15 (.rep [] (a1 : Int))), .fact 100017 (.at 17 (.ow [28] [] 5 (b : List UInt8))), .fact 100019 (.at 19 (.rep [] ((0 : Int) : Int))), .fact 100022 (.at 22 (.rep [0] a0.Wait)), .fact 100014 (.obj 14 [(false, 1)]), .fact 100016 (.obj 16 [(false, 1)]), .fact 100018 (.obj 18 [(false, 1)]), .fact 100021 (.obj 21 [(false, 1)]), .fact 100023 (.rc 23 rr1 (.done) (some .ret)), .fact 100024 (.dm 24 rr1.D)])) b) hb6 (sn (sn (st (sc (sc (sc (Sub.cons (Has.cst (HasC.cv (HasC.s (s := 902006) rfl) (Cv.owF (T := [20]) (te := []) rfl))) (sc (sm (sf (sg (sf (sn (sn (sn (sn (sn (sn Sub.nil)))))))))))))))))) ?_ ?_
   ·rintro s2 c3 hm
    replace hm : disk_Read_L2 a0 a1 s2 = some c3 := hm
    unfold disk_Read_L2 at hm
    show CWalk _ [.fact 0 (.yv rr1.l), .fact 1 (.isv 21), .fact 3 (.rep [] (s2 : Int)), .fact 902003 (.cst (u1 3) (Fact.isv 14)), .fact 902004 (.cst (u1 4) (Fact.isv 16)), .fact 902005 (.cst (u1 5) (Fact.isv 18)), .fact 902006 (.cst (u1 6) (Fact.ow [20] [] 5 (x1.1 : List UInt8))), .fact 902021 (.cst (u1 21) (Fact.fnv 77 [] [Fact.isv 21])), .fact 100022 (.at 22 (.rep [0] a0.Wait)), .fact 100015 (.at 15 (.rep [] (a1 : Int))), .fact 100017 (.at 17 (.nilv)), .fact 100019 (.at 19 (.rep [] ((0 : Int) : Int))), .fact 100021 (.obj 21 [(false, 1)]), .fact 100014 (.obj 14 [(false, 1)]), .fact 100016 (.obj 16 [(false, 1)]), .fact 100018 (.obj 18 [(false, 1)]), .fact 100023 (.rc 23 rr1 .ready none), .fact 100024 (.dm 24 rr1.D)] _ _
    refine CWalk.seq ?_
    refine CWalk.seq ?_
    refine CWalk.region ?_
    refine mv ?_
    refine wo (Spec.geqI (Has.s rfl) Has.int) ?_
    refine Walk.nil ?_
    refine Leaf.thenN ?_
    refine CWalk.cond rfl (fun hb => ?_) (fun hb => ?_)
    ·have hm := cond_t hb hm
     refine CWalk.skip ?_
     refine Leaf.thenN ?_
     refine CWalk.seq ?_
     refine CWalk.block ?_
     refine CWalk.seq ?_
     refine CWalk.region ?_
     refine mv ?_
     refine mv ?_
     refine wo (Spec.loadF (i := 0) ty59 rfl (Has.cv (Has.s rfl) (Cv.isvP rfl)) rfl (HasG.s rfl)) ?_
     refine mv ?_
     obtain ⟨x4, hx4, hm⟩ := bind_some hm
     refine wo (Spec.indexAddr hx4 sl59 (Has.s rfl) (Has.s rfl)) ?_
     refine wo (Spec.load ty86 (Has.s rfl)) ?_
     refine Walk.yieldH (t := 23) (fs := [Fact.rep [] (s2 : Int), Fact.rep [0] (x4 : Write)]) (fun u2 => [.fact 904000 (.cst (u2 0) (Fact.yv rr1.l)), .fact 904001 (.cst (u2 1) (Fact.isv 21)), .fact 904003 (.cst (u2 3) (Fact.rep [] (s2 : Int))), .fact 100015 (.at 15 (.rep [] (a1 : Int))), .fact 100017 (.at 17 (.nilv)), .fact 100019 (.at 19 (.rep [] ((0 : Int) : Int))), .fact 100022 (.at 22 (.rep [0] a0.Wait)), .fact 902003 (.cst (u1 3) (Fact.isv 14)), .fact 902004 (.cst (u1 4) (Fact.isv 16)), .fact 902005 (.cst (u1 5) (Fact.isv 18)), .fact 902006 (.cst (u1 6) (Fact.ow [20] [] 5 (x1.1 : List UInt8))), .fact 902021 (.cst (u1 21) (Fact.fnv 77 [] [Fact.isv 21])), .fact 3 (.isv 14), .fact 4 (.isv 16), .fact 5 (.isv 18), .fact 6 (.ow [20] [] 5 (x1.1 : List UInt8)), .fact 21 (.fnv 77 [] [Fact.isv 21]), .fact 100014 (.obj 14 [(false, 1)]), .fact 100016 (.obj 16 [(false, 1)]), .fact 100018 (.obj 18 [(false, 1)]), .fact 100021 (.obj 21 [(false, 1)]), .fact 100023 (.rc 23 rr1 .ready none), .fact 100024 (.dm 24 rr1.D)]) hrr1 rfl rfl (Has.s rfl) rfl rfl (HasF.cons (Has.s rfl) (HasF.cons (Has.s rfl) HasF.nil)) rfl rfl (fun u2 => (Carry2.slot 904000 0 (Carry2.slot 904000 1 (Carry2.slot 904000 3 (Carry2.keep (Carry2.keep (Carry2.keep (Carry2.keep (Carry2.keep (Carry2.keep (Carry2.keep (Carry2.keep (Carry2.keep (Carry2.low 902003 3 (Carry2.low 902004 4 (Carry2.low 902005 5 (Carry2.low 902006 6 (Carry2.low 902021 21 (Carry2.keep (Carry2.keep (Carry2.keep (Carry2.keep (Carry2.keep (Carry2.keep Carry2.nil)))))))))))))))))))))))) (fun u2 => ?_)
     refine CWalk.region ?_
     refine ws (Step.allocObj (ls := [(false, 1, Fact.rep [] ((0 : Int) : Int)), (false, 1, Fact.nilv)]) 25 rfl rfl rfl rfl zl86) ?_
     refine ws (Step.storeObj (ls := [(false, 1, Fact.rep [] x4.At), (false, 1, Fact.rep [0] x4.Data)]) rfl ty86 rfl rfl (Has.s rfl) rfl (HasL.flds (Has.cv (Has.s rfl) (Cv.trans (Cv.opens (chWrite x4)) (Cv.flds (CvL.cons Cv.fl (CvL.cons Cv.refl CvL.nil)))))) rfl) ?_
     refine Walk.nil ?_
     refine Leaf.begin (t := 23) rfl rfl ?_
     refine CWalk.block ?_
     refine CWalk.seq ?_
     refine CWalk.region ?_
     refine wo (Spec.fieldAddrO fd86_0 (Has.cv (Has.s rfl) (Cv.isvP rfl))) ?_
     refine wo (Spec.loadF (i := 0) ty3 rfl (Has.s rfl) rfl (HasG.s rfl)) ?_
     refine wo (Spec.loadF (i := 0) ty3 rfl (Has.cv (Has.s rfl) (Cv.isvP rfl)) rfl (HasG.s rfl)) ?_
     refine wo (Spec.eqlI (Has.s rfl) (Has.s rfl)) ?_
     refine Walk.nil ?_
     refine Leaf.thenN ?_
     refine CWalk.cond rfl (fun hb => ?_) (fun hb => ?_)
     ·have hm := cond_t hb hm
      refine CWalk.seq ?_
      refine CWalk.region ?_
      refine wo (Spec.fieldAddrO fd86_1 (Has.cv (Has.s rfl) (Cv.isvP rfl))) ?_
      refine wo (Spec.loadF (i := 1) ty37 rfl (Has.s rfl) rfl (HasG.s rfl)) ?_
      obtain ⟨x5, hx5, hm⟩ := bind_some hm
      refine wo (f := Fact.ow [28] [] 5 (x5 : List UInt8)) (Spec.callE [0] 28 rfl en48 (disk_block_c x4.Data hx5) (HasAll.cons (Has.m (Has.s rfl) rfl) HasAll.nil)) ?_
      refine ws (Step.storeF (i := 0) (f := Fact.ow [28] [] 5 (x5 : List UInt8)) rfl ty37 rfl (Has.cv (Has.s rfl) (Cv.isvP rfl)) rfl (Has.cv (Has.s rfl) (Cv.trans Cv.owSl (Cv.slRep (T' := [28]) rfl rfl))) (Has.s rfl) rfl) ?_
      refine ws (Step.storeF (i := 0) (f := Fact.rep [] ((0 : Int) : Int)) rfl ty25 rfl (Has.cv (Has.s rfl) (Cv.isvP rfl)) rfl Has.int Has.int rfl) ?_
      refine Walk.nil ?_
      refine Leaf.thenN ?_
      refine CWalk.ret ?_
      refine Leaf.blockR ?_
      refine Leaf.rdR (t := 23) (J := [.fact 17 (.rep [] (false : Bool)), .fact 100015 (.at 15 (.rep [] (a1 : Int))), .fact 100017 (.at 17 (.ow [28] [] 5 (x5 : List UInt8))), .fact 100019 (.at 19 (.rep [] ((0 : Int) : Int))), .fact 100022 (.at 22 (.rep [0] a0.Wait)), .fact 100026 (.at 26 (.rep [] x4.At)), .fact 100027 (.at 27 (.rep [0] x4.Data)), .fact 902003 (.cst (u1 3) (Fact.isv 14)), .fact 902004 (.cst (u1 4) (Fact.isv 16)), .fact 902005 (.cst (u1 5) (Fact.isv 18)), .fact 902006 (.cst (u1 6) (Fact.ow [20] [] 5 (x1.1 : List UInt8))), .fact 902021 (.cst (u1 21) (Fact.fnv 77 [] [Fact.isv 21])), .fact 0 (.yv rr1.l), .fact 1 (.isv 21), .fact 3 (.rep [] (s2 : Int)), .fact 100014 (.obj 14 [(false, 1)]), .fact 100016 (.obj 16 [(false, 1)]), .fact 100018 (.obj 18 [(false, 1)]), .fact 100021 (.obj 21 [(false, 1)]), .fact 100024 (.dm 24 rr1.D), .fact 100025 (.obj 25 [(false, 1), (false, 1)])]) rfl rfl rfl (Low.res (lg (lg (lg (lg (lg (lg (lc (lc (lc (lc (lc (ls 904000 (ls 904001 (ls 904003 (lo (lo (lo (lo (lk (lo Low.nil))))))))))))))))))))) ?_
      refine wo (Spec.not (Has.s rfl)) ?_
      refine Walk.nil ?_
      refine Leaf.thenN ?_
      refine CWalk.cond rfl (fun hb => ?_) (fun hb => ?_)
      ·skip
       refine CWalk.ret ?_
       refine Leaf.blockR ?_
       refine Leaf.thenR ?_
       exact Leaf.brk hm (fun h => nomatch h) rfl (sc (sc (sc (Sub.cons (Has.cst (HasC.cv (HasC.s (s := 902006) rfl) (Cv.owF (T := [20]) (te := []) rfl))) (sc (sf (Sub.cons (Has.at (HasG.cv (HasG.s rfl) (Cv.owF (T := [28]) (te := []) rfl))) (sf (sm (sn (sn (sn (sn (sn (sn Sub.nil)))))))))))))))
      ·exact absurd hb (by decide)
     ·have hm := cond_f hb hm
      refine CWalk.skip ?_
      refine Leaf.blockN ?_
      refine Leaf.rdN (t := 23) (J := [.fact 17 (.rep [] (true : Bool)), .fact 100015 (.at 15 (.rep [] (a1 : Int))), .fact 100017 (.at 17 (.nilv)), .fact 100019 (.at 19 (.rep [] ((0 : Int) : Int))), .fact 100022 (.at 22 (.rep [0] a0.Wait)), .fact 100026 (.at 26 (.rep [] x4.At)), .fact 100027 (.at 27 (.rep [0] x4.Data)), .fact 902003 (.cst (u1 3) (Fact.isv 14)), .fact 902004 (.cst (u1 4) (Fact.isv 16)), .fact 902005 (.cst (u1 5) (Fact.isv 18)), .fact 902006 (.cst (u1 6) (Fact.ow [20] [] 5 (x1.1 : List UInt8))), .fact 902021 (.cst (u1 21) (Fact.fnv 77 [] [Fact.isv 21])), .fact 0 (.yv rr1.l), .fact 1 (.isv 21), .fact 3 (.rep [] (s2 : Int)), .fact 100014 (.obj 14 [(false, 1)]), .fact 100016 (.obj 16 [(false, 1)]), .fact 100018 (.obj 18 [(false, 1)]), .fact 100021 (.obj 21 [(false, 1)]), .fact 100024 (.dm 24 rr1.D), .fact 100025 (.obj 25 [(false, 1), (false, 1)])]) rfl rfl rfl (Low.res (lg (lg (lg (lg (lg (lg (lc (lc (lc (lc (lc (ls 904000 (ls 904001 (ls 904003 (lo (lo (lo (lo (lk (lo Low.nil))))))))))))))))))))) ?_
      refine wo (Spec.not (Has.s rfl)) ?_
      refine Walk.nil ?_
      refine Leaf.thenN ?_
      refine CWalk.cond rfl (fun hb => ?_) (fun hb => ?_)
      ·exact absurd hb (by decide)
      ·skip
       refine CWalk.skip ?_
       refine Leaf.blockN ?_
       refine Leaf.thenN ?_
       refine CWalk.region ?_
       refine mv ?_
       refine wo (Spec.subI (Has.s rfl) Has.int) ?_
       refine wo (Spec.assign (Has.s rfl)) ?_
       refine Walk.nil ?_
       exact Leaf.next hm (sn (sn (st (sc (sc (sc (Sub.cons (Has.cst (HasC.cv (HasC.s (s := 902006) rfl) (Cv.owF (T := [20]) (te := []) rfl))) (sc (sm (sf (sg (sf (sn (sn (sn (sn (sn (sn Sub.nil))))))))))))))))))
    ·have hm := cond_f hb hm
     refine CWalk.exit ?_
     refine Leaf.thenE ?_
     exact Leaf.brk hm (fun h => nomatch h) rfl (sc (sc (sc (Sub.cons (Has.cst (HasC.cv (HasC.s (s := 902006) rfl) (Cv.owF (T := [20]) (te := []) rfl))) (sc (sf (sg (sf (sm (sn (sn (sn (sn (sn (sn Sub.nil)))))))))))))))
   ·intro _
    rcases b6 with b7 | b8
    ·have hm := selim_l hm
     refine Leaf.blockE ?_
     refine Leaf.rfe ?_
     refine Leaf.rfN (t := 23) (st := .ready) (J := [.fact 100015 (.at 15 (.rep [] (a1 : Int))), .fact 100017 (.at 17 (.nilv)), .fact 100019 (.at 19 (.rep [] ((0 : Int) : Int))), .fact 100022 (.at 22 (.rep [0] a0.Wait)), .fact 3 (.isv 14), .fact 4 (.isv 16), .fact 5 (.isv 18), .fact 6 (.ow [20] [] 5 (x1.1 : List UInt8)), .fact 21 (.fnv 77 [] [Fact.isv 21]), .fact 100014 (.obj 14 [(false, 1)]), .fact 100016 (.obj 16 [(false, 1)]), .fact 100018 (.obj 18 [(false, 1)]), .fact 100021 (.obj 21 [(false, 1)]), .fact 100024 (.dm 24 rr1.D)]) rfl rfl rfl (fun h => nomatch h) (lg (lg (lg (lg (ls 902003 (ls 902004 (ls 902005 (ls 902006 (ls 902021 (lo (lo (lo (lo (lk Low.nil)))))))))))))) ?_
     refine Leaf.blockN ?_
     refine Leaf.thenN ?_
     refine CWalk.seq ?_
     refine CWalk.region ?_
     refine mv ?_
     refine ws (Step.storeF (i := 0) (f := Fact.ow [20] [] 5 (x1.1 : List UInt8)) rfl ty37 rfl (Has.cv (Has.s rfl) (Cv.isvP rfl)) rfl (Has.cv (Has.s rfl) (Cv.trans Cv.owSl (Cv.slRep (T' := [20]) rfl rfl))) (Has.s rfl) rfl) ?_
     refine ws (Step.storeF (i := 0) (f := Fact.rep [] ((0 : Int) : Int)) rfl ty25 rfl (Has.cv (Has.s rfl) (Cv.isvP rfl)) rfl Has.int Has.int rfl) ?_
     refine Walk.nil ?_
     refine Leaf.thenN ?_
     refine CWalk.ret ?_
     obtain rfl := Option.some.inj hm
     exact Leaf.unmark (t := 24) rfl rfl (Leaf.retC2 rfl (HasR.cv (HasR.cell1 ty37 rfl (Has.s rfl) rfl (HasG.s rfl)) (Cv.owF (T := [20]) (te := []) rfl)) (HasR.cv (HasR.cell1 ty25 rfl (Has.s rfl) rfl (HasG.s rfl)) Cv.fl))
    ·have hm := selim_r hm
     refine Leaf.blockR ?_
     refine Leaf.rfJ (t := 23) (st := (.done)) (J := [.fact 100015 (.at 15 (.rep [] (a1 : Int))), .fact 100017 (.at 17 (.ow [28] [] 5 (b8 : List UInt8))), .fact 100019 (.at 19 (.rep [] ((0 : Int) : Int))), .fact 100022 (.at 22 (.rep [0] a0.Wait)), .fact 3 (.isv 14), .fact 4 (.isv 16), .fact 5 (.isv 18), .fact 6 (.ow [20] [] 5 (x1.1 : List UInt8)), .fact 21 (.fnv 77 [] [Fact.isv 21]), .fact 100014 (.obj 14 [(false, 1)]), .fact 100016 (.obj 16 [(false, 1)]), .fact 100018 (.obj 18 [(false, 1)]), .fact 100021 (.obj 21 [(false, 1)]), .fact 100024 (.dm 24 rr1.D)]) rfl rfl rfl (fun h => nomatch h) (lg (lg (lg (lg (ls 902003 (ls 902004 (ls 902005 (ls 902006 (ls 902021 (lo (lo (lo (lo (lk Low.nil)))))))))))))) ?_
     refine CWalk.ret ?_
     refine Leaf.blockR ?_
     refine Leaf.thenR ?_
     obtain rfl := Option.some.inj hm
     exact Leaf.unmark (t := 24) rfl rfl (Leaf.retC2 rfl (HasR.cv (HasR.cell1 ty37 rfl (Has.s rfl) rfl (HasG.s rfl)) (Cv.owF (T := [28]) (te := []) rfl)) (HasR.cv (HasR.cell1 ty25 rfl (Has.s rfl) rfl (HasG.s rfl)) Cv.fl))

def law27_RedoLast_J2 (s14 : Int) (j16 : List UInt8) : Option (Ctl ((List UInt8) × Int) ((List UInt8))) :=
  some (Ctl.next (j16, (wI (s14 + (1 : Int)))))
def law27_RedoLast_J5 (s20 : Int) (j22 : List UInt8) : Option (Ctl ((List UInt8) × Int) ((List UInt8))) :=
  some (Ctl.next (j22, (wI (s20 + (1 : Int)))))
def law27_RedoLast_L4 (a5 : Int) (x17 : Found) (s19 : List UInt8) (s20 : Int) : Option (Ctl ((List UInt8) × Int) ((List UInt8))) :=
  (bif (decide (s20 < ((x17.Deal.Slots).length : Int))) then Option.bind (idx x17.Deal.Slots s20) (fun x23 => (bif (x23 == a5) then Option.bind (idx x17.Deal.Blocks s20) (fun x24 => (law27_RedoLast_J5 s20 x24)) else (law27_RedoLast_J5 s20 s19))) else some (Ctl.brk s19))
def law27_RedoLast_J3 (a5 : Int) (s14 : Int) (x17 : Found) (j18 : List UInt8) : Option (Ctl ((List UInt8) × Int) ((List UInt8))) :=
  Option.bind (loopM (fun s : (List UInt8) × Int => law27_RedoLast_L4 a5 x17 s.1 s.2) FUEL (j18, (0 : Int))) (fun b25 => (law27_RedoLast_J2 s14 b25))
def law27_RedoLast_L1 (a0 : Config) (a2 : List Found) (a4 : Int) (a5 : Int) (x6 : Int × Int) (x8 : Int × Int) (s13 : List UInt8) (s14 : Int) : Option (Ctl ((List UInt8) × Int) ((List UInt8))) :=
  (bif ((decide (s14 < ((a2).length : Int))) && (x6.1 != x8.1)) then Option.bind (idx a2 s14) (fun x17 => (bif ((x17.Deal.Stripe != a4) || (((x17.Deal.Parity).length : Int) == (0 : Int))) then (law27_RedoLast_J2 s14 s13) else (bif (a5 == (wI (a0.Members - (1 : Int)))) then (law27_RedoLast_J3 a5 s14 x17 x17.Deal.Parity) else (law27_RedoLast_J3 a5 s14 x17 s13)))) else some (Ctl.brk s13))
def law27_RedoLast_J6 (x1 : Bool) (x12 : (List UInt8) × Int) (j27 : List UInt8) : Option (Bool) :=
  some (x1 && ((Str.mk x12.1).s == (Str.mk j27).s))
/-- freeboard/freeboardlaw27.RedoLast -/
def law27_RedoLast (a0 : Config) (a1 : Loss) (a2 : List Found) (a3 : List Disk) (a4 : Int) (a5 : Int) : Option (Bool) :=
  Option.bind (law27_alive) (fun x1 => Option.bind (ref27_Great a2) (fun x2 => Option.bind (gO (!x2) (ref05_Great a3)) (fun x3 => Option.bind (gO (!(x2 || x3)) (eye_Check a0 a3)) (fun x4 => (bif (((x2 || x3) || (x4 != (0 : Int))) || (!x1)) then some x1 else Option.bind (redo_Acts a0 a1 a2) (fun x5 => Option.bind (turn_Member a0 a4 a5) (fun x6 => Option.bind (acts_Run a3 x5.1 ((x5.1).length : Int)) (fun x7 => (bif (((x5.2.2 != (0 : Int)) || (x6.2 != (0 : Int))) || (x7.2 != (0 : Int))) then some x1 else Option.bind (loss_Missing a0 a1 a4) (fun x8 => Option.bind (idx a3 x6.1) (fun x9 => Option.bind (disk_Read x9 (wI ((1 : Int) + a4))) (fun x10 => Option.bind (idx x7.1 x6.1) (fun x11 => Option.bind (disk_Read x11 (wI ((1 : Int) + a4))) (fun x12 => (bif ((x8.2 != (0 : Int)) || (x10.2 != x12.2)) then some false else (bif (x10.2 != (0 : Int)) then some (x1 && (x10.2 == (40 : Int))) else Option.bind (loopM (fun s : (List UInt8) × Int => law27_RedoLast_L1 a0 a2 a4 a5 x6 x8 s.1 s.2) FUEL (x10.1, (0 : Int))) (fun b26 => (bif (((b26).length : Int) == (0 : Int)) then Option.bind (law27_full (0 : UInt8)) (fun x28 => (law27_RedoLast_J6 x1 x12 x28)) else (law27_RedoLast_J6 x1 x12 b26)))))))))))))))))))
set_option maxRecDepth 100000 in
set_option maxHeartbeats 2000000 in
theorem law27_RedoLast_c (a0 : Config) (a1 : Loss) (a2 : List Found) (a3 : List Disk) (a4 : Int) (a5 : Int) {r : Bool} (hm : law27_RedoLast a0 a1 a2 a3 a4 a5 = some r) : Ctr Try.prog 5 [.rep 0 a0, .rep 0 a1, .rep 0 a2, .rep 0 a3, .rep 0 a4, .rep 0 a5] (.fl r) [] := by
 refine ctr_of_walk [[]] 189 Try.func5 rfl rfl rfl rfl (fun w0 om => ?_)
 unfold law27_RedoLast at hm
 refine CWalk.sub (G' := [.fact 0 (.rep [] (a0 : Config)), .fact 1 (.rep [] (a1 : Loss)), .fact 2 (.rep [0] (a2 : List Found)), .fact 3 (.rep [0] (a3 : List Disk)), .fact 4 (.rep [] (a4 : Int)), .fact 5 (.rep [] (a5 : Int))]) (Sub.cons (Has.fl (Has.s rfl)) (Sub.cons (Has.fl (Has.s rfl)) (sn (sn (Sub.cons (Has.fl (Has.s rfl)) (Sub.cons (Has.fl (Has.s rfl)) Sub.nil)))))) ?_
 refine CWalk.seq ?_
 refine CWalk.region ?_
 refine ws (Step.boxObj (ls := [(false, 1, Fact.rep [] a0.Id), (false, 1, Fact.rep [] a0.Members), (false, 1, Fact.rep [] a0.Chunk), (false, 1, Fact.rep [] a0.Rows), (false, 1, Fact.rep [] a0.Log), (false, 1, Fact.rep [] a0.Heads)]) 10 rfl rfl rfl rfl (HasL.flds (Has.cv (Has.s rfl) (Cv.trans (Cv.opens (chConfig a0)) (Cv.flds (CvL.cons Cv.fl (CvL.cons Cv.fl (CvL.cons Cv.fl (CvL.cons Cv.fl (CvL.cons Cv.fl (CvL.cons Cv.fl CvL.nil))))))))))) ?_
 refine ws (Step.boxObj (ls := [(false, 1, Fact.rep [] a1.Events), (false, 1, Fact.rep [] a1.Lost), (false, 1, Fact.rep [] a1.Spare), (false, 1, Fact.rep [] a1.Pos), (false, 1, Fact.rep [] a1.Done), (false, 1, Fact.rep [] a1.NoLog), (false, 1, Fact.rep [] a1.Broken)]) 17 rfl rfl rfl rfl (HasL.flds (Has.cv (Has.s rfl) (Cv.trans (Cv.opens (chLoss a1)) (Cv.flds (CvL.cons Cv.fl (CvL.cons Cv.fl (CvL.cons Cv.fl (CvL.cons Cv.fl (CvL.cons Cv.fl (CvL.cons Cv.fl (CvL.cons Cv.fl CvL.nil)))))))))))) ?_
 refine wo (Spec.assign Has.bool) ?_
 refine Walk.nil ?_
 refine Leaf.thenN ?_
 refine CWalk.seq ?_
 refine CWalk.region ?_
 obtain ⟨x1, hx1, hm⟩ := bind_some hm
 refine wo (f := Fact.rep [] (x1 : Bool)) (Spec.callE [] 25 rfl en7 (law27_alive_c  hx1) HasAll.nil) ?_
 refine wo (Spec.assign (Has.s rfl)) ?_
 refine Walk.nil ?_
 refine Leaf.thenN ?_
 refine CWalk.seq ?_
 refine CWalk.seq ?_
 refine CWalk.region ?_
 refine mv ?_
 obtain ⟨x2, hx2, hm⟩ := bind_some hm
 refine wo (f := Fact.rep [] (x2 : Bool)) (Spec.callE [0] 26 rfl en13 (ref27_Great_c a2 hx2) (HasAll.cons (Has.m (Has.s rfl) rfl) HasAll.nil)) ?_
 refine mv ?_
 refine wg rfl rfl (fun hb => Spec.move (Has.s rfl)) ?_
 obtain ⟨x3, hx3, hm⟩ := bind_some hm
 refine wg (f := Fact.rep [] (x3 : Bool)) rfl rfl (fun hb => Spec.callE [0] 27 rfl en15 (ref05_Great_c a3 (gO_t hx3 (not_t hb))) (HasAll.cons (Has.m (Has.u rfl hb) rfl) HasAll.nil)) ?_
 refine wo (Spec.or (Has.s rfl) (fun h => Has.u rfl h)) ?_
 refine mv ?_
 refine wg rfl rfl (fun hb => Spec.loadObj (ls := [(false, 1, Fact.rep [] a0.Id), (false, 1, Fact.rep [] a0.Members), (false, 1, Fact.rep [] a0.Chunk), (false, 1, Fact.rep [] a0.Rows), (false, 1, Fact.rep [] a0.Log), (false, 1, Fact.rep [] a0.Heads)]) ty30 rfl rfl (Has.s rfl) rfl (HasGs.cons (HasG.s rfl) (HasGs.cons (HasG.s rfl) (HasGs.cons (HasG.s rfl) (HasGs.cons (HasG.s rfl) (HasGs.cons (HasG.s rfl) (HasGs.cons (HasG.s rfl) HasGs.nil))))))) ?_
 refine wg rfl rfl (fun hb => Spec.move (Has.s rfl)) ?_
 obtain ⟨x4, hx4, hm⟩ := bind_some hm
 refine wg (f := Fact.rep [] (x4 : Int)) rfl rfl (fun hb => Spec.callE [0] 28 rfl en16 (eye_Check_c a0 a3 (gO_t hx4 (not_t hb))) (HasAll.cons (Has.fl (Has.cv (Has.u rfl hb) (Cv.trans (Cv.flds (CvL.cons Cv.fl (CvL.cons Cv.fl (CvL.cons Cv.fl (CvL.cons Cv.fl (CvL.cons Cv.fl (CvL.cons Cv.fl CvL.nil))))))) (Cv.close (T := []) (chConfig a0))))) (HasAll.cons (Has.m (Has.u rfl hb) rfl) HasAll.nil))) ?_
 refine wg rfl rfl (fun hb => Spec.neqI (Has.u rfl hb) Has.int) ?_
 refine wo (Spec.or (Has.s rfl) (fun h => Has.u rfl h)) ?_
 refine mv ?_
 refine wg rfl rfl (fun hb => Spec.move (Has.s rfl)) ?_
 refine wg rfl rfl (fun hb => Spec.not (Has.u rfl hb)) ?_
 refine wo (Spec.or (Has.s rfl) (fun h => Has.u rfl h)) ?_
 refine Walk.nil ?_
 refine Leaf.thenN ?_
 refine CWalk.cond rfl (fun hb => ?_) (fun hb => ?_)
 ·have hm := cond_t hb hm
  refine CWalk.seq ?_
  refine CWalk.region ?_
  refine mv ?_
  refine wo (Spec.assign (Has.s rfl)) ?_
  refine Walk.nil ?_
  refine Leaf.thenN ?_
  refine CWalk.ret ?_
  refine Leaf.thenR ?_
  obtain rfl := Option.some.inj hm
  exact Leaf.retC1 rfl (HasR.cv (HasR.tmp (Has.s rfl)) Cv.fl)
 ·have hm := cond_f hb hm
  refine CWalk.skip ?_
  refine Leaf.thenN ?_
  refine CWalk.seq ?_
  refine CWalk.region ?_
  refine wo (Spec.loadObj (ls := [(false, 1, Fact.rep [] a0.Id), (false, 1, Fact.rep [] a0.Members), (false, 1, Fact.rep [] a0.Chunk), (false, 1, Fact.rep [] a0.Rows), (false, 1, Fact.rep [] a0.Log), (false, 1, Fact.rep [] a0.Heads)]) ty30 rfl rfl (Has.s rfl) rfl (HasGs.cons (HasG.s rfl) (HasGs.cons (HasG.s rfl) (HasGs.cons (HasG.s rfl) (HasGs.cons (HasG.s rfl) (HasGs.cons (HasG.s rfl) (HasGs.cons (HasG.s rfl) HasGs.nil))))))) ?_
  refine wo (Spec.loadObj (ls := [(false, 1, Fact.rep [] a1.Events), (false, 1, Fact.rep [] a1.Lost), (false, 1, Fact.rep [] a1.Spare), (false, 1, Fact.rep [] a1.Pos), (false, 1, Fact.rep [] a1.Done), (false, 1, Fact.rep [] a1.NoLog), (false, 1, Fact.rep [] a1.Broken)]) ty33 rfl rfl (Has.s rfl) rfl (HasGs.cons (HasG.s rfl) (HasGs.cons (HasG.s rfl) (HasGs.cons (HasG.s rfl) (HasGs.cons (HasG.s rfl) (HasGs.cons (HasG.s rfl) (HasGs.cons (HasG.s rfl) (HasGs.cons (HasG.s rfl) HasGs.nil)))))))) ?_
  refine mv ?_
  obtain ⟨x5, hx5, hm⟩ := bind_some hm
  refine wo (f := Fact.tup3 (Fact.ow [29] [30] 45 (x5.1 : List Act45)) (Fact.ow [31] [32] 39 (x5.2.1 : List Deal)) (Fact.rep [] x5.2.2)) (Spec.callE [0] 29 rfl en8 (redo_Acts_c a0 a1 a2 hx5) (HasAll.cons (Has.fl (Has.cv (Has.s rfl) (Cv.trans (Cv.flds (CvL.cons Cv.fl (CvL.cons Cv.fl (CvL.cons Cv.fl (CvL.cons Cv.fl (CvL.cons Cv.fl (CvL.cons Cv.fl CvL.nil))))))) (Cv.close (T := []) (chConfig a0))))) (HasAll.cons (Has.fl (Has.cv (Has.s rfl) (Cv.trans (Cv.flds (CvL.cons Cv.fl (CvL.cons Cv.fl (CvL.cons Cv.fl (CvL.cons Cv.fl (CvL.cons Cv.fl (CvL.cons Cv.fl (CvL.cons Cv.fl CvL.nil)))))))) (Cv.close (T := []) (chLoss a1))))) (HasAll.cons (Has.m (Has.s rfl) rfl) HasAll.nil)))) ?_
  refine mv ?_
  refine wo (Spec.ext0_3 (Has.s rfl)) ?_
  refine wo (Spec.ext1_3 (Has.s rfl)) ?_
  refine wo (Spec.ext2_3 (Has.s rfl)) ?_
  refine wo (Spec.assign (Has.s rfl)) ?_
  refine wo (Spec.assign (Has.s rfl)) ?_
  refine wo (Spec.assign (Has.s rfl)) ?_
  refine Walk.nil ?_
  refine Leaf.thenN ?_
  refine CWalk.seq ?_
  refine CWalk.region ?_
  refine wo (Spec.loadObj (ls := [(false, 1, Fact.rep [] a0.Id), (false, 1, Fact.rep [] a0.Members), (false, 1, Fact.rep [] a0.Chunk), (false, 1, Fact.rep [] a0.Rows), (false, 1, Fact.rep [] a0.Log), (false, 1, Fact.rep [] a0.Heads)]) ty30 rfl rfl (Has.s rfl) rfl (HasGs.cons (HasG.s rfl) (HasGs.cons (HasG.s rfl) (HasGs.cons (HasG.s rfl) (HasGs.cons (HasG.s rfl) (HasGs.cons (HasG.s rfl) (HasGs.cons (HasG.s rfl) HasGs.nil))))))) ?_
  refine mv ?_
  refine mv ?_
  obtain ⟨x6, hx6, hm⟩ := bind_some hm
  refine wo (f := Fact.tup2 (Fact.rep [] x6.1) (Fact.rep [] x6.2)) (Spec.callE [] 33 rfl en17 (turn_Member_c a0 a4 a5 hx6) (HasAll.cons (Has.fl (Has.cv (Has.s rfl) (Cv.trans (Cv.flds (CvL.cons Cv.fl (CvL.cons Cv.fl (CvL.cons Cv.fl (CvL.cons Cv.fl (CvL.cons Cv.fl (CvL.cons Cv.fl CvL.nil))))))) (Cv.close (T := []) (chConfig a0))))) (HasAll.cons (Has.fl (Has.s rfl)) (HasAll.cons (Has.fl (Has.s rfl)) HasAll.nil)))) ?_
  refine mv ?_
  refine wo (Spec.ext0 (Has.s rfl)) ?_
  refine wo (Spec.ext1 (Has.s rfl)) ?_
  refine wo (Spec.assign (Has.s rfl)) ?_
  refine wo (Spec.assign (Has.s rfl)) ?_
  refine Walk.nil ?_
  refine Leaf.thenN ?_
  refine CWalk.seq ?_
  refine CWalk.region ?_
  refine mv ?_
  refine mv ?_
  refine mv ?_
  refine wo (Spec.len (Has.cv (Has.s rfl) (Cv.trans Cv.owSl (Cv.slRep (T' := [29, 30]) rfl rfl))) Try.underlying23) ?_
  obtain ⟨x7, hx7, hm⟩ := bind_some hm
  refine wo (f := Fact.tup2 (Fact.ow [34] [35] 61 (x7.1 : List Disk)) (Fact.rep [] x7.2)) (Spec.callE [0, 29, 30] 34 rfl en18 (acts_Run_c a3 x5.1 ((x5.1).length : Int) hx7) (HasAll.cons (Has.m (Has.s rfl) rfl) (HasAll.cons (Has.m (Has.cv (Has.s rfl) (Cv.trans Cv.owSl (Cv.slRep (T' := [29, 30]) rfl rfl))) rfl) (HasAll.cons (Has.fl (Has.s rfl)) HasAll.nil)))) ?_
  refine mv ?_
  refine wo (Spec.ext0 (Has.s rfl)) ?_
  refine wo (Spec.ext1 (Has.s rfl)) ?_
  refine wo (Spec.assign (Has.s rfl)) ?_
  refine wo (Spec.assign (Has.s rfl)) ?_
  refine Walk.nil ?_
  refine Leaf.thenN ?_
  refine CWalk.seq ?_
  refine CWalk.seq ?_
  refine CWalk.region ?_
  refine mv ?_
  refine wo (Spec.neqI (Has.s rfl) Has.int) ?_
  refine mv ?_
  refine wg rfl rfl (fun hb => Spec.move (Has.s rfl)) ?_
  refine wg rfl rfl (fun hb => Spec.neqI (Has.u rfl hb) Has.int) ?_
  refine wo (Spec.or (Has.s rfl) (fun h => Has.u rfl h)) ?_
  refine mv ?_
  refine wg rfl rfl (fun hb => Spec.move (Has.s rfl)) ?_
  refine wg rfl rfl (fun hb => Spec.neqI (Has.u rfl hb) Has.int) ?_
  refine wo (Spec.or (Has.s rfl) (fun h => Has.u rfl h)) ?_
  refine Walk.nil ?_
  refine Leaf.thenN ?_
  refine CWalk.cond rfl (fun hb => ?_) (fun hb => ?_)
  ·have hm := cond_t hb hm
   refine CWalk.seq ?_
   refine CWalk.region ?_
   refine mv ?_
   refine wo (Spec.assign (Has.s rfl)) ?_
   refine Walk.nil ?_
   refine Leaf.thenN ?_
   refine CWalk.ret ?_
   refine Leaf.thenR ?_
   obtain rfl := Option.some.inj hm
   exact Leaf.retC1 rfl (HasR.cv (HasR.tmp (Has.s rfl)) Cv.fl)
  ·have hm := cond_f hb hm
   refine CWalk.skip ?_
   refine Leaf.thenN ?_
   refine CWalk.seq ?_
   refine CWalk.region ?_
   refine wo (Spec.loadObj (ls := [(false, 1, Fact.rep [] a0.Id), (false, 1, Fact.rep [] a0.Members), (false, 1, Fact.rep [] a0.Chunk), (false, 1, Fact.rep [] a0.Rows), (false, 1, Fact.rep [] a0.Log), (false, 1, Fact.rep [] a0.Heads)]) ty30 rfl rfl (Has.s rfl) rfl (HasGs.cons (HasG.s rfl) (HasGs.cons (HasG.s rfl) (HasGs.cons (HasG.s rfl) (HasGs.cons (HasG.s rfl) (HasGs.cons (HasG.s rfl) (HasGs.cons (HasG.s rfl) HasGs.nil))))))) ?_
   refine wo (Spec.loadObj (ls := [(false, 1, Fact.rep [] a1.Events), (false, 1, Fact.rep [] a1.Lost), (false, 1, Fact.rep [] a1.Spare), (false, 1, Fact.rep [] a1.Pos), (false, 1, Fact.rep [] a1.Done), (false, 1, Fact.rep [] a1.NoLog), (false, 1, Fact.rep [] a1.Broken)]) ty33 rfl rfl (Has.s rfl) rfl (HasGs.cons (HasG.s rfl) (HasGs.cons (HasG.s rfl) (HasGs.cons (HasG.s rfl) (HasGs.cons (HasG.s rfl) (HasGs.cons (HasG.s rfl) (HasGs.cons (HasG.s rfl) (HasGs.cons (HasG.s rfl) HasGs.nil)))))))) ?_
   refine mv ?_
   obtain ⟨x8, hx8, hm⟩ := bind_some hm
   refine wo (f := Fact.tup2 (Fact.rep [] x8.1) (Fact.rep [] x8.2)) (Spec.callE [] 36 rfl en19 (loss_Missing_c a0 a1 a4 hx8) (HasAll.cons (Has.fl (Has.cv (Has.s rfl) (Cv.trans (Cv.flds (CvL.cons Cv.fl (CvL.cons Cv.fl (CvL.cons Cv.fl (CvL.cons Cv.fl (CvL.cons Cv.fl (CvL.cons Cv.fl CvL.nil))))))) (Cv.close (T := []) (chConfig a0))))) (HasAll.cons (Has.fl (Has.cv (Has.s rfl) (Cv.trans (Cv.flds (CvL.cons Cv.fl (CvL.cons Cv.fl (CvL.cons Cv.fl (CvL.cons Cv.fl (CvL.cons Cv.fl (CvL.cons Cv.fl (CvL.cons Cv.fl CvL.nil)))))))) (Cv.close (T := []) (chLoss a1))))) (HasAll.cons (Has.fl (Has.s rfl)) HasAll.nil)))) ?_
   refine mv ?_
   refine wo (Spec.ext0 (Has.s rfl)) ?_
   refine wo (Spec.ext1 (Has.s rfl)) ?_
   refine wo (Spec.assign (Has.s rfl)) ?_
   refine wo (Spec.assign (Has.s rfl)) ?_
   refine Walk.nil ?_
   refine Leaf.thenN ?_
   refine CWalk.seq ?_
   refine CWalk.region ?_
   refine mv ?_
   refine mv ?_
   obtain ⟨x9, hx9, hm⟩ := bind_some hm
   refine wo (Spec.indexAddr hx9 sl49 (Has.s rfl) (Has.s rfl)) ?_
   refine wo (Spec.load ty61 (Has.s rfl)) ?_
   refine mv ?_
   refine wo (Spec.addI Has.int (Has.s rfl)) ?_
   obtain ⟨x10, hx10, hm⟩ := bind_some hm
   refine wo (f := Fact.tup2 (Fact.ow [37] [] 5 (x10.1 : List UInt8)) (Fact.rep [] x10.2)) (Spec.callE [0] 37 rfl en20 (disk_Read_c x9 (wI ((1 : Int) + a4)) hx10) (HasAll.cons (Has.m (Has.s rfl) rfl) (HasAll.cons (Has.fl (Has.s rfl)) HasAll.nil))) ?_
   refine mv ?_
   refine wo (Spec.ext0 (Has.s rfl)) ?_
   refine wo (Spec.ext1 (Has.s rfl)) ?_
   refine wo (Spec.assign (Has.s rfl)) ?_
   refine wo (Spec.assign (Has.s rfl)) ?_
   refine Walk.nil ?_
   refine Leaf.thenN ?_
   refine CWalk.seq ?_
   refine CWalk.region ?_
   refine mv ?_
   refine mv ?_
   obtain ⟨x11, hx11, hm⟩ := bind_some hm
   refine wo (Spec.indexSl hx11 sl49 (Has.cv (Has.s rfl) Cv.owSl) (Has.s rfl)) ?_
   refine wo (Spec.loadS ty61 (Has.s rfl)) ?_
   refine mv ?_
   refine wo (Spec.addI Has.int (Has.s rfl)) ?_
   obtain ⟨x12, hx12, hm⟩ := bind_some hm
   refine wo (f := Fact.tup2 (Fact.ow [38] [] 5 (x12.1 : List UInt8)) (Fact.rep [] x12.2)) (Spec.callE [35] 38 rfl en20 (disk_Read_c x11 (wI ((1 : Int) + a4)) hx12) (HasAll.cons (Has.m (Has.s rfl) rfl) (HasAll.cons (Has.fl (Has.s rfl)) HasAll.nil))) ?_
   refine mv ?_
   refine wo (Spec.ext0 (Has.s rfl)) ?_
   refine wo (Spec.ext1 (Has.s rfl)) ?_
   refine wo (Spec.assign (Has.s rfl)) ?_
   refine wo (Spec.assign (Has.s rfl)) ?_
   refine Walk.nil ?_
   refine Leaf.thenN ?_
   refine CWalk.seq ?_
   refine CWalk.seq ?_
   refine CWalk.region ?_
   refine mv ?_
   refine wo (Spec.neqI (Has.s rfl) Has.int) ?_
   refine mv ?_
   refine wg rfl rfl (fun hb => Spec.move (Has.s rfl)) ?_
   refine wg rfl rfl (fun hb => Spec.move (Has.s rfl)) ?_
   refine wg rfl rfl (fun hb => Spec.neqI (Has.u rfl hb) (Has.u rfl hb)) ?_
   refine wo (Spec.or (Has.s rfl) (fun h => Has.u rfl h)) ?_
   refine Walk.nil ?_
   refine Leaf.thenN ?_
   refine CWalk.cond rfl (fun hb => ?_) (fun hb => ?_)
   ·have hm := cond_t hb hm
    refine CWalk.seq ?_
    refine CWalk.region ?_
    refine wo (Spec.assign Has.bool) ?_
    refine Walk.nil ?_
    refine Leaf.thenN ?_
    refine CWalk.ret ?_
    refine Leaf.thenR ?_
    obtain rfl := Option.some.inj hm
    exact Leaf.retC1 rfl (HasR.cv (HasR.tmp (Has.s rfl)) Cv.fl)
   ·have hm := cond_f hb hm
    refine CWalk.skip ?_
    refine Leaf.thenN ?_
    refine CWalk.seq ?_
    refine CWalk.seq ?_
    refine CWalk.region ?_
    refine mv ?_
    refine wo (Spec.neqI (Has.s rfl) Has.int) ?_
    refine Walk.nil ?_
    refine Leaf.thenN ?_
    refine CWalk.cond rfl (fun hb => ?_) (fun hb => ?_)
    ·have hm := cond_t hb hm
     refine CWalk.seq ?_
     refine CWalk.region ?_
     refine mv ?_
     refine mv ?_
     refine wg rfl rfl (fun hb => Spec.move (Has.s rfl)) ?_
     refine wg rfl rfl (fun hb => Spec.eqlI (Has.u rfl hb) Has.int) ?_
     refine wo (Spec.and (Has.s rfl) (fun h => Has.u rfl h)) ?_
     refine wo (Spec.assign (Has.s rfl)) ?_
     refine Walk.nil ?_
     refine Leaf.thenN ?_
     refine CWalk.ret ?_
     refine Leaf.thenR ?_
     obtain rfl := Option.some.inj hm
     exact Leaf.retC1 rfl (HasR.cv (HasR.tmp (Has.s rfl)) Cv.fl)
    ·have hm := cond_f hb hm
     refine CWalk.skip ?_
     refine Leaf.thenN ?_
     refine CWalk.seq ?_
     refine CWalk.region ?_
     refine mv ?_
     refine wo (Spec.assign (Has.s rfl)) ?_
     refine Walk.nil ?_
     refine Leaf.thenN ?_
     refine CWalk.seq ?_
     refine CWalk.seq ?_
     refine CWalk.region ?_
     refine wo (Spec.assign Has.int) ?_
     refine Walk.nil ?_
     refine Leaf.thenN ?_
     refine CWalk.block ?_
     obtain ⟨b26, hb26, hm⟩ := bind_some hm
     refine CWalk.loop (fun s : (List UInt8) × Int => [.fact 2 (.rep [0] (a2 : List Found)), .fact 4 (.rep [] (a4 : Int)), .fact 5 (.rep [] (a5 : Int)), .fact 6 (.isv 10), .fact 13 (.rep [] (x1 : Bool)), .fact 17 (.rep [] x6.1), .fact 21 (.rep [] x8.1), .fact 25 (.ow [38] [] 5 (x12.1 : List UInt8)), .fact 27 (.rep [0, 37] s.1), .fact 28 (.rep [] s.2), .fact 100011 (.at 11 (.rep [] a0.Id)), .fact 100012 (.at 12 (.rep [] a0.Members)), .fact 100013 (.at 13 (.rep [] a0.Chunk)), .fact 100014 (.at 14 (.rep [] a0.Rows)), .fact 100015 (.at 15 (.rep [] a0.Log)), .fact 100016 (.at 16 (.rep [] a0.Heads)), .fact 100010 (.obj 10 [(false, 1), (false, 1), (false, 1), (false, 1), (false, 1), (false, 1)])]) (fun b : (List UInt8) => (Exit.exit 0, [.fact 13 (.rep [] (x1 : Bool)), .fact 25 (.ow [38] [] 5 (x12.1 : List UInt8)), .fact 27 (.rep [0, 37] (b : List UInt8))])) hb26 (su (st (st (sn (st (st (st (Sub.cons (Has.cv (Has.s rfl) (Cv.owF (T := [38]) (te := []) rfl)) (Sub.cons (Has.cv (Has.s rfl) (Cv.trans (Cv.trans Cv.owSl (Cv.slRep (T' := [37]) rfl rfl)) (Cv.m rfl))) (st (sf (sf (sf (sf (sf (sf (sn Sub.nil))))))))))))))))) ?_ ?_
     ·rintro ⟨s13, s14⟩ c15 hm
      replace hm : law27_RedoLast_L1 a0 a2 a4 a5 x6 x8 s13 s14 = some c15 := hm
      unfold law27_RedoLast_L1 at hm
      show CWalk _ [.fact 2 (.rep [0] (a2 : List Found)), .fact 4 (.rep [] (a4 : Int)), .fact 5 (.rep [] (a5 : Int)), .fact 6 (.isv 10), .fact 13 (.rep [] (x1 : Bool)), .fact 17 (.rep [] x6.1), .fact 21 (.rep [] x8.1), .fact 25 (.ow [38] [] 5 (x12.1 : List UInt8)), .fact 27 (.rep [0, 37] (s13 : List UInt8)), .fact 28 (.rep [] (s14 : Int)), .fact 100011 (.at 11 (.rep [] a0.Id)), .fact 100012 (.at 12 (.rep [] a0.Members)), .fact 100013 (.at 13 (.rep [] a0.Chunk)), .fact 100014 (.at 14 (.rep [] a0.Rows)), .fact 100015 (.at 15 (.rep [] a0.Log)), .fact 100016 (.at 16 (.rep [] a0.Heads)), .fact 100010 (.obj 10 [(false, 1), (false, 1), (false, 1), (false, 1), (false, 1), (false, 1)])] _ _
      refine CWalk.seq ?_
      refine CWalk.seq ?_
      refine CWalk.region ?_
      refine mv ?_
      refine mv ?_
      refine wo (Spec.len (Has.s rfl) Try.underlying43) ?_
      refine wo (Spec.lssI (Has.s rfl) (Has.s rfl)) ?_
      refine mv ?_
      refine wg rfl rfl (fun hb => Spec.move (Has.s rfl)) ?_
      refine wg rfl rfl (fun hb => Spec.move (Has.s rfl)) ?_
      refine wg rfl rfl (fun hb => Spec.neqI (Has.u rfl hb) (Has.u rfl hb)) ?_
      refine wo (Spec.and (Has.s rfl) (fun h => Has.u rfl h)) ?_
      refine Walk.nil ?_
      refine Leaf.thenN ?_
      refine CWalk.cond rfl (fun hb => ?_) (fun hb => ?_)
      ·have hm := cond_t hb hm
       refine CWalk.skip ?_
       refine Leaf.thenN ?_
       refine CWalk.seqJ (fun p : (List UInt8) => [.fact 2 (.rep [0] (a2 : List Found)), .fact 4 (.rep [] (a4 : Int)), .fact 5 (.rep [] (a5 : Int)), .fact 6 (.isv 10), .fact 13 (.rep [] (x1 : Bool)), .fact 17 (.rep [] x6.1), .fact 21 (.rep [] x8.1), .fact 25 (.ow [38] [] 5 (x12.1 : List UInt8)), .fact 27 (.rep [0, 37] (p : List UInt8)), .fact 28 (.rep [] (s14 : Int)), .fact 100011 (.at 11 (.rep [] a0.Id)), .fact 100012 (.at 12 (.rep [] a0.Members)), .fact 100013 (.at 13 (.rep [] a0.Chunk)), .fact 100014 (.at 14 (.rep [] a0.Rows)), .fact 100015 (.at 15 (.rep [] a0.Log)), .fact 100016 (.at 16 (.rep [] a0.Heads)), .fact 100010 (.obj 10 [(false, 1), (false, 1), (false, 1), (false, 1), (false, 1), (false, 1)])]) (fun p : (List UInt8) => law27_RedoLast_J2 s14 p = some c15) ?_ ?_
       ·rintro j16 hm
        replace hm : law27_RedoLast_J2 s14 j16 = some c15 := hm
        unfold law27_RedoLast_J2 at hm
        show CWalk _ [.fact 2 (.rep [0] (a2 : List Found)), .fact 4 (.rep [] (a4 : Int)), .fact 5 (.rep [] (a5 : Int)), .fact 6 (.isv 10), .fact 13 (.rep [] (x1 : Bool)), .fact 17 (.rep [] x6.1), .fact 21 (.rep [] x8.1), .fact 25 (.ow [38] [] 5 (x12.1 : List UInt8)), .fact 27 (.rep [0, 37] (j16 : List UInt8)), .fact 28 (.rep [] (s14 : Int)), .fact 100011 (.at 11 (.rep [] a0.Id)), .fact 100012 (.at 12 (.rep [] a0.Members)), .fact 100013 (.at 13 (.rep [] a0.Chunk)), .fact 100014 (.at 14 (.rep [] a0.Rows)), .fact 100015 (.at 15 (.rep [] a0.Log)), .fact 100016 (.at 16 (.rep [] a0.Heads)), .fact 100010 (.obj 10 [(false, 1), (false, 1), (false, 1), (false, 1), (false, 1), (false, 1)])] _ _
        refine CWalk.region ?_
        refine mv ?_
        refine wo (Spec.addI (Has.s rfl) Has.int) ?_
        refine wo (Spec.assign (Has.s rfl)) ?_
        refine Walk.nil ?_
        exact Leaf.next hm (su (st (st (sn (st (st (st (Sub.cons (Has.cv (Has.s rfl) (Cv.owF (T := [38]) (te := []) rfl)) (su (st (sf (sf (sf (sf (sf (sf (sn Sub.nil)))))))))))))))))
       ·refine CWalk.block ?_
        refine CWalk.seq ?_
        refine CWalk.region ?_
        refine mv ?_
        refine mv ?_
        obtain ⟨x17, hx17, hm⟩ := bind_some hm
        refine wo (Spec.indexAddr hx17 sl43 (Has.s rfl) (Has.s rfl)) ?_
        refine wo (Spec.fieldAddrP fd41_2 (chFound x17) rfl (Has.s rfl)) ?_
        refine wo (Spec.load ty39 (Has.s rfl)) ?_
        refine ws (Step.allocObj (ls := [(false, 1, Fact.rep [] ((0 : Int) : Int)), (false, 1, Fact.nilv), (false, 1, Fact.nilv), (false, 1, Fact.nilv)]) 39 rfl rfl rfl rfl zl39) ?_
        refine ws (Step.storeObj (ls := [(false, 1, Fact.rep [] x17.Deal.Stripe), (false, 1, Fact.rep [0] x17.Deal.Slots), (false, 1, Fact.rep [0] x17.Deal.Blocks), (false, 1, Fact.rep [0] x17.Deal.Parity)]) rfl ty39 rfl rfl (Has.s rfl) rfl (HasL.flds (Has.cv (Has.s rfl) (Cv.trans (Cv.opens (chDeal x17.Deal)) (Cv.flds (CvL.cons Cv.fl (CvL.cons Cv.refl (CvL.cons Cv.refl (CvL.cons Cv.refl CvL.nil)))))))) rfl) ?_
        refine Walk.nil ?_
        refine Leaf.thenN ?_
        refine CWalk.seq ?_
        refine CWalk.seq ?_
        refine CWalk.region ?_
        refine wo (Spec.fieldAddrO fd39_0 (Has.cv (Has.s rfl) (Cv.isvP rfl))) ?_
        refine wo (Spec.loadF (i := 0) ty3 rfl (Has.s rfl) rfl (HasG.s rfl)) ?_
        refine mv ?_
        refine wo (Spec.neqI (Has.s rfl) (Has.s rfl)) ?_
        refine mv ?_
        refine wg rfl rfl (fun hb => Spec.fieldAddrO fd39_3 (Has.cv (Has.s rfl) (Cv.isvP rfl))) ?_
        refine wg rfl rfl (fun hb => Spec.loadF (i := 3) ty37 rfl (Has.u rfl hb) rfl (HasG.s rfl)) ?_
        refine wg rfl rfl (fun hb => Spec.len (Has.u rfl hb) Try.underlying37) ?_
        refine wg rfl rfl (fun hb => Spec.eqlI (Has.u rfl hb) Has.int) ?_
        refine wo (Spec.or (Has.s rfl) (fun h => Has.u rfl h)) ?_
        refine Walk.nil ?_
        refine Leaf.thenN ?_
        refine CWalk.cond rfl (fun hb => ?_) (fun hb => ?_)
        ·have hm := cond_t hb hm
         refine CWalk.exit ?_
         refine Leaf.thenE ?_
         refine Leaf.blockE ?_
         exact Leaf.join s13 hm (su (st (st (sn (st (st (st (Sub.cons (Has.cv (Has.s rfl) (Cv.owF (T := [38]) (te := []) rfl)) (su (st (sf (sf (sf (sf (sf (sf (sn Sub.nil)))))))))))))))))
        ·have hm := cond_f hb hm
         refine CWalk.skip ?_
         refine Leaf.thenN ?_
         refine CWalk.seqJ (fun p : (List UInt8) => [.fact 2 (.rep [0] (a2 : List Found)), .fact 4 (.rep [] (a4 : Int)), .fact 5 (.rep [] (a5 : Int)), .fact 6 (.isv 10), .fact 13 (.rep [] (x1 : Bool)), .fact 17 (.rep [] x6.1), .fact 21 (.rep [] x8.1), .fact 25 (.ow [38] [] 5 (x12.1 : List UInt8)), .fact 27 (.rep [0, 37] (p : List UInt8)), .fact 28 (.rep [] (s14 : Int)), .fact 29 (.isv 39), .fact 100011 (.at 11 (.rep [] a0.Id)), .fact 100012 (.at 12 (.rep [] a0.Members)), .fact 100013 (.at 13 (.rep [] a0.Chunk)), .fact 100014 (.at 14 (.rep [] a0.Rows)), .fact 100015 (.at 15 (.rep [] a0.Log)), .fact 100016 (.at 16 (.rep [] a0.Heads)), .fact 100040 (.at 40 (.rep [] x17.Deal.Stripe)), .fact 100041 (.at 41 (.rep [0] x17.Deal.Slots)), .fact 100042 (.at 42 (.rep [0] x17.Deal.Blocks)), .fact 100043 (.at 43 (.rep [0] x17.Deal.Parity)), .fact 100010 (.obj 10 [(false, 1), (false, 1), (false, 1), (false, 1), (false, 1), (false, 1)]), .fact 100039 (.obj 39 [(false, 1), (false, 1), (false, 1), (false, 1)])]) (fun p : (List UInt8) => law27_RedoLast_J3 a5 s14 x17 p = some c15) ?_ ?_
         ·rintro j18 hm
          replace hm : law27_RedoLast_J3 a5 s14 x17 j18 = some c15 := hm
          unfold law27_RedoLast_J3 at hm
          show CWalk _ [.fact 2 (.rep [0] (a2 : List Found)), .fact 4 (.rep [] (a4 : Int)), .fact 5 (.rep [] (a5 : Int)), .fact 6 (.isv 10), .fact 13 (.rep [] (x1 : Bool)), .fact 17 (.rep [] x6.1), .fact 21 (.rep [] x8.1), .fact 25 (.ow [38] [] 5 (x12.1 : List UInt8)), .fact 27 (.rep [0, 37] (j18 : List UInt8)), .fact 28 (.rep [] (s14 : Int)), .fact 29 (.isv 39), .fact 100011 (.at 11 (.rep [] a0.Id)), .fact 100012 (.at 12 (.rep [] a0.Members)), .fact 100013 (.at 13 (.rep [] a0.Chunk)), .fact 100014 (.at 14 (.rep [] a0.Rows)), .fact 100015 (.at 15 (.rep [] a0.Log)), .fact 100016 (.at 16 (.rep [] a0.Heads)), .fact 100040 (.at 40 (.rep [] x17.Deal.Stripe)), .fact 100041 (.at 41 (.rep [0] x17.Deal.Slots)), .fact 100042 (.at 42 (.rep [0] x17.Deal.Blocks)), .fact 100043 (.at 43 (.rep [0] x17.Deal.Parity)), .fact 100010 (.obj 10 [(false, 1), (false, 1), (false, 1), (false, 1), (false, 1), (false, 1)]), .fact 100039 (.obj 39 [(false, 1), (false, 1), (false, 1), (false, 1)])] _ _
          refine CWalk.seq ?_
          refine CWalk.region ?_
          refine wo (Spec.assign Has.int) ?_
          refine Walk.nil ?_
          refine Leaf.thenN ?_
          refine CWalk.block ?_
          obtain ⟨b25, hb25, hm⟩ := bind_some hm
          refine CWalk.loop (fun s : (List UInt8) × Int => [.fact 2 (.rep [0] (a2 : List Found)), .fact 4 (.rep [] (a4 : Int)), .fact 5 (.rep [] (a5 : Int)), .fact 6 (.isv 10), .fact 13 (.rep [] (x1 : Bool)), .fact 17 (.rep [] x6.1), .fact 21 (.rep [] x8.1), .fact 25 (.ow [38] [] 5 (x12.1 : List UInt8)), .fact 27 (.rep [0, 37] s.1), .fact 28 (.rep [] (s14 : Int)), .fact 29 (.isv 39), .fact 30 (.rep [] s.2), .fact 100011 (.at 11 (.rep [] a0.Id)), .fact 100012 (.at 12 (.rep [] a0.Members)), .fact 100013 (.at 13 (.rep [] a0.Chunk)), .fact 100014 (.at 14 (.rep [] a0.Rows)), .fact 100015 (.at 15 (.rep [] a0.Log)), .fact 100016 (.at 16 (.rep [] a0.Heads)), .fact 100040 (.at 40 (.rep [] x17.Deal.Stripe)), .fact 100041 (.at 41 (.rep [0] x17.Deal.Slots)), .fact 100042 (.at 42 (.rep [0] x17.Deal.Blocks)), .fact 100043 (.at 43 (.rep [0] x17.Deal.Parity)), .fact 100010 (.obj 10 [(false, 1), (false, 1), (false, 1), (false, 1), (false, 1), (false, 1)]), .fact 100039 (.obj 39 [(false, 1), (false, 1), (false, 1), (false, 1)])]) (fun b : (List UInt8) => (Exit.exit 2, [.fact 2 (.rep [0] (a2 : List Found)), .fact 4 (.rep [] (a4 : Int)), .fact 5 (.rep [] (a5 : Int)), .fact 6 (.isv 10), .fact 13 (.rep [] (x1 : Bool)), .fact 17 (.rep [] x6.1), .fact 21 (.rep [] x8.1), .fact 25 (.ow [38] [] 5 (x12.1 : List UInt8)), .fact 27 (.rep [0, 37] (b : List UInt8)), .fact 28 (.rep [] (s14 : Int)), .fact 100011 (.at 11 (.rep [] a0.Id)), .fact 100012 (.at 12 (.rep [] a0.Members)), .fact 100013 (.at 13 (.rep [] a0.Chunk)), .fact 100014 (.at 14 (.rep [] a0.Rows)), .fact 100015 (.at 15 (.rep [] a0.Log)), .fact 100016 (.at 16 (.rep [] a0.Heads)), .fact 100010 (.obj 10 [(false, 1), (false, 1), (false, 1), (false, 1), (false, 1), (false, 1)])])) hb25 (su (st (st (sn (st (st (st (Sub.cons (Has.cv (Has.s rfl) (Cv.owF (T := [38]) (te := []) rfl)) (su (st (sn (st (sf (sf (sf (sf (sf (sf (sf (sm (sm (sm (sn (sn Sub.nil)))))))))))))))))))))))) ?_ ?_
          ·rintro ⟨s19, s20⟩ c21 hm
           replace hm : law27_RedoLast_L4 a5 x17 s19 s20 = some c21 := hm
           unfold law27_RedoLast_L4 at hm
           show CWalk _ [.fact 2 (.rep [0] (a2 : List Found)), .fact 4 (.rep [] (a4 : Int)), .fact 5 (.rep [] (a5 : Int)), .fact 6 (.isv 10), .fact 13 (.rep [] (x1 : Bool)), .fact 17 (.rep [] x6.1), .fact 21 (.rep [] x8.1), .fact 25 (.ow [38] [] 5 (x12.1 : List UInt8)), .fact 27 (.rep [0, 37] (s19 : List UInt8)), .fact 28 (.rep [] (s14 : Int)), .fact 29 (.isv 39), .fact 30 (.rep [] (s20 : Int)), .fact 100011 (.at 11 (.rep [] a0.Id)), .fact 100012 (.at 12 (.rep [] a0.Members)), .fact 100013 (.at 13 (.rep [] a0.Chunk)), .fact 100014 (.at 14 (.rep [] a0.Rows)), .fact 100015 (.at 15 (.rep [] a0.Log)), .fact 100016 (.at 16 (.rep [] a0.Heads)), .fact 100040 (.at 40 (.rep [] x17.Deal.Stripe)), .fact 100041 (.at 41 (.rep [0] x17.Deal.Slots)), .fact 100042 (.at 42 (.rep [0] x17.Deal.Blocks)), .fact 100043 (.at 43 (.rep [0] x17.Deal.Parity)), .fact 100010 (.obj 10 [(false, 1), (false, 1), (false, 1), (false, 1), (false, 1), (false, 1)]), .fact 100039 (.obj 39 [(false, 1), (false, 1), (false, 1), (false, 1)])] _ _
           refine CWalk.seq ?_
           refine CWalk.seq ?_
           refine CWalk.region ?_
           refine mv ?_
           refine wo (Spec.fieldAddrO fd39_1 (Has.cv (Has.s rfl) (Cv.isvP rfl))) ?_
           refine wo (Spec.loadF (i := 1) ty35 rfl (Has.s rfl) rfl (HasG.s rfl)) ?_
           refine wo (Spec.len (Has.s rfl) Try.underlying35) ?_
           refine wo (Spec.lssI (Has.s rfl) (Has.s rfl)) ?_
           refine Walk.nil ?_
           refine Leaf.thenN ?_
           refine CWalk.cond rfl (fun hb => ?_) (fun hb => ?_)
           ·have hm := cond_t hb hm
            refine CWalk.skip ?_
            refine Leaf.thenN ?_
            refine CWalk.seqJ (fun p : (List UInt8) => [.fact 2 (.rep [0] (a2 : List Found)), .fact 4 (.rep [] (a4 : Int)), .fact 5 (.rep [] (a5 : Int)), .fact 6 (.isv 10), .fact 13 (.rep [] (x1 : Bool)), .fact 17 (.rep [] x6.1), .fact 21 (.rep [] x8.1), .fact 25 (.ow [38] [] 5 (x12.1 : List UInt8)), .fact 27 (.rep [0, 37] (p : List UInt8)), .fact 28 (.rep [] (s14 : Int)), .fact 29 (.isv 39), .fact 30 (.rep [] (s20 : Int)), .fact 100011 (.at 11 (.rep [] a0.Id)), .fact 100012 (.at 12 (.rep [] a0.Members)), .fact 100013 (.at 13 (.rep [] a0.Chunk)), .fact 100014 (.at 14 (.rep [] a0.Rows)), .fact 100015 (.at 15 (.rep [] a0.Log)), .fact 100016 (.at 16 (.rep [] a0.Heads)), .fact 100040 (.at 40 (.rep [] x17.Deal.Stripe)), .fact 100041 (.at 41 (.rep [0] x17.Deal.Slots)), .fact 100042 (.at 42 (.rep [0] x17.Deal.Blocks)), .fact 100043 (.at 43 (.rep [0] x17.Deal.Parity)), .fact 100010 (.obj 10 [(false, 1), (false, 1), (false, 1), (false, 1), (false, 1), (false, 1)]), .fact 100039 (.obj 39 [(false, 1), (false, 1), (false, 1), (false, 1)])]) (fun p : (List UInt8) => law27_RedoLast_J5 s20 p = some c21) ?_ ?_
            ·rintro j22 hm
             replace hm : law27_RedoLast_J5 s20 j22 = some c21 := hm
             unfold law27_RedoLast_J5 at hm
             show CWalk _ [.fact 2 (.rep [0] (a2 : List Found)), .fact 4 (.rep [] (a4 : Int)), .fact 5 (.rep [] (a5 : Int)), .fact 6 (.isv 10), .fact 13 (.rep [] (x1 : Bool)), .fact 17 (.rep [] x6.1), .fact 21 (.rep [] x8.1), .fact 25 (.ow [38] [] 5 (x12.1 : List UInt8)), .fact 27 (.rep [0, 37] (j22 : List UInt8)), .fact 28 (.rep [] (s14 : Int)), .fact 29 (.isv 39), .fact 30 (.rep [] (s20 : Int)), .fact 100011 (.at 11 (.rep [] a0.Id)), .fact 100012 (.at 12 (.rep [] a0.Members)), .fact 100013 (.at 13 (.rep [] a0.Chunk)), .fact 100014 (.at 14 (.rep [] a0.Rows)), .fact 100015 (.at 15 (.rep [] a0.Log)), .fact 100016 (.at 16 (.rep [] a0.Heads)), .fact 100040 (.at 40 (.rep [] x17.Deal.Stripe)), .fact 100041 (.at 41 (.rep [0] x17.Deal.Slots)), .fact 100042 (.at 42 (.rep [0] x17.Deal.Blocks)), .fact 100043 (.at 43 (.rep [0] x17.Deal.Parity)), .fact 100010 (.obj 10 [(false, 1), (false, 1), (false, 1), (false, 1), (false, 1), (false, 1)]), .fact 100039 (.obj 39 [(false, 1), (false, 1), (false, 1), (false, 1)])] _ _
             refine CWalk.region ?_
             refine mv ?_
             refine wo (Spec.addI (Has.s rfl) Has.int) ?_
             refine wo (Spec.assign (Has.s rfl)) ?_
             refine Walk.nil ?_
             exact Leaf.next hm (su (st (st (sn (st (st (st (Sub.cons (Has.cv (Has.s rfl) (Cv.owF (T := [38]) (te := []) rfl)) (su (st (sn (st (sf (sf (sf (sf (sf (sf (sf (sm (sm (sm (sn (sn Sub.nil))))))))))))))))))))))))
            ·refine CWalk.block ?_
             refine CWalk.seq ?_
             refine CWalk.region ?_
             refine wo (Spec.fieldAddrO fd39_1 (Has.cv (Has.s rfl) (Cv.isvP rfl))) ?_
             refine wo (Spec.loadF (i := 1) ty35 rfl (Has.s rfl) rfl (HasG.s rfl)) ?_
             refine mv ?_
             obtain ⟨x23, hx23, hm⟩ := bind_some hm
             refine wo (Spec.indexAddr hx23 sl35 (Has.s rfl) (Has.s rfl)) ?_
             refine wo ((Spec.load ty3 (Has.s rfl)).flat (T' := [])) ?_
             refine mv ?_
             refine wo (Spec.eqlI (Has.s rfl) (Has.s rfl)) ?_
             refine Walk.nil ?_
             refine Leaf.thenN ?_
             refine CWalk.cond rfl (fun hb => ?_) (fun hb => ?_)
             ·have hm := cond_t hb hm
              refine CWalk.region ?_
              refine wo (Spec.fieldAddrO fd39_2 (Has.cv (Has.s rfl) (Cv.isvP rfl))) ?_
              refine wo (Spec.loadF (i := 2) ty36 rfl (Has.s rfl) rfl (HasG.s rfl)) ?_
              refine mv ?_
              obtain ⟨x24, hx24, hm⟩ := bind_some hm
              refine wo (Spec.indexAddr hx24 sl36 (Has.s rfl) (Has.s rfl)) ?_
              refine wo (Spec.load ty37 (Has.s rfl)) ?_
              refine wo (Spec.assign (Has.s rfl)) ?_
              refine Walk.nil ?_
              refine Leaf.blockN ?_
              exact Leaf.join x24 hm (su (st (st (sn (st (st (st (Sub.cons (Has.cv (Has.s rfl) (Cv.owF (T := [38]) (te := []) rfl)) (su (st (sn (st (sf (sf (sf (sf (sf (sf (sf (sm (sm (sm (sn (sn Sub.nil))))))))))))))))))))))))
             ·have hm := cond_f hb hm
              refine CWalk.skip ?_
              refine Leaf.blockN ?_
              exact Leaf.join s19 hm (su (st (st (sn (st (st (st (Sub.cons (Has.cv (Has.s rfl) (Cv.owF (T := [38]) (te := []) rfl)) (su (st (sn (st (sf (sf (sf (sf (sf (sf (sf (sm (sm (sm (sn (sn Sub.nil))))))))))))))))))))))))
           ·have hm := cond_f hb hm
            refine CWalk.exit ?_
            refine Leaf.thenE ?_
            exact Leaf.brk hm (fun h => nomatch h) rfl (su (st (st (sn (st (st (st (Sub.cons (Has.cv (Has.s rfl) (Cv.owF (T := [38]) (te := []) rfl)) (su (st (sf (sf (sf (sf (sf (sf (sn Sub.nil)))))))))))))))))
          ·intro _
           refine Leaf.blockE ?_
           refine Leaf.blockN ?_
           exact Leaf.join b25 hm (su (st (st (sn (st (st (st (Sub.cons (Has.cv (Has.s rfl) (Cv.owF (T := [38]) (te := []) rfl)) (su (st (sf (sf (sf (sf (sf (sf (sn Sub.nil)))))))))))))))))
         ·refine CWalk.seq ?_
          refine CWalk.region ?_
          refine mv ?_
          refine wo (Spec.fieldAddrO fd30_1 (Has.cv (Has.s rfl) (Cv.isvP rfl))) ?_
          refine wo (Spec.loadF (i := 1) ty3 rfl (Has.s rfl) rfl (HasG.s rfl)) ?_
          refine wo (Spec.subI (Has.s rfl) Has.int) ?_
          refine wo (Spec.eqlI (Has.s rfl) (Has.s rfl)) ?_
          refine Walk.nil ?_
          refine Leaf.thenN ?_
          refine CWalk.cond rfl (fun hb => ?_) (fun hb => ?_)
          ·have hm := cond_t hb hm
           refine CWalk.region ?_
           refine wo (Spec.fieldAddrO fd39_3 (Has.cv (Has.s rfl) (Cv.isvP rfl))) ?_
           refine wo (Spec.loadF (i := 3) ty37 rfl (Has.s rfl) rfl (HasG.s rfl)) ?_
           refine wo (Spec.assign (Has.s rfl)) ?_
           refine Walk.nil ?_
           exact Leaf.join x17.Deal.Parity hm (su (st (st (sn (st (st (st (Sub.cons (Has.cv (Has.s rfl) (Cv.owF (T := [38]) (te := []) rfl)) (su (st (sn (sf (sf (sf (sf (sf (sf (sf (sm (sm (sm (sn (sn Sub.nil)))))))))))))))))))))))
          ·have hm := cond_f hb hm
           refine CWalk.skip ?_
           exact Leaf.join s13 hm (su (st (st (sn (st (st (st (Sub.cons (Has.cv (Has.s rfl) (Cv.owF (T := [38]) (te := []) rfl)) (su (st (sn (sf (sf (sf (sf (sf (sf (sf (sm (sm (sm (sn (sn Sub.nil)))))))))))))))))))))))
      ·have hm := cond_f hb hm
       refine CWalk.exit ?_
       refine Leaf.thenE ?_
       exact Leaf.brk hm (fun h => nomatch h) rfl (st (Sub.cons (Has.cv (Has.s rfl) (Cv.owF (T := [38]) (te := []) rfl)) (su Sub.nil)))
     ·intro _
      refine Leaf.blockE ?_
      refine Leaf.thenN ?_
      refine CWalk.seqJ (fun p : (List UInt8) => [.fact 13 (.rep [] (x1 : Bool)), .fact 25 (.ow [38] [] 5 (x12.1 : List UInt8)), .fact 27 (.rep [0, 37, 44] (p : List UInt8))]) (fun p : (List UInt8) => law27_RedoLast_J6 x1 x12 p = some r) ?_ ?_
      ·rintro j27 hm
       replace hm : law27_RedoLast_J6 x1 x12 j27 = some r := hm
       unfold law27_RedoLast_J6 at hm
       show CWalk _ [.fact 13 (.rep [] (x1 : Bool)), .fact 25 (.ow [38] [] 5 (x12.1 : List UInt8)), .fact 27 (.rep [0, 37, 44] (j27 : List UInt8))] _ _
       refine CWalk.seq ?_
       refine CWalk.region ?_
       refine mv ?_
       refine mv ?_
       refine wg rfl rfl (fun hb => Spec.move (Has.s rfl)) ?_
       refine wg rfl rfl (fun hb => Spec.toStr Try.underlying37 Try.underlying5 Try.underlying9 (Has.cv (Has.u rfl hb) (Cv.trans Cv.owSl (Cv.slRep (T' := [38]) rfl rfl)))) ?_
       refine wg rfl rfl (fun hb => Spec.move (Has.s rfl)) ?_
       refine wg rfl rfl (fun hb => Spec.toStr Try.underlying37 Try.underlying5 Try.underlying9 (Has.u rfl hb)) ?_
       refine wg rfl rfl (fun hb => Spec.eqlS (Has.u rfl hb) (Has.u rfl hb)) ?_
       refine wo (Spec.and (Has.s rfl) (fun h => Has.u rfl h)) ?_
       refine wo (Spec.assign (Has.s rfl)) ?_
       refine Walk.nil ?_
       refine Leaf.thenN ?_
       refine CWalk.ret ?_
       obtain rfl := Option.some.inj hm
       exact Leaf.retC1 rfl (HasR.cv (HasR.tmp (Has.s rfl)) Cv.fl)
      ·refine CWalk.seq ?_
       refine CWalk.region ?_
       refine mv ?_
       refine wo (Spec.len (Has.s rfl) Try.underlying37) ?_
       refine wo (Spec.eqlI (Has.s rfl) Has.int) ?_
       refine Walk.nil ?_
       refine Leaf.thenN ?_
       refine CWalk.cond rfl (fun hb => ?_) (fun hb => ?_)
       ·have hm := cond_t hb hm
        refine CWalk.region ?_
        obtain ⟨x28, hx28, hm⟩ := bind_some hm
        refine wo (f := Fact.ow [44] [] 5 (x28 : List UInt8)) (Spec.callE [] 44 rfl en21 (law27_full_c (0 : UInt8) hx28) (HasAll.cons (Has.fl (Has.u8 0 rfl)) HasAll.nil)) ?_
        refine wo (Spec.assign (Has.s rfl)) ?_
        refine Walk.nil ?_
        exact Leaf.join x28 hm (st (Sub.cons (Has.cv (Has.s rfl) (Cv.owF (T := [38]) (te := []) rfl)) (Sub.cons (Has.cv (Has.s rfl) (Cv.trans (Cv.trans Cv.owSl (Cv.slRep (T' := [44]) rfl rfl)) (Cv.m rfl))) Sub.nil)))
       ·have hm := cond_f hb hm
        refine CWalk.skip ?_
        exact Leaf.join b26 hm (st (Sub.cons (Has.cv (Has.s rfl) (Cv.owF (T := [38]) (te := []) rfl)) (su Sub.nil)))

end Go.Proofs.Ytmlmlfghogoadaa
