/- Printed by a program of ours: models of functions, and that calls do what they say. -/
import Derived.Test.YtgkhjpfnmbdchaaGar1
namespace Go.Proofs.Ytgkhjpfnmbdchaa
open Go GL
set_option linter.unusedVariables false

/-- freeboard/freeboardref05.may -/
def ref05_may (a0 : Act64) (a1 : List Disk) : Option (Bool) :=
  (bif ((decide (a0.Disk < (0 : Int))) || (decide (a0.Disk ≥ ((a1).length : Int)))) then some false else (bif (a0.Kind == (3 : UInt8)) then some ((a0.At == (0 : Int)) && (((a0.Data).length : Int) == (0 : Int))) else Option.bind (gO ((((a0.Kind == (1 : UInt8)) || (a0.Kind == (2 : UInt8))) && (decide (a0.At ≥ (0 : Int))))) (idx a1 a0.Disk)) (fun x1 => Option.bind (gO (((((a0.Kind == (1 : UInt8)) || (a0.Kind == (2 : UInt8))) && (decide (a0.At ≥ (0 : Int)))) && (decide (a0.At < ((x1.Blocks).length : Int))))) (ref04_Sized a0.Data)) (fun x2 => some (((((a0.Kind == (1 : UInt8)) || (a0.Kind == (2 : UInt8))) && (decide (a0.At ≥ (0 : Int)))) && (decide (a0.At < ((x1.Blocks).length : Int)))) && x2)))))
set_option maxRecDepth 100000 in
set_option maxHeartbeats 2000000 in
theorem ref05_may_c (a0 : Act64) (a1 : List Disk) {r : Bool} (hm : ref05_may a0 a1 = some r) : Ctr Try.prog 45 [.rep 0 a0, .rep 0 a1] (.fl r) [] := by
 refine ctr_of_walk [[]] 57 Try.func45 rfl rfl rfl rfl (fun w0 om => ?_)
 unfold ref05_may at hm
 refine CWalk.sub (G' := [.fact 0 (.rep [0] (a0 : Act64)), .fact 1 (.rep [0] (a1 : List Disk))]) (sn (sn Sub.nil)) ?_
 refine CWalk.seq ?_
 refine CWalk.region ?_
 refine ws (Step.boxObj (ls := [(false, 1, Fact.rep [] a0.Disk), (false, 1, Fact.rep [] a0.Kind), (false, 1, Fact.rep [] a0.At), (false, 1, Fact.rep [0] a0.Data)]) 10 rfl rfl rfl rfl (HasL.flds (Has.cv (Has.s rfl) (Cv.trans (Cv.opens (chAct64 a0)) (Cv.flds (CvL.cons Cv.fl (CvL.cons Cv.fl (CvL.cons Cv.fl (CvL.cons Cv.refl CvL.nil))))))))) ?_
 refine wo (Spec.assign Has.bool) ?_
 refine Walk.nil ?_
 refine Leaf.thenN ?_
 refine CWalk.seq ?_
 refine CWalk.seq ?_
 refine CWalk.region ?_
 refine wo (Spec.fieldAddrO fd64_0 (Has.cv (Has.s rfl) (Cv.isvP rfl))) ?_
 refine wo (Spec.loadF (i := 0) ty3 rfl (Has.s rfl) rfl (HasG.s rfl)) ?_
 refine wo (Spec.lssI (Has.s rfl) Has.int) ?_
 refine mv ?_
 refine wg rfl rfl (fun hb => Spec.fieldAddrO fd64_0 (Has.cv (Has.s rfl) (Cv.isvP rfl))) ?_
 refine wg rfl rfl (fun hb => Spec.loadF (i := 0) ty3 rfl (Has.u rfl hb) rfl (HasG.s rfl)) ?_
 refine wg rfl rfl (fun hb => Spec.move (Has.s rfl)) ?_
 refine wg rfl rfl (fun hb => Spec.len (Has.u rfl hb) Try.underlying22) ?_
 refine wg rfl rfl (fun hb => Spec.geqI (Has.u rfl hb) (Has.u rfl hb)) ?_
 refine wo (Spec.or (Has.s rfl) (fun h => Has.u rfl h)) ?_
 refine Walk.nil ?_
 refine Leaf.thenN ?_
 refine CWalk.cond rfl (fun hb => ?_) (fun hb => ?_)
 ·have hm := cond_t hb hm
  refine CWalk.seq ?_
  refine CWalk.region ?_
  refine wo (Spec.assign Has.bool) ?_
  refine Walk.nil ?_
  refine Leaf.thenN ?_
  refine CWalk.ret ?_
  refine Leaf.thenR ?_
  obtain rfl := Option.some.inj hm
  exact Leaf.retC1 rfl (HasR.cv (HasR.tmp (Has.s rfl)) Cv.fl)
 ·have hm := cond_f hb hm
  refine CWalk.skip ?_
  refine Leaf.thenN ?_
  refine CWalk.seq ?_
  refine CWalk.seq ?_
  refine CWalk.region ?_
  refine wo (Spec.fieldAddrO fd64_1 (Has.cv (Has.s rfl) (Cv.isvP rfl))) ?_
  refine wo (Spec.loadF (i := 1) ty5 rfl (Has.s rfl) rfl (HasG.s rfl)) ?_
  refine wo (Spec.eqlB (Has.s rfl) (Has.u8 3 rfl)) ?_
  refine Walk.nil ?_
  refine Leaf.thenN ?_
  refine CWalk.cond rfl (fun hb => ?_) (fun hb => ?_)
  ·have hm := cond_t hb hm
   refine CWalk.seq ?_
   refine CWalk.region ?_
   refine wo (Spec.fieldAddrO fd64_2 (Has.cv (Has.s rfl) (Cv.isvP rfl))) ?_
   refine wo (Spec.loadF (i := 2) ty3 rfl (Has.s rfl) rfl (HasG.s rfl)) ?_
   refine wo (Spec.eqlI (Has.s rfl) Has.int) ?_
   refine mv ?_
   refine wg rfl rfl (fun hb => Spec.fieldAddrO fd64_3 (Has.cv (Has.s rfl) (Cv.isvP rfl))) ?_
   refine wg rfl rfl (fun hb => Spec.loadF (i := 3) ty54 rfl (Has.u rfl hb) rfl (HasG.s rfl)) ?_
   refine wg rfl rfl (fun hb => Spec.len (Has.u rfl hb) Try.underlying54) ?_
   refine wg rfl rfl (fun hb => Spec.eqlI (Has.u rfl hb) Has.int) ?_
   refine wo (Spec.and (Has.s rfl) (fun h => Has.u rfl h)) ?_
   refine wo (Spec.assign (Has.s rfl)) ?_
   refine Walk.nil ?_
   refine Leaf.thenN ?_
   refine CWalk.ret ?_
   refine Leaf.thenR ?_
   obtain rfl := Option.some.inj hm
   exact Leaf.retC1 rfl (HasR.cv (HasR.tmp (Has.s rfl)) Cv.fl)
  ·have hm := cond_f hb hm
   refine CWalk.skip ?_
   refine Leaf.thenN ?_
   refine CWalk.seq ?_
   obtain ⟨x1, hx1, hm⟩ := bind_some hm
   obtain ⟨x2, hx2, hm⟩ := bind_some hm
   refine CWalk.drawM [[], [0], [0, 1], [0, 1, 2], [0, 1, 2, 3], [0, 1, 2, 3, 4], [0, 1, 2, 3, 4, 5], [0, 1, 2, 3, 4, 5, 6], [0, 1, 2, 3, 4, 5, 6, 7], [0, 1, 2, 3, 4, 5, 6, 7, 8], [0, 1, 2, 3, 4, 5, 6, 7, 8, 9], [0, 1, 2, 3, 4, 5, 6, 7, 8, 9, 10], [0, 1, 2, 3, 4, 5, 6, 7, 8, 9, 10, 11], [0, 1, 2, 3, 4, 5, 6, 7, 8, 9, 10, 11, 12], [0, 1, 2, 3, 4, 5, 6, 7, 8, 9, 10, 11, 12, 13], [0, 1, 2, 3, 4, 5, 6, 7, 8, 9, 10, 11, 12, 13, 14], [0, 1, 2, 3, 4, 5, 6, 7, 8, 9, 10, 11, 12, 13], [0, 1, 2, 3, 4, 5, 6, 7, 8, 9, 10, 11, 12, 13], [0, 1, 2, 3, 4, 5, 6, 7, 8, 9, 10, 11, 12, 13, 17], [0, 1, 2, 3, 4, 5, 6, 7, 8, 9, 10, 11, 12, 13, 16, 17, 18], [0, 1, 2, 3, 4, 5, 6, 7, 8, 9, 10, 11, 12, 13, 16, 17, 18, 19], [0, 1, 2, 3, 4, 5, 6, 7, 8, 9, 10, 11, 12, 13, 16, 17, 18, 19, 20], [0, 1, 2, 3, 4, 5, 6, 7, 8, 9, 10, 11, 12, 13, 16, 17, 18, 19, 20, 21], [0, 1, 2, 3, 4, 5, 6, 7, 8, 9, 10, 11, 12, 13, 14, 15, 16, 17, 18, 19, 20, 21, 22], [0, 1, 2, 3, 4, 5, 6, 7, 8, 9, 10, 11, 12, 13, 14, 15, 16, 17, 18, 19, 20, 21, 22, 23], [0, 1, 2, 3, 4, 5, 6, 7, 8, 9, 10, 11, 12, 13, 14, 15, 16, 17, 18, 19, 20, 21, 22, 23, 24], [0, 1, 2, 3, 4, 5, 6, 7, 8, 9, 10, 11, 12, 13, 14, 15, 16, 17, 18, 19, 20, 21, 22, 23, 24, 25], [0, 1, 2, 3, 4, 5, 6, 7, 8, 9, 10, 11, 12, 13, 14, 15, 16, 17, 18, 19, 20, 21, 22, 23, 24, 25, 26], [0, 1, 2, 3, 4, 5, 6, 7, 8, 9, 10, 11, 12, 13, 14, 15, 16, 17, 18, 19, 20, 21, 22, 23, 24, 25, 26, 27], [0, 1, 2, 3, 4, 5, 6, 7, 8, 9, 10, 11, 12, 13, 14, 15, 16, 17, 18, 19, 20, 21, 22, 23, 24, 25, 26, 27, 28], [0, 1, 2, 3, 4, 5, 6, 7, 8, 9, 10, 11, 12, 13, 14, 15, 16, 17, 18, 19, 20, 21, 22, 23, 24, 25, 26, 27, 28, 29]] [[.fact 27 (.pto 10 1)], [.fact 28 (.rep [] a0.Kind)], [.fact 29 (.rep [] ((a0.Kind == (1 : UInt8)) : Bool))], [.fact 30 (.rep [] ((a0.Kind == (1 : UInt8)) : Bool))], [.fact 31 (.under ((a0.Kind == (1 : UInt8)) = false) (.pto 10 1))], [.fact 32 (.under ((a0.Kind == (1 : UInt8)) = false) (.rep [] a0.Kind))], [.fact 33 (.under ((a0.Kind == (1 : UInt8)) = false) (.rep [] ((a0.Kind == (2 : UInt8)) : Bool)))], [.fact 34 (.rep [] (((a0.Kind == (1 : UInt8)) || (a0.Kind == (2 : UInt8))) : Bool))], [.fact 35 (.rep [] (((a0.Kind == (1 : UInt8)) || (a0.Kind == (2 : UInt8))) : Bool))], [.fact 36 (.under (((a0.Kind == (1 : UInt8)) || (a0.Kind == (2 : UInt8))) = true) (.pto 10 2))], [.fact 37 (.under (((a0.Kind == (1 : UInt8)) || (a0.Kind == (2 : UInt8))) = true) (.rep [] a0.At))], [.fact 38 (.under (((a0.Kind == (1 : UInt8)) || (a0.Kind == (2 : UInt8))) = true) (.rep [] ((decide (a0.At ≥ (0 : Int))) : Bool)))], [.fact 39 (.rep [] ((((a0.Kind == (1 : UInt8)) || (a0.Kind == (2 : UInt8))) && (decide (a0.At ≥ (0 : Int)))) : Bool))], [.fact 40 (.rep [] ((((a0.Kind == (1 : UInt8)) || (a0.Kind == (2 : UInt8))) && (decide (a0.At ≥ (0 : Int)))) : Bool))], [.fact 41 (.under ((((a0.Kind == (1 : UInt8)) || (a0.Kind == (2 : UInt8))) && (decide (a0.At ≥ (0 : Int)))) = true) (.pto 10 2))], [.fact 42 (.under ((((a0.Kind == (1 : UInt8)) || (a0.Kind == (2 : UInt8))) && (decide (a0.At ≥ (0 : Int)))) = true) (.rep [] a0.At))], [.fact 43 (.under ((((a0.Kind == (1 : UInt8)) || (a0.Kind == (2 : UInt8))) && (decide (a0.At ≥ (0 : Int)))) = true) (.rep [0] (a1 : List Disk)))], [.fact 44 (.under ((((a0.Kind == (1 : UInt8)) || (a0.Kind == (2 : UInt8))) && (decide (a0.At ≥ (0 : Int)))) = true) (.pto 10 0))], [.fact 45 (.under ((((a0.Kind == (1 : UInt8)) || (a0.Kind == (2 : UInt8))) && (decide (a0.At ≥ (0 : Int)))) = true) (.rep [] a0.Disk))], [.fact 46 (.under ((((a0.Kind == (1 : UInt8)) || (a0.Kind == (2 : UInt8))) && (decide (a0.At ≥ (0 : Int)))) = true) (.ptr [0] (x1 : Disk)))], [.fact 47 (.under ((((a0.Kind == (1 : UInt8)) || (a0.Kind == (2 : UInt8))) && (decide (a0.At ≥ (0 : Int)))) = true) (.ptr [0] (x1.Blocks : List (List UInt8))))], [.fact 48 (.under ((((a0.Kind == (1 : UInt8)) || (a0.Kind == (2 : UInt8))) && (decide (a0.At ≥ (0 : Int)))) = true) (.rep [0] x1.Blocks))], [.fact 49 (.under ((((a0.Kind == (1 : UInt8)) || (a0.Kind == (2 : UInt8))) && (decide (a0.At ≥ (0 : Int)))) = true) (.rep [] (((x1.Blocks).length : Int) : Int)))], [.fact 50 (.under ((((a0.Kind == (1 : UInt8)) || (a0.Kind == (2 : UInt8))) && (decide (a0.At ≥ (0 : Int)))) = true) (.rep [] ((decide (a0.At < ((x1.Blocks).length : Int))) : Bool)))], [.fact 51 (.rep [] (((((a0.Kind == (1 : UInt8)) || (a0.Kind == (2 : UInt8))) && (decide (a0.At ≥ (0 : Int)))) && (decide (a0.At < ((x1.Blocks).length : Int)))) : Bool))], [.fact 52 (.rep [] (((((a0.Kind == (1 : UInt8)) || (a0.Kind == (2 : UInt8))) && (decide (a0.At ≥ (0 : Int)))) && (decide (a0.At < ((x1.Blocks).length : Int)))) : Bool))], [.fact 53 (.under (((((a0.Kind == (1 : UInt8)) || (a0.Kind == (2 : UInt8))) && (decide (a0.At ≥ (0 : Int)))) && (decide (a0.At < ((x1.Blocks).length : Int)))) = true) (.pto 10 3))], [.fact 54 (.under (((((a0.Kind == (1 : UInt8)) || (a0.Kind == (2 : UInt8))) && (decide (a0.At ≥ (0 : Int)))) && (decide (a0.At < ((x1.Blocks).length : Int)))) = true) (.rep [0] a0.Data))], [.fact 55 (.under (((((a0.Kind == (1 : UInt8)) || (a0.Kind == (2 : UInt8))) && (decide (a0.At ≥ (0 : Int)))) && (decide (a0.At < ((x1.Blocks).length : Int)))) = true) (.rep [] (x2 : Bool)))], [.fact 56 (.rep [] ((((((a0.Kind == (1 : UInt8)) || (a0.Kind == (2 : UInt8))) && (decide (a0.At ≥ (0 : Int)))) && (decide (a0.At < ((x1.Blocks).length : Int)))) && x2) : Bool))], [.fact 4 (.rep [] ((((((a0.Kind == (1 : UInt8)) || (a0.Kind == (2 : UInt8))) && (decide (a0.At ≥ (0 : Int)))) && (decide (a0.At < ((x1.Blocks).length : Int)))) && x2) : Bool))]] mixed (by kernel_rfl) (ao (so (Spec.fieldAddrO fd64_1 (Has.cv (Has.s rfl) (Cv.isvP rfl)))) (ao (so (Spec.loadF (i := 1) ty5 rfl (Has.s rfl) rfl (HasG.s rfl))) (ao (so (Spec.eqlB (Has.s rfl) (Has.u8 1 rfl))) (ao (so (Spec.move (Has.s rfl))) (ao (StepG.opg rfl rfl rfl (fun hb => Spec.fieldAddrO fd64_1 (Has.cv (Has.s rfl) (Cv.isvP rfl)))) (ao (StepG.opg rfl rfl rfl (fun hb => Spec.loadF (i := 1) ty5 rfl (Has.u rfl hb) rfl (HasG.s rfl))) (ao (StepG.opg rfl rfl rfl (fun hb => Spec.eqlB (Has.u rfl hb) (Has.u8 2 rfl))) (ao (so (Spec.or (Has.s rfl) (fun h => Has.u rfl h))) (ao (so (Spec.move (Has.s rfl))) (ao (StepG.opg rfl rfl rfl (fun hb => Spec.fieldAddrO fd64_2 (Has.cv (Has.s rfl) (Cv.isvP rfl)))) (ao (StepG.opg rfl rfl rfl (fun hb => Spec.loadF (i := 2) ty3 rfl (Has.u rfl hb) rfl (HasG.s rfl))) (ao (StepG.opg rfl rfl rfl (fun hb => Spec.geqI (Has.u rfl hb) Has.int)) (ao (so (Spec.and (Has.s rfl) (fun h => Has.u rfl h))) (ao (so (Spec.move (Has.s rfl))) (ao (StepG.opg rfl rfl rfl (fun hb => Spec.fieldAddrO fd64_2 (Has.cv (Has.s rfl) (Cv.isvP rfl)))) (ao (StepG.opg rfl rfl rfl (fun hb => Spec.loadF (i := 2) ty3 rfl (Has.u rfl hb) rfl (HasG.s rfl))) (ao (StepG.opg rfl rfl rfl (fun hb => Spec.move (Has.s rfl))) (ao (StepG.opg rfl rfl rfl (fun hb => Spec.fieldAddrO fd64_0 (Has.cv (Has.s rfl) (Cv.isvP rfl)))) (ao (StepG.opg rfl rfl rfl (fun hb => Spec.loadF (i := 0) ty3 rfl (Has.u rfl hb) rfl (HasG.s rfl))) (ao (StepG.opg rfl rfl rfl (fun hb => Spec.indexAddr (gO_t hx1 hb) sl22 (Has.u rfl hb) (Has.u rfl hb))) (ao (StepG.opg rfl rfl rfl (fun hb => Spec.fieldAddrP fd41_0 (chDisk x1) rfl (Has.u rfl hb))) (ao (StepG.opg rfl rfl rfl (fun hb => Spec.load ty38 (Has.u rfl hb))) (ao (StepG.opg rfl rfl rfl (fun hb => Spec.len (Has.u rfl hb) Try.underlying38)) (ao (StepG.opg rfl rfl rfl (fun hb => Spec.lssI (Has.u rfl hb) (Has.u rfl hb))) (ao (so (Spec.and (Has.s rfl) (fun h => Has.u rfl h))) (ao (so (Spec.move (Has.s rfl))) (ao (StepG.opg rfl rfl rfl (fun hb => Spec.fieldAddrO fd64_3 (Has.cv (Has.s rfl) (Cv.isvP rfl)))) (ao (StepG.opg rfl rfl rfl (fun hb => Spec.loadF (i := 3) ty54 rfl (Has.u rfl hb) rfl (HasG.s rfl))) (ao (StepG.opg rfl rfl rfl (fun hb => Spec.callE [0] 15 rfl en63 (ref04_Sized_c a0.Data (gO_t hx2 hb)) (HasAll.cons (Has.m (Has.u rfl hb) rfl) HasAll.nil))) (ao (so (Spec.and (Has.s rfl) (fun h => Has.u rfl h))) (ao (so (Spec.assign (Has.s rfl))) AllM.nil))))))))))))))))))))))))))))))) ?_
   refine Leaf.thenN ?_
   refine CWalk.ret ?_
   obtain rfl := Option.some.inj hm
   exact Leaf.retC1 rfl (HasR.cv (HasR.tmp (Has.s rfl)) Cv.fl)

def ref05_Check_L1 (a0 : List Act64) (a1 : List Disk) (s2 : Int) : Option (Ctl (Int) ((Unit) ⊕ (Unit))) :=
  (bif (decide (s2 < ((a0).length : Int))) then Option.bind (idx a0 s2) (fun x4 => Option.bind (ref05_may x4 a1) (fun x5 => (bif (!x5) then some (Ctl.brk (Sum.inr ())) else some (Ctl.next (wI (s2 + (1 : Int))))))) else some (Ctl.brk (Sum.inl ())))
/-- freeboard/freeboardref05.Check -/
def ref05_Check (a0 : List Act64) (a1 : List Disk) : Option (Int) :=
  Option.bind (ref05_May a1) (fun x1 => (bif (!x1) then some (8 : Int) else (bif (decide (((a0).length : Int) > (1024 : Int))) then some (4 : Int) else Option.bind (loopM (fun s : Int => ref05_Check_L1 a0 a1 s) FUEL (0 : Int)) (fun b6 => Sum.elim (fun b7 => some (0 : Int)) (fun b8 => some (2 : Int)) b6))))
set_option maxRecDepth 100000 in
set_option maxHeartbeats 2000000 in
theorem ref05_Check_c (a0 : List Act64) (a1 : List Disk) {r : Int} (hm : ref05_Check a0 a1 = some r) : Ctr Try.prog 23 [.rep 0 a0, .rep 0 a1] (.fl r) [] := by
 refine ctr_of_walk [[]] 25 Try.func23 rfl rfl rfl rfl (fun w0 om => ?_)
 unfold ref05_Check at hm
 refine CWalk.sub (G' := [.fact 0 (.rep [0] (a0 : List Act64)), .fact 1 (.rep [0] (a1 : List Disk))]) (sn (sn Sub.nil)) ?_
 refine CWalk.seq ?_
 refine CWalk.region ?_
 refine wo (Spec.assign Has.int) ?_
 refine Walk.nil ?_
 refine Leaf.thenN ?_
 refine CWalk.seq ?_
 refine CWalk.seq ?_
 refine CWalk.region ?_
 refine mv ?_
 obtain ⟨x1, hx1, hm⟩ := bind_some hm
 refine wo (f := Fact.rep [] (x1 : Bool)) (Spec.callE [0] 10 rfl en37 (ref05_May_c a1 hx1) (HasAll.cons (Has.m (Has.s rfl) rfl) HasAll.nil)) ?_
 refine wo (Spec.not (Has.s rfl)) ?_
 refine Walk.nil ?_
 refine Leaf.thenN ?_
 refine CWalk.cond rfl (fun hb => ?_) (fun hb => ?_)
 ·have hm := cond_t hb hm
  refine CWalk.seq ?_
  refine CWalk.region ?_
  refine wo (Spec.assign Has.int) ?_
  refine Walk.nil ?_
  refine Leaf.thenN ?_
  refine CWalk.ret ?_
  refine Leaf.thenR ?_
  obtain rfl := Option.some.inj hm
  exact Leaf.retC1 rfl (HasR.cv (HasR.tmp (Has.s rfl)) Cv.fl)
 ·have hm := cond_f hb hm
  refine CWalk.skip ?_
  refine Leaf.thenN ?_
  refine CWalk.seq ?_
  refine CWalk.seq ?_
  refine CWalk.region ?_
  refine mv ?_
  refine wo (Spec.len (Has.s rfl) Try.underlying43) ?_
  refine wo (Spec.gtrI (Has.s rfl) Has.int) ?_
  refine Walk.nil ?_
  refine Leaf.thenN ?_
  refine CWalk.cond rfl (fun hb => ?_) (fun hb => ?_)
  ·have hm := cond_t hb hm
   refine CWalk.seq ?_
   refine CWalk.region ?_
   refine wo (Spec.assign Has.int) ?_
   refine Walk.nil ?_
   refine Leaf.thenN ?_
   refine CWalk.ret ?_
   refine Leaf.thenR ?_
   obtain rfl := Option.some.inj hm
   exact Leaf.retC1 rfl (HasR.cv (HasR.tmp (Has.s rfl)) Cv.fl)
  ·have hm := cond_f hb hm
   refine CWalk.skip ?_
   refine Leaf.thenN ?_
   refine CWalk.seq ?_
   refine CWalk.seq ?_
   refine CWalk.region ?_
   refine wo (Spec.assign Has.int) ?_
   refine Walk.nil ?_
   refine Leaf.thenN ?_
   refine CWalk.block ?_
   obtain ⟨b6, hb6, hm⟩ := bind_some hm
   refine CWalk.loop (fun s : Int => [.fact 0 (.rep [0] (a0 : List Act64)), .fact 1 (.rep [0] (a1 : List Disk)), .fact 5 (.rep [] (s : Int))]) (fun b : (Unit) ⊕ (Unit) => Sum.elim (fun b => (Exit.exit 0, [])) (fun b => (Exit.ret, [.fact 4 (.rep [] ((2 : Int) : Int))])) b) hb6 (su (su (st Sub.nil))) ?_ ?_
   ·rintro s2 c3 hm
    replace hm : ref05_Check_L1 a0 a1 s2 = some c3 := hm
    unfold ref05_Check_L1 at hm
    show CWalk _ [.fact 0 (.rep [0] (a0 : List Act64)), .fact 1 (.rep [0] (a1 : List Disk)), .fact 5 (.rep [] (s2 : Int))] _ _
    refine CWalk.seq ?_
    refine CWalk.seq ?_
    refine CWalk.region ?_
    refine mv ?_
    refine mv ?_
    refine wo (Spec.len (Has.s rfl) Try.underlying43) ?_
    refine wo (Spec.lssI (Has.s rfl) (Has.s rfl)) ?_
    refine Walk.nil ?_
    refine Leaf.thenN ?_
    refine CWalk.cond rfl (fun hb => ?_) (fun hb => ?_)
    ·have hm := cond_t hb hm
     refine CWalk.skip ?_
     refine Leaf.thenN ?_
     refine CWalk.seq ?_
     refine CWalk.block ?_
     refine CWalk.seq ?_
     refine CWalk.region ?_
     refine mv ?_
     refine mv ?_
     obtain ⟨x4, hx4, hm⟩ := bind_some hm
     refine wo (Spec.indexAddr hx4 sl43 (Has.s rfl) (Has.s rfl)) ?_
     refine wo (Spec.load ty64 (Has.s rfl)) ?_
     refine mv ?_
     obtain ⟨x5, hx5, hm⟩ := bind_some hm
     refine wo (f := Fact.rep [] (x5 : Bool)) (Spec.callE [0] 11 rfl en45 (ref05_may_c x4 a1 hx5) (HasAll.cons (Has.m (Has.s rfl) rfl) (HasAll.cons (Has.m (Has.s rfl) rfl) HasAll.nil))) ?_
     refine wo (Spec.not (Has.s rfl)) ?_
     refine Walk.nil ?_
     refine Leaf.thenN ?_
     refine CWalk.cond rfl (fun hb => ?_) (fun hb => ?_)
     ·have hm := cond_t hb hm
      refine CWalk.seq ?_
      refine CWalk.region ?_
      refine wo (Spec.assign Has.int) ?_
      refine Walk.nil ?_
      refine Leaf.thenN ?_
      refine CWalk.ret ?_
      refine Leaf.blockR ?_
      refine Leaf.thenR ?_
      exact Leaf.brk hm (fun h => nomatch h) rfl (st Sub.nil)
     ·have hm := cond_f hb hm
      refine CWalk.skip ?_
      refine Leaf.blockN ?_
      refine Leaf.thenN ?_
      refine CWalk.region ?_
      refine mv ?_
      refine wo (Spec.addI (Has.s rfl) Has.int) ?_
      refine wo (Spec.assign (Has.s rfl)) ?_
      refine Walk.nil ?_
      exact Leaf.next hm (su (su (st Sub.nil)))
    ·have hm := cond_f hb hm
     refine CWalk.exit ?_
     refine Leaf.thenE ?_
     exact Leaf.brk hm (fun h => nomatch h) rfl (Sub.nil)
   ·intro _
    rcases b6 with b7 | b8
    ·have hm := selim_l hm
     refine Leaf.blockE ?_
     refine Leaf.thenN ?_
     refine CWalk.seq ?_
     refine CWalk.region ?_
     refine wo (Spec.assign Has.int) ?_
     refine Walk.nil ?_
     refine Leaf.thenN ?_
     refine CWalk.ret ?_
     obtain rfl := Option.some.inj hm
     exact Leaf.retC1 rfl (HasR.cv (HasR.tmp (Has.s rfl)) Cv.fl)
    ·have hm := selim_r hm
     refine Leaf.blockR ?_
     refine Leaf.thenR ?_
     obtain rfl := Option.some.inj hm
     exact Leaf.retC1 rfl (HasR.cv (HasR.tmp (Has.s rfl)) Cv.fl)

/-- freeboard/freeboardref04.Full -/
def ref04_Full (a0 : List UInt8) : Option ((List UInt8)) :=
  (bif (((a0).length : Int) == (0 : Int)) then Option.bind (makeL (0 : UInt8) (128 : Int)) (fun x1 => some x1) else Option.bind (app ([] : List UInt8) a0) (fun x2 => some x2))
set_option maxRecDepth 100000 in
set_option maxHeartbeats 2000000 in
theorem ref04_Full_c (a0 : List UInt8) {r : (List UInt8)} (hm : ref04_Full a0 = some r) : Ctr Try.prog 41 [.rep 0 a0] (.own 0 none 5 r) [] := by
 refine ctr_of_walk [[10, 11]] 11 Try.func41 rfl rfl rfl rfl (fun w0 om => ?_)
 unfold ref04_Full at hm
 refine CWalk.sub (G' := [.fact 0 (.rep [0] (a0 : List UInt8))]) (sn Sub.nil) ?_
 refine CWalk.seq ?_
 refine CWalk.region ?_
 refine wo (Spec.assign Has.nilv) ?_
 refine Walk.nil ?_
 refine Leaf.thenN ?_
 refine CWalk.seq ?_
 refine CWalk.seq ?_
 refine CWalk.region ?_
 refine mv ?_
 refine wo (Spec.len (Has.s rfl) Try.underlying54) ?_
 refine wo (Spec.eqlI (Has.s rfl) Has.int) ?_
 refine Walk.nil ?_
 refine Leaf.thenN ?_
 refine CWalk.cond rfl (fun hb => ?_) (fun hb => ?_)
 ·have hm := cond_t hb hm
  refine CWalk.seq ?_
  refine CWalk.region ?_
  obtain ⟨x1, hx1, hm⟩ := bind_some hm
  refine ws (Step.makeOwn 10 hx1 rfl rfl ow54 zt5 Has.int) ?_
  refine wo (Spec.assign (Has.s rfl)) ?_
  refine Walk.nil ?_
  refine Leaf.thenN ?_
  refine CWalk.ret ?_
  refine Leaf.thenR ?_
  obtain rfl := Option.some.inj hm
  exact Leaf.retC1 rfl (HasR.cv (HasR.tmp (Has.s rfl)) (Cv.trans (Cv.isvOw rfl) (Cv.owF (T := [10]) (te := []) rfl)))
 ·have hm := cond_f hb hm
  refine CWalk.skip ?_
  refine Leaf.thenN ?_
  refine CWalk.seq ?_
  refine CWalk.region ?_
  refine wo (Spec.assign Has.nilv) ?_
  refine Walk.nil ?_
  refine Leaf.thenN ?_
  refine CWalk.seq ?_
  refine CWalk.region ?_
  refine mv ?_
  refine mv ?_
  obtain ⟨x2, hx2, hm⟩ := bind_some hm
  refine wo (Spec.appNilO (te' := []) 11 hx2 rfl ow54 (Has.s rfl) (Has.s rfl) ElKeep.flat) ?_
  refine wo (Spec.assign (Has.s rfl)) ?_
  refine Walk.nil ?_
  refine Leaf.thenN ?_
  refine CWalk.ret ?_
  obtain rfl := Option.some.inj hm
  exact Leaf.retC1 rfl (HasR.cv (HasR.tmp (Has.s rfl)) (Cv.owF (T := [11]) (te := []) rfl))

/-- freeboard/freeboardref04.Put -/
def ref04_Put (a0 : Disk) (a1 : Int) (a2 : List UInt8) : Option (Disk) :=
  Option.bind (ref04_Twin a0) (fun x1 => Option.bind (ref04_Full a2) (fun x2 => Option.bind (app x1.Wait ([(Write.mk a1 x2)])) (fun x3 => some (Disk.mk x1.Blocks x3 x1.Dead))))
set_option maxRecDepth 100000 in
set_option maxHeartbeats 2000000 in
theorem ref04_Put_c (a0 : Disk) (a1 : Int) (a2 : List UInt8) {r : Disk} (hm : ref04_Put a0 a1 a2 = some r) : Ctr Try.prog 74 [.rep 0 a0, .rep 0 a1, .rep 0 a2] (.flds [(false, 1, (.own 0 (some 1) 54 r.Blocks)), (false, 1, (.own 2 (some 3) 58 r.Wait)), (false, 1, (.fl r.Dead))]) [] := by
 refine ctr_of_walk [[18], [19], [20], [21, 26, 27]] 20 Try.func74 rfl rfl rfl rfl (fun w0 om => ?_)
 unfold ref04_Put at hm
 refine CWalk.sub (G' := [.fact 0 (.rep [0] (a0 : Disk)), .fact 1 (.rep [] (a1 : Int)), .fact 2 (.rep [0] (a2 : List UInt8))]) (sn (Sub.cons (Has.fl (Has.s rfl)) (sn Sub.nil))) ?_
 refine CWalk.seq ?_
 refine CWalk.region ?_
 refine ws (Step.boxObj (ls := [(false, 1, Fact.rep [0] a0.Blocks), (false, 1, Fact.rep [0] a0.Wait), (false, 1, Fact.rep [] a0.Dead)]) 10 rfl rfl rfl rfl (HasL.flds (Has.cv (Has.s rfl) (Cv.trans (Cv.opens (chDisk a0)) (Cv.flds (CvL.cons Cv.refl (CvL.cons Cv.refl (CvL.cons Cv.fl CvL.nil)))))))) ?_
 refine ws (Step.allocObj (ls := [(false, 1, Fact.nilv), (false, 1, Fact.nilv), (false, 1, Fact.rep [] (false : Bool))]) 14 rfl rfl rfl rfl zl41) ?_
 refine Walk.nil ?_
 refine Leaf.thenN ?_
 refine CWalk.seq ?_
 refine CWalk.region ?_
 refine wo (Spec.loadObj (ls := [(false, 1, Fact.rep [0] a0.Blocks), (false, 1, Fact.rep [0] a0.Wait), (false, 1, Fact.rep [] a0.Dead)]) ty41 rfl rfl (Has.s rfl) rfl (HasGs.cons (HasG.s rfl) (HasGs.cons (HasG.s rfl) (HasGs.cons (HasG.s rfl) HasGs.nil)))) ?_
 obtain ⟨x1, hx1, hm⟩ := bind_some hm
 refine wo (f := Fact.flds [(false, 1, Fact.ow [18] [19] 54 (x1.Blocks : List (List UInt8))), (false, 1, Fact.ow [20] [21] 58 (x1.Wait : List Write)), (false, 1, Fact.rep [] x1.Dead)]) (Spec.callE [0] 18 rfl en34 (ref04_Twin_c a0 hx1) (HasAll.cons (Has.m (Has.cv (Has.s rfl) (Cv.trans (Cv.flds (CvL.cons (Cv.m rfl) (CvL.cons (Cv.m rfl) (CvL.cons Cv.fl CvL.nil)))) (Cv.close (T := [0]) (chDisk a0)))) rfl) HasAll.nil)) ?_
 refine ws (Step.allocObj (ls := [(false, 1, Fact.nilv), (false, 1, Fact.nilv), (false, 1, Fact.rep [] (false : Bool))]) 22 rfl rfl rfl rfl zl41) ?_
 refine ws (Step.storeObj (ls := [(false, 1, Fact.ow [18] [19] 54 (x1.Blocks : List (List UInt8))), (false, 1, Fact.ow [20] [21] 58 (x1.Wait : List Write)), (false, 1, Fact.rep [] x1.Dead)]) rfl ty41 rfl rfl (Has.s rfl) rfl (HasL.flds (Has.s rfl)) rfl) ?_
 refine Walk.nil ?_
 refine Leaf.thenN ?_
 refine CWalk.seq ?_
 obtain ⟨x2, hx2, hm⟩ := bind_some hm
 obtain ⟨x3, hx3, hm⟩ := bind_some hm
 refine CWalk.drawM [[], [0], [], [], [3], [2, 3, 4], [2, 3, 4, 5], [0, 1, 2, 3, 4, 5, 6], [0, 1, 2, 3, 4, 5, 6, 7], [0, 1, 2, 3, 4, 5, 6, 7, 8]] [[.fact 10 (.pto 22 1)], [.fact 11 (.ow [20] [21] 58 (x1.Wait : List Write))], [.fact 12 (.rep [] (a1 : Int))], [.fact 13 (.rep [0] (a2 : List UInt8))], [.fact 14 (.ow [26] [] 5 (x2 : List UInt8))], [.fact 15 (.flds [(false, 1, Fact.rep [] (a1 : Int)), (false, 1, Fact.ow [26] [] 5 (x2 : List UInt8))])], [.fact 16 (.rep [27, 26] ([(Write.mk a1 x2)] : List Write))], [.fact 17 (.ow [20] [21, 26, 27] 58 (x3 : List Write)), .kill 20], [.fact 18 (.pto 22 1)], [.fact 100024 (.at 24 (.ow [20] [21, 26, 27] 58 (x3 : List Write))), .fact 100022 (.obj 22 [(false, 1), (false, 1), (false, 1)]), .kill 22, .killId 24]] mixed (by kernel_rfl) (ao (so (Spec.fieldAddrO fd41_1 (Has.cv (Has.s rfl) (Cv.isvP rfl)))) (ao (so (Spec.loadF (i := 1) ty39 rfl (Has.s rfl) rfl (HasG.s rfl))) (ao (so (Spec.move (Has.s rfl))) (ao (so (Spec.move (Has.s rfl))) (ao (so (Spec.callE [0] 26 rfl en41 (ref04_Full_c a2 hx2) (HasAll.cons (Has.m (Has.s rfl) rfl) HasAll.nil))) (ao (so (Spec.build (us := [(0, .tmp 12), (1, .tmp 14)]) (ls' := [(false, 1, Fact.rep [] (a1 : Int)), (false, 1, Fact.ow [26] [] 5 (x2 : List UInt8))]) bd58 rfl (BP.cons rfl rfl (Has.s rfl) (Has.s rfl) (BP.cons rfl rfl (Has.cv (Has.s rfl) (Cv.trans Cv.owSl (Cv.slRep (T' := [26]) rfl rfl))) (Has.s rfl) BP.nil)))) (ao (so (Spec.lit (xs := [.tmp 15]) (T := [26]) 27 rfl ow39 rfl rfl rfl rfl (HasEach.cons (Has.m (Has.cv (Has.s rfl) (Cv.trans (Cv.flds (CvL.cons Cv.fl (CvL.cons (Cv.trans (Cv.trans Cv.owSl (Cv.slRep (T' := [26]) rfl rfl)) (Cv.m rfl)) CvL.nil))) (Cv.close (T := [26]) (chWrite (Write.mk a1 x2))))) rfl) HasEach.nil))) (ao (StepG.stE (Step.appendOw (T := [20]) (te' := [21, 26, 27]) hx3 rfl rfl rfl ow39 (Has.s rfl) (Has.s rfl) (ElKeeps.tags rfl rfl) (ElKeeps.tags rfl rfl))) (ao (so (Spec.fieldAddrO fd41_1 (Has.cv (Has.s rfl) (Cv.isvP rfl)))) (ao (StepG.stE (Step.storeF (i := 1) (f := Fact.ow [20] [21, 26, 27] 58 (x3 : List Write)) rfl ty39 rfl (Has.s rfl) rfl (Has.cv (Has.s rfl) (Cv.trans Cv.owSl (Cv.slRep (T' := [20, 21, 26, 27]) rfl rfl))) (Has.s rfl) rfl)) AllM.nil)))))))))) ?_
 refine Leaf.thenN ?_
 refine CWalk.seq ?_
 refine CWalk.region ?_
 refine wo (Spec.loadObj (ls := [(false, 1, Fact.ow [18] [19] 54 (x1.Blocks : List (List UInt8))), (false, 1, Fact.ow [20] [21, 26, 27] 58 (x3 : List Write)), (false, 1, Fact.rep [] x1.Dead)]) ty41 rfl rfl (Has.s rfl) rfl (HasGs.cons (HasG.s rfl) (HasGs.cons (HasG.s rfl) (HasGs.cons (HasG.s rfl) HasGs.nil)))) ?_
 refine ws (Step.storeObj (ls := [(false, 1, Fact.ow [18] [19] 54 (x1.Blocks : List (List UInt8))), (false, 1, Fact.ow [20] [21, 26, 27] 58 (x3 : List Write)), (false, 1, Fact.rep [] x1.Dead)]) rfl ty41 rfl rfl (Has.s rfl) rfl (HasL.flds (Has.s rfl)) rfl) ?_
 refine Walk.nil ?_
 refine Leaf.thenN ?_
 refine CWalk.ret ?_
 obtain rfl := Option.some.inj hm
 exact Leaf.retC1 rfl (HasR.cv (HasR.obj (ls := [(false, 1, Fact.ow [18] [19] 54 (x1.Blocks : List (List UInt8))), (false, 1, Fact.ow [20] [21, 26, 27] 58 (x3 : List Write)), (false, 1, Fact.rep [] x1.Dead)]) ty41 rfl rfl (Has.s rfl) rfl (HasGs.cons (HasG.s rfl) (HasGs.cons (HasG.s rfl) (HasGs.cons (HasG.s rfl) HasGs.nil)))) (Cv.flds (CvL.cons (Cv.owM (T := [18]) (te := [19]) rfl rfl) (CvL.cons (Cv.owM (T := [20]) (te := [21, 26, 27]) rfl rfl) (CvL.cons Cv.fl CvL.nil)))))

def ref04_Sure_J2 (s4 : Int) (j7 : List Write) : Option (Ctl (Int × (List Write)) ((List Write))) :=
  some (Ctl.next ((wI (s4 + (1 : Int))), j7))
def ref04_Sure_L1 (a0 : Disk) (a1 : Int) (s4 : Int) (s5 : List Write) : Option (Ctl (Int × (List Write)) ((List Write))) :=
  (bif (decide (s4 < ((a0.Wait).length : Int))) then Option.bind (idx a0.Wait s4) (fun x8 => (bif (x8.At != a1) then Option.bind (idx a0.Wait s4) (fun x9 => Option.bind (idx a0.Wait s4) (fun x10 => Option.bind (ref04_Full x10.Data) (fun x11 => Option.bind (app s5 ([(Write.mk x9.At x11)])) (fun x12 => (ref04_Sure_J2 s4 x12))))) else (ref04_Sure_J2 s4 s5))) else some (Ctl.brk s5))
/-- freeboard/freeboardref04.Sure -/
def ref04_Sure (a0 : Disk) (a1 : Int) (a2 : List UInt8) : Option (Disk) :=
  Option.bind (ref04_Twin a0) (fun x1 => Option.bind (ref04_Full a2) (fun x2 => Option.bind (bnd (x1.Blocks).length a1) (fun x3 => Option.bind (loopM (fun s : Int × (List Write) => ref04_Sure_L1 a0 a1 s.1 s.2) FUEL ((0 : Int), ([] : List Write))) (fun b13 => some (Disk.mk ((x1.Blocks).set x3 x2) b13 x1.Dead)))))
set_option maxRecDepth 100000 in
set_option maxHeartbeats 2000000 in
theorem ref04_Sure_c (a0 : Disk) (a1 : Int) (a2 : List UInt8) {r : Disk} (hm : ref04_Sure a0 a1 a2 = some r) : Ctr Try.prog 75 [.rep 0 a0, .rep 0 a1, .rep 0 a2] (.flds [(false, 1, (.own 0 (some 1) 54 r.Blocks)), (false, 1, (.own 2 (some 3) 58 r.Wait)), (false, 1, (.fl r.Dead))]) [] := by
 refine ctr_of_walk [[26], [19, 27], [30], [28, 29]] 53 Try.func75 rfl rfl rfl rfl (fun w0 om => ?_)
 unfold ref04_Sure at hm
 refine CWalk.sub (G' := [.fact 0 (.rep [0] (a0 : Disk)), .fact 1 (.rep [] (a1 : Int)), .fact 2 (.rep [0] (a2 : List UInt8))]) (sn (Sub.cons (Has.fl (Has.s rfl)) (sn Sub.nil))) ?_
 refine CWalk.seq ?_
 refine CWalk.region ?_
 refine ws (Step.boxObj (ls := [(false, 1, Fact.rep [0] a0.Blocks), (false, 1, Fact.rep [0] a0.Wait), (false, 1, Fact.rep [] a0.Dead)]) 10 rfl rfl rfl rfl (HasL.flds (Has.cv (Has.s rfl) (Cv.trans (Cv.opens (chDisk a0)) (Cv.flds (CvL.cons Cv.refl (CvL.cons Cv.refl (CvL.cons Cv.fl CvL.nil)))))))) ?_
 refine ws (Step.allocObj (ls := [(false, 1, Fact.nilv), (false, 1, Fact.nilv), (false, 1, Fact.rep [] (false : Bool))]) 14 rfl rfl rfl rfl zl41) ?_
 refine Walk.nil ?_
 refine Leaf.thenN ?_
 refine CWalk.seq ?_
 refine CWalk.region ?_
 refine wo (Spec.loadObj (ls := [(false, 1, Fact.rep [0] a0.Blocks), (false, 1, Fact.rep [0] a0.Wait), (false, 1, Fact.rep [] a0.Dead)]) ty41 rfl rfl (Has.s rfl) rfl (HasGs.cons (HasG.s rfl) (HasGs.cons (HasG.s rfl) (HasGs.cons (HasG.s rfl) HasGs.nil)))) ?_
 obtain ⟨x1, hx1, hm⟩ := bind_some hm
 refine wo (f := Fact.flds [(false, 1, Fact.ow [18] [19] 54 (x1.Blocks : List (List UInt8))), (false, 1, Fact.ow [20] [21] 58 (x1.Wait : List Write)), (false, 1, Fact.rep [] x1.Dead)]) (Spec.callE [0] 18 rfl en34 (ref04_Twin_c a0 hx1) (HasAll.cons (Has.m (Has.cv (Has.s rfl) (Cv.trans (Cv.flds (CvL.cons (Cv.m rfl) (CvL.cons (Cv.m rfl) (CvL.cons Cv.fl CvL.nil)))) (Cv.close (T := [0]) (chDisk a0)))) rfl) HasAll.nil)) ?_
 refine ws (Step.allocObj (ls := [(false, 1, Fact.nilv), (false, 1, Fact.nilv), (false, 1, Fact.rep [] (false : Bool))]) 22 rfl rfl rfl rfl zl41) ?_
 refine ws (Step.storeObj (ls := [(false, 1, Fact.ow [18] [19] 54 (x1.Blocks : List (List UInt8))), (false, 1, Fact.ow [20] [21] 58 (x1.Wait : List Write)), (false, 1, Fact.rep [] x1.Dead)]) rfl ty41 rfl rfl (Has.s rfl) rfl (HasL.flds (Has.s rfl)) rfl) ?_
 refine Walk.nil ?_
 refine Leaf.thenN ?_
 refine CWalk.seq ?_
 refine CWalk.ad (Ad.owF (i := 23) 26 rfl rfl rfl (ElT.tags rfl) rfl (Cv.owM (T := [18]) (te := [19]) (T' := [18]) (te' := [19]) rfl rfl)) ?_
 obtain ⟨x2, hx2, hm⟩ := bind_some hm
 obtain ⟨x3, hx3, hm⟩ := bind_some hm
 refine CWalk.drawM [[], [0], [], [], [3], [0, 1, 2, 3, 4], [0, 1, 2, 3, 4, 5]] [[.fact 11 (.pto 22 0)], [.fact 12 (.isv 26)], [.fact 13 (.rep [] (a1 : Int))], [.fact 14 (.rep [0] (a2 : List UInt8))], [.fact 15 (.ow [27] [] 5 (x2 : List UInt8))], [.fact 16 (.pto 26 (x3 * Rp.n (List UInt8)))], [.fact 100026 (.own 26 [19, 27] 54 ((x1.Blocks).set x3 x2 : List (List UInt8))), .kill 26]] mixed (by kernel_rfl) (ao (so (Spec.fieldAddrO fd41_0 (Has.cv (Has.s rfl) (Cv.isvP rfl)))) (ao (so (Spec.loadF (i := 0) ty38 rfl (Has.s rfl) rfl (HasG.s rfl))) (ao (so (Spec.move (Has.s rfl))) (ao (so (Spec.move (Has.s rfl))) (ao (so (Spec.callE [0] 27 rfl en41 (ref04_Full_c a2 hx2) (HasAll.cons (Has.m (Has.s rfl) rfl) HasAll.nil))) (ao (so (Spec.idxOwn hx3 ow38 (Has.s rfl) rfl (Has.s rfl))) (ao (StepG.stE (Step.storeOwn (te' := [19, 27]) rfl (bnd_lt hx3 rfl) ty54 (Has.s rfl) rfl (Has.cv (Has.s rfl) (Cv.trans Cv.owSl (Cv.slRep (T' := [27]) rfl rfl))) (ElKeep.tags rfl rfl) (ElKeep.tags rfl rfl))) AllM.nil))))))) ?_
 refine Leaf.thenN ?_
 refine CWalk.seq ?_
 refine CWalk.region ?_
 refine wo (Spec.fieldAddrO fd41_1 (Has.cv (Has.s rfl) (Cv.isvP rfl))) ?_
 refine ws (Step.storeF (i := 1) (f := Fact.nilv) rfl ty39 rfl (Has.s rfl) rfl (Has.cv Has.nilv (Cv.nil (T := []))) Has.nilv rfl) ?_
 refine Walk.nil ?_
 refine Leaf.thenN ?_
 refine CWalk.seq ?_
 refine CWalk.seq ?_
 refine CWalk.region ?_
 refine wo (Spec.assign Has.int) ?_
 refine Walk.nil ?_
 refine Leaf.thenN ?_
 refine CWalk.block ?_
 obtain ⟨b13, hb13, hm⟩ := bind_some hm
 refine CWalk.loop (fun s : Int × (List Write) => [.fact 1 (.rep [] (a1 : Int)), .fact 3 (.isv 10), .fact 6 (.isv 14), .fact 7 (.isv 22), .fact 8 (.rep [] s.1), .fact 100011 (.at 11 (.rep [0] a0.Blocks)), .fact 100012 (.at 12 (.rep [0] a0.Wait)), .fact 100013 (.at 13 (.rep [] a0.Dead)), .fact 100015 (.at 15 (.nilv)), .fact 100016 (.at 16 (.nilv)), .fact 100017 (.at 17 (.rep [] (false : Bool))), .fact 100023 (.at 23 (.isv 26)), .fact 100024 (.at 24 (.ow [30] [28, 29] 58 (s.2 : List Write))), .fact 100025 (.at 25 (.rep [] x1.Dead)), .fact 100010 (.obj 10 [(false, 1), (false, 1), (false, 1)]), .fact 100014 (.obj 14 [(false, 1), (false, 1), (false, 1)]), .fact 100022 (.obj 22 [(false, 1), (false, 1), (false, 1)]), .fact 100026 (.own 26 [19, 27] 54 ((x1.Blocks).set x3 x2 : List (List UInt8)))]) (fun b : (List Write) => (Exit.exit 0, [.fact 6 (.isv 14), .fact 7 (.isv 22), .fact 100015 (.at 15 (.nilv)), .fact 100016 (.at 16 (.nilv)), .fact 100017 (.at 17 (.rep [] (false : Bool))), .fact 100023 (.at 23 (.isv 26)), .fact 100024 (.at 24 (.ow [30] [28, 29] 58 (b : List Write))), .fact 100025 (.at 25 (.rep [] x1.Dead)), .fact 100014 (.obj 14 [(false, 1), (false, 1), (false, 1)]), .fact 100022 (.obj 22 [(false, 1), (false, 1), (false, 1)]), .fact 100026 (.own 26 [19, 27] 54 ((x1.Blocks).set x3 x2 : List (List UInt8)))])) hb13 (st (sn (sn (sn (st (sm (sm (sf (sg (sg (sf (sg (Sub.cons (Has.at (HasG.cv (HasG.s rfl) (Cv.trans Cv.nilOw (Cv.owM (T := []) (te := []) rfl rfl)))) (sf (sn (sn (sn (Sub.cons (Has.ownM (Has.s rfl) rfl) Sub.nil)))))))))))))))))) ?_ ?_
 ·rintro ⟨s4, s5⟩ c6 hm
  replace hm : ref04_Sure_L1 a0 a1 s4 s5 = some c6 := hm
  unfold ref04_Sure_L1 at hm
  show CWalk _ [.fact 1 (.rep [] (a1 : Int)), .fact 3 (.isv 10), .fact 6 (.isv 14), .fact 7 (.isv 22), .fact 8 (.rep [] (s4 : Int)), .fact 100011 (.at 11 (.rep [0] a0.Blocks)), .fact 100012 (.at 12 (.rep [0] a0.Wait)), .fact 100013 (.at 13 (.rep [] a0.Dead)), .fact 100015 (.at 15 (.nilv)), .fact 100016 (.at 16 (.nilv)), .fact 100017 (.at 17 (.rep [] (false : Bool))), .fact 100023 (.at 23 (.isv 26)), .fact 100024 (.at 24 (.ow [30] [28, 29] 58 (s5 : List Write))), .fact 100025 (.at 25 (.rep [] x1.Dead)), .fact 100010 (.obj 10 [(false, 1), (false, 1), (false, 1)]), .fact 100014 (.obj 14 [(false, 1), (false, 1), (false, 1)]), .fact 100022 (.obj 22 [(false, 1), (false, 1), (false, 1)]), .fact 100026 (.own 26 [19, 27] 54 ((x1.Blocks).set x3 x2 : List (List UInt8)))] _ _
  refine CWalk.seq ?_
  refine CWalk.seq ?_
  refine CWalk.region ?_
  refine mv ?_
  refine wo (Spec.fieldAddrO fd41_1 (Has.cv (Has.s rfl) (Cv.isvP rfl))) ?_
  refine wo (Spec.loadF (i := 1) ty39 rfl (Has.s rfl) rfl (HasG.s rfl)) ?_
  refine wo (Spec.len (Has.s rfl) Try.underlying39) ?_
  refine wo (Spec.lssI (Has.s rfl) (Has.s rfl)) ?_
  refine Walk.nil ?_
  refine Leaf.thenN ?_
  refine CWalk.cond rfl (fun hb => ?_) (fun hb => ?_)
  ·have hm := cond_t hb hm
   refine CWalk.skip ?_
   refine Leaf.thenN ?_
   refine CWalk.seqJ (fun p : (List Write) => [.fact 1 (.rep [] (a1 : Int)), .fact 3 (.isv 10), .fact 6 (.isv 14), .fact 7 (.isv 22), .fact 8 (.rep [] (s4 : Int)), .fact 100011 (.at 11 (.rep [0] a0.Blocks)), .fact 100012 (.at 12 (.rep [0] a0.Wait)), .fact 100013 (.at 13 (.rep [] a0.Dead)), .fact 100015 (.at 15 (.nilv)), .fact 100016 (.at 16 (.nilv)), .fact 100017 (.at 17 (.rep [] (false : Bool))), .fact 100023 (.at 23 (.isv 26)), .fact 100024 (.at 24 (.ow [30] [28, 29] 58 (p : List Write))), .fact 100025 (.at 25 (.rep [] x1.Dead)), .fact 100010 (.obj 10 [(false, 1), (false, 1), (false, 1)]), .fact 100014 (.obj 14 [(false, 1), (false, 1), (false, 1)]), .fact 100022 (.obj 22 [(false, 1), (false, 1), (false, 1)]), .fact 100026 (.own 26 [19, 27] 54 ((x1.Blocks).set x3 x2 : List (List UInt8)))]) (fun p : (List Write) => ref04_Sure_J2 s4 p = some c6) ?_ ?_
   ·rintro j7 hm
    replace hm : ref04_Sure_J2 s4 j7 = some c6 := hm
    unfold ref04_Sure_J2 at hm
    show CWalk _ [.fact 1 (.rep [] (a1 : Int)), .fact 3 (.isv 10), .fact 6 (.isv 14), .fact 7 (.isv 22), .fact 8 (.rep [] (s4 : Int)), .fact 100011 (.at 11 (.rep [0] a0.Blocks)), .fact 100012 (.at 12 (.rep [0] a0.Wait)), .fact 100013 (.at 13 (.rep [] a0.Dead)), .fact 100015 (.at 15 (.nilv)), .fact 100016 (.at 16 (.nilv)), .fact 100017 (.at 17 (.rep [] (false : Bool))), .fact 100023 (.at 23 (.isv 26)), .fact 100024 (.at 24 (.ow [30] [28, 29] 58 (j7 : List Write))), .fact 100025 (.at 25 (.rep [] x1.Dead)), .fact 100010 (.obj 10 [(false, 1), (false, 1), (false, 1)]), .fact 100014 (.obj 14 [(false, 1), (false, 1), (false, 1)]), .fact 100022 (.obj 22 [(false, 1), (false, 1), (false, 1)]), .fact 100026 (.own 26 [19, 27] 54 ((x1.Blocks).set x3 x2 : List (List UInt8)))] _ _
    refine CWalk.region ?_
    refine mv ?_
    refine wo (Spec.addI (Has.s rfl) Has.int) ?_
    refine wo (Spec.assign (Has.s rfl)) ?_
    refine Walk.nil ?_
    exact Leaf.next hm (st (sn (sn (sn (st (sm (sm (sf (sg (sg (sf (sg (Sub.cons (Has.at (HasG.cv (HasG.s rfl) (Cv.owM (T := [30]) (te := [28, 29]) rfl rfl))) (sf (sn (sn (sn (Sub.cons (Has.ownM (Has.s rfl) rfl) Sub.nil))))))))))))))))))
   ·refine CWalk.block ?_
    refine CWalk.seq ?_
    refine CWalk.region ?_
    refine wo (Spec.fieldAddrO fd41_1 (Has.cv (Has.s rfl) (Cv.isvP rfl))) ?_
    refine wo (Spec.loadF (i := 1) ty39 rfl (Has.s rfl) rfl (HasG.s rfl)) ?_
    refine mv ?_
    obtain ⟨x8, hx8, hm⟩ := bind_some hm
    refine wo (Spec.indexAddr hx8 sl39 (Has.s rfl) (Has.s rfl)) ?_
    refine wo (Spec.fieldAddrP fd58_0 (chWrite x8) rfl (Has.s rfl)) ?_
    refine wo ((Spec.load ty3 (Has.s rfl)).flat (T' := [])) ?_
    refine mv ?_
    refine wo (Spec.neqI (Has.s rfl) (Has.s rfl)) ?_
    refine Walk.nil ?_
    refine Leaf.thenN ?_
    refine CWalk.cond rfl (fun hb => ?_) (fun hb => ?_)
    ·have hm := cond_t hb hm
     obtain ⟨x9, hx9, hm⟩ := bind_some hm
     obtain ⟨x10, hx10, hm⟩ := bind_some hm
     obtain ⟨x11, hx11, hm⟩ := bind_some hm
     obtain ⟨x12, hx12, hm⟩ := bind_some hm
     refine CWalk.drawM [[], [0], [], [2], [], [2, 3, 4], [2, 3, 4, 5], [2, 3, 4, 5, 6], [], [8], [], [8, 9, 10], [8, 9, 10, 11], [8, 9, 10, 11, 12], [8, 9, 10, 11, 12, 13], [2, 3, 4, 5, 6, 7, 8, 9, 10, 11, 12, 13, 14], [2, 3, 4, 5, 6, 7, 8, 9, 10, 11, 12, 13, 14, 15], [0, 1, 2, 3, 4, 5, 6, 7, 8, 9, 10, 11, 12, 13, 14, 15, 16], [0, 1, 2, 3, 4, 5, 6, 7, 8, 9, 10, 11, 12, 13, 14, 15, 16, 17], [0, 1, 2, 3, 4, 5, 6, 7, 8, 9, 10, 11, 12, 13, 14, 15, 16, 17, 18]] [[.fact 33 (.pto 22 1)], [.fact 34 (.ow [30] [28, 29] 58 (s5 : List Write))], [.fact 35 (.pto 10 1)], [.fact 36 (.rep [0] a0.Wait)], [.fact 37 (.rep [] (s4 : Int))], [.fact 38 (.ptr [0] (x9 : Write))], [.fact 39 (.ptr [0] (x9.At : Int))], [.fact 40 (.rep [] x9.At)], [.fact 41 (.pto 10 1)], [.fact 42 (.rep [0] a0.Wait)], [.fact 43 (.rep [] (s4 : Int))], [.fact 44 (.ptr [0] (x10 : Write))], [.fact 45 (.ptr [0] (x10.Data : List UInt8))], [.fact 46 (.rep [0] x10.Data)], [.fact 47 (.ow [28] [] 5 (x11 : List UInt8))], [.fact 48 (.flds [(false, 1, Fact.rep [] x9.At), (false, 1, Fact.ow [28] [] 5 (x11 : List UInt8))])], [.fact 49 (.rep [29, 28] ([(Write.mk x9.At x11)] : List Write))], [.fact 50 (.ow [30] [28, 29] 58 (x12 : List Write)), .kill 30], [.fact 51 (.pto 22 1)], [.fact 100024 (.at 24 (.ow [30] [28, 29] 58 (x12 : List Write))), .fact 100022 (.obj 22 [(false, 1), (false, 1), (false, 1)]), .kill 22, .killId 24]] mixed (by kernel_rfl) (ao (so (Spec.fieldAddrO fd41_1 (Has.cv (Has.s rfl) (Cv.isvP rfl)))) (ao (so (Spec.loadF (i := 1) ty39 rfl (Has.s rfl) rfl (HasG.s rfl))) (ao (so (Spec.fieldAddrO fd41_1 (Has.cv (Has.s rfl) (Cv.isvP rfl)))) (ao (so (Spec.loadF (i := 1) ty39 rfl (Has.s rfl) rfl (HasG.s rfl))) (ao (so (Spec.move (Has.s rfl))) (ao (so (Spec.indexAddr hx9 sl39 (Has.s rfl) (Has.s rfl))) (ao (so (Spec.fieldAddrP fd58_0 (chWrite x9) rfl (Has.s rfl))) (ao (so ((Spec.load ty3 (Has.s rfl)).flat (T' := []))) (ao (so (Spec.fieldAddrO fd41_1 (Has.cv (Has.s rfl) (Cv.isvP rfl)))) (ao (so (Spec.loadF (i := 1) ty39 rfl (Has.s rfl) rfl (HasG.s rfl))) (ao (so (Spec.move (Has.s rfl))) (ao (so (Spec.indexAddr hx10 sl39 (Has.s rfl) (Has.s rfl))) (ao (so (Spec.fieldAddrP fd58_1 (chWrite x10) rfl (Has.s rfl))) (ao (so (Spec.load ty54 (Has.s rfl))) (ao (so (Spec.callE [0] 28 rfl en41 (ref04_Full_c x10.Data hx11) (HasAll.cons (Has.m (Has.s rfl) rfl) HasAll.nil))) (ao (so (Spec.build (us := [(0, .tmp 40), (1, .tmp 47)]) (ls' := [(false, 1, Fact.rep [] x9.At), (false, 1, Fact.ow [28] [] 5 (x11 : List UInt8))]) bd58 rfl (BP.cons rfl rfl (Has.s rfl) (Has.s rfl) (BP.cons rfl rfl (Has.cv (Has.s rfl) (Cv.trans Cv.owSl (Cv.slRep (T' := [28]) rfl rfl))) (Has.s rfl) BP.nil)))) (ao (so (Spec.lit (xs := [.tmp 48]) (T := [28]) 29 rfl ow39 rfl rfl rfl rfl (HasEach.cons (Has.m (Has.cv (Has.s rfl) (Cv.trans (Cv.flds (CvL.cons Cv.fl (CvL.cons (Cv.trans (Cv.trans Cv.owSl (Cv.slRep (T' := [28]) rfl rfl)) (Cv.m rfl)) CvL.nil))) (Cv.close (T := [28]) (chWrite (Write.mk x9.At x11))))) rfl) HasEach.nil))) (ao (StepG.stE (Step.appendOw (T := [30]) (te' := [28, 29]) hx12 rfl rfl rfl ow39 (Has.s rfl) (Has.s rfl) (ElKeeps.tags rfl rfl) (ElKeeps.tags rfl rfl))) (ao (so (Spec.fieldAddrO fd41_1 (Has.cv (Has.s rfl) (Cv.isvP rfl)))) (ao (StepG.stE (Step.storeF (i := 1) (f := Fact.ow [30] [28, 29] 58 (x12 : List Write)) rfl ty39 rfl (Has.s rfl) rfl (Has.cv (Has.s rfl) (Cv.trans Cv.owSl (Cv.slRep (T' := [28, 29, 30]) rfl rfl))) (Has.s rfl) rfl)) AllM.nil)))))))))))))))))))) ?_
     refine Leaf.blockN ?_
     exact Leaf.join x12 hm (st (sn (sn (sn (st (sm (sm (sf (sg (sg (sf (sg (Sub.cons (Has.at (HasG.cv (HasG.s rfl) (Cv.owM (T := [30]) (te := [28, 29]) rfl rfl))) (sf (sn (sn (sn (Sub.cons (Has.ownM (Has.s rfl) rfl) Sub.nil))))))))))))))))))
    ·have hm := cond_f hb hm
     refine CWalk.skip ?_
     refine Leaf.blockN ?_
     exact Leaf.join s5 hm (st (sn (sn (sn (st (sm (sm (sf (sg (sg (sf (sg (Sub.cons (Has.at (HasG.cv (HasG.s rfl) (Cv.owM (T := [30]) (te := [28, 29]) rfl rfl))) (sf (sn (sn (sn (Sub.cons (Has.ownM (Has.s rfl) rfl) Sub.nil))))))))))))))))))
  ·have hm := cond_f hb hm
   refine CWalk.exit ?_
   refine Leaf.thenE ?_
   exact Leaf.brk hm (fun h => nomatch h) rfl (sn (sn (sg (sg (sf (sg (Sub.cons (Has.at (HasG.cv (HasG.s rfl) (Cv.owM (T := [30]) (te := [28, 29]) rfl rfl))) (sf (sn (sn (Sub.cons (Has.ownM (Has.s rfl) rfl) Sub.nil)))))))))))
 ·intro _
  refine Leaf.blockE ?_
  refine Leaf.thenN ?_
  refine CWalk.seq ?_
  refine CWalk.region ?_
  refine wo (Spec.loadObj (ls := [(false, 1, Fact.isv 26), (false, 1, Fact.ow [30] [28, 29] 58 (b13 : List Write)), (false, 1, Fact.rep [] x1.Dead)]) ty41 rfl rfl (Has.s rfl) rfl (HasGs.cons (HasG.s rfl) (HasGs.cons (HasG.s rfl) (HasGs.cons (HasG.s rfl) HasGs.nil)))) ?_
  refine ws (Step.storeObj (ls := [(false, 1, Fact.isv 26), (false, 1, Fact.ow [30] [28, 29] 58 (b13 : List Write)), (false, 1, Fact.rep [] x1.Dead)]) rfl ty41 rfl rfl (Has.s rfl) rfl (HasL.flds (Has.s rfl)) rfl) ?_
  refine Walk.nil ?_
  refine Leaf.thenN ?_
  refine CWalk.ret ?_
  obtain rfl := Option.some.inj hm
  exact Leaf.retC1 rfl (HasR.cv (HasR.obj (ls := [(false, 1, Fact.isv 26), (false, 1, Fact.ow [30] [28, 29] 58 (b13 : List Write)), (false, 1, Fact.rep [] x1.Dead)]) ty41 rfl rfl (Has.s rfl) rfl (HasGs.cons (HasG.s rfl) (HasGs.cons (HasG.s rfl) (HasGs.cons (HasG.s rfl) HasGs.nil)))) (Cv.flds (CvL.cons (Cv.trans (Cv.isvOw rfl) (Cv.owM (T := [26]) (te := [19, 27]) rfl rfl)) (CvL.cons (Cv.owM (T := [30]) (te := [28, 29]) rfl rfl) (CvL.cons Cv.fl CvL.nil)))))

/-- freeboard/freeboardref04.Lies -/
def ref04_Lies (a0 : Disk) (a1 : Int) : Option ((List UInt8)) :=
  Option.bind (idx a0.Blocks a1) (fun x1 => Option.bind (ref04_Full x1) (fun x2 => some x2))
set_option maxRecDepth 100000 in
set_option maxHeartbeats 2000000 in
theorem ref04_Lies_c (a0 : Disk) (a1 : Int) {r : (List UInt8)} (hm : ref04_Lies a0 a1 = some r) : Ctr Try.prog 83 [.rep 0 a0, .rep 0 a1] (.own 0 none 5 r) [] := by
 refine ctr_of_walk [[14]] 11 Try.func83 rfl rfl rfl rfl (fun w0 om => ?_)
 unfold ref04_Lies at hm
 refine CWalk.sub (G' := [.fact 0 (.rep [0] (a0 : Disk)), .fact 1 (.rep [] (a1 : Int))]) (sn (Sub.cons (Has.fl (Has.s rfl)) Sub.nil)) ?_
 refine CWalk.seq ?_
 refine CWalk.region ?_
 refine ws (Step.boxObj (ls := [(false, 1, Fact.rep [0] a0.Blocks), (false, 1, Fact.rep [0] a0.Wait), (false, 1, Fact.rep [] a0.Dead)]) 10 rfl rfl rfl rfl (HasL.flds (Has.cv (Has.s rfl) (Cv.trans (Cv.opens (chDisk a0)) (Cv.flds (CvL.cons Cv.refl (CvL.cons Cv.refl (CvL.cons Cv.fl CvL.nil)))))))) ?_
 refine wo (Spec.assign Has.nilv) ?_
 refine Walk.nil ?_
 refine Leaf.thenN ?_
 refine CWalk.seq ?_
 refine CWalk.region ?_
 refine wo (Spec.fieldAddrO fd41_0 (Has.cv (Has.s rfl) (Cv.isvP rfl))) ?_
 refine wo (Spec.loadF (i := 0) ty38 rfl (Has.s rfl) rfl (HasG.s rfl)) ?_
 refine mv ?_
 obtain ⟨x1, hx1, hm⟩ := bind_some hm
 refine wo (Spec.indexAddr hx1 sl38 (Has.s rfl) (Has.s rfl)) ?_
 refine wo (Spec.load ty54 (Has.s rfl)) ?_
 obtain ⟨x2, hx2, hm⟩ := bind_some hm
 refine wo (f := Fact.ow [14] [] 5 (x2 : List UInt8)) (Spec.callE [0] 14 rfl en41 (ref04_Full_c x1 hx2) (HasAll.cons (Has.m (Has.s rfl) rfl) HasAll.nil)) ?_
 refine wo (Spec.assign (Has.s rfl)) ?_
 refine Walk.nil ?_
 refine Leaf.thenN ?_
 refine CWalk.ret ?_
 obtain rfl := Option.some.inj hm
 exact Leaf.retC1 rfl (HasR.cv (HasR.tmp (Has.s rfl)) (Cv.owF (T := [14]) (te := []) rfl))

def ref04_Seen_J2 (s3 : Int) (j5 : List UInt8) : Option (Ctl ((List UInt8) × Int) ((List UInt8))) :=
  some (Ctl.next (j5, (wI (s3 + (1 : Int)))))
def ref04_Seen_L1 (a0 : Disk) (a1 : Int) (s2 : List UInt8) (s3 : Int) : Option (Ctl ((List UInt8) × Int) ((List UInt8))) :=
  (bif (decide (s3 < ((a0.Wait).length : Int))) then Option.bind (idx a0.Wait s3) (fun x6 => (bif (x6.At == a1) then Option.bind (idx a0.Wait s3) (fun x7 => Option.bind (ref04_Full x7.Data) (fun x8 => (ref04_Seen_J2 s3 x8))) else (ref04_Seen_J2 s3 s2))) else some (Ctl.brk s2))
/-- freeboard/freeboardref04.Seen -/
def ref04_Seen (a0 : Disk) (a1 : Int) : Option ((List UInt8)) :=
  Option.bind (ref04_Lies a0 a1) (fun x1 => Option.bind (loopM (fun s : (List UInt8) × Int => ref04_Seen_L1 a0 a1 s.1 s.2) FUEL (x1, (0 : Int))) (fun b9 => some b9))
set_option maxRecDepth 100000 in
set_option maxHeartbeats 2000000 in
theorem ref04_Seen_c (a0 : Disk) (a1 : Int) {r : (List UInt8)} (hm : ref04_Seen a0 a1 = some r) : Ctr Try.prog 82 [.rep 0 a0, .rep 0 a1] (.own 0 none 5 r) [] := by
 refine ctr_of_walk [[14, 15]] 33 Try.func82 rfl rfl rfl rfl (fun w0 om => ?_)
 unfold ref04_Seen at hm
 refine CWalk.sub (G' := [.fact 0 (.rep [0] (a0 : Disk)), .fact 1 (.rep [] (a1 : Int))]) (sn (Sub.cons (Has.fl (Has.s rfl)) Sub.nil)) ?_
 refine CWalk.seq ?_
 refine CWalk.region ?_
 refine ws (Step.boxObj (ls := [(false, 1, Fact.rep [0] a0.Blocks), (false, 1, Fact.rep [0] a0.Wait), (false, 1, Fact.rep [] a0.Dead)]) 10 rfl rfl rfl rfl (HasL.flds (Has.cv (Has.s rfl) (Cv.trans (Cv.opens (chDisk a0)) (Cv.flds (CvL.cons Cv.refl (CvL.cons Cv.refl (CvL.cons Cv.fl CvL.nil)))))))) ?_
 refine wo (Spec.assign Has.nilv) ?_
 refine Walk.nil ?_
 refine Leaf.thenN ?_
 refine CWalk.seq ?_
 refine CWalk.region ?_
 refine wo (Spec.loadObj (ls := [(false, 1, Fact.rep [0] a0.Blocks), (false, 1, Fact.rep [0] a0.Wait), (false, 1, Fact.rep [] a0.Dead)]) ty41 rfl rfl (Has.s rfl) rfl (HasGs.cons (HasG.s rfl) (HasGs.cons (HasG.s rfl) (HasGs.cons (HasG.s rfl) HasGs.nil)))) ?_
 refine mv ?_
 obtain ⟨x1, hx1, hm⟩ := bind_some hm
 refine wo (f := Fact.ow [14] [] 5 (x1 : List UInt8)) (Spec.callE [0] 14 rfl en83 (ref04_Lies_c a0 a1 hx1) (HasAll.cons (Has.m (Has.cv (Has.s rfl) (Cv.trans (Cv.flds (CvL.cons (Cv.m rfl) (CvL.cons (Cv.m rfl) (CvL.cons Cv.fl CvL.nil)))) (Cv.close (T := [0]) (chDisk a0)))) rfl) (HasAll.cons (Has.fl (Has.s rfl)) HasAll.nil))) ?_
 refine wo (Spec.assign (Has.s rfl)) ?_
 refine Walk.nil ?_
 refine Leaf.thenN ?_
 refine CWalk.seq ?_
 refine CWalk.seq ?_
 refine CWalk.region ?_
 refine wo (Spec.assign Has.int) ?_
 refine Walk.nil ?_
 refine Leaf.thenN ?_
 refine CWalk.block ?_
 obtain ⟨b9, hb9, hm⟩ := bind_some hm
 refine CWalk.loop (fun s : (List UInt8) × Int => [.fact 1 (.rep [] (a1 : Int)), .fact 2 (.isv 10), .fact 5 (.ow [14, 15] [] 5 (s.1 : List UInt8)), .fact 6 (.rep [] s.2), .fact 100011 (.at 11 (.rep [0] a0.Blocks)), .fact 100012 (.at 12 (.rep [0] a0.Wait)), .fact 100013 (.at 13 (.rep [] a0.Dead)), .fact 100010 (.obj 10 [(false, 1), (false, 1), (false, 1)])]) (fun b : (List UInt8) => (Exit.exit 0, [.fact 5 (.ow [14, 15] [] 5 (b : List UInt8))])) hb9 (st (sn (Sub.cons (Has.cv (Has.s rfl) (Cv.owF (T := [14]) (te := []) rfl)) (st (sm (sm (sf (sn Sub.nil)))))))) ?_ ?_
 ·rintro ⟨s2, s3⟩ c4 hm
  replace hm : ref04_Seen_L1 a0 a1 s2 s3 = some c4 := hm
  unfold ref04_Seen_L1 at hm
  show CWalk _ [.fact 1 (.rep [] (a1 : Int)), .fact 2 (.isv 10), .fact 5 (.ow [14, 15] [] 5 (s2 : List UInt8)), .fact 6 (.rep [] (s3 : Int)), .fact 100011 (.at 11 (.rep [0] a0.Blocks)), .fact 100012 (.at 12 (.rep [0] a0.Wait)), .fact 100013 (.at 13 (.rep [] a0.Dead)), .fact 100010 (.obj 10 [(false, 1), (false, 1), (false, 1)])] _ _
  refine CWalk.seq ?_
  refine CWalk.seq ?_
  refine CWalk.region ?_
  refine mv ?_
  refine wo (Spec.fieldAddrO fd41_1 (Has.cv (Has.s rfl) (Cv.isvP rfl))) ?_
  refine wo (Spec.loadF (i := 1) ty39 rfl (Has.s rfl) rfl (HasG.s rfl)) ?_
  refine wo (Spec.len (Has.s rfl) Try.underlying39) ?_
  refine wo (Spec.lssI (Has.s rfl) (Has.s rfl)) ?_
  refine Walk.nil ?_
  refine Leaf.thenN ?_
  refine CWalk.cond rfl (fun hb => ?_) (fun hb => ?_)
  ·have hm := cond_t hb hm
   refine CWalk.skip ?_
   refine Leaf.thenN ?_
   refine CWalk.seqJ (fun p : (List UInt8) => [.fact 1 (.rep [] (a1 : Int)), .fact 2 (.isv 10), .fact 5 (.ow [14, 15] [] 5 (p : List UInt8)), .fact 6 (.rep [] (s3 : Int)), .fact 100011 (.at 11 (.rep [0] a0.Blocks)), .fact 100012 (.at 12 (.rep [0] a0.Wait)), .fact 100013 (.at 13 (.rep [] a0.Dead)), .fact 100010 (.obj 10 [(false, 1), (false, 1), (false, 1)])]) (fun p : (List UInt8) => ref04_Seen_J2 s3 p = some c4) ?_ ?_
   ·rintro j5 hm
    replace hm : ref04_Seen_J2 s3 j5 = some c4 := hm
    unfold ref04_Seen_J2 at hm
    show CWalk _ [.fact 1 (.rep [] (a1 : Int)), .fact 2 (.isv 10), .fact 5 (.ow [14, 15] [] 5 (j5 : List UInt8)), .fact 6 (.rep [] (s3 : Int)), .fact 100011 (.at 11 (.rep [0] a0.Blocks)), .fact 100012 (.at 12 (.rep [0] a0.Wait)), .fact 100013 (.at 13 (.rep [] a0.Dead)), .fact 100010 (.obj 10 [(false, 1), (false, 1), (false, 1)])] _ _
    refine CWalk.region ?_
    refine mv ?_
    refine wo (Spec.addI (Has.s rfl) Has.int) ?_
    refine wo (Spec.assign (Has.s rfl)) ?_
    refine Walk.nil ?_
    exact Leaf.next hm (st (sn (Sub.cons (Has.cv (Has.s rfl) (Cv.owF (T := [14, 15]) (te := []) rfl)) (st (sm (sm (sf (sn Sub.nil))))))))
   ·refine CWalk.block ?_
    refine CWalk.seq ?_
    refine CWalk.region ?_
    refine wo (Spec.fieldAddrO fd41_1 (Has.cv (Has.s rfl) (Cv.isvP rfl))) ?_
    refine wo (Spec.loadF (i := 1) ty39 rfl (Has.s rfl) rfl (HasG.s rfl)) ?_
    refine mv ?_
    obtain ⟨x6, hx6, hm⟩ := bind_some hm
    refine wo (Spec.indexAddr hx6 sl39 (Has.s rfl) (Has.s rfl)) ?_
    refine wo (Spec.fieldAddrP fd58_0 (chWrite x6) rfl (Has.s rfl)) ?_
    refine wo ((Spec.load ty3 (Has.s rfl)).flat (T' := [])) ?_
    refine mv ?_
    refine wo (Spec.eqlI (Has.s rfl) (Has.s rfl)) ?_
    refine Walk.nil ?_
    refine Leaf.thenN ?_
    refine CWalk.cond rfl (fun hb => ?_) (fun hb => ?_)
    ·have hm := cond_t hb hm
     refine CWalk.region ?_
     refine wo (Spec.fieldAddrO fd41_1 (Has.cv (Has.s rfl) (Cv.isvP rfl))) ?_
     refine wo (Spec.loadF (i := 1) ty39 rfl (Has.s rfl) rfl (HasG.s rfl)) ?_
     refine mv ?_
     obtain ⟨x7, hx7, hm⟩ := bind_some hm
     refine wo (Spec.indexAddr hx7 sl39 (Has.s rfl) (Has.s rfl)) ?_
     refine wo (Spec.fieldAddrP fd58_1 (chWrite x7) rfl (Has.s rfl)) ?_
     refine wo (Spec.load ty54 (Has.s rfl)) ?_
     obtain ⟨x8, hx8, hm⟩ := bind_some hm
     refine wo (f := Fact.ow [15] [] 5 (x8 : List UInt8)) (Spec.callE [0] 15 rfl en41 (ref04_Full_c x7.Data hx8) (HasAll.cons (Has.m (Has.s rfl) rfl) HasAll.nil)) ?_
     refine wo (Spec.assign (Has.s rfl)) ?_
     refine Walk.nil ?_
     refine Leaf.blockN ?_
     exact Leaf.join x8 hm (st (sn (Sub.cons (Has.cv (Has.s rfl) (Cv.owF (T := [15]) (te := []) rfl)) (st (sm (sm (sf (sn Sub.nil))))))))
    ·have hm := cond_f hb hm
     refine CWalk.skip ?_
     refine Leaf.blockN ?_
     exact Leaf.join s2 hm (st (sn (Sub.cons (Has.cv (Has.s rfl) (Cv.owF (T := [14, 15]) (te := []) rfl)) (st (sm (sm (sf (sn Sub.nil))))))))
  ·have hm := cond_f hb hm
   refine CWalk.exit ?_
   refine Leaf.thenE ?_
   exact Leaf.brk hm (fun h => nomatch h) rfl (Sub.cons (Has.cv (Has.s rfl) (Cv.owF (T := [14, 15]) (te := []) rfl)) Sub.nil)
 ·intro _
  refine Leaf.blockE ?_
  refine Leaf.thenN ?_
  refine CWalk.seq ?_
  refine CWalk.region ?_
  refine mv ?_
  refine wo (Spec.assign (Has.s rfl)) ?_
  refine Walk.nil ?_
  refine Leaf.thenN ?_
  refine CWalk.ret ?_
  obtain rfl := Option.some.inj hm
  exact Leaf.retC1 rfl (HasR.cv (HasR.tmp (Has.s rfl)) (Cv.owF (T := [14, 15]) (te := []) rfl))

def ref04_Flushed_L1 (a0 : Disk) (s1 : Int) (s2 : List (List UInt8)) : Option (Ctl (Int × (List (List UInt8))) ((List (List UInt8)))) :=
  (bif (decide (s1 < ((a0.Blocks).length : Int))) then Option.bind (ref04_Seen a0 s1) (fun x4 => Option.bind (app s2 ([x4])) (fun x5 => some (Ctl.next ((wI (s1 + (1 : Int))), x5)))) else some (Ctl.brk s2))
/-- freeboard/freeboardref04.Flushed -/
def ref04_Flushed (a0 : Disk) : Option (Disk) :=
  Option.bind (loopM (fun s : Int × (List (List UInt8)) => ref04_Flushed_L1 a0 s.1 s.2) FUEL ((0 : Int), ([] : List (List UInt8)))) (fun b6 => some (Disk.mk b6 ([] : List Write) a0.Dead))
set_option maxRecDepth 100000 in
set_option maxHeartbeats 2000000 in
theorem ref04_Flushed_c (a0 : Disk) {r : Disk} (hm : ref04_Flushed a0 = some r) : Ctr Try.prog 76 [.rep 0 a0] (.flds [(false, 1, (.own 0 (some 1) 54 r.Blocks)), (false, 1, (.own 0 none 58 r.Wait)), (false, 1, (.fl r.Dead))]) [] := by
 refine ctr_of_walk [[24], [22, 23]] 24 Try.func76 rfl rfl rfl rfl (fun w0 om => ?_)
 unfold ref04_Flushed at hm
 refine CWalk.sub (G' := [.fact 0 (.rep [0] (a0 : Disk))]) (sn Sub.nil) ?_
 refine CWalk.seq ?_
 refine CWalk.region ?_
 refine ws (Step.boxObj (ls := [(false, 1, Fact.rep [0] a0.Blocks), (false, 1, Fact.rep [0] a0.Wait), (false, 1, Fact.rep [] a0.Dead)]) 10 rfl rfl rfl rfl (HasL.flds (Has.cv (Has.s rfl) (Cv.trans (Cv.opens (chDisk a0)) (Cv.flds (CvL.cons Cv.refl (CvL.cons Cv.refl (CvL.cons Cv.fl CvL.nil)))))))) ?_
 refine ws (Step.allocObj (ls := [(false, 1, Fact.nilv), (false, 1, Fact.nilv), (false, 1, Fact.rep [] (false : Bool))]) 14 rfl rfl rfl rfl zl41) ?_
 refine Walk.nil ?_
 refine Leaf.thenN ?_
 refine CWalk.seq ?_
 refine CWalk.region ?_
 refine wo (Spec.fieldAddrO fd41_2 (Has.cv (Has.s rfl) (Cv.isvP rfl))) ?_
 refine wo (Spec.loadF (i := 2) ty4 rfl (Has.s rfl) rfl (HasG.s rfl)) ?_
 refine wo (Spec.build (us := [(2, .tmp 6)]) (ls' := [(false, 1, Fact.nilv), (false, 1, Fact.nilv), (false, 1, Fact.rep [] a0.Dead)]) bd41 rfl (BP.cons rfl rfl (Has.s rfl) (Has.s rfl) BP.nil)) ?_
 refine ws (Step.allocObj (ls := [(false, 1, Fact.nilv), (false, 1, Fact.nilv), (false, 1, Fact.rep [] (false : Bool))]) 18 rfl rfl rfl rfl zl41) ?_
 refine ws (Step.storeObj (ls := [(false, 1, Fact.nilv), (false, 1, Fact.nilv), (false, 1, Fact.rep [] a0.Dead)]) rfl ty41 rfl rfl (Has.s rfl) rfl (HasL.flds (Has.s rfl)) rfl) ?_
 refine Walk.nil ?_
 refine Leaf.thenN ?_
 refine CWalk.seq ?_
 refine CWalk.seq ?_
 refine CWalk.region ?_
 refine wo (Spec.assign Has.int) ?_
 refine Walk.nil ?_
 refine Leaf.thenN ?_
 refine CWalk.block ?_
 obtain ⟨b6, hb6, hm⟩ := bind_some hm
 refine CWalk.loop (fun s : Int × (List (List UInt8)) => [.fact 1 (.isv 10), .fact 2 (.isv 14), .fact 3 (.isv 18), .fact 4 (.rep [] s.1), .fact 100011 (.at 11 (.rep [0] a0.Blocks)), .fact 100012 (.at 12 (.rep [0] a0.Wait)), .fact 100013 (.at 13 (.rep [] a0.Dead)), .fact 100015 (.at 15 (.nilv)), .fact 100016 (.at 16 (.nilv)), .fact 100017 (.at 17 (.rep [] (false : Bool))), .fact 100019 (.at 19 (.ow [24] [22, 23] 54 (s.2 : List (List UInt8)))), .fact 100020 (.at 20 (.nilv)), .fact 100021 (.at 21 (.rep [] a0.Dead)), .fact 100010 (.obj 10 [(false, 1), (false, 1), (false, 1)]), .fact 100014 (.obj 14 [(false, 1), (false, 1), (false, 1)]), .fact 100018 (.obj 18 [(false, 1), (false, 1), (false, 1)])]) (fun b : (List (List UInt8)) => (Exit.exit 0, [.fact 2 (.isv 14), .fact 3 (.isv 18), .fact 100015 (.at 15 (.nilv)), .fact 100016 (.at 16 (.nilv)), .fact 100017 (.at 17 (.rep [] (false : Bool))), .fact 100019 (.at 19 (.ow [24] [22, 23] 54 (b : List (List UInt8)))), .fact 100020 (.at 20 (.nilv)), .fact 100021 (.at 21 (.rep [] a0.Dead)), .fact 100014 (.obj 14 [(false, 1), (false, 1), (false, 1)]), .fact 100018 (.obj 18 [(false, 1), (false, 1), (false, 1)])])) hb6 (sn (sn (sn (st (sm (sm (sf (sg (sg (sf (Sub.cons (Has.at (HasG.cv (HasG.s rfl) (Cv.trans Cv.nilOw (Cv.owM (T := []) (te := []) rfl rfl)))) (sg (sf (sn (sn (sn Sub.nil)))))))))))))))) ?_ ?_
 ·rintro ⟨s1, s2⟩ c3 hm
  replace hm : ref04_Flushed_L1 a0 s1 s2 = some c3 := hm
  unfold ref04_Flushed_L1 at hm
  show CWalk _ [.fact 1 (.isv 10), .fact 2 (.isv 14), .fact 3 (.isv 18), .fact 4 (.rep [] (s1 : Int)), .fact 100011 (.at 11 (.rep [0] a0.Blocks)), .fact 100012 (.at 12 (.rep [0] a0.Wait)), .fact 100013 (.at 13 (.rep [] a0.Dead)), .fact 100015 (.at 15 (.nilv)), .fact 100016 (.at 16 (.nilv)), .fact 100017 (.at 17 (.rep [] (false : Bool))), .fact 100019 (.at 19 (.ow [24] [22, 23] 54 (s2 : List (List UInt8)))), .fact 100020 (.at 20 (.nilv)), .fact 100021 (.at 21 (.rep [] a0.Dead)), .fact 100010 (.obj 10 [(false, 1), (false, 1), (false, 1)]), .fact 100014 (.obj 14 [(false, 1), (false, 1), (false, 1)]), .fact 100018 (.obj 18 [(false, 1), (false, 1), (false, 1)])] _ _
  refine CWalk.seq ?_
  refine CWalk.seq ?_
  refine CWalk.region ?_
  refine mv ?_
  refine wo (Spec.fieldAddrO fd41_0 (Has.cv (Has.s rfl) (Cv.isvP rfl))) ?_
  refine wo (Spec.loadF (i := 0) ty38 rfl (Has.s rfl) rfl (HasG.s rfl)) ?_
  refine wo (Spec.len (Has.s rfl) Try.underlying38) ?_
  refine wo (Spec.lssI (Has.s rfl) (Has.s rfl)) ?_
  refine Walk.nil ?_
  refine Leaf.thenN ?_
  refine CWalk.cond rfl (fun hb => ?_) (fun hb => ?_)
  ·have hm := cond_t hb hm
   refine CWalk.skip ?_
   refine Leaf.thenN ?_
   refine CWalk.seq ?_
   refine CWalk.block ?_
   obtain ⟨x4, hx4, hm⟩ := bind_some hm
   obtain ⟨x5, hx5, hm⟩ := bind_some hm
   refine CWalk.drawM [[], [0], [], [], [2, 3], [2, 3, 4], [0, 1, 2, 3, 4, 5], [0, 1, 2, 3, 4, 5, 6], [0, 1, 2, 3, 4, 5, 6, 7]] [[.fact 15 (.pto 18 0)], [.fact 16 (.ow [24] [22, 23] 54 (s2 : List (List UInt8)))], [.fact 17 (.flds [(false, 1, Fact.rep [0] a0.Blocks), (false, 1, Fact.rep [0] a0.Wait), (false, 1, Fact.rep [] a0.Dead)])], [.fact 18 (.rep [] (s1 : Int))], [.fact 19 (.ow [22] [] 5 (x4 : List UInt8))], [.fact 20 (.rep [23, 22] ([x4] : List (List UInt8)))], [.fact 21 (.ow [24] [22, 23] 54 (x5 : List (List UInt8))), .kill 24], [.fact 22 (.pto 18 0)], [.fact 100019 (.at 19 (.ow [24] [22, 23] 54 (x5 : List (List UInt8)))), .fact 100018 (.obj 18 [(false, 1), (false, 1), (false, 1)]), .kill 18, .killId 19]] mixed (by kernel_rfl) (ao (so (Spec.fieldAddrO fd41_0 (Has.cv (Has.s rfl) (Cv.isvP rfl)))) (ao (so (Spec.loadF (i := 0) ty38 rfl (Has.s rfl) rfl (HasG.s rfl))) (ao (so (Spec.loadObj (ls := [(false, 1, Fact.rep [0] a0.Blocks), (false, 1, Fact.rep [0] a0.Wait), (false, 1, Fact.rep [] a0.Dead)]) ty41 rfl rfl (Has.s rfl) rfl (HasGs.cons (HasG.s rfl) (HasGs.cons (HasG.s rfl) (HasGs.cons (HasG.s rfl) HasGs.nil))))) (ao (so (Spec.move (Has.s rfl))) (ao (so (Spec.callE [0] 22 rfl en82 (ref04_Seen_c a0 s1 hx4) (HasAll.cons (Has.m (Has.cv (Has.s rfl) (Cv.trans (Cv.flds (CvL.cons (Cv.m rfl) (CvL.cons (Cv.m rfl) (CvL.cons Cv.fl CvL.nil)))) (Cv.close (T := [0]) (chDisk a0)))) rfl) (HasAll.cons (Has.fl (Has.s rfl)) HasAll.nil)))) (ao (so (Spec.lit (xs := [.tmp 19]) (T := [22]) 23 rfl ow38 rfl rfl rfl rfl (HasEach.cons (Has.m (Has.cv (Has.s rfl) (Cv.trans Cv.owSl (Cv.slRep (T' := [22]) rfl rfl))) rfl) HasEach.nil))) (ao (StepG.stE (Step.appendOw (T := [24]) (te' := [22, 23]) hx5 rfl rfl rfl ow38 (Has.s rfl) (Has.s rfl) (ElKeeps.tags rfl rfl) (ElKeeps.tags rfl rfl))) (ao (so (Spec.fieldAddrO fd41_0 (Has.cv (Has.s rfl) (Cv.isvP rfl)))) (ao (StepG.stE (Step.storeF (i := 0) (f := Fact.ow [24] [22, 23] 54 (x5 : List (List UInt8))) rfl ty38 rfl (Has.s rfl) rfl (Has.cv (Has.s rfl) (Cv.trans Cv.owSl (Cv.slRep (T' := [22, 23, 24]) rfl rfl))) (Has.s rfl) rfl)) AllM.nil))))))))) ?_
   refine Leaf.blockN ?_
   refine Leaf.thenN ?_
   refine CWalk.region ?_
   refine mv ?_
   refine wo (Spec.addI (Has.s rfl) Has.int) ?_
   refine wo (Spec.assign (Has.s rfl)) ?_
   refine Walk.nil ?_
   exact Leaf.next hm (sn (sn (sn (st (sm (sm (sf (sg (sg (sf (Sub.cons (Has.at (HasG.cv (HasG.s rfl) (Cv.owM (T := [24]) (te := [22, 23]) rfl rfl))) (sg (sf (sn (sn (sn Sub.nil))))))))))))))))
  ·have hm := cond_f hb hm
   refine CWalk.exit ?_
   refine Leaf.thenE ?_
   exact Leaf.brk hm (fun h => nomatch h) rfl (sn (sn (sg (sg (sf (Sub.cons (Has.at (HasG.cv (HasG.s rfl) (Cv.owM (T := [24]) (te := [22, 23]) rfl rfl))) (sg (sf (sn (sn Sub.nil))))))))))
 ·intro _
  refine Leaf.blockE ?_
  refine Leaf.thenN ?_
  refine CWalk.seq ?_
  refine CWalk.region ?_
  refine wo (Spec.loadObj (ls := [(false, 1, Fact.ow [24] [22, 23] 54 (b6 : List (List UInt8))), (false, 1, Fact.nilv), (false, 1, Fact.rep [] a0.Dead)]) ty41 rfl rfl (Has.s rfl) rfl (HasGs.cons (HasG.s rfl) (HasGs.cons (HasG.s rfl) (HasGs.cons (HasG.s rfl) HasGs.nil)))) ?_
  refine ws (Step.storeObj (ls := [(false, 1, Fact.ow [24] [22, 23] 54 (b6 : List (List UInt8))), (false, 1, Fact.nilv), (false, 1, Fact.rep [] a0.Dead)]) rfl ty41 rfl rfl (Has.s rfl) rfl (HasL.flds (Has.s rfl)) rfl) ?_
  refine Walk.nil ?_
  refine Leaf.thenN ?_
  refine CWalk.ret ?_
  obtain rfl := Option.some.inj hm
  exact Leaf.retC1 rfl (HasR.cv (HasR.obj (ls := [(false, 1, Fact.ow [24] [22, 23] 54 (b6 : List (List UInt8))), (false, 1, Fact.nilv), (false, 1, Fact.rep [] a0.Dead)]) ty41 rfl rfl (Has.s rfl) rfl (HasGs.cons (HasG.s rfl) (HasGs.cons (HasG.s rfl) (HasGs.cons (HasG.s rfl) HasGs.nil)))) (Cv.flds (CvL.cons (Cv.owM (T := [24]) (te := [22, 23]) rfl rfl) (CvL.cons (Cv.trans Cv.nilOw (Cv.owM (T := []) (te := []) rfl rfl)) (CvL.cons Cv.fl CvL.nil)))))

def ref05_Done_J1 (a0 : List Disk) (a1 : Act64) (j2 : List (List UInt8)) (j3 : List Write) (j4 : Bool) : Option ((List Disk) × Bool) :=
  Option.bind (app ([] : List Disk) a0) (fun x5 => Option.bind (bnd (x5).length a1.Disk) (fun x6 => some ((x5).set x6 (Disk.mk j2 j3 j4), true)))
/-- freeboard/freeboardref05.Done -/
def ref05_Done (a0 : List Disk) (a1 : Act64) : Option ((List Disk) × Bool) :=
  Option.bind (idx a0 a1.Disk) (fun x1 => (bif (!x1.Dead) then (bif (a1.Kind == (1 : UInt8)) then (bif (decide (((x1.Wait).length : Int) ≥ (1024 : Int))) then some (([] : List Disk), false) else Option.bind (ref04_Put x1 a1.At a1.Data) (fun x7 => (ref05_Done_J1 a0 a1 x7.Blocks x7.Wait x7.Dead))) else (bif (a1.Kind == (2 : UInt8)) then Option.bind (ref04_Sure x1 a1.At a1.Data) (fun x8 => (ref05_Done_J1 a0 a1 x8.Blocks x8.Wait x8.Dead)) else Option.bind (ref04_Flushed x1) (fun x9 => (ref05_Done_J1 a0 a1 x9.Blocks x9.Wait x9.Dead)))) else (ref05_Done_J1 a0 a1 x1.Blocks x1.Wait x1.Dead)))
set_option maxRecDepth 100000 in
set_option maxHeartbeats 2000000 in
theorem ref05_Done_c (a0 : List Disk) (a1 : Act64) {r : (List Disk) × Bool} (hm : ref05_Done a0 a1 = some r) : Ctr Try.prog 62 [.rep 0 a0, .rep 0 a1] (.tup2 (.own 0 (some 1) 41 r.1) (.fl r.2)) [1] := by
 refine ctr_of_walk [[30], [0, 19, 20, 21, 22, 23, 24, 25, 26, 27, 28]] 49 Try.func62 rfl rfl rfl rfl (fun w0 om => ?_)
 unfold ref05_Done at hm
 refine CWalk.sub (G' := [.fact 0 (.rep [0] (a0 : List Disk)), .fact 1 (.rep [0] (a1 : Act64))]) (sn (sn Sub.nil)) ?_
 refine CWalk.seq ?_
 refine CWalk.region ?_
 refine ws (Step.boxObj (ls := [(false, 1, Fact.rep [] a1.Disk), (false, 1, Fact.rep [] a1.Kind), (false, 1, Fact.rep [] a1.At), (false, 1, Fact.rep [0] a1.Data)]) 10 rfl rfl rfl rfl (HasL.flds (Has.cv (Has.s rfl) (Cv.trans (Cv.opens (chAct64 a1)) (Cv.flds (CvL.cons Cv.fl (CvL.cons Cv.fl (CvL.cons Cv.fl (CvL.cons Cv.refl CvL.nil))))))))) ?_
 refine wo (Spec.assign Has.nilv) ?_
 refine wo (Spec.assign Has.bool) ?_
 refine Walk.nil ?_
 refine Leaf.thenN ?_
 refine CWalk.seq ?_
 refine CWalk.region ?_
 refine mv ?_
 refine wo (Spec.fieldAddrO fd64_0 (Has.cv (Has.s rfl) (Cv.isvP rfl))) ?_
 refine wo (Spec.loadF (i := 0) ty3 rfl (Has.s rfl) rfl (HasG.s rfl)) ?_
 obtain ⟨x1, hx1, hm⟩ := bind_some hm
 refine wo (Spec.indexAddr hx1 sl22 (Has.s rfl) (Has.s rfl)) ?_
 refine wo (Spec.load ty41 (Has.s rfl)) ?_
 refine ws (Step.allocObj (ls := [(false, 1, Fact.nilv), (false, 1, Fact.nilv), (false, 1, Fact.rep [] (false : Bool))]) 15 rfl rfl rfl rfl zl41) ?_
 refine ws (Step.storeObj (ls := [(false, 1, Fact.rep [0] x1.Blocks), (false, 1, Fact.rep [0] x1.Wait), (false, 1, Fact.rep [] x1.Dead)]) rfl ty41 rfl rfl (Has.s rfl) rfl (HasL.flds (Has.cv (Has.s rfl) (Cv.trans (Cv.opens (chDisk x1)) (Cv.flds (CvL.cons Cv.refl (CvL.cons Cv.refl (CvL.cons Cv.fl CvL.nil))))))) rfl) ?_
 refine Walk.nil ?_
 refine Leaf.thenN ?_
 refine CWalk.seqJ (fun p : (List (List UInt8)) × (List Write) × Bool => [.fact 0 (.rep [0] (a0 : List Disk)), .fact 3 (.isv 10), .fact 6 (.isv 15), .fact 100011 (.at 11 (.rep [] a1.Disk)), .fact 100012 (.at 12 (.rep [] a1.Kind)), .fact 100013 (.at 13 (.rep [] a1.At)), .fact 100014 (.at 14 (.rep [0] a1.Data)), .fact 100016 (.at 16 (.rep [0, 19, 20, 23, 24, 27, 28] p.1)), .fact 100017 (.at 17 (.rep [0, 21, 22, 25, 26, 27] p.2.1)), .fact 100018 (.at 18 (.rep [] p.2.2)), .fact 100010 (.obj 10 [(false, 1), (false, 1), (false, 1), (false, 1)]), .fact 100015 (.obj 15 [(false, 1), (false, 1), (false, 1)])]) (fun p : (List (List UInt8)) × (List Write) × Bool => ref05_Done_J1 a0 a1 p.1 p.2.1 p.2.2 = some r) ?_ ?_
 ·rintro ⟨j2, j3, j4⟩ hm
  replace hm : ref05_Done_J1 a0 a1 j2 j3 j4 = some r := hm
  unfold ref05_Done_J1 at hm
  show CWalk _ [.fact 0 (.rep [0] (a0 : List Disk)), .fact 3 (.isv 10), .fact 6 (.isv 15), .fact 100011 (.at 11 (.rep [] a1.Disk)), .fact 100012 (.at 12 (.rep [] a1.Kind)), .fact 100013 (.at 13 (.rep [] a1.At)), .fact 100014 (.at 14 (.rep [0] a1.Data)), .fact 100016 (.at 16 (.rep [0, 19, 20, 23, 24, 27, 28] (j2 : List (List UInt8)))), .fact 100017 (.at 17 (.rep [0, 21, 22, 25, 26, 27] (j3 : List Write))), .fact 100018 (.at 18 (.rep [] (j4 : Bool))), .fact 100010 (.obj 10 [(false, 1), (false, 1), (false, 1), (false, 1)]), .fact 100015 (.obj 15 [(false, 1), (false, 1), (false, 1)])] _ _
  refine CWalk.seq ?_
  refine CWalk.region ?_
  refine wo (Spec.assign Has.nilv) ?_
  refine Walk.nil ?_
  refine Leaf.thenN ?_
  refine CWalk.seq ?_
  refine CWalk.region ?_
  refine mv ?_
  refine mv ?_
  obtain ⟨x5, hx5, hm⟩ := bind_some hm
  refine wo (Spec.appNilO (te' := [0]) 29 hx5 rfl ow22 (Has.s rfl) (Has.s rfl) (ElKeep.tags rfl rfl)) ?_
  refine wo (Spec.assign (Has.s rfl)) ?_
  refine Walk.nil ?_
  refine Leaf.thenN ?_
  refine CWalk.seq ?_
  refine CWalk.ad (Ad.ow (s := 7) 30 rfl rfl (ElT.tags rfl) rfl (Cv.owM (T := [29]) (te := [0]) (T' := [29]) (te' := [0]) rfl rfl)) ?_
  refine CWalk.region ?_
  refine mv ?_
  refine wo (Spec.fieldAddrO fd64_0 (Has.cv (Has.s rfl) (Cv.isvP rfl))) ?_
  refine wo (Spec.loadF (i := 0) ty3 rfl (Has.s rfl) rfl (HasG.s rfl)) ?_
  refine wo (Spec.loadObj (ls := [(false, 1, Fact.rep [0, 19, 20, 23, 24, 27, 28] (j2 : List (List UInt8))), (false, 1, Fact.rep [0, 21, 22, 25, 26, 27] (j3 : List Write)), (false, 1, Fact.rep [] (j4 : Bool))]) ty41 rfl rfl (Has.s rfl) rfl (HasGs.cons (HasG.s rfl) (HasGs.cons (HasG.s rfl) (HasGs.cons (HasG.s rfl) HasGs.nil)))) ?_
  obtain ⟨x6, hx6, hm⟩ := bind_some hm
  refine wo (Spec.idxOwn hx6 ow22 (Has.s rfl) rfl (Has.s rfl)) ?_
  refine ws (Step.storeOwn (te' := [0, 19, 20, 21, 22, 23, 24, 25, 26, 27, 28]) rfl (bnd_lt hx6 rfl) ty41 (Has.s rfl) rfl (Has.cv (Has.s rfl) (Cv.trans (Cv.flds (CvL.cons (Cv.m rfl) (CvL.cons (Cv.m rfl) (CvL.cons Cv.fl CvL.nil)))) (Cv.close (T := [0, 19, 20, 21, 22, 23, 24, 25, 26, 27, 28]) (chDisk (Disk.mk j2 j3 j4))))) (ElKeep.tags rfl rfl) (ElKeep.tags rfl rfl)) ?_
  refine Walk.nil ?_
  refine Leaf.thenN ?_
  refine CWalk.seq ?_
  refine CWalk.region ?_
  refine mv ?_
  refine wo (Spec.assign (Has.s rfl)) ?_
  refine wo (Spec.assign Has.bool) ?_
  refine Walk.nil ?_
  refine Leaf.thenN ?_
  refine CWalk.ret ?_
  obtain rfl := Option.some.inj hm
  exact Leaf.retC2 rfl (HasR.cv (HasR.tmp (Has.s rfl)) (Cv.trans (Cv.isvOw rfl) (Cv.owM (T := [30]) (te := [0, 19, 20, 21, 22, 23, 24, 25, 26, 27, 28]) rfl rfl))) (HasR.cv (HasR.tmp (Has.s rfl)) Cv.fl)
 ·refine CWalk.seq ?_
  refine CWalk.region ?_
  refine wo (Spec.fieldAddrO fd41_2 (Has.cv (Has.s rfl) (Cv.isvP rfl))) ?_
  refine wo (Spec.loadF (i := 2) ty4 rfl (Has.s rfl) rfl (HasG.s rfl)) ?_
  refine wo (Spec.not (Has.s rfl)) ?_
  refine Walk.nil ?_
  refine Leaf.thenN ?_
  refine CWalk.cond rfl (fun hb => ?_) (fun hb => ?_)
  ·have hm := cond_t hb hm
   refine CWalk.seq ?_
   refine CWalk.region ?_
   refine wo (Spec.fieldAddrO fd64_1 (Has.cv (Has.s rfl) (Cv.isvP rfl))) ?_
   refine wo (Spec.loadF (i := 1) ty5 rfl (Has.s rfl) rfl (HasG.s rfl)) ?_
   refine Walk.nil ?_
   refine Leaf.thenN ?_
   refine CWalk.block ?_
   refine CWalk.seq ?_
   refine CWalk.region ?_
   refine wo (Spec.eqlB (Has.s rfl) (Has.u8 1 rfl)) ?_
   refine wo (Spec.assign (Has.s rfl)) ?_
   refine Walk.nil ?_
   refine Leaf.thenN ?_
   refine CWalk.cond rfl (fun hb => ?_) (fun hb => ?_)
   ·have hm := cond_t hb hm
    refine CWalk.seq ?_
    refine CWalk.seq ?_
    refine CWalk.region ?_
    refine wo (Spec.fieldAddrO fd41_1 (Has.cv (Has.s rfl) (Cv.isvP rfl))) ?_
    refine wo (Spec.loadF (i := 1) ty39 rfl (Has.s rfl) rfl (HasG.s rfl)) ?_
    refine wo (Spec.len (Has.s rfl) Try.underlying39) ?_
    refine wo (Spec.geqI (Has.s rfl) Has.int) ?_
    refine Walk.nil ?_
    refine Leaf.thenN ?_
    refine CWalk.cond rfl (fun hb => ?_) (fun hb => ?_)
    ·have hm := cond_t hb hm
     refine CWalk.seq ?_
     refine CWalk.region ?_
     refine wo (Spec.assign Has.nilv) ?_
     refine wo (Spec.assign Has.bool) ?_
     refine Walk.nil ?_
     refine Leaf.thenN ?_
     refine CWalk.ret ?_
     refine Leaf.thenR ?_
     refine Leaf.blockR ?_
     refine Leaf.thenR ?_
     obtain rfl := Option.some.inj hm
     exact Leaf.retC2 rfl (HasR.cv (HasR.tmp (Has.s rfl)) (Cv.trans Cv.nilOw (Cv.owM (T := []) (te := []) rfl rfl))) (HasR.cv (HasR.tmp (Has.s rfl)) Cv.fl)
    ·have hm := cond_f hb hm
     refine CWalk.skip ?_
     refine Leaf.thenN ?_
     refine CWalk.region ?_
     refine wo (Spec.loadObj (ls := [(false, 1, Fact.rep [0] x1.Blocks), (false, 1, Fact.rep [0] x1.Wait), (false, 1, Fact.rep [] x1.Dead)]) ty41 rfl rfl (Has.s rfl) rfl (HasGs.cons (HasG.s rfl) (HasGs.cons (HasG.s rfl) (HasGs.cons (HasG.s rfl) HasGs.nil)))) ?_
     refine wo (Spec.fieldAddrO fd64_2 (Has.cv (Has.s rfl) (Cv.isvP rfl))) ?_
     refine wo (Spec.loadF (i := 2) ty3 rfl (Has.s rfl) rfl (HasG.s rfl)) ?_
     refine wo (Spec.fieldAddrO fd64_3 (Has.cv (Has.s rfl) (Cv.isvP rfl))) ?_
     refine wo (Spec.loadF (i := 3) ty54 rfl (Has.s rfl) rfl (HasG.s rfl)) ?_
     obtain ⟨x7, hx7, hm⟩ := bind_some hm
     refine wo (f := Fact.flds [(false, 1, Fact.ow [19] [20] 54 (x7.Blocks : List (List UInt8))), (false, 1, Fact.ow [21] [22] 58 (x7.Wait : List Write)), (false, 1, Fact.rep [] x7.Dead)]) (Spec.callE [0] 19 rfl en74 (ref04_Put_c x1 a1.At a1.Data hx7) (HasAll.cons (Has.m (Has.cv (Has.s rfl) (Cv.trans (Cv.flds (CvL.cons (Cv.m rfl) (CvL.cons (Cv.m rfl) (CvL.cons Cv.fl CvL.nil)))) (Cv.close (T := [0]) (chDisk x1)))) rfl) (HasAll.cons (Has.fl (Has.s rfl)) (HasAll.cons (Has.m (Has.s rfl) rfl) HasAll.nil)))) ?_
     refine ws (Step.storeObj (ls := [(false, 1, Fact.ow [19] [20] 54 (x7.Blocks : List (List UInt8))), (false, 1, Fact.ow [21] [22] 58 (x7.Wait : List Write)), (false, 1, Fact.rep [] x7.Dead)]) rfl ty41 rfl rfl (Has.s rfl) rfl (HasL.flds (Has.s rfl)) rfl) ?_
     refine Walk.nil ?_
     refine Leaf.blockN ?_
     exact Leaf.join (x7.Blocks, x7.Wait, x7.Dead) hm (su (sn (sn (sf (sf (sf (sm (Sub.cons (Has.at (HasG.cv (HasG.s rfl) (Cv.trans (Cv.trans Cv.owSl (Cv.slRep (T' := [19, 20]) rfl rfl)) (Cv.m rfl)))) (Sub.cons (Has.at (HasG.cv (HasG.s rfl) (Cv.trans (Cv.trans Cv.owSl (Cv.slRep (T' := [21, 22]) rfl rfl)) (Cv.m rfl)))) (sf (sn (sn Sub.nil))))))))))))
   ·have hm := cond_f hb hm
    refine CWalk.seq ?_
    refine CWalk.region ?_
    refine wo (Spec.eqlB (Has.s rfl) (Has.u8 2 rfl)) ?_
    refine wo (Spec.assign (Has.s rfl)) ?_
    refine Walk.nil ?_
    refine Leaf.thenN ?_
    refine CWalk.cond rfl (fun hb => ?_) (fun hb => ?_)
    ·have hm := cond_t hb hm
     refine CWalk.region ?_
     refine wo (Spec.loadObj (ls := [(false, 1, Fact.rep [0] x1.Blocks), (false, 1, Fact.rep [0] x1.Wait), (false, 1, Fact.rep [] x1.Dead)]) ty41 rfl rfl (Has.s rfl) rfl (HasGs.cons (HasG.s rfl) (HasGs.cons (HasG.s rfl) (HasGs.cons (HasG.s rfl) HasGs.nil)))) ?_
     refine wo (Spec.fieldAddrO fd64_2 (Has.cv (Has.s rfl) (Cv.isvP rfl))) ?_
     refine wo (Spec.loadF (i := 2) ty3 rfl (Has.s rfl) rfl (HasG.s rfl)) ?_
     refine wo (Spec.fieldAddrO fd64_3 (Has.cv (Has.s rfl) (Cv.isvP rfl))) ?_
     refine wo (Spec.loadF (i := 3) ty54 rfl (Has.s rfl) rfl (HasG.s rfl)) ?_
     obtain ⟨x8, hx8, hm⟩ := bind_some hm
     refine wo (f := Fact.flds [(false, 1, Fact.ow [23] [24] 54 (x8.Blocks : List (List UInt8))), (false, 1, Fact.ow [25] [26] 58 (x8.Wait : List Write)), (false, 1, Fact.rep [] x8.Dead)]) (Spec.callE [0] 23 rfl en75 (ref04_Sure_c x1 a1.At a1.Data hx8) (HasAll.cons (Has.m (Has.cv (Has.s rfl) (Cv.trans (Cv.flds (CvL.cons (Cv.m rfl) (CvL.cons (Cv.m rfl) (CvL.cons Cv.fl CvL.nil)))) (Cv.close (T := [0]) (chDisk x1)))) rfl) (HasAll.cons (Has.fl (Has.s rfl)) (HasAll.cons (Has.m (Has.s rfl) rfl) HasAll.nil)))) ?_
     refine ws (Step.storeObj (ls := [(false, 1, Fact.ow [23] [24] 54 (x8.Blocks : List (List UInt8))), (false, 1, Fact.ow [25] [26] 58 (x8.Wait : List Write)), (false, 1, Fact.rep [] x8.Dead)]) rfl ty41 rfl rfl (Has.s rfl) rfl (HasL.flds (Has.s rfl)) rfl) ?_
     refine Walk.nil ?_
     refine Leaf.blockN ?_
     exact Leaf.join (x8.Blocks, x8.Wait, x8.Dead) hm (su (sn (sn (sf (sf (sf (sm (Sub.cons (Has.at (HasG.cv (HasG.s rfl) (Cv.trans (Cv.trans Cv.owSl (Cv.slRep (T' := [23, 24]) rfl rfl)) (Cv.m rfl)))) (Sub.cons (Has.at (HasG.cv (HasG.s rfl) (Cv.trans (Cv.trans Cv.owSl (Cv.slRep (T' := [25, 26]) rfl rfl)) (Cv.m rfl)))) (sf (sn (sn Sub.nil))))))))))))
    ·have hm := cond_f hb hm
     refine CWalk.region ?_
     refine wo (Spec.loadObj (ls := [(false, 1, Fact.rep [0] x1.Blocks), (false, 1, Fact.rep [0] x1.Wait), (false, 1, Fact.rep [] x1.Dead)]) ty41 rfl rfl (Has.s rfl) rfl (HasGs.cons (HasG.s rfl) (HasGs.cons (HasG.s rfl) (HasGs.cons (HasG.s rfl) HasGs.nil)))) ?_
     obtain ⟨x9, hx9, hm⟩ := bind_some hm
     refine wo (f := Fact.flds [(false, 1, Fact.ow [27] [28] 54 (x9.Blocks : List (List UInt8))), (false, 1, Fact.ow [27] [] 58 (x9.Wait : List Write)), (false, 1, Fact.rep [] x9.Dead)]) (Spec.callE [0] 27 rfl en76 (ref04_Flushed_c x1 hx9) (HasAll.cons (Has.m (Has.cv (Has.s rfl) (Cv.trans (Cv.flds (CvL.cons (Cv.m rfl) (CvL.cons (Cv.m rfl) (CvL.cons Cv.fl CvL.nil)))) (Cv.close (T := [0]) (chDisk x1)))) rfl) HasAll.nil)) ?_
     refine ws (Step.storeObj (ls := [(false, 1, Fact.ow [27] [28] 54 (x9.Blocks : List (List UInt8))), (false, 1, Fact.ow [27] [] 58 (x9.Wait : List Write)), (false, 1, Fact.rep [] x9.Dead)]) rfl ty41 rfl rfl (Has.s rfl) rfl (HasL.flds (Has.s rfl)) rfl) ?_
     refine Walk.nil ?_
     refine Leaf.blockN ?_
     exact Leaf.join (x9.Blocks, x9.Wait, x9.Dead) hm (su (sn (sn (sf (sf (sf (sm (Sub.cons (Has.at (HasG.cv (HasG.s rfl) (Cv.trans (Cv.trans Cv.owSl (Cv.slRep (T' := [27, 28]) rfl rfl)) (Cv.m rfl)))) (Sub.cons (Has.at (HasG.cv (HasG.s rfl) (Cv.trans (Cv.trans Cv.owSl (Cv.slRep (T' := [27]) rfl rfl)) (Cv.m rfl)))) (sf (sn (sn Sub.nil))))))))))))
  ·have hm := cond_f hb hm
   refine CWalk.skip ?_
   exact Leaf.join (x1.Blocks, x1.Wait, x1.Dead) hm (su (sn (sn (sf (sf (sf (sm (sm (sm (sf (sn (sn Sub.nil))))))))))))

def ref05_Behind_L1 (a1 : List Act64) (s1 : List Disk) (s2 : Int) : Option (Ctl ((List Disk) × Int) (((List Disk)) ⊕ (Unit))) :=
  (bif (decide (s2 < ((a1).length : Int))) then Option.bind (idx a1 s2) (fun x4 => Option.bind (ref05_Done s1 x4) (fun x5 => (bif (!x5.2) then some (Ctl.brk (Sum.inr ())) else some (Ctl.next (x5.1, (wI (s2 + (1 : Int)))))))) else some (Ctl.brk (Sum.inl s1)))
/-- freeboard/freeboardref05.Behind -/
def ref05_Behind (a0 : List Disk) (a1 : List Act64) : Option ((List Disk) × Bool) :=
  Option.bind (loopM (fun s : (List Disk) × Int => ref05_Behind_L1 a1 s.1 s.2) FUEL (a0, (0 : Int))) (fun b6 => Sum.elim (fun b7 => some (b7, true)) (fun b8 => some (([] : List Disk), false)) b6)
set_option maxRecDepth 100000 in
set_option maxHeartbeats 2000000 in
theorem ref05_Behind_c (a0 : List Disk) (a1 : List Act64) {r : (List Disk) × Bool} (hm : ref05_Behind a0 a1 = some r) : Ctr Try.prog 43 [.rep 0 a0, .rep 0 a1] (.tup2 (.rep 0 r.1) (.fl r.2)) [0] := by
 refine ctr_of_walk [[0, 10, 11]] 30 Try.func43 rfl rfl rfl rfl (fun w0 om => ?_)
 unfold ref05_Behind at hm
 refine CWalk.sub (G' := [.fact 0 (.rep [0] (a0 : List Disk)), .fact 1 (.rep [0] (a1 : List Act64))]) (sn (sn Sub.nil)) ?_
 refine CWalk.seq ?_
 refine CWalk.region ?_
 refine wo (Spec.assign Has.nilv) ?_
 refine wo (Spec.assign Has.bool) ?_
 refine Walk.nil ?_
 refine Leaf.thenN ?_
 refine CWalk.seq ?_
 refine CWalk.region ?_
 refine mv ?_
 refine wo (Spec.assign (Has.s rfl)) ?_
 refine Walk.nil ?_
 refine Leaf.thenN ?_
 refine CWalk.seq ?_
 refine CWalk.seq ?_
 refine CWalk.region ?_
 refine wo (Spec.assign Has.int) ?_
 refine Walk.nil ?_
 refine Leaf.thenN ?_
 refine CWalk.block ?_
 obtain ⟨b6, hb6, hm⟩ := bind_some hm
 refine CWalk.loop (fun s : (List Disk) × Int => [.fact 1 (.rep [0] (a1 : List Act64)), .fact 6 (.rep [0, 10, 11] s.1), .fact 7 (.rep [] s.2)]) (fun b : ((List Disk)) ⊕ (Unit) => Sum.elim (fun b => (Exit.exit 0, [.fact 6 (.rep [0, 10, 11] (b : List Disk))])) (fun b => (Exit.ret, [.fact 4 (.nilv), .fact 5 (.rep [] (false : Bool))])) b) hb6 (su (su (st Sub.nil))) ?_ ?_
 ·rintro ⟨s1, s2⟩ c3 hm
  replace hm : ref05_Behind_L1 a1 s1 s2 = some c3 := hm
  unfold ref05_Behind_L1 at hm
  show CWalk _ [.fact 1 (.rep [0] (a1 : List Act64)), .fact 6 (.rep [0, 10, 11] (s1 : List Disk)), .fact 7 (.rep [] (s2 : Int))] _ _
  refine CWalk.seq ?_
  refine CWalk.seq ?_
  refine CWalk.region ?_
  refine mv ?_
  refine mv ?_
  refine wo (Spec.len (Has.s rfl) Try.underlying43) ?_
  refine wo (Spec.lssI (Has.s rfl) (Has.s rfl)) ?_
  refine Walk.nil ?_
  refine Leaf.thenN ?_
  refine CWalk.cond rfl (fun hb => ?_) (fun hb => ?_)
  ·have hm := cond_t hb hm
   refine CWalk.skip ?_
   refine Leaf.thenN ?_
   refine CWalk.seq ?_
   refine CWalk.block ?_
   refine CWalk.seq ?_
   refine CWalk.region ?_
   refine mv ?_
   refine mv ?_
   refine mv ?_
   obtain ⟨x4, hx4, hm⟩ := bind_some hm
   refine wo (Spec.indexAddr hx4 sl43 (Has.s rfl) (Has.s rfl)) ?_
   refine wo (Spec.load ty64 (Has.s rfl)) ?_
   obtain ⟨x5, hx5, hm⟩ := bind_some hm
   refine wo (f := Fact.tup2 (Fact.ow [10] [11, 0, 10, 11] 41 (x5.1 : List Disk)) (Fact.rep [] x5.2)) (Spec.callE [0, 10, 11] 10 rfl en62 (ref05_Done_c s1 x4 hx5) (HasAll.cons (Has.m (Has.s rfl) rfl) (HasAll.cons (Has.m (Has.s rfl) rfl) HasAll.nil))) ?_
   refine mv ?_
   refine wo (Spec.ext0 (Has.s rfl)) ?_
   refine wo (Spec.ext1 (Has.s rfl)) ?_
   refine wo (Spec.assign (Has.s rfl)) ?_
   refine wo (Spec.assign (Has.s rfl)) ?_
   refine Walk.nil ?_
   refine Leaf.thenN ?_
   refine CWalk.seq ?_
   refine CWalk.seq ?_
   refine CWalk.region ?_
   refine mv ?_
   refine wo (Spec.not (Has.s rfl)) ?_
   refine Walk.nil ?_
   refine Leaf.thenN ?_
   refine CWalk.cond rfl (fun hb => ?_) (fun hb => ?_)
   ·have hm := cond_t hb hm
    refine CWalk.seq ?_
    refine CWalk.region ?_
    refine wo (Spec.assign Has.nilv) ?_
    refine wo (Spec.assign Has.bool) ?_
    refine Walk.nil ?_
    refine Leaf.thenN ?_
    refine CWalk.ret ?_
    refine Leaf.thenR ?_
    refine Leaf.blockR ?_
    refine Leaf.thenR ?_
    exact Leaf.brk hm (fun h => nomatch h) rfl (sn (st Sub.nil))
   ·have hm := cond_f hb hm
    refine CWalk.skip ?_
    refine Leaf.thenN ?_
    refine CWalk.region ?_
    refine mv ?_
    refine wo (Spec.assign (Has.s rfl)) ?_
    refine Walk.nil ?_
    refine Leaf.blockN ?_
    refine Leaf.thenN ?_
    refine CWalk.region ?_
    refine mv ?_
    refine wo (Spec.addI (Has.s rfl) Has.int) ?_
    refine wo (Spec.assign (Has.s rfl)) ?_
    refine Walk.nil ?_
    exact Leaf.next hm (su (Sub.cons (Has.cv (Has.s rfl) (Cv.trans (Cv.trans Cv.owSl (Cv.slRep (T' := [0, 10, 11]) rfl rfl)) (Cv.m rfl))) (st Sub.nil)))
  ·have hm := cond_f hb hm
   refine CWalk.exit ?_
   refine Leaf.thenE ?_
   exact Leaf.brk hm (fun h => nomatch h) rfl (su Sub.nil)
 ·intro _
  rcases b6 with b7 | b8
  ·have hm := selim_l hm
   refine Leaf.blockE ?_
   refine Leaf.thenN ?_
   refine CWalk.seq ?_
   refine CWalk.region ?_
   refine mv ?_
   refine wo (Spec.assign (Has.s rfl)) ?_
   refine wo (Spec.assign Has.bool) ?_
   refine Walk.nil ?_
   refine Leaf.thenN ?_
   refine CWalk.ret ?_
   obtain rfl := Option.some.inj hm
   exact Leaf.retC2 rfl (HasR.cv (HasR.tmp (Has.s rfl)) (Cv.m rfl)) (HasR.cv (HasR.tmp (Has.s rfl)) Cv.fl)
  ·have hm := selim_r hm
   refine Leaf.blockR ?_
   refine Leaf.thenR ?_
   obtain rfl := Option.some.inj hm
   exact Leaf.retC2 rfl (HasR.cv (HasR.tmp (Has.s rfl)) (Cv.trans (Cv.nil (T := [])) (Cv.m rfl))) (HasR.cv (HasR.tmp (Has.s rfl)) Cv.fl)

/-- freeboard/freeboardref05.Run -/
def ref05_Run (a0 : List Disk) (a1 : List Act64) (a2 : Int) : Option ((List Disk) × Int) :=
  Option.bind (ref05_Check a1 a0) (fun x1 => (bif (x1 != (0 : Int)) then some (([] : List Disk), x1) else (bif ((decide (a2 < (0 : Int))) || (decide (a2 > ((a1).length : Int)))) then some (([] : List Disk), (2 : Int)) else Option.bind (slc a1 0 a2) (fun x2 => Option.bind (ref05_Behind a0 x2) (fun x3 => (bif (!x3.2) then some (([] : List Disk), (9 : Int)) else some (x3.1, (0 : Int))))))))
set_option maxRecDepth 100000 in
set_option maxHeartbeats 2000000 in
theorem ref05_Run_c (a0 : List Disk) (a1 : List Act64) (a2 : Int) {r : (List Disk) × Int} (hm : ref05_Run a0 a1 a2 = some r) : Ctr Try.prog 21 [.rep 0 a0, .rep 0 a1, .rep 0 a2] (.tup2 (.rep 0 r.1) (.fl r.2)) [0] := by
 refine ctr_of_walk [[0, 11]] 36 Try.func21 rfl rfl rfl rfl (fun w0 om => ?_)
 unfold ref05_Run at hm
 refine CWalk.sub (G' := [.fact 0 (.rep [0] (a0 : List Disk)), .fact 1 (.rep [0] (a1 : List Act64)), .fact 2 (.rep [] (a2 : Int))]) (sn (sn (Sub.cons (Has.fl (Has.s rfl)) Sub.nil))) ?_
 refine CWalk.seq ?_
 refine CWalk.region ?_
 refine wo (Spec.assign Has.nilv) ?_
 refine wo (Spec.assign Has.int) ?_
 refine Walk.nil ?_
 refine Leaf.thenN ?_
 refine CWalk.seq ?_
 refine CWalk.region ?_
 refine mv ?_
 refine mv ?_
 obtain ⟨x1, hx1, hm⟩ := bind_some hm
 refine wo (f := Fact.rep [] (x1 : Int)) (Spec.callE [0] 10 rfl en23 (ref05_Check_c a1 a0 hx1) (HasAll.cons (Has.m (Has.s rfl) rfl) (HasAll.cons (Has.m (Has.s rfl) rfl) HasAll.nil))) ?_
 refine wo (Spec.assign (Has.s rfl)) ?_
 refine Walk.nil ?_
 refine Leaf.thenN ?_
 refine CWalk.seq ?_
 refine CWalk.seq ?_
 refine CWalk.region ?_
 refine mv ?_
 refine wo (Spec.neqI (Has.s rfl) Has.int) ?_
 refine Walk.nil ?_
 refine Leaf.thenN ?_
 refine CWalk.cond rfl (fun hb => ?_) (fun hb => ?_)
 ·have hm := cond_t hb hm
  refine CWalk.seq ?_
  refine CWalk.region ?_
  refine mv ?_
  refine wo (Spec.assign Has.nilv) ?_
  refine wo (Spec.assign (Has.s rfl)) ?_
  refine Walk.nil ?_
  refine Leaf.thenN ?_
  refine CWalk.ret ?_
  refine Leaf.thenR ?_
  obtain rfl := Option.some.inj hm
  exact Leaf.retC2 rfl (HasR.cv (HasR.tmp (Has.s rfl)) (Cv.trans (Cv.nil (T := [])) (Cv.m rfl))) (HasR.cv (HasR.tmp (Has.s rfl)) Cv.fl)
 ·have hm := cond_f hb hm
  refine CWalk.skip ?_
  refine Leaf.thenN ?_
  refine CWalk.seq ?_
  refine CWalk.seq ?_
  refine CWalk.region ?_
  refine mv ?_
  refine wo (Spec.lssI (Has.s rfl) Has.int) ?_
  refine mv ?_
  refine wg rfl rfl (fun hb => Spec.move (Has.s rfl)) ?_
  refine wg rfl rfl (fun hb => Spec.move (Has.s rfl)) ?_
  refine wg rfl rfl (fun hb => Spec.len (Has.u rfl hb) Try.underlying43) ?_
  refine wg rfl rfl (fun hb => Spec.gtrI (Has.u rfl hb) (Has.u rfl hb)) ?_
  refine wo (Spec.or (Has.s rfl) (fun h => Has.u rfl h)) ?_
  refine Walk.nil ?_
  refine Leaf.thenN ?_
  refine CWalk.cond rfl (fun hb => ?_) (fun hb => ?_)
  ·have hm := cond_t hb hm
   refine CWalk.seq ?_
   refine CWalk.region ?_
   refine wo (Spec.assign Has.nilv) ?_
   refine wo (Spec.assign Has.int) ?_
   refine Walk.nil ?_
   refine Leaf.thenN ?_
   refine CWalk.ret ?_
   refine Leaf.thenR ?_
   obtain rfl := Option.some.inj hm
   exact Leaf.retC2 rfl (HasR.cv (HasR.tmp (Has.s rfl)) (Cv.trans (Cv.nil (T := [])) (Cv.m rfl))) (HasR.cv (HasR.tmp (Has.s rfl)) Cv.fl)
  ·have hm := cond_f hb hm
   refine CWalk.skip ?_
   refine Leaf.thenN ?_
   refine CWalk.seq ?_
   refine CWalk.region ?_
   refine mv ?_
   refine mv ?_
   refine mv ?_
   obtain ⟨x2, hx2, hm⟩ := bind_some hm
   refine wo (Spec.slcHi hx2 sl43 (Has.s rfl) (Has.s rfl)) ?_
   obtain ⟨x3, hx3, hm⟩ := bind_some hm
   refine wo (f := Fact.tup2 (Fact.rep [11, 0] x3.1) (Fact.rep [] x3.2)) (Spec.callE [0] 11 rfl en43 (ref05_Behind_c a0 x2 hx3) (HasAll.cons (Has.m (Has.s rfl) rfl) (HasAll.cons (Has.m (Has.s rfl) rfl) HasAll.nil))) ?_
   refine mv ?_
   refine wo (Spec.ext0 (Has.s rfl)) ?_
   refine wo (Spec.ext1 (Has.s rfl)) ?_
   refine wo (Spec.assign (Has.s rfl)) ?_
   refine wo (Spec.assign (Has.s rfl)) ?_
   refine Walk.nil ?_
   refine Leaf.thenN ?_
   refine CWalk.seq ?_
   refine CWalk.seq ?_
   refine CWalk.region ?_
   refine mv ?_
   refine wo (Spec.not (Has.s rfl)) ?_
   refine Walk.nil ?_
   refine Leaf.thenN ?_
   refine CWalk.cond rfl (fun hb => ?_) (fun hb => ?_)
   ·have hm := cond_t hb hm
    refine CWalk.seq ?_
    refine CWalk.region ?_
    refine wo (Spec.assign Has.nilv) ?_
    refine wo (Spec.assign Has.int) ?_
    refine Walk.nil ?_
    refine Leaf.thenN ?_
    refine CWalk.ret ?_
    refine Leaf.thenR ?_
    obtain rfl := Option.some.inj hm
    exact Leaf.retC2 rfl (HasR.cv (HasR.tmp (Has.s rfl)) (Cv.trans (Cv.nil (T := [])) (Cv.m rfl))) (HasR.cv (HasR.tmp (Has.s rfl)) Cv.fl)
   ·have hm := cond_f hb hm
    refine CWalk.skip ?_
    refine Leaf.thenN ?_
    refine CWalk.seq ?_
    refine CWalk.region ?_
    refine mv ?_
    refine wo (Spec.assign (Has.s rfl)) ?_
    refine wo (Spec.assign Has.int) ?_
    refine Walk.nil ?_
    refine Leaf.thenN ?_
    refine CWalk.ret ?_
    obtain rfl := Option.some.inj hm
    exact Leaf.retC2 rfl (HasR.cv (HasR.tmp (Has.s rfl)) (Cv.m rfl)) (HasR.cv (HasR.tmp (Has.s rfl)) Cv.fl)

def ref04_Same_L1 (a0 : Disk) (a1 : Disk) (s1 : Int) : Option (Ctl (Int) ((Unit) ⊕ (Unit))) :=
  (bif (decide (s1 < ((a0.Blocks).length : Int))) then Option.bind (idx a0.Blocks s1) (fun x3 => Option.bind (ref04_Full x3) (fun x4 => Option.bind (idx a1.Blocks s1) (fun x5 => Option.bind (ref04_Full x5) (fun x6 => (bif (!((Str.mk x4).s == (Str.mk x6).s)) then some (Ctl.brk (Sum.inr ())) else some (Ctl.next (wI (s1 + (1 : Int))))))))) else some (Ctl.brk (Sum.inl ())))
def ref04_Same_L2 (a0 : Disk) (a1 : Disk) (s9 : Int) : Option (Ctl (Int) ((Unit) ⊕ (Unit))) :=
  (bif (decide (s9 < ((a0.Wait).length : Int))) then Option.bind (idx a0.Wait s9) (fun x11 => Option.bind (idx a1.Wait s9) (fun x12 => Option.bind (gO (!(x11.At != x12.At)) (idx a0.Wait s9)) (fun x13 => Option.bind (gO (!(x11.At != x12.At)) (ref04_Full x13.Data)) (fun x14 => Option.bind (gO (!(x11.At != x12.At)) (idx a1.Wait s9)) (fun x15 => Option.bind (gO (!(x11.At != x12.At)) (ref04_Full x15.Data)) (fun x16 => (bif ((x11.At != x12.At) || (!((Str.mk x14).s == (Str.mk x16).s))) then some (Ctl.brk (Sum.inr ())) else some (Ctl.next (wI (s9 + (1 : Int))))))))))) else some (Ctl.brk (Sum.inl ())))
/-- freeboard/freeboardref04.Same -/
def ref04_Same (a0 : Disk) (a1 : Disk) : Option (Bool) :=
  (bif (((((a0.Blocks).length : Int) != ((a1.Blocks).length : Int)) || (((a0.Wait).length : Int) != ((a1.Wait).length : Int))) || (a0.Dead != a1.Dead)) then some false else Option.bind (loopM (fun s : Int => ref04_Same_L1 a0 a1 s) FUEL (0 : Int)) (fun b7 => Sum.elim (fun b8 => Option.bind (loopM (fun s : Int => ref04_Same_L2 a0 a1 s) FUEL (0 : Int)) (fun b17 => Sum.elim (fun b18 => some true) (fun b19 => some false) b17)) (fun b20 => some false) b7))
set_option maxRecDepth 100000 in
set_option maxHeartbeats 2000000 in
theorem ref04_Same_c (a0 : Disk) (a1 : Disk) {r : Bool} (hm : ref04_Same a0 a1 = some r) : Ctr Try.prog 17 [.rep 0 a0, .rep 0 a1] (.fl r) [] := by
 refine ctr_of_walk [[]] 91 Try.func17 rfl rfl rfl rfl (fun w0 om => ?_)
 unfold ref04_Same at hm
 refine CWalk.sub (G' := [.fact 0 (.rep [0] (a0 : Disk)), .fact 1 (.rep [0] (a1 : Disk))]) (sn (sn Sub.nil)) ?_
 refine CWalk.seq ?_
 refine CWalk.region ?_
 refine ws (Step.boxObj (ls := [(false, 1, Fact.rep [0] a0.Blocks), (false, 1, Fact.rep [0] a0.Wait), (false, 1, Fact.rep [] a0.Dead)]) 10 rfl rfl rfl rfl (HasL.flds (Has.cv (Has.s rfl) (Cv.trans (Cv.opens (chDisk a0)) (Cv.flds (CvL.cons Cv.refl (CvL.cons Cv.refl (CvL.cons Cv.fl CvL.nil)))))))) ?_
 refine ws (Step.boxObj (ls := [(false, 1, Fact.rep [0] a1.Blocks), (false, 1, Fact.rep [0] a1.Wait), (false, 1, Fact.rep [] a1.Dead)]) 14 rfl rfl rfl rfl (HasL.flds (Has.cv (Has.s rfl) (Cv.trans (Cv.opens (chDisk a1)) (Cv.flds (CvL.cons Cv.refl (CvL.cons Cv.refl (CvL.cons Cv.fl CvL.nil)))))))) ?_
 refine wo (Spec.assign Has.bool) ?_
 refine Walk.nil ?_
 refine Leaf.thenN ?_
 refine CWalk.seq ?_
 refine CWalk.seq ?_
 refine CWalk.region ?_
 refine wo (Spec.fieldAddrO fd41_0 (Has.cv (Has.s rfl) (Cv.isvP rfl))) ?_
 refine wo (Spec.loadF (i := 0) ty38 rfl (Has.s rfl) rfl (HasG.s rfl)) ?_
 refine wo (Spec.len (Has.s rfl) Try.underlying38) ?_
 refine wo (Spec.fieldAddrO fd41_0 (Has.cv (Has.s rfl) (Cv.isvP rfl))) ?_
 refine wo (Spec.loadF (i := 0) ty38 rfl (Has.s rfl) rfl (HasG.s rfl)) ?_
 refine wo (Spec.len (Has.s rfl) Try.underlying38) ?_
 refine wo (Spec.neqI (Has.s rfl) (Has.s rfl)) ?_
 refine mv ?_
 refine wg rfl rfl (fun hb => Spec.fieldAddrO fd41_1 (Has.cv (Has.s rfl) (Cv.isvP rfl))) ?_
 refine wg rfl rfl (fun hb => Spec.loadF (i := 1) ty39 rfl (Has.u rfl hb) rfl (HasG.s rfl)) ?_
 refine wg rfl rfl (fun hb => Spec.len (Has.u rfl hb) Try.underlying39) ?_
 refine wg rfl rfl (fun hb => Spec.fieldAddrO fd41_1 (Has.cv (Has.s rfl) (Cv.isvP rfl))) ?_
 refine wg rfl rfl (fun hb => Spec.loadF (i := 1) ty39 rfl (Has.u rfl hb) rfl (HasG.s rfl)) ?_
 refine wg rfl rfl (fun hb => Spec.len (Has.u rfl hb) Try.underlying39) ?_
 refine wg rfl rfl (fun hb => Spec.neqI (Has.u rfl hb) (Has.u rfl hb)) ?_
 refine wo (Spec.or (Has.s rfl) (fun h => Has.u rfl h)) ?_
 refine mv ?_
 refine wg rfl rfl (fun hb => Spec.fieldAddrO fd41_2 (Has.cv (Has.s rfl) (Cv.isvP rfl))) ?_
 refine wg rfl rfl (fun hb => Spec.loadF (i := 2) ty4 rfl (Has.u rfl hb) rfl (HasG.s rfl)) ?_
 refine wg rfl rfl (fun hb => Spec.fieldAddrO fd41_2 (Has.cv (Has.s rfl) (Cv.isvP rfl))) ?_
 refine wg rfl rfl (fun hb => Spec.loadF (i := 2) ty4 rfl (Has.u rfl hb) rfl (HasG.s rfl)) ?_
 refine wg rfl rfl (fun hb => Spec.neqT (Has.u rfl hb) (Has.u rfl hb) Try.underlying4) ?_
 refine wo (Spec.or (Has.s rfl) (fun h => Has.u rfl h)) ?_
 refine Walk.nil ?_
 refine Leaf.thenN ?_
 refine CWalk.cond rfl (fun hb => ?_) (fun hb => ?_)
 ·have hm := cond_t hb hm
  refine CWalk.seq ?_
  refine CWalk.region ?_
  refine wo (Spec.assign Has.bool) ?_
  refine Walk.nil ?_
  refine Leaf.thenN ?_
  refine CWalk.ret ?_
  refine Leaf.thenR ?_
  obtain rfl := Option.some.inj hm
  exact Leaf.retC1 rfl (HasR.cv (HasR.tmp (Has.s rfl)) Cv.fl)
 ·have hm := cond_f hb hm
  refine CWalk.skip ?_
  refine Leaf.thenN ?_
  refine CWalk.seq ?_
  refine CWalk.seq ?_
  refine CWalk.region ?_
  refine wo (Spec.assign Has.int) ?_
  refine Walk.nil ?_
  refine Leaf.thenN ?_
  refine CWalk.block ?_
  obtain ⟨b7, hb7, hm⟩ := bind_some hm
  refine CWalk.loop (fun s : Int => [.fact 2 (.isv 10), .fact 3 (.isv 14), .fact 5 (.rep [] (s : Int)), .fact 100011 (.at 11 (.rep [0] a0.Blocks)), .fact 100012 (.at 12 (.rep [0] a0.Wait)), .fact 100013 (.at 13 (.rep [] a0.Dead)), .fact 100015 (.at 15 (.rep [0] a1.Blocks)), .fact 100016 (.at 16 (.rep [0] a1.Wait)), .fact 100017 (.at 17 (.rep [] a1.Dead)), .fact 100010 (.obj 10 [(false, 1), (false, 1), (false, 1)]), .fact 100014 (.obj 14 [(false, 1), (false, 1), (false, 1)])]) (fun b : (Unit) ⊕ (Unit) => Sum.elim (fun b => (Exit.exit 0, [.fact 2 (.isv 10), .fact 3 (.isv 14), .fact 100011 (.at 11 (.rep [0] a0.Blocks)), .fact 100012 (.at 12 (.rep [0] a0.Wait)), .fact 100013 (.at 13 (.rep [] a0.Dead)), .fact 100015 (.at 15 (.rep [0] a1.Blocks)), .fact 100016 (.at 16 (.rep [0] a1.Wait)), .fact 100017 (.at 17 (.rep [] a1.Dead)), .fact 100010 (.obj 10 [(false, 1), (false, 1), (false, 1)]), .fact 100014 (.obj 14 [(false, 1), (false, 1), (false, 1)])])) (fun b => (Exit.ret, [.fact 4 (.rep [] (false : Bool))])) b) hb7 (sn (sn (st (sm (sm (sf (sm (sm (sf (sn (sn Sub.nil))))))))))) ?_ ?_
  ·rintro s1 c2 hm
   replace hm : ref04_Same_L1 a0 a1 s1 = some c2 := hm
   unfold ref04_Same_L1 at hm
   show CWalk _ [.fact 2 (.isv 10), .fact 3 (.isv 14), .fact 5 (.rep [] (s1 : Int)), .fact 100011 (.at 11 (.rep [0] a0.Blocks)), .fact 100012 (.at 12 (.rep [0] a0.Wait)), .fact 100013 (.at 13 (.rep [] a0.Dead)), .fact 100015 (.at 15 (.rep [0] a1.Blocks)), .fact 100016 (.at 16 (.rep [0] a1.Wait)), .fact 100017 (.at 17 (.rep [] a1.Dead)), .fact 100010 (.obj 10 [(false, 1), (false, 1), (false, 1)]), .fact 100014 (.obj 14 [(false, 1), (false, 1), (false, 1)])] _ _
   refine CWalk.seq ?_
   refine CWalk.seq ?_
   refine CWalk.region ?_
   refine mv ?_
   refine wo (Spec.fieldAddrO fd41_0 (Has.cv (Has.s rfl) (Cv.isvP rfl))) ?_
   refine wo (Spec.loadF (i := 0) ty38 rfl (Has.s rfl) rfl (HasG.s rfl)) ?_
   refine wo (Spec.len (Has.s rfl) Try.underlying38) ?_
   refine wo (Spec.lssI (Has.s rfl) (Has.s rfl)) ?_
   refine Walk.nil ?_
   refine Leaf.thenN ?_
   refine CWalk.cond rfl (fun hb => ?_) (fun hb => ?_)
   ·have hm := cond_t hb hm
    refine CWalk.skip ?_
    refine Leaf.thenN ?_
    refine CWalk.seq ?_
    refine CWalk.block ?_
    refine CWalk.seq ?_
    obtain ⟨x3, hx3, hm⟩ := bind_some hm
    obtain ⟨x4, hx4, hm⟩ := bind_some hm
    obtain ⟨x5, hx5, hm⟩ := bind_some hm
    obtain ⟨x6, hx6, hm⟩ := bind_some hm
    refine CWalk.drawM [[], [0], [], [0, 1, 2], [0, 1, 2, 3], [0, 1, 2, 3, 4], [0, 1, 2, 3, 4, 5], [], [7], [], [7, 8, 9], [7, 8, 9, 10], [0, 1, 2, 3, 4, 5, 7, 8, 9, 10, 11], [0, 1, 2, 3, 4, 5, 7, 8, 9, 10, 11, 12], [0, 1, 2, 3, 4, 5, 6, 7, 8, 9, 10, 11, 12, 13]] [[.fact 37 (.pto 10 0)], [.fact 38 (.rep [0] a0.Blocks)], [.fact 39 (.rep [] (s1 : Int))], [.fact 40 (.ptr [0] (x3 : List UInt8))], [.fact 41 (.rep [0] (x3 : List UInt8))], [.fact 42 (.ow [18] [] 5 (x4 : List UInt8))], [.fact 43 (.rep [] ((Str.mk x4) : Str))], [.fact 44 (.pto 14 0)], [.fact 45 (.rep [0] a1.Blocks)], [.fact 46 (.rep [] (s1 : Int))], [.fact 47 (.ptr [0] (x5 : List UInt8))], [.fact 48 (.rep [0] (x5 : List UInt8))], [.fact 49 (.ow [19] [] 5 (x6 : List UInt8))], [.fact 50 (.rep [] ((Str.mk x6) : Str))], [.fact 51 (.rep [] ((!((Str.mk x4).s == (Str.mk x6).s)) : Bool))]] mixed (by kernel_rfl) (ao (so (Spec.fieldAddrO fd41_0 (Has.cv (Has.s rfl) (Cv.isvP rfl)))) (ao (so (Spec.loadF (i := 0) ty38 rfl (Has.s rfl) rfl (HasG.s rfl))) (ao (so (Spec.move (Has.s rfl))) (ao (so (Spec.indexAddr hx3 sl38 (Has.s rfl) (Has.s rfl))) (ao (so (Spec.load ty54 (Has.s rfl))) (ao (so (Spec.callE [0] 18 rfl en41 (ref04_Full_c x3 hx4) (HasAll.cons (Has.m (Has.s rfl) rfl) HasAll.nil))) (ao (so (Spec.toStr Try.underlying54 Try.underlying5 Try.underlying9 (Has.cv (Has.s rfl) (Cv.trans Cv.owSl (Cv.slRep (T' := [18]) rfl rfl))))) (ao (so (Spec.fieldAddrO fd41_0 (Has.cv (Has.s rfl) (Cv.isvP rfl)))) (ao (so (Spec.loadF (i := 0) ty38 rfl (Has.s rfl) rfl (HasG.s rfl))) (ao (so (Spec.move (Has.s rfl))) (ao (so (Spec.indexAddr hx5 sl38 (Has.s rfl) (Has.s rfl))) (ao (so (Spec.load ty54 (Has.s rfl))) (ao (so (Spec.callE [0] 19 rfl en41 (ref04_Full_c x5 hx6) (HasAll.cons (Has.m (Has.s rfl) rfl) HasAll.nil))) (ao (so (Spec.toStr Try.underlying54 Try.underlying5 Try.underlying9 (Has.cv (Has.s rfl) (Cv.trans Cv.owSl (Cv.slRep (T' := [19]) rfl rfl))))) (ao (so (Spec.neqS (Has.s rfl) (Has.s rfl))) AllM.nil))))))))))))))) ?_
    refine Leaf.thenN ?_
    refine CWalk.cond rfl (fun hb => ?_) (fun hb => ?_)
    ·have hm := cond_t hb hm
     refine CWalk.seq ?_
     refine CWalk.region ?_
     refine wo (Spec.assign Has.bool) ?_
     refine Walk.nil ?_
     refine Leaf.thenN ?_
     refine CWalk.ret ?_
     refine Leaf.blockR ?_
     refine Leaf.thenR ?_
     exact Leaf.brk hm (fun h => nomatch h) rfl (st Sub.nil)
    ·have hm := cond_f hb hm
     refine CWalk.skip ?_
     refine Leaf.blockN ?_
     refine Leaf.thenN ?_
     refine CWalk.region ?_
     refine mv ?_
     refine wo (Spec.addI (Has.s rfl) Has.int) ?_
     refine wo (Spec.assign (Has.s rfl)) ?_
     refine Walk.nil ?_
     exact Leaf.next hm (sn (sn (st (sm (sm (sf (sm (sm (sf (sn (sn Sub.nil)))))))))))
   ·have hm := cond_f hb hm
    refine CWalk.exit ?_
    refine Leaf.thenE ?_
    exact Leaf.brk hm (fun h => nomatch h) rfl (sn (sn (sm (sm (sf (sm (sm (sf (sn (sn Sub.nil))))))))))
  ·intro _
   rcases b7 with b8 | b20
   ·have hm := selim_l hm
    refine Leaf.blockE ?_
    refine Leaf.thenN ?_
    refine CWalk.seq ?_
    refine CWalk.seq ?_
    refine CWalk.region ?_
    refine wo (Spec.assign Has.int) ?_
    refine Walk.nil ?_
    refine Leaf.thenN ?_
    refine CWalk.block ?_
    obtain ⟨b17, hb17, hm⟩ := bind_some hm
    refine CWalk.loop (fun s : Int => [.fact 2 (.isv 10), .fact 3 (.isv 14), .fact 6 (.rep [] (s : Int)), .fact 100011 (.at 11 (.rep [0] a0.Blocks)), .fact 100012 (.at 12 (.rep [0] a0.Wait)), .fact 100013 (.at 13 (.rep [] a0.Dead)), .fact 100015 (.at 15 (.rep [0] a1.Blocks)), .fact 100016 (.at 16 (.rep [0] a1.Wait)), .fact 100017 (.at 17 (.rep [] a1.Dead)), .fact 100010 (.obj 10 [(false, 1), (false, 1), (false, 1)]), .fact 100014 (.obj 14 [(false, 1), (false, 1), (false, 1)])]) (fun b : (Unit) ⊕ (Unit) => Sum.elim (fun b => (Exit.exit 2, [])) (fun b => (Exit.ret, [.fact 4 (.rep [] (false : Bool))])) b) hb17 (sn (sn (st (sm (sm (sf (sm (sm (sf (sn (sn Sub.nil))))))))))) ?_ ?_
    ·rintro s9 c10 hm
     replace hm : ref04_Same_L2 a0 a1 s9 = some c10 := hm
     unfold ref04_Same_L2 at hm
     show CWalk _ [.fact 2 (.isv 10), .fact 3 (.isv 14), .fact 6 (.rep [] (s9 : Int)), .fact 100011 (.at 11 (.rep [0] a0.Blocks)), .fact 100012 (.at 12 (.rep [0] a0.Wait)), .fact 100013 (.at 13 (.rep [] a0.Dead)), .fact 100015 (.at 15 (.rep [0] a1.Blocks)), .fact 100016 (.at 16 (.rep [0] a1.Wait)), .fact 100017 (.at 17 (.rep [] a1.Dead)), .fact 100010 (.obj 10 [(false, 1), (false, 1), (false, 1)]), .fact 100014 (.obj 14 [(false, 1), (false, 1), (false, 1)])] _ _
     refine CWalk.seq ?_
     refine CWalk.seq ?_
     refine CWalk.region ?_
     refine mv ?_
     refine wo (Spec.fieldAddrO fd41_1 (Has.cv (Has.s rfl) (Cv.isvP rfl))) ?_
     refine wo (Spec.loadF (i := 1) ty39 rfl (Has.s rfl) rfl (HasG.s rfl)) ?_
     refine wo (Spec.len (Has.s rfl) Try.underlying39) ?_
     refine wo (Spec.lssI (Has.s rfl) (Has.s rfl)) ?_
     refine Walk.nil ?_
     refine Leaf.thenN ?_
     refine CWalk.cond rfl (fun hb => ?_) (fun hb => ?_)
     ·have hm := cond_t hb hm
      refine CWalk.skip ?_
      refine Leaf.thenN ?_
      refine CWalk.seq ?_
      refine CWalk.block ?_
      refine CWalk.seq ?_
      obtain ⟨x11, hx11, hm⟩ := bind_some hm
      obtain ⟨x12, hx12, hm⟩ := bind_some hm
      obtain ⟨x13, hx13, hm⟩ := bind_some hm
      obtain ⟨x14, hx14, hm⟩ := bind_some hm
      obtain ⟨x15, hx15, hm⟩ := bind_some hm
      obtain ⟨x16, hx16, hm⟩ := bind_some hm
      refine CWalk.drawM [[], [0], [], [0, 1, 2], [0, 1, 2, 3], [0, 1, 2, 3, 4], [], [6], [], [6, 7, 8], [6, 7, 8, 9], [6, 7, 8, 9, 10], [0, 1, 2, 3, 4, 5, 6, 7, 8, 9, 10, 11], [0, 1, 2, 3, 4, 5, 6, 7, 8, 9, 10, 11, 12], [0, 1, 2, 3, 4, 5, 6, 7, 8, 9, 10, 11, 12, 13], [0, 1, 2, 3, 4, 5, 6, 7, 8, 9, 10, 11, 12, 13, 14], [0, 1, 2, 3, 4, 5, 6, 7, 8, 9, 10, 11, 12, 13], [0, 1, 2, 3, 4, 5, 6, 7, 8, 9, 10, 11, 12, 13, 14, 15, 16], [0, 1, 2, 3, 4, 5, 6, 7, 8, 9, 10, 11, 12, 13, 14, 15, 16, 17], [0, 1, 2, 3, 4, 5, 6, 7, 8, 9, 10, 11, 12, 13, 14, 15, 16, 17, 18], [0, 1, 2, 3, 4, 5, 6, 7, 8, 9, 10, 11, 12, 13, 14, 15, 16, 17, 18, 19], [0, 1, 2, 3, 4, 5, 6, 7, 8, 9, 10, 11, 12, 13, 14, 15, 16, 17, 18, 19, 20], [0, 1, 2, 3, 4, 5, 6, 7, 8, 9, 10, 11, 12, 13], [0, 1, 2, 3, 4, 5, 6, 7, 8, 9, 10, 11, 12, 13, 22], [0, 1, 2, 3, 4, 5, 6, 7, 8, 9, 10, 11, 12, 13], [0, 1, 2, 3, 4, 5, 6, 7, 8, 9, 10, 11, 12, 13, 22, 23, 24], [0, 1, 2, 3, 4, 5, 6, 7, 8, 9, 10, 11, 12, 13, 22, 23, 24, 25], [0, 1, 2, 3, 4, 5, 6, 7, 8, 9, 10, 11, 12, 13, 22, 23, 24, 25, 26], [0, 1, 2, 3, 4, 5, 6, 7, 8, 9, 10, 11, 12, 13, 14, 15, 16, 17, 18, 19, 20, 22, 23, 24, 25, 26, 27], [0, 1, 2, 3, 4, 5, 6, 7, 8, 9, 10, 11, 12, 13, 14, 15, 16, 17, 18, 19, 20, 22, 23, 24, 25, 26, 27, 28], [0, 1, 2, 3, 4, 5, 6, 7, 8, 9, 10, 11, 12, 13, 14, 15, 16, 17, 18, 19, 20, 21, 22, 23, 24, 25, 26, 27, 28, 29], [0, 1, 2, 3, 4, 5, 6, 7, 8, 9, 10, 11, 12, 13, 14, 15, 16, 17, 18, 19, 20, 21, 22, 23, 24, 25, 26, 27, 28, 29, 30]] [[.fact 59 (.pto 10 1)], [.fact 60 (.rep [0] a0.Wait)], [.fact 61 (.rep [] (s9 : Int))], [.fact 62 (.ptr [0] (x11 : Write))], [.fact 63 (.ptr [0] (x11.At : Int))], [.fact 64 (.rep [] x11.At)], [.fact 65 (.pto 14 1)], [.fact 66 (.rep [0] a1.Wait)], [.fact 67 (.rep [] (s9 : Int))], [.fact 68 (.ptr [0] (x12 : Write))], [.fact 69 (.ptr [0] (x12.At : Int))], [.fact 70 (.rep [] x12.At)], [.fact 71 (.rep [] ((x11.At != x12.At) : Bool))], [.fact 72 (.rep [] ((x11.At != x12.At) : Bool))], [.fact 73 (.under ((x11.At != x12.At) = false) (.pto 10 1))], [.fact 74 (.under ((x11.At != x12.At) = false) (.rep [0] a0.Wait))], [.fact 75 (.under ((x11.At != x12.At) = false) (.rep [] (s9 : Int)))], [.fact 76 (.under ((x11.At != x12.At) = false) (.ptr [0] (x13 : Write)))], [.fact 77 (.under ((x11.At != x12.At) = false) (.ptr [0] (x13.Data : List UInt8)))], [.fact 78 (.under ((x11.At != x12.At) = false) (.rep [0] x13.Data))], [.fact 79 (.under ((x11.At != x12.At) = false) (.ow [20] [] 5 (x14 : List UInt8)))], [.fact 80 (.under ((x11.At != x12.At) = false) (.rep [] ((Str.mk x14) : Str)))], [.fact 81 (.under ((x11.At != x12.At) = false) (.pto 14 1))], [.fact 82 (.under ((x11.At != x12.At) = false) (.rep [0] a1.Wait))], [.fact 83 (.under ((x11.At != x12.At) = false) (.rep [] (s9 : Int)))], [.fact 84 (.under ((x11.At != x12.At) = false) (.ptr [0] (x15 : Write)))], [.fact 85 (.under ((x11.At != x12.At) = false) (.ptr [0] (x15.Data : List UInt8)))], [.fact 86 (.under ((x11.At != x12.At) = false) (.rep [0] x15.Data))], [.fact 87 (.under ((x11.At != x12.At) = false) (.ow [21] [] 5 (x16 : List UInt8)))], [.fact 88 (.under ((x11.At != x12.At) = false) (.rep [] ((Str.mk x16) : Str)))], [.fact 89 (.under ((x11.At != x12.At) = false) (.rep [] ((!((Str.mk x14).s == (Str.mk x16).s)) : Bool)))], [.fact 90 (.rep [] (((x11.At != x12.At) || (!((Str.mk x14).s == (Str.mk x16).s))) : Bool))]] mixed (by kernel_rfl) (ao (so (Spec.fieldAddrO fd41_1 (Has.cv (Has.s rfl) (Cv.isvP rfl)))) (ao (so (Spec.loadF (i := 1) ty39 rfl (Has.s rfl) rfl (HasG.s rfl))) (ao (so (Spec.move (Has.s rfl))) (ao (so (Spec.indexAddr hx11 sl39 (Has.s rfl) (Has.s rfl))) (ao (so (Spec.fieldAddrP fd58_0 (chWrite x11) rfl (Has.s rfl))) (ao (so ((Spec.load ty3 (Has.s rfl)).flat (T' := []))) (ao (so (Spec.fieldAddrO fd41_1 (Has.cv (Has.s rfl) (Cv.isvP rfl)))) (ao (so (Spec.loadF (i := 1) ty39 rfl (Has.s rfl) rfl (HasG.s rfl))) (ao (so (Spec.move (Has.s rfl))) (ao (so (Spec.indexAddr hx12 sl39 (Has.s rfl) (Has.s rfl))) (ao (so (Spec.fieldAddrP fd58_0 (chWrite x12) rfl (Has.s rfl))) (ao (so ((Spec.load ty3 (Has.s rfl)).flat (T' := []))) (ao (so (Spec.neqI (Has.s rfl) (Has.s rfl))) (ao (so (Spec.move (Has.s rfl))) (ao (StepG.opg rfl rfl rfl (fun hb => Spec.fieldAddrO fd41_1 (Has.cv (Has.s rfl) (Cv.isvP rfl)))) (ao (StepG.opg rfl rfl rfl (fun hb => Spec.loadF (i := 1) ty39 rfl (Has.u rfl hb) rfl (HasG.s rfl))) (ao (StepG.opg rfl rfl rfl (fun hb => Spec.move (Has.s rfl))) (ao (StepG.opg rfl rfl rfl (fun hb => Spec.indexAddr (gO_t hx13 (not_t hb)) sl39 (Has.u rfl hb) (Has.u rfl hb))) (ao (StepG.opg rfl rfl rfl (fun hb => Spec.fieldAddrP fd58_1 (chWrite x13) rfl (Has.u rfl hb))) (ao (StepG.opg rfl rfl rfl (fun hb => Spec.load ty54 (Has.u rfl hb))) (ao (StepG.opg rfl rfl rfl (fun hb => Spec.callE [0] 20 rfl en41 (ref04_Full_c x13.Data (gO_t hx14 (not_t hb))) (HasAll.cons (Has.m (Has.u rfl hb) rfl) HasAll.nil))) (ao (StepG.opg rfl rfl rfl (fun hb => Spec.toStr Try.underlying54 Try.underlying5 Try.underlying9 (Has.cv (Has.u rfl hb) (Cv.trans Cv.owSl (Cv.slRep (T' := [20]) rfl rfl))))) (ao (StepG.opg rfl rfl rfl (fun hb => Spec.fieldAddrO fd41_1 (Has.cv (Has.s rfl) (Cv.isvP rfl)))) (ao (StepG.opg rfl rfl rfl (fun hb => Spec.loadF (i := 1) ty39 rfl (Has.u rfl hb) rfl (HasG.s rfl))) (ao (StepG.opg rfl rfl rfl (fun hb => Spec.move (Has.s rfl))) (ao (StepG.opg rfl rfl rfl (fun hb => Spec.indexAddr (gO_t hx15 (not_t hb)) sl39 (Has.u rfl hb) (Has.u rfl hb))) (ao (StepG.opg rfl rfl rfl (fun hb => Spec.fieldAddrP fd58_1 (chWrite x15) rfl (Has.u rfl hb))) (ao (StepG.opg rfl rfl rfl (fun hb => Spec.load ty54 (Has.u rfl hb))) (ao (StepG.opg rfl rfl rfl (fun hb => Spec.callE [0] 21 rfl en41 (ref04_Full_c x15.Data (gO_t hx16 (not_t hb))) (HasAll.cons (Has.m (Has.u rfl hb) rfl) HasAll.nil))) (ao (StepG.opg rfl rfl rfl (fun hb => Spec.toStr Try.underlying54 Try.underlying5 Try.underlying9 (Has.cv (Has.u rfl hb) (Cv.trans Cv.owSl (Cv.slRep (T' := [21]) rfl rfl))))) (ao (StepG.opg rfl rfl rfl (fun hb => Spec.neqS (Has.u rfl hb) (Has.u rfl hb))) (ao (so (Spec.or (Has.s rfl) (fun h => Has.u rfl h))) AllM.nil)))))))))))))))))))))))))))))))) ?_
      refine Leaf.thenN ?_
      refine CWalk.cond rfl (fun hb => ?_) (fun hb => ?_)
      ·have hm := cond_t hb hm
       refine CWalk.seq ?_
       refine CWalk.region ?_
       refine wo (Spec.assign Has.bool) ?_
       refine Walk.nil ?_
       refine Leaf.thenN ?_
       refine CWalk.ret ?_
       refine Leaf.blockR ?_
       refine Leaf.thenR ?_
       exact Leaf.brk hm (fun h => nomatch h) rfl (st Sub.nil)
      ·have hm := cond_f hb hm
       refine CWalk.skip ?_
       refine Leaf.blockN ?_
       refine Leaf.thenN ?_
       refine CWalk.region ?_
       refine mv ?_
       refine wo (Spec.addI (Has.s rfl) Has.int) ?_
       refine wo (Spec.assign (Has.s rfl)) ?_
       refine Walk.nil ?_
       exact Leaf.next hm (sn (sn (st (sm (sm (sf (sm (sm (sf (sn (sn Sub.nil)))))))))))
     ·have hm := cond_f hb hm
      refine CWalk.exit ?_
      refine Leaf.thenE ?_
      exact Leaf.brk hm (fun h => nomatch h) rfl (Sub.nil)
    ·intro _
     rcases b17 with b18 | b19
     ·have hm := selim_l hm
      refine Leaf.blockE ?_
      refine Leaf.thenN ?_
      refine CWalk.seq ?_
      refine CWalk.region ?_
      refine wo (Spec.assign Has.bool) ?_
      refine Walk.nil ?_
      refine Leaf.thenN ?_
      refine CWalk.ret ?_
      obtain rfl := Option.some.inj hm
      exact Leaf.retC1 rfl (HasR.cv (HasR.tmp (Has.s rfl)) Cv.fl)
     ·have hm := selim_r hm
      refine Leaf.blockR ?_
      refine Leaf.thenR ?_
      obtain rfl := Option.some.inj hm
      exact Leaf.retC1 rfl (HasR.cv (HasR.tmp (Has.s rfl)) Cv.fl)
   ·have hm := selim_r hm
    refine Leaf.blockR ?_
    refine Leaf.thenR ?_
    obtain rfl := Option.some.inj hm
    exact Leaf.retC1 rfl (HasR.cv (HasR.tmp (Has.s rfl)) Cv.fl)

def ref05_SameDisks_L1 (a0 : List Disk) (a1 : List Disk) (s1 : Int) : Option (Ctl (Int) ((Unit) ⊕ (Unit))) :=
  (bif (decide (s1 < ((a0).length : Int))) then Option.bind (idx a0 s1) (fun x3 => Option.bind (idx a1 s1) (fun x4 => Option.bind (ref04_Same x3 x4) (fun x5 => (bif (!x5) then some (Ctl.brk (Sum.inr ())) else some (Ctl.next (wI (s1 + (1 : Int)))))))) else some (Ctl.brk (Sum.inl ())))
/-- freeboard/freeboardref05.SameDisks -/
def ref05_SameDisks (a0 : List Disk) (a1 : List Disk) : Option (Bool) :=
  (bif (((a0).length : Int) != ((a1).length : Int)) then some false else Option.bind (loopM (fun s : Int => ref05_SameDisks_L1 a0 a1 s) FUEL (0 : Int)) (fun b6 => Sum.elim (fun b7 => some true) (fun b8 => some false) b6))
set_option maxRecDepth 100000 in
set_option maxHeartbeats 2000000 in
theorem ref05_SameDisks_c (a0 : List Disk) (a1 : List Disk) {r : Bool} (hm : ref05_SameDisks a0 a1 = some r) : Ctr Try.prog 15 [.rep 0 a0, .rep 0 a1] (.fl r) [] := by
 refine ctr_of_walk [[]] 27 Try.func15 rfl rfl rfl rfl (fun w0 om => ?_)
 unfold ref05_SameDisks at hm
 refine CWalk.sub (G' := [.fact 0 (.rep [0] (a0 : List Disk)), .fact 1 (.rep [0] (a1 : List Disk))]) (sn (sn Sub.nil)) ?_
 refine CWalk.seq ?_
 refine CWalk.region ?_
 refine wo (Spec.assign Has.bool) ?_
 refine Walk.nil ?_
 refine Leaf.thenN ?_
 refine CWalk.seq ?_
 refine CWalk.seq ?_
 refine CWalk.region ?_
 refine mv ?_
 refine wo (Spec.len (Has.s rfl) Try.underlying22) ?_
 refine mv ?_
 refine wo (Spec.len (Has.s rfl) Try.underlying22) ?_
 refine wo (Spec.neqI (Has.s rfl) (Has.s rfl)) ?_
 refine Walk.nil ?_
 refine Leaf.thenN ?_
 refine CWalk.cond rfl (fun hb => ?_) (fun hb => ?_)
 ·have hm := cond_t hb hm
  refine CWalk.seq ?_
  refine CWalk.region ?_
  refine wo (Spec.assign Has.bool) ?_
  refine Walk.nil ?_
  refine Leaf.thenN ?_
  refine CWalk.ret ?_
  refine Leaf.thenR ?_
  obtain rfl := Option.some.inj hm
  exact Leaf.retC1 rfl (HasR.cv (HasR.tmp (Has.s rfl)) Cv.fl)
 ·have hm := cond_f hb hm
  refine CWalk.skip ?_
  refine Leaf.thenN ?_
  refine CWalk.seq ?_
  refine CWalk.seq ?_
  refine CWalk.region ?_
  refine wo (Spec.assign Has.int) ?_
  refine Walk.nil ?_
  refine Leaf.thenN ?_
  refine CWalk.block ?_
  obtain ⟨b6, hb6, hm⟩ := bind_some hm
  refine CWalk.loop (fun s : Int => [.fact 0 (.rep [0] (a0 : List Disk)), .fact 1 (.rep [0] (a1 : List Disk)), .fact 5 (.rep [] (s : Int))]) (fun b : (Unit) ⊕ (Unit) => Sum.elim (fun b => (Exit.exit 0, [])) (fun b => (Exit.ret, [.fact 4 (.rep [] (false : Bool))])) b) hb6 (su (su (st Sub.nil))) ?_ ?_
  ·rintro s1 c2 hm
   replace hm : ref05_SameDisks_L1 a0 a1 s1 = some c2 := hm
   unfold ref05_SameDisks_L1 at hm
   show CWalk _ [.fact 0 (.rep [0] (a0 : List Disk)), .fact 1 (.rep [0] (a1 : List Disk)), .fact 5 (.rep [] (s1 : Int))] _ _
   refine CWalk.seq ?_
   refine CWalk.seq ?_
   refine CWalk.region ?_
   refine mv ?_
   refine mv ?_
   refine wo (Spec.len (Has.s rfl) Try.underlying22) ?_
   refine wo (Spec.lssI (Has.s rfl) (Has.s rfl)) ?_
   refine Walk.nil ?_
   refine Leaf.thenN ?_
   refine CWalk.cond rfl (fun hb => ?_) (fun hb => ?_)
   ·have hm := cond_t hb hm
    refine CWalk.skip ?_
    refine Leaf.thenN ?_
    refine CWalk.seq ?_
    refine CWalk.block ?_
    refine CWalk.seq ?_
    obtain ⟨x3, hx3, hm⟩ := bind_some hm
    obtain ⟨x4, hx4, hm⟩ := bind_some hm
    obtain ⟨x5, hx5, hm⟩ := bind_some hm
    refine CWalk.drawM [[], [], [0, 1], [0, 1, 2], [], [], [4, 5], [4, 5, 6], [0, 1, 2, 3, 4, 5, 6, 7], [0, 1, 2, 3, 4, 5, 6, 7, 8]] [[.fact 17 (.rep [0] (a0 : List Disk))], [.fact 18 (.rep [] (s1 : Int))], [.fact 19 (.ptr [0] (x3 : Disk))], [.fact 20 (.rep [0] (x3 : Disk))], [.fact 21 (.rep [0] (a1 : List Disk))], [.fact 22 (.rep [] (s1 : Int))], [.fact 23 (.ptr [0] (x4 : Disk))], [.fact 24 (.rep [0] (x4 : Disk))], [.fact 25 (.rep [] (x5 : Bool))], [.fact 26 (.rep [] ((!x5) : Bool))]] mixed (by kernel_rfl) (ao (so (Spec.move (Has.s rfl))) (ao (so (Spec.move (Has.s rfl))) (ao (so (Spec.indexAddr hx3 sl22 (Has.s rfl) (Has.s rfl))) (ao (so (Spec.load ty41 (Has.s rfl))) (ao (so (Spec.move (Has.s rfl))) (ao (so (Spec.move (Has.s rfl))) (ao (so (Spec.indexAddr hx4 sl22 (Has.s rfl) (Has.s rfl))) (ao (so (Spec.load ty41 (Has.s rfl))) (ao (so (Spec.callE [0] 10 rfl en17 (ref04_Same_c x3 x4 hx5) (HasAll.cons (Has.m (Has.s rfl) rfl) (HasAll.cons (Has.m (Has.s rfl) rfl) HasAll.nil)))) (ao (so (Spec.not (Has.s rfl))) AllM.nil)))))))))) ?_
    refine Leaf.thenN ?_
    refine CWalk.cond rfl (fun hb => ?_) (fun hb => ?_)
    ·have hm := cond_t hb hm
     refine CWalk.seq ?_
     refine CWalk.region ?_
     refine wo (Spec.assign Has.bool) ?_
     refine Walk.nil ?_
     refine Leaf.thenN ?_
     refine CWalk.ret ?_
     refine Leaf.blockR ?_
     refine Leaf.thenR ?_
     exact Leaf.brk hm (fun h => nomatch h) rfl (st Sub.nil)
    ·have hm := cond_f hb hm
     refine CWalk.skip ?_
     refine Leaf.blockN ?_
     refine Leaf.thenN ?_
     refine CWalk.region ?_
     refine mv ?_
     refine wo (Spec.addI (Has.s rfl) Has.int) ?_
     refine wo (Spec.assign (Has.s rfl)) ?_
     refine Walk.nil ?_
     exact Leaf.next hm (su (su (st Sub.nil)))
   ·have hm := cond_f hb hm
    refine CWalk.exit ?_
    refine Leaf.thenE ?_
    exact Leaf.brk hm (fun h => nomatch h) rfl (Sub.nil)
  ·intro _
   rcases b6 with b7 | b8
   ·have hm := selim_l hm
    refine Leaf.blockE ?_
    refine Leaf.thenN ?_
    refine CWalk.seq ?_
    refine CWalk.region ?_
    refine wo (Spec.assign Has.bool) ?_
    refine Walk.nil ?_
    refine Leaf.thenN ?_
    refine CWalk.ret ?_
    obtain rfl := Option.some.inj hm
    exact Leaf.retC1 rfl (HasR.cv (HasR.tmp (Has.s rfl)) Cv.fl)
   ·have hm := selim_r hm
    refine Leaf.blockR ?_
    refine Leaf.thenR ?_
    obtain rfl := Option.some.inj hm
    exact Leaf.retC1 rfl (HasR.cv (HasR.tmp (Has.s rfl)) Cv.fl)

def slices_EqualFunc_api_Act_api_Act_api_Act_api_Act_L1 (a0 : List Act64) (a1 : List Act64) (a2 : (Act64 × Act64) → Option Bool) (s1 : Int) : Option (Ctl (Int) ((Unit) ⊕ (Unit))) :=
  (bif (decide (s1 < ((a0).length : Int))) then Option.bind (idx a0 s1) (fun x3 => Option.bind (idx a1 s1) (fun x4 => Option.bind (a2 (x3, x4)) (fun x5 => (bif (!x5) then some (Ctl.brk (Sum.inr ())) else some (Ctl.next (wI (s1 + (1 : Int)))))))) else some (Ctl.brk (Sum.inl ())))
/-- slices.EqualFunc[[]freeboard/api.Act,[]freeboard/api.Act,freeboard/api.Act,freeboard/api.Act] -/
def slices_EqualFunc_api_Act_api_Act_api_Act_api_Act (a0 : List Act64) (a1 : List Act64) (a2 : (Act64 × Act64) → Option Bool) : Option (Bool) :=
  (bif (((a0).length : Int) != ((a1).length : Int)) then some false else Option.bind (loopM (fun s : Int => slices_EqualFunc_api_Act_api_Act_api_Act_api_Act_L1 a0 a1 a2 s) FUEL (0 : Int)) (fun b6 => Sum.elim (fun b7 => some true) (fun b8 => some false) b6))
set_option maxRecDepth 100000 in
set_option maxHeartbeats 2000000 in
theorem slices_EqualFunc_api_Act_api_Act_api_Act_api_Act_c (a0 : List Act64) (a1 : List Act64) (a2 : (Act64 × Act64) → Option Bool) {r : Bool} (hm : slices_EqualFunc_api_Act_api_Act_api_Act_api_Act a0 a1 a2 = some r) : Ctr Try.prog 46 [.rep 0 a0, .rep 0 a1, .fn Try.prog pre2 0 a2] (.fl r) [] := by
 refine ctr_of_walk [[]] 32 Try.func46 rfl rfl rfl rfl (fun w0 om => ?_)
 unfold slices_EqualFunc_api_Act_api_Act_api_Act_api_Act at hm
 refine CWalk.sub (G' := [.fact 0 (.rep [0] (a0 : List Act64)), .fact 1 (.rep [0] (a1 : List Act64)), .fact 2 (.fn Try.prog pre2 [0] (a2))]) (sn (sn (sn Sub.nil))) ?_
 refine CWalk.seq ?_
 refine CWalk.region ?_
 refine wo (Spec.assign Has.bool) ?_
 refine Walk.nil ?_
 refine Leaf.thenN ?_
 refine CWalk.seq ?_
 refine CWalk.seq ?_
 refine CWalk.region ?_
 refine mv ?_
 refine wo (Spec.len (Has.s rfl) Try.underlying43) ?_
 refine mv ?_
 refine wo (Spec.len (Has.s rfl) Try.underlying43) ?_
 refine wo (Spec.neqI (Has.s rfl) (Has.s rfl)) ?_
 refine Walk.nil ?_
 refine Leaf.thenN ?_
 refine CWalk.cond rfl (fun hb => ?_) (fun hb => ?_)
 ·have hm := cond_t hb hm
  refine CWalk.seq ?_
  refine CWalk.region ?_
  refine wo (Spec.assign Has.bool) ?_
  refine Walk.nil ?_
  refine Leaf.thenN ?_
  refine CWalk.ret ?_
  refine Leaf.thenR ?_
  obtain rfl := Option.some.inj hm
  exact Leaf.retC1 rfl (HasR.cv (HasR.tmp (Has.s rfl)) Cv.fl)
 ·have hm := cond_f hb hm
  refine CWalk.skip ?_
  refine Leaf.thenN ?_
  refine CWalk.seq ?_
  refine CWalk.seq ?_
  refine CWalk.region ?_
  refine mv ?_
  refine wo (Spec.len (Has.s rfl) Try.underlying43) ?_
  refine wo (Spec.move Has.int) ?_
  refine Walk.nil ?_
  refine Leaf.thenN ?_
  refine CWalk.block ?_
  obtain ⟨b6, hb6, hm⟩ := bind_some hm
  refine CWalk.loop (fun s : Int => [.fact 1 (.rep [0] (a1 : List Act64)), .fact 2 (.fn Try.prog pre2 [0] (a2)), .fact 15 (.rep [0] (a0 : List Act64)), .fact 16 (.rep [] (((a0).length : Int) : Int)), .fact 17 (.rep [] (s : Int))]) (fun b : (Unit) ⊕ (Unit) => Sum.elim (fun b => (Exit.exit 0, [])) (fun b => (Exit.ret, [.fact 6 (.rep [] (false : Bool))])) b) hb6 (su (sn (su (st (st Sub.nil))))) ?_ ?_
  ·rintro s1 c2 hm
   replace hm : slices_EqualFunc_api_Act_api_Act_api_Act_api_Act_L1 a0 a1 a2 s1 = some c2 := hm
   unfold slices_EqualFunc_api_Act_api_Act_api_Act_api_Act_L1 at hm
   show CWalk _ [.fact 1 (.rep [0] (a1 : List Act64)), .fact 2 (.fn Try.prog pre2 [0] (a2)), .fact 15 (.rep [0] (a0 : List Act64)), .fact 16 (.rep [] (((a0).length : Int) : Int)), .fact 17 (.rep [] (s1 : Int))] _ _
   refine CWalk.seq ?_
   refine CWalk.region ?_
   refine wo (Spec.lssI (Has.s rfl) (Has.s rfl)) ?_
   refine Walk.nil ?_
   refine Leaf.thenN ?_
   refine CWalk.seq ?_
   refine CWalk.cond rfl (fun hb => ?_) (fun hb => ?_)
   ·have hm := cond_t hb hm
    refine CWalk.skip ?_
    refine Leaf.thenN ?_
    refine CWalk.seq ?_
    refine CWalk.block ?_
    refine CWalk.seq ?_
    refine CWalk.region ?_
    refine mv ?_
    obtain ⟨x3, hx3, hm⟩ := bind_some hm
    refine wo (Spec.indexAddr hx3 sl43 (Has.s rfl) (Has.s rfl)) ?_
    refine wo (Spec.load ty64 (Has.s rfl)) ?_
    refine ws (Step.allocObj (ls := [(false, 1, Fact.rep [] ((0 : Int) : Int)), (false, 1, Fact.rep [] ((0 : UInt8) : UInt8)), (false, 1, Fact.rep [] ((0 : Int) : Int)), (false, 1, Fact.nilv)]) 10 rfl rfl rfl rfl zl64) ?_
    refine wo (Spec.assign (Has.s rfl)) ?_
    refine ws (Step.storeObj (ls := [(false, 1, Fact.rep [] x3.Disk), (false, 1, Fact.rep [] x3.Kind), (false, 1, Fact.rep [] x3.At), (false, 1, Fact.rep [0] x3.Data)]) rfl ty64 rfl rfl (Has.s rfl) rfl (HasL.flds (Has.cv (Has.s rfl) (Cv.trans (Cv.opens (chAct64 x3)) (Cv.flds (CvL.cons Cv.fl (CvL.cons Cv.fl (CvL.cons Cv.fl (CvL.cons Cv.refl CvL.nil)))))))) rfl) ?_
    refine Walk.nil ?_
    refine Leaf.thenN ?_
    refine CWalk.seq ?_
    refine CWalk.region ?_
    refine mv ?_
    refine mv ?_
    obtain ⟨x4, hx4, hm⟩ := bind_some hm
    refine wo (Spec.indexAddr hx4 sl43 (Has.s rfl) (Has.s rfl)) ?_
    refine wo (Spec.load ty64 (Has.s rfl)) ?_
    refine ws (Step.allocObj (ls := [(false, 1, Fact.rep [] ((0 : Int) : Int)), (false, 1, Fact.rep [] ((0 : UInt8) : UInt8)), (false, 1, Fact.rep [] ((0 : Int) : Int)), (false, 1, Fact.nilv)]) 15 rfl rfl rfl rfl zl64) ?_
    refine ws (Step.storeObj (ls := [(false, 1, Fact.rep [] x4.Disk), (false, 1, Fact.rep [] x4.Kind), (false, 1, Fact.rep [] x4.At), (false, 1, Fact.rep [0] x4.Data)]) rfl ty64 rfl rfl (Has.s rfl) rfl (HasL.flds (Has.cv (Has.s rfl) (Cv.trans (Cv.opens (chAct64 x4)) (Cv.flds (CvL.cons Cv.fl (CvL.cons Cv.fl (CvL.cons Cv.fl (CvL.cons Cv.refl CvL.nil)))))))) rfl) ?_
    refine Walk.nil ?_
    refine Leaf.thenN ?_
    refine CWalk.seq ?_
    refine CWalk.region ?_
    refine mv ?_
    refine wo (Spec.loadObj (ls := [(false, 1, Fact.rep [] x3.Disk), (false, 1, Fact.rep [] x3.Kind), (false, 1, Fact.rep [] x3.At), (false, 1, Fact.rep [0] x3.Data)]) ty64 rfl rfl (Has.s rfl) rfl (HasGs.cons (HasG.s rfl) (HasGs.cons (HasG.s rfl) (HasGs.cons (HasG.s rfl) (HasGs.cons (HasG.s rfl) HasGs.nil))))) ?_
    refine wo (Spec.loadObj (ls := [(false, 1, Fact.rep [] x4.Disk), (false, 1, Fact.rep [] x4.Kind), (false, 1, Fact.rep [] x4.At), (false, 1, Fact.rep [0] x4.Data)]) ty64 rfl rfl (Has.s rfl) rfl (HasGs.cons (HasG.s rfl) (HasGs.cons (HasG.s rfl) (HasGs.cons (HasG.s rfl) (HasGs.cons (HasG.s rfl) HasGs.nil))))) ?_
    obtain ⟨x5, hx5, hm⟩ := bind_some hm
    refine wo (Spec.callFn (xs := [.tmp 27, .tmp 28]) (x := (x3, x4)) [0] 20 rfl hx5 (Has.s rfl) (HasAll.cons (Has.m (Has.cv (Has.s rfl) (Cv.trans (Cv.flds (CvL.cons Cv.fl (CvL.cons Cv.fl (CvL.cons Cv.fl (CvL.cons (Cv.m rfl) CvL.nil))))) (Cv.close (T := [0]) (chAct64 x3)))) rfl) (HasAll.cons (Has.m (Has.cv (Has.s rfl) (Cv.trans (Cv.flds (CvL.cons Cv.fl (CvL.cons Cv.fl (CvL.cons Cv.fl (CvL.cons (Cv.m rfl) CvL.nil))))) (Cv.close (T := [0]) (chAct64 x4)))) rfl) HasAll.nil))) ?_
    refine wo (Spec.not (Has.s rfl)) ?_
    refine Walk.nil ?_
    refine Leaf.thenN ?_
    refine CWalk.cond rfl (fun hb => ?_) (fun hb => ?_)
    ·have hm := cond_t hb hm
     refine CWalk.seq ?_
     refine CWalk.region ?_
     refine wo (Spec.assign Has.bool) ?_
     refine Walk.nil ?_
     refine Leaf.thenN ?_
     refine CWalk.ret ?_
     refine Leaf.blockR ?_
     refine Leaf.thenR ?_
     exact Leaf.brk hm (fun h => nomatch h) rfl (st Sub.nil)
    ·have hm := cond_f hb hm
     refine CWalk.skip ?_
     refine Leaf.blockN ?_
     refine Leaf.thenN ?_
     refine CWalk.region ?_
     refine wo (Spec.addI (Has.s rfl) Has.int) ?_
     refine mv ?_
     refine Walk.nil ?_
     exact Leaf.next hm (su (sn (su (st (st Sub.nil)))))
   ·have hm := cond_f hb hm
    refine CWalk.exit ?_
    refine Leaf.thenE ?_
    exact Leaf.brk hm (fun h => nomatch h) rfl (Sub.nil)
  ·intro _
   rcases b6 with b7 | b8
   ·have hm := selim_l hm
    refine Leaf.blockE ?_
    refine Leaf.thenN ?_
    refine CWalk.seq ?_
    refine CWalk.region ?_
    refine wo (Spec.assign Has.bool) ?_
    refine Walk.nil ?_
    refine Leaf.thenN ?_
    refine CWalk.ret ?_
    obtain rfl := Option.some.inj hm
    exact Leaf.retC1 rfl (HasR.cv (HasR.tmp (Has.s rfl)) Cv.fl)
   ·have hm := selim_r hm
    refine Leaf.blockR ?_
    refine Leaf.thenR ?_
    obtain rfl := Option.some.inj hm
    exact Leaf.retC1 rfl (HasR.cv (HasR.tmp (Has.s rfl)) Cv.fl)

/-- bytes.Equal -/
def bytes_Equal (a0 : List UInt8) (a1 : List UInt8) : Option (Bool) :=
  some ((Str.mk a0).s == (Str.mk a1).s)
set_option maxRecDepth 100000 in
set_option maxHeartbeats 2000000 in
theorem bytes_Equal_c (a0 : List UInt8) (a1 : List UInt8) {r : Bool} (hm : bytes_Equal a0 a1 = some r) : Ctr Try.prog 48 [.rep 0 a0, .rep 0 a1] (.fl r) [] := by
 refine ctr_of_walk [[]] 10 Try.func48 rfl rfl rfl rfl (fun w0 om => ?_)
 unfold bytes_Equal at hm
 refine CWalk.sub (G' := [.fact 0 (.rep [0] (a0 : List UInt8)), .fact 1 (.rep [0] (a1 : List UInt8))]) (sn (sn Sub.nil)) ?_
 refine CWalk.seq ?_
 refine CWalk.region ?_
 refine wo (Spec.assign Has.bool) ?_
 refine Walk.nil ?_
 refine Leaf.thenN ?_
 refine CWalk.seq ?_
 refine CWalk.region ?_
 refine mv ?_
 refine wo (Spec.toStr Try.underlying54 Try.underlying5 Try.underlying9 (Has.s rfl)) ?_
 refine mv ?_
 refine wo (Spec.toStr Try.underlying54 Try.underlying5 Try.underlying9 (Has.s rfl)) ?_
 refine wo (Spec.eqlS (Has.s rfl) (Has.s rfl)) ?_
 refine wo (Spec.assign (Has.s rfl)) ?_
 refine Walk.nil ?_
 refine Leaf.thenN ?_
 refine CWalk.ret ?_
 obtain rfl := Option.some.inj hm
 exact Leaf.retC1 rfl (HasR.cv (HasR.tmp (Has.s rfl)) Cv.fl)

/-- freeboard/acts.Same$1 -/
def acts_Same_1 (a0 : Act64) (a1 : Act64) : Option (Bool) :=
  Option.bind (gO ((((a0.Disk == a1.Disk) && (a0.Kind == a1.Kind)) && (a0.At == a1.At))) (bytes_Equal a0.Data a1.Data)) (fun x1 => some ((((a0.Disk == a1.Disk) && (a0.Kind == a1.Kind)) && (a0.At == a1.At)) && x1))
set_option maxRecDepth 100000 in
set_option maxHeartbeats 2000000 in
theorem acts_Same_1_c (a0 : Act64) (a1 : Act64) {r : Bool} (hm : acts_Same_1 a0 a1 = some r) : Ctr Try.prog 47 [.rep 0 a0, .rep 0 a1] (.fl r) [] := by
 refine ctr_of_walk [[]] 31 Try.func47 rfl rfl rfl rfl (fun w0 om => ?_)
 unfold acts_Same_1 at hm
 refine CWalk.sub (G' := [.fact 0 (.rep [0] (a0 : Act64)), .fact 1 (.rep [0] (a1 : Act64))]) (sn (sn Sub.nil)) ?_
 refine CWalk.seq ?_
 refine CWalk.region ?_
 refine ws (Step.boxObj (ls := [(false, 1, Fact.rep [] a0.Disk), (false, 1, Fact.rep [] a0.Kind), (false, 1, Fact.rep [] a0.At), (false, 1, Fact.rep [0] a0.Data)]) 10 rfl rfl rfl rfl (HasL.flds (Has.cv (Has.s rfl) (Cv.trans (Cv.opens (chAct64 a0)) (Cv.flds (CvL.cons Cv.fl (CvL.cons Cv.fl (CvL.cons Cv.fl (CvL.cons Cv.refl CvL.nil))))))))) ?_
 refine ws (Step.boxObj (ls := [(false, 1, Fact.rep [] a1.Disk), (false, 1, Fact.rep [] a1.Kind), (false, 1, Fact.rep [] a1.At), (false, 1, Fact.rep [0] a1.Data)]) 15 rfl rfl rfl rfl (HasL.flds (Has.cv (Has.s rfl) (Cv.trans (Cv.opens (chAct64 a1)) (Cv.flds (CvL.cons Cv.fl (CvL.cons Cv.fl (CvL.cons Cv.fl (CvL.cons Cv.refl CvL.nil))))))))) ?_
 refine wo (Spec.assign Has.bool) ?_
 refine Walk.nil ?_
 refine Leaf.thenN ?_
 refine CWalk.seq ?_
 refine CWalk.region ?_
 refine wo (Spec.fieldAddrO fd64_0 (Has.cv (Has.s rfl) (Cv.isvP rfl))) ?_
 refine wo (Spec.loadF (i := 0) ty3 rfl (Has.s rfl) rfl (HasG.s rfl)) ?_
 refine wo (Spec.fieldAddrO fd64_0 (Has.cv (Has.s rfl) (Cv.isvP rfl))) ?_
 refine wo (Spec.loadF (i := 0) ty3 rfl (Has.s rfl) rfl (HasG.s rfl)) ?_
 refine wo (Spec.eqlI (Has.s rfl) (Has.s rfl)) ?_
 refine mv ?_
 refine wg rfl rfl (fun hb => Spec.fieldAddrO fd64_1 (Has.cv (Has.s rfl) (Cv.isvP rfl))) ?_
 refine wg rfl rfl (fun hb => Spec.loadF (i := 1) ty5 rfl (Has.u rfl hb) rfl (HasG.s rfl)) ?_
 refine wg rfl rfl (fun hb => Spec.fieldAddrO fd64_1 (Has.cv (Has.s rfl) (Cv.isvP rfl))) ?_
 refine wg rfl rfl (fun hb => Spec.loadF (i := 1) ty5 rfl (Has.u rfl hb) rfl (HasG.s rfl)) ?_
 refine wg rfl rfl (fun hb => Spec.eqlB (Has.u rfl hb) (Has.u rfl hb)) ?_
 refine wo (Spec.and (Has.s rfl) (fun h => Has.u rfl h)) ?_
 refine mv ?_
 refine wg rfl rfl (fun hb => Spec.fieldAddrO fd64_2 (Has.cv (Has.s rfl) (Cv.isvP rfl))) ?_
 refine wg rfl rfl (fun hb => Spec.loadF (i := 2) ty3 rfl (Has.u rfl hb) rfl (HasG.s rfl)) ?_
 refine wg rfl rfl (fun hb => Spec.fieldAddrO fd64_2 (Has.cv (Has.s rfl) (Cv.isvP rfl))) ?_
 refine wg rfl rfl (fun hb => Spec.loadF (i := 2) ty3 rfl (Has.u rfl hb) rfl (HasG.s rfl)) ?_
 refine wg rfl rfl (fun hb => Spec.eqlI (Has.u rfl hb) (Has.u rfl hb)) ?_
 refine wo (Spec.and (Has.s rfl) (fun h => Has.u rfl h)) ?_
 refine mv ?_
 refine wg rfl rfl (fun hb => Spec.fieldAddrO fd64_3 (Has.cv (Has.s rfl) (Cv.isvP rfl))) ?_
 refine wg rfl rfl (fun hb => Spec.loadF (i := 3) ty54 rfl (Has.u rfl hb) rfl (HasG.s rfl)) ?_
 refine wg rfl rfl (fun hb => Spec.fieldAddrO fd64_3 (Has.cv (Has.s rfl) (Cv.isvP rfl))) ?_
 refine wg rfl rfl (fun hb => Spec.loadF (i := 3) ty54 rfl (Has.u rfl hb) rfl (HasG.s rfl)) ?_
 obtain ⟨x1, hx1, hm⟩ := bind_some hm
 refine wg (f := Fact.rep [] (x1 : Bool)) rfl rfl (fun hb => Spec.callE [0] 20 rfl en48 (bytes_Equal_c a0.Data a1.Data (gO_t hx1 hb)) (HasAll.cons (Has.m (Has.u rfl hb) rfl) (HasAll.cons (Has.m (Has.u rfl hb) rfl) HasAll.nil))) ?_
 refine wo (Spec.and (Has.s rfl) (fun h => Has.u rfl h)) ?_
 refine wo (Spec.assign (Has.s rfl)) ?_
 refine Walk.nil ?_
 refine Leaf.thenN ?_
 refine CWalk.ret ?_
 obtain rfl := Option.some.inj hm
 exact Leaf.retC1 rfl (HasR.cv (HasR.tmp (Has.s rfl)) Cv.fl)

/-- freeboard/acts.Same -/
def acts_Same (a0 : List Act64) (a1 : List Act64) : Option (Bool) :=
  Option.bind (slices_EqualFunc_api_Act_api_Act_api_Act_api_Act a0 a1 (fun y => acts_Same_1 y.1 y.2)) (fun x1 => some x1)
set_option maxRecDepth 100000 in
set_option maxHeartbeats 2000000 in
theorem acts_Same_c (a0 : List Act64) (a1 : List Act64) {r : Bool} (hm : acts_Same a0 a1 = some r) : Ctr Try.prog 24 [.rep 0 a0, .rep 0 a1] (.fl r) [] := by
 refine ctr_of_walk [[]] 8 Try.func24 rfl rfl rfl rfl (fun w0 om => ?_)
 unfold acts_Same at hm
 refine CWalk.sub (G' := [.fact 0 (.rep [0] (a0 : List Act64)), .fact 1 (.rep [0] (a1 : List Act64))]) (sn (sn Sub.nil)) ?_
 refine CWalk.seq ?_
 refine CWalk.region ?_
 refine wo (Spec.assign Has.bool) ?_
 refine Walk.nil ?_
 refine Leaf.thenN ?_
 refine CWalk.seq ?_
 refine CWalk.region ?_
 refine mv ?_
 refine mv ?_
 obtain ⟨x1, hx1, hm⟩ := bind_some hm
 refine wo (f := Fact.rep [] (x1 : Bool)) (Spec.callE [0] 10 rfl en46 (slices_EqualFunc_api_Act_api_Act_api_Act_api_Act_c a0 a1 (fun y => acts_Same_1 y.1 y.2) hx1) (HasAll.cons (Has.m (Has.s rfl) rfl) (HasAll.cons (Has.m (Has.s rfl) rfl) (HasAll.cons (Has.cv Has.func (Cv.fn (pu := []) (pc := []) (shc := []) en47 CvF.nil CvF.nil (fun y r h => acts_Same_1_c y.1 y.2 h))) HasAll.nil)))) ?_
 refine wo (Spec.assign (Has.s rfl)) ?_
 refine Walk.nil ?_
 refine Leaf.thenN ?_
 refine CWalk.ret ?_
 obtain rfl := Option.some.inj hm
 exact Leaf.retC1 rfl (HasR.cv (HasR.tmp (Has.s rfl)) Cv.fl)

def ref05_Same_L1 (a0 : List Act64) (a1 : List Act64) (s1 : Int) : Option (Ctl (Int) ((Unit) ⊕ (Unit))) :=
  (bif (decide (s1 < ((a0).length : Int))) then Option.bind (idx a0 s1) (fun x3 => Option.bind (idx a1 s1) (fun x4 => Option.bind (gO (!(x3.Disk != x4.Disk)) (idx a0 s1)) (fun x5 => Option.bind (gO (!(x3.Disk != x4.Disk)) (idx a1 s1)) (fun x6 => Option.bind (gO (!((x3.Disk != x4.Disk) || (x5.Kind != x6.Kind))) (idx a0 s1)) (fun x7 => Option.bind (gO (!((x3.Disk != x4.Disk) || (x5.Kind != x6.Kind))) (idx a1 s1)) (fun x8 => Option.bind (gO (!(((x3.Disk != x4.Disk) || (x5.Kind != x6.Kind)) || (x7.At != x8.At))) (idx a0 s1)) (fun x9 => Option.bind (gO (!(((x3.Disk != x4.Disk) || (x5.Kind != x6.Kind)) || (x7.At != x8.At))) (idx a1 s1)) (fun x10 => (bif ((((x3.Disk != x4.Disk) || (x5.Kind != x6.Kind)) || (x7.At != x8.At)) || (!((Str.mk x9.Data).s == (Str.mk x10.Data).s))) then some (Ctl.brk (Sum.inr ())) else some (Ctl.next (wI (s1 + (1 : Int))))))))))))) else some (Ctl.brk (Sum.inl ())))
/-- freeboard/freeboardref05.Same -/
def ref05_Same (a0 : List Act64) (a1 : List Act64) : Option (Bool) :=
  (bif (((a0).length : Int) != ((a1).length : Int)) then some false else Option.bind (loopM (fun s : Int => ref05_Same_L1 a0 a1 s) FUEL (0 : Int)) (fun b11 => Sum.elim (fun b12 => some true) (fun b13 => some false) b11))
set_option maxRecDepth 100000 in
set_option maxHeartbeats 2000000 in
theorem ref05_Same_c (a0 : List Act64) (a1 : List Act64) {r : Bool} (hm : ref05_Same a0 a1 = some r) : Ctr Try.prog 25 [.rep 0 a0, .rep 0 a1] (.fl r) [] := by
 refine ctr_of_walk [[]] 69 Try.func25 rfl rfl rfl rfl (fun w0 om => ?_)
 unfold ref05_Same at hm
 refine CWalk.sub (G' := [.fact 0 (.rep [0] (a0 : List Act64)), .fact 1 (.rep [0] (a1 : List Act64))]) (sn (sn Sub.nil)) ?_
 refine CWalk.seq ?_
 refine CWalk.region ?_
 refine wo (Spec.assign Has.bool) ?_
 refine Walk.nil ?_
 refine Leaf.thenN ?_
 refine CWalk.seq ?_
 refine CWalk.seq ?_
 refine CWalk.region ?_
 refine mv ?_
 refine wo (Spec.len (Has.s rfl) Try.underlying43) ?_
 refine mv ?_
 refine wo (Spec.len (Has.s rfl) Try.underlying43) ?_
 refine wo (Spec.neqI (Has.s rfl) (Has.s rfl)) ?_
 refine Walk.nil ?_
 refine Leaf.thenN ?_
 refine CWalk.cond rfl (fun hb => ?_) (fun hb => ?_)
 ·have hm := cond_t hb hm
  refine CWalk.seq ?_
  refine CWalk.region ?_
  refine wo (Spec.assign Has.bool) ?_
  refine Walk.nil ?_
  refine Leaf.thenN ?_
  refine CWalk.ret ?_
  refine Leaf.thenR ?_
  obtain rfl := Option.some.inj hm
  exact Leaf.retC1 rfl (HasR.cv (HasR.tmp (Has.s rfl)) Cv.fl)
 ·have hm := cond_f hb hm
  refine CWalk.skip ?_
  refine Leaf.thenN ?_
  refine CWalk.seq ?_
  refine CWalk.seq ?_
  refine CWalk.region ?_
  refine wo (Spec.assign Has.int) ?_
  refine Walk.nil ?_
  refine Leaf.thenN ?_
  refine CWalk.block ?_
  obtain ⟨b11, hb11, hm⟩ := bind_some hm
  refine CWalk.loop (fun s : Int => [.fact 0 (.rep [0] (a0 : List Act64)), .fact 1 (.rep [0] (a1 : List Act64)), .fact 5 (.rep [] (s : Int))]) (fun b : (Unit) ⊕ (Unit) => Sum.elim (fun b => (Exit.exit 0, [])) (fun b => (Exit.ret, [.fact 4 (.rep [] (false : Bool))])) b) hb11 (su (su (st Sub.nil))) ?_ ?_
  ·rintro s1 c2 hm
   replace hm : ref05_Same_L1 a0 a1 s1 = some c2 := hm
   unfold ref05_Same_L1 at hm
   show CWalk _ [.fact 0 (.rep [0] (a0 : List Act64)), .fact 1 (.rep [0] (a1 : List Act64)), .fact 5 (.rep [] (s1 : Int))] _ _
   refine CWalk.seq ?_
   refine CWalk.seq ?_
   refine CWalk.region ?_
   refine mv ?_
   refine mv ?_
   refine wo (Spec.len (Has.s rfl) Try.underlying43) ?_
   refine wo (Spec.lssI (Has.s rfl) (Has.s rfl)) ?_
   refine Walk.nil ?_
   refine Leaf.thenN ?_
   refine CWalk.cond rfl (fun hb => ?_) (fun hb => ?_)
   ·have hm := cond_t hb hm
    refine CWalk.skip ?_
    refine Leaf.thenN ?_
    refine CWalk.seq ?_
    refine CWalk.block ?_
    refine CWalk.seq ?_
    obtain ⟨x3, hx3, hm⟩ := bind_some hm
    obtain ⟨x4, hx4, hm⟩ := bind_some hm
    obtain ⟨x5, hx5, hm⟩ := bind_some hm
    obtain ⟨x6, hx6, hm⟩ := bind_some hm
    obtain ⟨x7, hx7, hm⟩ := bind_some hm
    obtain ⟨x8, hx8, hm⟩ := bind_some hm
    obtain ⟨x9, hx9, hm⟩ := bind_some hm
    obtain ⟨x10, hx10, hm⟩ := bind_some hm
    refine CWalk.drawM [[], [], [0, 1], [0, 1, 2], [0, 1, 2, 3], [], [], [5, 6], [5, 6, 7], [5, 6, 7, 8], [0, 1, 2, 3, 4, 5, 6, 7, 8, 9], [0, 1, 2, 3, 4, 5, 6, 7, 8, 9, 10], [0, 1, 2, 3, 4, 5, 6, 7, 8, 9, 10, 11], [0, 1, 2, 3, 4, 5, 6, 7, 8, 9, 10, 11], [0, 1, 2, 3, 4, 5, 6, 7, 8, 9, 10, 11, 12, 13], [0, 1, 2, 3, 4, 5, 6, 7, 8, 9, 10, 11, 12, 13, 14], [0, 1, 2, 3, 4, 5, 6, 7, 8, 9, 10, 11, 12, 13, 14, 15], [0, 1, 2, 3, 4, 5, 6, 7, 8, 9, 10, 11], [0, 1, 2, 3, 4, 5, 6, 7, 8, 9, 10, 11], [0, 1, 2, 3, 4, 5, 6, 7, 8, 9, 10, 11, 17, 18], [0, 1, 2, 3, 4, 5, 6, 7, 8, 9, 10, 11, 17, 18, 19], [0, 1, 2, 3, 4, 5, 6, 7, 8, 9, 10, 11, 17, 18, 19, 20], [0, 1, 2, 3, 4, 5, 6, 7, 8, 9, 10, 11, 12, 13, 14, 15, 16, 17, 18, 19, 20, 21], [0, 1, 2, 3, 4, 5, 6, 7, 8, 9, 10, 11, 12, 13, 14, 15, 16, 17, 18, 19, 20, 21, 22], [0, 1, 2, 3, 4, 5, 6, 7, 8, 9, 10, 11, 12, 13, 14, 15, 16, 17, 18, 19, 20, 21, 22, 23], [0, 1, 2, 3, 4, 5, 6, 7, 8, 9, 10, 11, 12, 13, 14, 15, 16, 17, 18, 19, 20, 21, 22, 23, 24], [0, 1, 2, 3, 4, 5, 6, 7, 8, 9, 10, 11, 12, 13, 14, 15, 16, 17, 18, 19, 20, 21, 22, 23, 24], [0, 1, 2, 3, 4, 5, 6, 7, 8, 9, 10, 11, 12, 13, 14, 15, 16, 17, 18, 19, 20, 21, 22, 23, 24, 25, 26], [0, 1, 2, 3, 4, 5, 6, 7, 8, 9, 10, 11, 12, 13, 14, 15, 16, 17, 18, 19, 20, 21, 22, 23, 24, 25, 26, 27], [0, 1, 2, 3, 4, 5, 6, 7, 8, 9, 10, 11, 12, 13, 14, 15, 16, 17, 18, 19, 20, 21, 22, 23, 24, 25, 26, 27, 28], [0, 1, 2, 3, 4, 5, 6, 7, 8, 9, 10, 11, 12, 13, 14, 15, 16, 17, 18, 19, 20, 21, 22, 23, 24], [0, 1, 2, 3, 4, 5, 6, 7, 8, 9, 10, 11, 12, 13, 14, 15, 16, 17, 18, 19, 20, 21, 22, 23, 24], [0, 1, 2, 3, 4, 5, 6, 7, 8, 9, 10, 11, 12, 13, 14, 15, 16, 17, 18, 19, 20, 21, 22, 23, 24, 30, 31], [0, 1, 2, 3, 4, 5, 6, 7, 8, 9, 10, 11, 12, 13, 14, 15, 16, 17, 18, 19, 20, 21, 22, 23, 24, 30, 31, 32], [0, 1, 2, 3, 4, 5, 6, 7, 8, 9, 10, 11, 12, 13, 14, 15, 16, 17, 18, 19, 20, 21, 22, 23, 24, 30, 31, 32, 33], [0, 1, 2, 3, 4, 5, 6, 7, 8, 9, 10, 11, 12, 13, 14, 15, 16, 17, 18, 19, 20, 21, 22, 23, 24, 25, 26, 27, 28, 29, 30, 31, 32, 33, 34], [0, 1, 2, 3, 4, 5, 6, 7, 8, 9, 10, 11, 12, 13, 14, 15, 16, 17, 18, 19, 20, 21, 22, 23, 24, 25, 26, 27, 28, 29, 30, 31, 32, 33, 34, 35], [0, 1, 2, 3, 4, 5, 6, 7, 8, 9, 10, 11, 12, 13, 14, 15, 16, 17, 18, 19, 20, 21, 22, 23, 24, 25, 26, 27, 28, 29, 30, 31, 32, 33, 34, 35, 36], [0, 1, 2, 3, 4, 5, 6, 7, 8, 9, 10, 11, 12, 13, 14, 15, 16, 17, 18, 19, 20, 21, 22, 23, 24, 25, 26, 27, 28, 29, 30, 31, 32, 33, 34, 35, 36, 37], [0, 1, 2, 3, 4, 5, 6, 7, 8, 9, 10, 11, 12, 13, 14, 15, 16, 17, 18, 19, 20, 21, 22, 23, 24, 25, 26, 27, 28, 29, 30, 31, 32, 33, 34, 35, 36, 37], [0, 1, 2, 3, 4, 5, 6, 7, 8, 9, 10, 11, 12, 13, 14, 15, 16, 17, 18, 19, 20, 21, 22, 23, 24, 25, 26, 27, 28, 29, 30, 31, 32, 33, 34, 35, 36, 37, 38, 39], [0, 1, 2, 3, 4, 5, 6, 7, 8, 9, 10, 11, 12, 13, 14, 15, 16, 17, 18, 19, 20, 21, 22, 23, 24, 25, 26, 27, 28, 29, 30, 31, 32, 33, 34, 35, 36, 37, 38, 39, 40], [0, 1, 2, 3, 4, 5, 6, 7, 8, 9, 10, 11, 12, 13, 14, 15, 16, 17, 18, 19, 20, 21, 22, 23, 24, 25, 26, 27, 28, 29, 30, 31, 32, 33, 34, 35, 36, 37, 38, 39, 40, 41], [0, 1, 2, 3, 4, 5, 6, 7, 8, 9, 10, 11, 12, 13, 14, 15, 16, 17, 18, 19, 20, 21, 22, 23, 24, 25, 26, 27, 28, 29, 30, 31, 32, 33, 34, 35, 36, 37, 38, 39, 40, 41, 42], [0, 1, 2, 3, 4, 5, 6, 7, 8, 9, 10, 11, 12, 13, 14, 15, 16, 17, 18, 19, 20, 21, 22, 23, 24, 25, 26, 27, 28, 29, 30, 31, 32, 33, 34, 35, 36, 37], [0, 1, 2, 3, 4, 5, 6, 7, 8, 9, 10, 11, 12, 13, 14, 15, 16, 17, 18, 19, 20, 21, 22, 23, 24, 25, 26, 27, 28, 29, 30, 31, 32, 33, 34, 35, 36, 37], [0, 1, 2, 3, 4, 5, 6, 7, 8, 9, 10, 11, 12, 13, 14, 15, 16, 17, 18, 19, 20, 21, 22, 23, 24, 25, 26, 27, 28, 29, 30, 31, 32, 33, 34, 35, 36, 37, 44, 45], [0, 1, 2, 3, 4, 5, 6, 7, 8, 9, 10, 11, 12, 13, 14, 15, 16, 17, 18, 19, 20, 21, 22, 23, 24, 25, 26, 27, 28, 29, 30, 31, 32, 33, 34, 35, 36, 37, 44, 45, 46], [0, 1, 2, 3, 4, 5, 6, 7, 8, 9, 10, 11, 12, 13, 14, 15, 16, 17, 18, 19, 20, 21, 22, 23, 24, 25, 26, 27, 28, 29, 30, 31, 32, 33, 34, 35, 36, 37, 44, 45, 46, 47], [0, 1, 2, 3, 4, 5, 6, 7, 8, 9, 10, 11, 12, 13, 14, 15, 16, 17, 18, 19, 20, 21, 22, 23, 24, 25, 26, 27, 28, 29, 30, 31, 32, 33, 34, 35, 36, 37, 44, 45, 46, 47, 48], [0, 1, 2, 3, 4, 5, 6, 7, 8, 9, 10, 11, 12, 13, 14, 15, 16, 17, 18, 19, 20, 21, 22, 23, 24, 25, 26, 27, 28, 29, 30, 31, 32, 33, 34, 35, 36, 37, 38, 39, 40, 41, 42, 43, 44, 45, 46, 47, 48, 49], [0, 1, 2, 3, 4, 5, 6, 7, 8, 9, 10, 11, 12, 13, 14, 15, 16, 17, 18, 19, 20, 21, 22, 23, 24, 25, 26, 27, 28, 29, 30, 31, 32, 33, 34, 35, 36, 37, 38, 39, 40, 41, 42, 43, 44, 45, 46, 47, 48, 49, 50]] [[.fact 17 (.rep [0] (a0 : List Act64))], [.fact 18 (.rep [] (s1 : Int))], [.fact 19 (.ptr [0] (x3 : Act64))], [.fact 20 (.ptr [0] (x3.Disk : Int))], [.fact 21 (.rep [] x3.Disk)], [.fact 22 (.rep [0] (a1 : List Act64))], [.fact 23 (.rep [] (s1 : Int))], [.fact 24 (.ptr [0] (x4 : Act64))], [.fact 25 (.ptr [0] (x4.Disk : Int))], [.fact 26 (.rep [] x4.Disk)], [.fact 27 (.rep [] ((x3.Disk != x4.Disk) : Bool))], [.fact 28 (.rep [] ((x3.Disk != x4.Disk) : Bool))], [.fact 29 (.under ((x3.Disk != x4.Disk) = false) (.rep [0] (a0 : List Act64)))], [.fact 30 (.under ((x3.Disk != x4.Disk) = false) (.rep [] (s1 : Int)))], [.fact 31 (.under ((x3.Disk != x4.Disk) = false) (.ptr [0] (x5 : Act64)))], [.fact 32 (.under ((x3.Disk != x4.Disk) = false) (.ptr [0] (x5.Kind : UInt8)))], [.fact 33 (.under ((x3.Disk != x4.Disk) = false) (.rep [] x5.Kind))], [.fact 34 (.under ((x3.Disk != x4.Disk) = false) (.rep [0] (a1 : List Act64)))], [.fact 35 (.under ((x3.Disk != x4.Disk) = false) (.rep [] (s1 : Int)))], [.fact 36 (.under ((x3.Disk != x4.Disk) = false) (.ptr [0] (x6 : Act64)))], [.fact 37 (.under ((x3.Disk != x4.Disk) = false) (.ptr [0] (x6.Kind : UInt8)))], [.fact 38 (.under ((x3.Disk != x4.Disk) = false) (.rep [] x6.Kind))], [.fact 39 (.under ((x3.Disk != x4.Disk) = false) (.rep [] ((x5.Kind != x6.Kind) : Bool)))], [.fact 40 (.rep [] (((x3.Disk != x4.Disk) || (x5.Kind != x6.Kind)) : Bool))], [.fact 41 (.rep [] (((x3.Disk != x4.Disk) || (x5.Kind != x6.Kind)) : Bool))], [.fact 42 (.under (((x3.Disk != x4.Disk) || (x5.Kind != x6.Kind)) = false) (.rep [0] (a0 : List Act64)))], [.fact 43 (.under (((x3.Disk != x4.Disk) || (x5.Kind != x6.Kind)) = false) (.rep [] (s1 : Int)))], [.fact 44 (.under (((x3.Disk != x4.Disk) || (x5.Kind != x6.Kind)) = false) (.ptr [0] (x7 : Act64)))], [.fact 45 (.under (((x3.Disk != x4.Disk) || (x5.Kind != x6.Kind)) = false) (.ptr [0] (x7.At : Int)))], [.fact 46 (.under (((x3.Disk != x4.Disk) || (x5.Kind != x6.Kind)) = false) (.rep [] x7.At))], [.fact 47 (.under (((x3.Disk != x4.Disk) || (x5.Kind != x6.Kind)) = false) (.rep [0] (a1 : List Act64)))], [.fact 48 (.under (((x3.Disk != x4.Disk) || (x5.Kind != x6.Kind)) = false) (.rep [] (s1 : Int)))], [.fact 49 (.under (((x3.Disk != x4.Disk) || (x5.Kind != x6.Kind)) = false) (.ptr [0] (x8 : Act64)))], [.fact 50 (.under (((x3.Disk != x4.Disk) || (x5.Kind != x6.Kind)) = false) (.ptr [0] (x8.At : Int)))], [.fact 51 (.under (((x3.Disk != x4.Disk) || (x5.Kind != x6.Kind)) = false) (.rep [] x8.At))], [.fact 52 (.under (((x3.Disk != x4.Disk) || (x5.Kind != x6.Kind)) = false) (.rep [] ((x7.At != x8.At) : Bool)))], [.fact 53 (.rep [] ((((x3.Disk != x4.Disk) || (x5.Kind != x6.Kind)) || (x7.At != x8.At)) : Bool))], [.fact 54 (.rep [] ((((x3.Disk != x4.Disk) || (x5.Kind != x6.Kind)) || (x7.At != x8.At)) : Bool))], [.fact 55 (.under ((((x3.Disk != x4.Disk) || (x5.Kind != x6.Kind)) || (x7.At != x8.At)) = false) (.rep [0] (a0 : List Act64)))], [.fact 56 (.under ((((x3.Disk != x4.Disk) || (x5.Kind != x6.Kind)) || (x7.At != x8.At)) = false) (.rep [] (s1 : Int)))], [.fact 57 (.under ((((x3.Disk != x4.Disk) || (x5.Kind != x6.Kind)) || (x7.At != x8.At)) = false) (.ptr [0] (x9 : Act64)))], [.fact 58 (.under ((((x3.Disk != x4.Disk) || (x5.Kind != x6.Kind)) || (x7.At != x8.At)) = false) (.ptr [0] (x9.Data : List UInt8)))], [.fact 59 (.under ((((x3.Disk != x4.Disk) || (x5.Kind != x6.Kind)) || (x7.At != x8.At)) = false) (.rep [0] x9.Data))], [.fact 60 (.under ((((x3.Disk != x4.Disk) || (x5.Kind != x6.Kind)) || (x7.At != x8.At)) = false) (.rep [] ((Str.mk x9.Data) : Str)))], [.fact 61 (.under ((((x3.Disk != x4.Disk) || (x5.Kind != x6.Kind)) || (x7.At != x8.At)) = false) (.rep [0] (a1 : List Act64)))], [.fact 62 (.under ((((x3.Disk != x4.Disk) || (x5.Kind != x6.Kind)) || (x7.At != x8.At)) = false) (.rep [] (s1 : Int)))], [.fact 63 (.under ((((x3.Disk != x4.Disk) || (x5.Kind != x6.Kind)) || (x7.At != x8.At)) = false) (.ptr [0] (x10 : Act64)))], [.fact 64 (.under ((((x3.Disk != x4.Disk) || (x5.Kind != x6.Kind)) || (x7.At != x8.At)) = false) (.ptr [0] (x10.Data : List UInt8)))], [.fact 65 (.under ((((x3.Disk != x4.Disk) || (x5.Kind != x6.Kind)) || (x7.At != x8.At)) = false) (.rep [0] x10.Data))], [.fact 66 (.under ((((x3.Disk != x4.Disk) || (x5.Kind != x6.Kind)) || (x7.At != x8.At)) = false) (.rep [] ((Str.mk x10.Data) : Str)))], [.fact 67 (.under ((((x3.Disk != x4.Disk) || (x5.Kind != x6.Kind)) || (x7.At != x8.At)) = false) (.rep [] ((!((Str.mk x9.Data).s == (Str.mk x10.Data).s)) : Bool)))], [.fact 68 (.rep [] (((((x3.Disk != x4.Disk) || (x5.Kind != x6.Kind)) || (x7.At != x8.At)) || (!((Str.mk x9.Data).s == (Str.mk x10.Data).s))) : Bool))]] mixed (by kernel_rfl) (ao (so (Spec.move (Has.s rfl))) (ao (so (Spec.move (Has.s rfl))) (ao (so (Spec.indexAddr hx3 sl43 (Has.s rfl) (Has.s rfl))) (ao (so (Spec.fieldAddrP fd64_0 (chAct64 x3) rfl (Has.s rfl))) (ao (so ((Spec.load ty3 (Has.s rfl)).flat (T' := []))) (ao (so (Spec.move (Has.s rfl))) (ao (so (Spec.move (Has.s rfl))) (ao (so (Spec.indexAddr hx4 sl43 (Has.s rfl) (Has.s rfl))) (ao (so (Spec.fieldAddrP fd64_0 (chAct64 x4) rfl (Has.s rfl))) (ao (so ((Spec.load ty3 (Has.s rfl)).flat (T' := []))) (ao (so (Spec.neqI (Has.s rfl) (Has.s rfl))) (ao (so (Spec.move (Has.s rfl))) (ao (StepG.opg rfl rfl rfl (fun hb => Spec.move (Has.s rfl))) (ao (StepG.opg rfl rfl rfl (fun hb => Spec.move (Has.s rfl))) (ao (StepG.opg rfl rfl rfl (fun hb => Spec.indexAddr (gO_t hx5 (not_t hb)) sl43 (Has.u rfl hb) (Has.u rfl hb))) (ao (StepG.opg rfl rfl rfl (fun hb => Spec.fieldAddrP fd64_1 (chAct64 x5) rfl (Has.u rfl hb))) (ao (StepG.opg rfl rfl rfl (fun hb => (Spec.load ty5 (Has.u rfl hb)).flat (T' := []))) (ao (StepG.opg rfl rfl rfl (fun hb => Spec.move (Has.s rfl))) (ao (StepG.opg rfl rfl rfl (fun hb => Spec.move (Has.s rfl))) (ao (StepG.opg rfl rfl rfl (fun hb => Spec.indexAddr (gO_t hx6 (not_t hb)) sl43 (Has.u rfl hb) (Has.u rfl hb))) (ao (StepG.opg rfl rfl rfl (fun hb => Spec.fieldAddrP fd64_1 (chAct64 x6) rfl (Has.u rfl hb))) (ao (StepG.opg rfl rfl rfl (fun hb => (Spec.load ty5 (Has.u rfl hb)).flat (T' := []))) (ao (StepG.opg rfl rfl rfl (fun hb => Spec.neqB (Has.u rfl hb) (Has.u rfl hb))) (ao (so (Spec.or (Has.s rfl) (fun h => Has.u rfl h))) (ao (so (Spec.move (Has.s rfl))) (ao (StepG.opg rfl rfl rfl (fun hb => Spec.move (Has.s rfl))) (ao (StepG.opg rfl rfl rfl (fun hb => Spec.move (Has.s rfl))) (ao (StepG.opg rfl rfl rfl (fun hb => Spec.indexAddr (gO_t hx7 (not_t hb)) sl43 (Has.u rfl hb) (Has.u rfl hb))) (ao (StepG.opg rfl rfl rfl (fun hb => Spec.fieldAddrP fd64_2 (chAct64 x7) rfl (Has.u rfl hb))) (ao (StepG.opg rfl rfl rfl (fun hb => (Spec.load ty3 (Has.u rfl hb)).flat (T' := []))) (ao (StepG.opg rfl rfl rfl (fun hb => Spec.move (Has.s rfl))) (ao (StepG.opg rfl rfl rfl (fun hb => Spec.move (Has.s rfl))) (ao (StepG.opg rfl rfl rfl (fun hb => Spec.indexAddr (gO_t hx8 (not_t hb)) sl43 (Has.u rfl hb) (Has.u rfl hb))) (ao (StepG.opg rfl rfl rfl (fun hb => Spec.fieldAddrP fd64_2 (chAct64 x8) rfl (Has.u rfl hb))) (ao (StepG.opg rfl rfl rfl (fun hb => (Spec.load ty3 (Has.u rfl hb)).flat (T' := []))) (ao (StepG.opg rfl rfl rfl (fun hb => Spec.neqI (Has.u rfl hb) (Has.u rfl hb))) (ao (so (Spec.or (Has.s rfl) (fun h => Has.u rfl h))) (ao (so (Spec.move (Has.s rfl))) (ao (StepG.opg rfl rfl rfl (fun hb => Spec.move (Has.s rfl))) (ao (StepG.opg rfl rfl rfl (fun hb => Spec.move (Has.s rfl))) (ao (StepG.opg rfl rfl rfl (fun hb => Spec.indexAddr (gO_t hx9 (not_t hb)) sl43 (Has.u rfl hb) (Has.u rfl hb))) (ao (StepG.opg rfl rfl rfl (fun hb => Spec.fieldAddrP fd64_3 (chAct64 x9) rfl (Has.u rfl hb))) (ao (StepG.opg rfl rfl rfl (fun hb => Spec.load ty54 (Has.u rfl hb))) (ao (StepG.opg rfl rfl rfl (fun hb => Spec.toStr Try.underlying54 Try.underlying5 Try.underlying9 (Has.u rfl hb))) (ao (StepG.opg rfl rfl rfl (fun hb => Spec.move (Has.s rfl))) (ao (StepG.opg rfl rfl rfl (fun hb => Spec.move (Has.s rfl))) (ao (StepG.opg rfl rfl rfl (fun hb => Spec.indexAddr (gO_t hx10 (not_t hb)) sl43 (Has.u rfl hb) (Has.u rfl hb))) (ao (StepG.opg rfl rfl rfl (fun hb => Spec.fieldAddrP fd64_3 (chAct64 x10) rfl (Has.u rfl hb))) (ao (StepG.opg rfl rfl rfl (fun hb => Spec.load ty54 (Has.u rfl hb))) (ao (StepG.opg rfl rfl rfl (fun hb => Spec.toStr Try.underlying54 Try.underlying5 Try.underlying9 (Has.u rfl hb))) (ao (StepG.opg rfl rfl rfl (fun hb => Spec.neqS (Has.u rfl hb) (Has.u rfl hb))) (ao (so (Spec.or (Has.s rfl) (fun h => Has.u rfl h))) AllM.nil)))))))))))))))))))))))))))))))))))))))))))))))))))) ?_
    refine Leaf.thenN ?_
    refine CWalk.cond rfl (fun hb => ?_) (fun hb => ?_)
    ·have hm := cond_t hb hm
     refine CWalk.seq ?_
     refine CWalk.region ?_
     refine wo (Spec.assign Has.bool) ?_
     refine Walk.nil ?_
     refine Leaf.thenN ?_
     refine CWalk.ret ?_
     refine Leaf.blockR ?_
     refine Leaf.thenR ?_
     exact Leaf.brk hm (fun h => nomatch h) rfl (st Sub.nil)
    ·have hm := cond_f hb hm
     refine CWalk.skip ?_
     refine Leaf.blockN ?_
     refine Leaf.thenN ?_
     refine CWalk.region ?_
     refine mv ?_
     refine wo (Spec.addI (Has.s rfl) Has.int) ?_
     refine wo (Spec.assign (Has.s rfl)) ?_
     refine Walk.nil ?_
     exact Leaf.next hm (su (su (st Sub.nil)))
   ·have hm := cond_f hb hm
    refine CWalk.exit ?_
    refine Leaf.thenE ?_
    exact Leaf.brk hm (fun h => nomatch h) rfl (Sub.nil)
  ·intro _
   rcases b11 with b12 | b13
   ·have hm := selim_l hm
    refine Leaf.blockE ?_
    refine Leaf.thenN ?_
    refine CWalk.seq ?_
    refine CWalk.region ?_
    refine wo (Spec.assign Has.bool) ?_
    refine Walk.nil ?_
    refine Leaf.thenN ?_
    refine CWalk.ret ?_
    obtain rfl := Option.some.inj hm
    exact Leaf.retC1 rfl (HasR.cv (HasR.tmp (Has.s rfl)) Cv.fl)
   ·have hm := selim_r hm
    refine Leaf.blockR ?_
    refine Leaf.thenR ?_
    obtain rfl := Option.some.inj hm
    exact Leaf.retC1 rfl (HasR.cv (HasR.tmp (Has.s rfl)) Cv.fl)

def law05_ActsRuns_J1 (a0 : List Disk) (a1 : List Act64) (x4 : (List Disk)) (x5 : (List Act64)) (x6 : (List Disk) × Int) (x7 : (List Disk) × Int) (x8 : Bool) (x9 : Int) (x10 : Int) (x11 : Bool) (x12 : Bool) (x13 : Bool) : Option (Bool) :=
  Option.bind (gO (((((x8 && (x6.2 == x7.2)) && (x9 == x10)) && (x11 == x12)) && x13)) (ref05_SameDisks x4 a0)) (fun x14 => Option.bind (gO ((((((x8 && (x6.2 == x7.2)) && (x9 == x10)) && (x11 == x12)) && x13) && x14)) (ref05_Same x5 a1)) (fun x15 => some ((((((x8 && (x6.2 == x7.2)) && (x9 == x10)) && (x11 == x12)) && x13) && x14) && x15)))
def law05_ActsRuns_L4 (x6 : (List Disk) × Int) (s16 : Int) (s18 : Int) (s21 : Int) : Option (Ctl (Int) (Unit)) :=
  Option.bind (idx x6.1 s16) (fun x23 => Option.bind (idx x23.Blocks s18) (fun x24 => (bif (decide (s21 < ((x24).length : Int))) then Option.bind (idx x6.1 s16) (fun x25 => Option.bind (idx x25.Blocks s18) (fun x26 => Option.bind (idx x26 s21) (fun x27 => Option.bind (idx x26 s21) (fun x28 => some (Ctl.next (wI (s21 + (1 : Int)))))))) else some (Ctl.brk ()))))
def law05_ActsRuns_L3 (x6 : (List Disk) × Int) (s16 : Int) (s18 : Int) : Option (Ctl (Int) (Unit)) :=
  Option.bind (idx x6.1 s16) (fun x20 => (bif (decide (s18 < ((x20.Blocks).length : Int))) then Option.bind (loopM (fun s : Int => law05_ActsRuns_L4 x6 s16 s18 s) FUEL (0 : Int)) (fun b29 => some (Ctl.next (wI (s18 + (1 : Int))))) else some (Ctl.brk ())))
def law05_ActsRuns_L6 (x6 : (List Disk) × Int) (s16 : Int) (s31 : Int) (s34 : Int) : Option (Ctl (Int) (Unit)) :=
  Option.bind (idx x6.1 s16) (fun x36 => Option.bind (idx x36.Wait s31) (fun x37 => (bif (decide (s34 < ((x37.Data).length : Int))) then Option.bind (idx x6.1 s16) (fun x38 => Option.bind (idx x38.Wait s31) (fun x39 => Option.bind (idx x39.Data s34) (fun x40 => Option.bind (idx x39.Data s34) (fun x41 => some (Ctl.next (wI (s34 + (1 : Int)))))))) else some (Ctl.brk ()))))
def law05_ActsRuns_L5 (x6 : (List Disk) × Int) (s16 : Int) (s31 : Int) : Option (Ctl (Int) (Unit)) :=
  Option.bind (idx x6.1 s16) (fun x33 => (bif (decide (s31 < ((x33.Wait).length : Int))) then Option.bind (loopM (fun s : Int => law05_ActsRuns_L6 x6 s16 s31 s) FUEL (0 : Int)) (fun b42 => some (Ctl.next (wI (s31 + (1 : Int))))) else some (Ctl.brk ())))
def law05_ActsRuns_L2 (x6 : (List Disk) × Int) (s16 : Int) : Option (Ctl (Int) (Unit)) :=
  (bif (decide (s16 < ((x6.1).length : Int))) then Option.bind (loopM (fun s : Int => law05_ActsRuns_L3 x6 s16 s) FUEL (0 : Int)) (fun b30 => Option.bind (loopM (fun s : Int => law05_ActsRuns_L5 x6 s16 s) FUEL (0 : Int)) (fun b43 => some (Ctl.next (wI (s16 + (1 : Int)))))) else some (Ctl.brk ()))
/-- freeboard/freeboardlaw05.ActsRuns -/
def law05_ActsRuns (a0 : List Disk) (a1 : List Act64) (a2 : List Act64) (a3 : Int) : Option (Bool) :=
  Option.bind (ref05_Great a0) (fun x1 => Option.bind (gO (!x1) (ref05_Long a1)) (fun x2 => Option.bind (gO (!(x1 || x2)) (ref05_Long a2)) (fun x3 => (bif ((x1 || x2) || x3) then some true else Option.bind (ref05_Twin a0) (fun x4 => Option.bind (ref05_TwinActs a1) (fun x5 => Option.bind (acts_Run x4 x5 a3) (fun x6 => Option.bind (ref05_Run a0 a1 a3) (fun x7 => Option.bind (ref05_SameDisks x6.1 x7.1) (fun x8 => Option.bind (gO ((x8 && (x6.2 == x7.2))) (acts_Check x5 x4)) (fun x9 => Option.bind (gO ((x8 && (x6.2 == x7.2))) (ref05_Check a1 a0)) (fun x10 => Option.bind (gO (((x8 && (x6.2 == x7.2)) && (x9 == x10))) (acts_Same a1 a2)) (fun x11 => Option.bind (gO (((x8 && (x6.2 == x7.2)) && (x9 == x10))) (ref05_Same a1 a2)) (fun x12 => Option.bind (gO ((((x8 && (x6.2 == x7.2)) && (x9 == x10)) && (x11 == x12))) (acts_Same x5 a1)) (fun x13 => Option.bind (loopM (fun s : Int => law05_ActsRuns_L2 x6 s) FUEL (0 : Int)) (fun b44 => (law05_ActsRuns_J1 a0 a1 x4 x5 x6 x7 x8 x9 x10 x11 x12 x13))))))))))))))))
set_option maxRecDepth 100000 in
set_option maxHeartbeats 2000000 in
theorem law05_ActsRuns_c (a0 : List Disk) (a1 : List Act64) (a2 : List Act64) (a3 : Int) {r : Bool} (hm : law05_ActsRuns a0 a1 a2 a3 = some r) : Ctr Try.prog 4 [.rep 0 a0, .rep 0 a1, .rep 0 a2, .rep 0 a3] (.fl r) [] := by
 refine ctr_of_walk [[]] 88 Try.func4 rfl rfl rfl rfl (fun w0 om => ?_)
 unfold law05_ActsRuns at hm
 refine CWalk.sub (G' := [.fact 0 (.rep [0] (a0 : List Disk)), .fact 1 (.rep [0] (a1 : List Act64)), .fact 2 (.rep [0] (a2 : List Act64)), .fact 3 (.rep [] (a3 : Int))]) (sn (sn (sn (Sub.cons (Has.fl (Has.s rfl)) Sub.nil)))) ?_
 refine CWalk.seq ?_
 refine CWalk.region ?_
 refine wo (Spec.assign Has.bool) ?_
 refine Walk.nil ?_
 refine Leaf.thenN ?_
 refine CWalk.seq ?_
 refine CWalk.seq ?_
 refine CWalk.region ?_
 refine mv ?_
 obtain ⟨x1, hx1, hm⟩ := bind_some hm
 refine wo (f := Fact.rep [] (x1 : Bool)) (Spec.callE [0] 10 rfl en9 (ref05_Great_c a0 hx1) (HasAll.cons (Has.m (Has.s rfl) rfl) HasAll.nil)) ?_
 refine mv ?_
 refine wg rfl rfl (fun hb => Spec.move (Has.s rfl)) ?_
 obtain ⟨x2, hx2, hm⟩ := bind_some hm
 refine wg (f := Fact.rep [] (x2 : Bool)) rfl rfl (fun hb => Spec.callE [0] 11 rfl en18 (ref05_Long_c a1 (gO_t hx2 (not_t hb))) (HasAll.cons (Has.m (Has.u rfl hb) rfl) HasAll.nil)) ?_
 refine wo (Spec.or (Has.s rfl) (fun h => Has.u rfl h)) ?_
 refine mv ?_
 refine wg rfl rfl (fun hb => Spec.move (Has.s rfl)) ?_
 obtain ⟨x3, hx3, hm⟩ := bind_some hm
 refine wg (f := Fact.rep [] (x3 : Bool)) rfl rfl (fun hb => Spec.callE [0] 12 rfl en18 (ref05_Long_c a2 (gO_t hx3 (not_t hb))) (HasAll.cons (Has.m (Has.u rfl hb) rfl) HasAll.nil)) ?_
 refine wo (Spec.or (Has.s rfl) (fun h => Has.u rfl h)) ?_
 refine Walk.nil ?_
 refine Leaf.thenN ?_
 refine CWalk.cond rfl (fun hb => ?_) (fun hb => ?_)
 ·have hm := cond_t hb hm
  refine CWalk.seq ?_
  refine CWalk.region ?_
  refine wo (Spec.assign Has.bool) ?_
  refine Walk.nil ?_
  refine Leaf.thenN ?_
  refine CWalk.ret ?_
  refine Leaf.thenR ?_
  obtain rfl := Option.some.inj hm
  exact Leaf.retC1 rfl (HasR.cv (HasR.tmp (Has.s rfl)) Cv.fl)
 ·have hm := cond_f hb hm
  refine CWalk.skip ?_
  refine Leaf.thenN ?_
  refine CWalk.seq ?_
  refine CWalk.region ?_
  refine mv ?_
  obtain ⟨x4, hx4, hm⟩ := bind_some hm
  refine wo (f := Fact.ow [13] [14] 41 (x4 : List Disk)) (Spec.callE [0] 13 rfl en10 (ref05_Twin_c a0 hx4) (HasAll.cons (Has.m (Has.s rfl) rfl) HasAll.nil)) ?_
  refine wo (Spec.assign (Has.s rfl)) ?_
  refine Walk.nil ?_
  refine Leaf.thenN ?_
  refine CWalk.seq ?_
  refine CWalk.region ?_
  refine mv ?_
  obtain ⟨x5, hx5, hm⟩ := bind_some hm
  refine wo (f := Fact.ow [15] [16] 64 (x5 : List Act64)) (Spec.callE [0] 15 rfl en19 (ref05_TwinActs_c a1 hx5) (HasAll.cons (Has.m (Has.s rfl) rfl) HasAll.nil)) ?_
  refine wo (Spec.assign (Has.s rfl)) ?_
  refine Walk.nil ?_
  refine Leaf.thenN ?_
  refine CWalk.seq ?_
  refine CWalk.region ?_
  refine mv ?_
  refine mv ?_
  refine mv ?_
  obtain ⟨x6, hx6, hm⟩ := bind_some hm
  refine wo (f := Fact.tup2 (Fact.ow [17] [18] 41 (x6.1 : List Disk)) (Fact.rep [] x6.2)) (Spec.callE [13, 14, 15, 16] 17 rfl en20 (acts_Run_c x4 x5 a3 hx6) (HasAll.cons (Has.m (Has.cv (Has.s rfl) (Cv.trans Cv.owSl (Cv.slRep (T' := [13, 14]) rfl rfl))) rfl) (HasAll.cons (Has.m (Has.cv (Has.s rfl) (Cv.trans Cv.owSl (Cv.slRep (T' := [15, 16]) rfl rfl))) rfl) (HasAll.cons (Has.fl (Has.s rfl)) HasAll.nil)))) ?_
  refine mv ?_
  refine wo (Spec.ext0 (Has.s rfl)) ?_
  refine wo (Spec.ext1 (Has.s rfl)) ?_
  refine wo (Spec.assign (Has.s rfl)) ?_
  refine wo (Spec.assign (Has.s rfl)) ?_
  refine Walk.nil ?_
  refine Leaf.thenN ?_
  refine CWalk.seq ?_
  refine CWalk.region ?_
  refine mv ?_
  refine mv ?_
  refine mv ?_
  obtain ⟨x7, hx7, hm⟩ := bind_some hm
  refine wo (f := Fact.tup2 (Fact.rep [19, 0] x7.1) (Fact.rep [] x7.2)) (Spec.callE [0] 19 rfl en21 (ref05_Run_c a0 a1 a3 hx7) (HasAll.cons (Has.m (Has.s rfl) rfl) (HasAll.cons (Has.m (Has.s rfl) rfl) (HasAll.cons (Has.fl (Has.s rfl)) HasAll.nil)))) ?_
  refine mv ?_
  refine wo (Spec.ext0 (Has.s rfl)) ?_
  refine wo (Spec.ext1 (Has.s rfl)) ?_
  refine wo (Spec.assign (Has.s rfl)) ?_
  refine wo (Spec.assign (Has.s rfl)) ?_
  refine Walk.nil ?_
  refine Leaf.thenN ?_
  refine CWalk.seq ?_
  refine CWalk.region ?_
  refine mv ?_
  refine mv ?_
  obtain ⟨x8, hx8, hm⟩ := bind_some hm
  refine wo (f := Fact.rep [] (x8 : Bool)) (Spec.callE [0, 17, 18, 19] 20 rfl en15 (ref05_SameDisks_c x6.1 x7.1 hx8) (HasAll.cons (Has.m (Has.cv (Has.s rfl) (Cv.trans Cv.owSl (Cv.slRep (T' := [17, 18]) rfl rfl))) rfl) (HasAll.cons (Has.m (Has.s rfl) rfl) HasAll.nil))) ?_
  refine mv ?_
  refine wg rfl rfl (fun hb => Spec.move (Has.s rfl)) ?_
  refine wg rfl rfl (fun hb => Spec.move (Has.s rfl)) ?_
  refine wg rfl rfl (fun hb => Spec.eqlI (Has.u rfl hb) (Has.u rfl hb)) ?_
  refine wo (Spec.and (Has.s rfl) (fun h => Has.u rfl h)) ?_
  refine mv ?_
  refine wg rfl rfl (fun hb => Spec.move (Has.s rfl)) ?_
  refine wg rfl rfl (fun hb => Spec.move (Has.s rfl)) ?_
  obtain ⟨x9, hx9, hm⟩ := bind_some hm
  refine wg (f := Fact.rep [] (x9 : Int)) rfl rfl (fun hb => Spec.callE [13, 14, 15, 16] 21 rfl en22 (acts_Check_c x5 x4 (gO_t hx9 hb)) (HasAll.cons (Has.m (Has.cv (Has.u rfl hb) (Cv.trans Cv.owSl (Cv.slRep (T' := [15, 16]) rfl rfl))) rfl) (HasAll.cons (Has.m (Has.cv (Has.u rfl hb) (Cv.trans Cv.owSl (Cv.slRep (T' := [13, 14]) rfl rfl))) rfl) HasAll.nil))) ?_
  refine wg rfl rfl (fun hb => Spec.move (Has.s rfl)) ?_
  refine wg rfl rfl (fun hb => Spec.move (Has.s rfl)) ?_
  obtain ⟨x10, hx10, hm⟩ := bind_some hm
  refine wg (f := Fact.rep [] (x10 : Int)) rfl rfl (fun hb => Spec.callE [0] 22 rfl en23 (ref05_Check_c a1 a0 (gO_t hx10 hb)) (HasAll.cons (Has.m (Has.u rfl hb) rfl) (HasAll.cons (Has.m (Has.u rfl hb) rfl) HasAll.nil))) ?_
  refine wg rfl rfl (fun hb => Spec.eqlI (Has.u rfl hb) (Has.u rfl hb)) ?_
  refine wo (Spec.and (Has.s rfl) (fun h => Has.u rfl h)) ?_
  refine mv ?_
  refine wg rfl rfl (fun hb => Spec.move (Has.s rfl)) ?_
  refine wg rfl rfl (fun hb => Spec.move (Has.s rfl)) ?_
  obtain ⟨x11, hx11, hm⟩ := bind_some hm
  refine wg (f := Fact.rep [] (x11 : Bool)) rfl rfl (fun hb => Spec.callE [0] 23 rfl en24 (acts_Same_c a1 a2 (gO_t hx11 hb)) (HasAll.cons (Has.m (Has.u rfl hb) rfl) (HasAll.cons (Has.m (Has.u rfl hb) rfl) HasAll.nil))) ?_
  refine wg rfl rfl (fun hb => Spec.move (Has.s rfl)) ?_
  refine wg rfl rfl (fun hb => Spec.move (Has.s rfl)) ?_
  obtain ⟨x12, hx12, hm⟩ := bind_some hm
  refine wg (f := Fact.rep [] (x12 : Bool)) rfl rfl (fun hb => Spec.callE [0] 24 rfl en25 (ref05_Same_c a1 a2 (gO_t hx12 hb)) (HasAll.cons (Has.m (Has.u rfl hb) rfl) (HasAll.cons (Has.m (Has.u rfl hb) rfl) HasAll.nil))) ?_
  refine wg rfl rfl (fun hb => Spec.eqlT (Has.u rfl hb) (Has.u rfl hb) Try.underlying4) ?_
  refine wo (Spec.and (Has.s rfl) (fun h => Has.u rfl h)) ?_
  refine mv ?_
  refine wg rfl rfl (fun hb => Spec.move (Has.s rfl)) ?_
  refine wg rfl rfl (fun hb => Spec.move (Has.s rfl)) ?_
  obtain ⟨x13, hx13, hm⟩ := bind_some hm
  refine wg (f := Fact.rep [] (x13 : Bool)) rfl rfl (fun hb => Spec.callE [0, 15, 16] 25 rfl en24 (acts_Same_c x5 a1 (gO_t hx13 hb)) (HasAll.cons (Has.m (Has.cv (Has.u rfl hb) (Cv.trans Cv.owSl (Cv.slRep (T' := [15, 16]) rfl rfl))) rfl) (HasAll.cons (Has.m (Has.u rfl hb) rfl) HasAll.nil))) ?_
  refine wo (Spec.and (Has.s rfl) (fun h => Has.u rfl h)) ?_
  refine wo (Spec.assign (Has.s rfl)) ?_
  refine Walk.nil ?_
  refine Leaf.thenN ?_
  refine CWalk.seq ?_
  refine CWalk.region ?_
  refine mv ?_
  refine Walk.inline (S := Unit) (fun p : Unit => [.fact 0 (.rep [0] (a0 : List Disk)), .fact 1 (.rep [0] (a1 : List Act64)), .fact 9 (.ow [13] [14] 41 (x4 : List Disk)), .fact 10 (.ow [15] [16] 64 (x5 : List Act64)), .fact 15 (.rep [] (((((x8 && (x6.2 == x7.2)) && (x9 == x10)) && (x11 == x12)) && x13) : Bool)), .fact 76 (.top)]) (fun p : Unit => law05_ActsRuns_J1 a0 a1 x4 x5 x6 x7 x8 x9 x10 x11 x12 x13 = some r) (fun u1 => [.fact 902000 (.cst (u1 0) (Fact.rep [0] (a0 : List Disk))), .fact 902001 (.cst (u1 1) (Fact.rep [0] (a1 : List Act64))), .fact 902009 (.cst (u1 9) (Fact.ow [13] [14] 41 (x4 : List Disk))), .fact 902010 (.cst (u1 10) (Fact.ow [15] [16] 64 (x5 : List Act64))), .fact 902015 (.cst (u1 15) (Fact.rep [] (((((x8 && (x6.2 == x7.2)) && (x9 == x10)) && (x11 == x12)) && x13) : Bool)))]) (FA := [Fact.ow [17] [18] 41 (x6.1 : List Disk)]) rfl Try.func16 rfl rfl rfl (CallOk.fn en16 (HasF.cons (Has.s rfl) HasF.nil)) (fun u1 => (cs 902000 0 (cs 902000 1 (cs 902000 9 (cs 902000 10 (cs 902000 15 Carry.nil)))))) (fun u1 => ?_) ?_
  ·refine CWalk.seq ?_
   refine CWalk.region ?_
   refine wo (Spec.assign Has.int) ?_
   refine Walk.nil ?_
   refine Leaf.thenN ?_
   refine CWalk.block ?_
   obtain ⟨b44, hb44, hm⟩ := bind_some hm
   refine CWalk.loop (fun s : Int => [.fact 0 (.lo [17, 18] x6.1), .fact 2 (.rep [] (s : Int)), .fact 902000 (.cst (u1 0) (Fact.rep [0] (a0 : List Disk))), .fact 902001 (.cst (u1 1) (Fact.rep [0] (a1 : List Act64))), .fact 902009 (.cst (u1 9) (Fact.ow [13] [14] 41 (x4 : List Disk))), .fact 902010 (.cst (u1 10) (Fact.ow [15] [16] 64 (x5 : List Act64))), .fact 902015 (.cst (u1 15) (Fact.rep [] (((((x8 && (x6.2 == x7.2)) && (x9 == x10)) && (x11 == x12)) && x13) : Bool)))]) (fun b : Unit => (Exit.exit 0, [.fact 902000 (.cst (u1 0) (Fact.rep [0] (a0 : List Disk))), .fact 902001 (.cst (u1 1) (Fact.rep [0] (a1 : List Act64))), .fact 902009 (.cst (u1 9) (Fact.ow [13] [14] 41 (x4 : List Disk))), .fact 902010 (.cst (u1 10) (Fact.ow [15] [16] 64 (x5 : List Act64))), .fact 902015 (.cst (u1 15) (Fact.rep [] (((((x8 && (x6.2 == x7.2)) && (x9 == x10)) && (x11 == x12)) && x13) : Bool)))])) hb44 (Sub.cons (Has.cv (Has.s rfl) (Cv.trans (Cv.trans Cv.owSl (Cv.slRep (T' := [17, 18]) rfl rfl)) (Cv.lo rfl))) (st (Sub.cons (Has.cst (HasC.cv (HasC.s (s := 902000) rfl) (Cv.m rfl))) (Sub.cons (Has.cst (HasC.cv (HasC.s (s := 902001) rfl) (Cv.m rfl))) (Sub.cons (Has.cst (HasC.cv (HasC.s (s := 902009) rfl) (Cv.owM (T := [13]) (te := [14]) rfl rfl))) (Sub.cons (Has.cst (HasC.cv (HasC.s (s := 902010) rfl) (Cv.owM (T := [15]) (te := [16]) rfl rfl))) (Sub.cons (Has.cst (HasC.cv (HasC.s (s := 902015) rfl) Cv.fl)) Sub.nil))))))) ?_ ?_
   ·rintro s16 c17 hm
    replace hm : law05_ActsRuns_L2 x6 s16 = some c17 := hm
    unfold law05_ActsRuns_L2 at hm
    show CWalk _ [.fact 0 (.lo [17, 18] x6.1), .fact 2 (.rep [] (s16 : Int)), .fact 902000 (.cst (u1 0) (Fact.rep [0] (a0 : List Disk))), .fact 902001 (.cst (u1 1) (Fact.rep [0] (a1 : List Act64))), .fact 902009 (.cst (u1 9) (Fact.ow [13] [14] 41 (x4 : List Disk))), .fact 902010 (.cst (u1 10) (Fact.ow [15] [16] 64 (x5 : List Act64))), .fact 902015 (.cst (u1 15) (Fact.rep [] (((((x8 && (x6.2 == x7.2)) && (x9 == x10)) && (x11 == x12)) && x13) : Bool)))] _ _
    refine CWalk.seq ?_
    refine CWalk.seq ?_
    refine CWalk.region ?_
    refine mv ?_
    refine mv ?_
    refine wo (Spec.lenLo (Has.s rfl) Try.underlying22) ?_
    refine wo (Spec.lssI (Has.s rfl) (Has.s rfl)) ?_
    refine Walk.nil ?_
    refine Leaf.thenN ?_
    refine CWalk.cond rfl (fun hb => ?_) (fun hb => ?_)
    ·have hm := cond_t hb hm
     refine CWalk.skip ?_
     refine Leaf.thenN ?_
     refine CWalk.seq ?_
     refine CWalk.block ?_
     refine CWalk.seq ?_
     refine CWalk.seq ?_
     refine CWalk.region ?_
     refine wo (Spec.assign Has.int) ?_
     refine Walk.nil ?_
     refine Leaf.thenN ?_
     refine CWalk.block ?_
     obtain ⟨b30, hb30, hm⟩ := bind_some hm
     refine CWalk.loop (fun s : Int => [.fact 0 (.lo [17, 18] x6.1), .fact 2 (.rep [] (s16 : Int)), .fact 3 (.rep [] (s : Int)), .fact 902000 (.cst (u1 0) (Fact.rep [0] (a0 : List Disk))), .fact 902001 (.cst (u1 1) (Fact.rep [0] (a1 : List Act64))), .fact 902009 (.cst (u1 9) (Fact.ow [13] [14] 41 (x4 : List Disk))), .fact 902010 (.cst (u1 10) (Fact.ow [15] [16] 64 (x5 : List Act64))), .fact 902015 (.cst (u1 15) (Fact.rep [] (((((x8 && (x6.2 == x7.2)) && (x9 == x10)) && (x11 == x12)) && x13) : Bool)))]) (fun b : Unit => (Exit.exit 2, [.fact 0 (.lo [17, 18] x6.1), .fact 2 (.rep [] (s16 : Int)), .fact 902000 (.cst (u1 0) (Fact.rep [0] (a0 : List Disk))), .fact 902001 (.cst (u1 1) (Fact.rep [0] (a1 : List Act64))), .fact 902009 (.cst (u1 9) (Fact.ow [13] [14] 41 (x4 : List Disk))), .fact 902010 (.cst (u1 10) (Fact.ow [15] [16] 64 (x5 : List Act64))), .fact 902015 (.cst (u1 15) (Fact.rep [] (((((x8 && (x6.2 == x7.2)) && (x9 == x10)) && (x11 == x12)) && x13) : Bool)))])) hb30 (sn (st (st (Sub.cons (Has.cst (HasC.cv (HasC.s (s := 902000) rfl) (Cv.m rfl))) (Sub.cons (Has.cst (HasC.cv (HasC.s (s := 902001) rfl) (Cv.m rfl))) (Sub.cons (Has.cst (HasC.cv (HasC.s (s := 902009) rfl) (Cv.owM (T := [13]) (te := [14]) rfl rfl))) (Sub.cons (Has.cst (HasC.cv (HasC.s (s := 902010) rfl) (Cv.owM (T := [15]) (te := [16]) rfl rfl))) (Sub.cons (Has.cst (HasC.cv (HasC.s (s := 902015) rfl) Cv.fl)) Sub.nil)))))))) ?_ ?_
     ·rintro s18 c19 hm
      replace hm : law05_ActsRuns_L3 x6 s16 s18 = some c19 := hm
      unfold law05_ActsRuns_L3 at hm
      show CWalk _ [.fact 0 (.lo [17, 18] x6.1), .fact 2 (.rep [] (s16 : Int)), .fact 3 (.rep [] (s18 : Int)), .fact 902000 (.cst (u1 0) (Fact.rep [0] (a0 : List Disk))), .fact 902001 (.cst (u1 1) (Fact.rep [0] (a1 : List Act64))), .fact 902009 (.cst (u1 9) (Fact.ow [13] [14] 41 (x4 : List Disk))), .fact 902010 (.cst (u1 10) (Fact.ow [15] [16] 64 (x5 : List Act64))), .fact 902015 (.cst (u1 15) (Fact.rep [] (((((x8 && (x6.2 == x7.2)) && (x9 == x10)) && (x11 == x12)) && x13) : Bool)))] _ _
      refine CWalk.seq ?_
      refine CWalk.seq ?_
      refine CWalk.region ?_
      refine mv ?_
      refine mv ?_
      refine mv ?_
      obtain ⟨x20, hx20, hm⟩ := bind_some hm
      refine wo (Spec.idxLo hx20 sl22 (Has.s rfl) (Has.s rfl)) ?_
      refine wo (Spec.fieldLo fd41_0 (loDisk_0 _) (Has.s rfl)) ?_
      refine wo (Spec.loadLo ty38 (Has.s rfl)) ?_
      refine wo (Spec.lenLo (Has.s rfl) Try.underlying38) ?_
      refine wo (Spec.lssI (Has.s rfl) (Has.s rfl)) ?_
      refine Walk.nil ?_
      refine Leaf.thenN ?_
      refine CWalk.cond rfl (fun hb => ?_) (fun hb => ?_)
      ·have hm := cond_t hb hm
       refine CWalk.skip ?_
       refine Leaf.thenN ?_
       refine CWalk.seq ?_
       refine CWalk.block ?_
       refine CWalk.seq ?_
       refine CWalk.region ?_
       refine wo (Spec.assign Has.int) ?_
       refine Walk.nil ?_
       refine Leaf.thenN ?_
       refine CWalk.block ?_
       obtain ⟨b29, hb29, hm⟩ := bind_some hm
       refine CWalk.loop (fun s : Int => [.fact 0 (.lo [17, 18] x6.1), .fact 2 (.rep [] (s16 : Int)), .fact 3 (.rep [] (s18 : Int)), .fact 4 (.rep [] (s : Int)), .fact 902000 (.cst (u1 0) (Fact.rep [0] (a0 : List Disk))), .fact 902001 (.cst (u1 1) (Fact.rep [0] (a1 : List Act64))), .fact 902009 (.cst (u1 9) (Fact.ow [13] [14] 41 (x4 : List Disk))), .fact 902010 (.cst (u1 10) (Fact.ow [15] [16] 64 (x5 : List Act64))), .fact 902015 (.cst (u1 15) (Fact.rep [] (((((x8 && (x6.2 == x7.2)) && (x9 == x10)) && (x11 == x12)) && x13) : Bool)))]) (fun b : Unit => (Exit.exit 4, [.fact 0 (.lo [17, 18] x6.1), .fact 2 (.rep [] (s16 : Int)), .fact 3 (.rep [] (s18 : Int)), .fact 902000 (.cst (u1 0) (Fact.rep [0] (a0 : List Disk))), .fact 902001 (.cst (u1 1) (Fact.rep [0] (a1 : List Act64))), .fact 902009 (.cst (u1 9) (Fact.ow [13] [14] 41 (x4 : List Disk))), .fact 902010 (.cst (u1 10) (Fact.ow [15] [16] 64 (x5 : List Act64))), .fact 902015 (.cst (u1 15) (Fact.rep [] (((((x8 && (x6.2 == x7.2)) && (x9 == x10)) && (x11 == x12)) && x13) : Bool)))])) hb29 (sn (st (st (st (Sub.cons (Has.cst (HasC.cv (HasC.s (s := 902000) rfl) (Cv.m rfl))) (Sub.cons (Has.cst (HasC.cv (HasC.s (s := 902001) rfl) (Cv.m rfl))) (Sub.cons (Has.cst (HasC.cv (HasC.s (s := 902009) rfl) (Cv.owM (T := [13]) (te := [14]) rfl rfl))) (Sub.cons (Has.cst (HasC.cv (HasC.s (s := 902010) rfl) (Cv.owM (T := [15]) (te := [16]) rfl rfl))) (Sub.cons (Has.cst (HasC.cv (HasC.s (s := 902015) rfl) Cv.fl)) Sub.nil))))))))) ?_ ?_
       ·rintro s21 c22 hm
        replace hm : law05_ActsRuns_L4 x6 s16 s18 s21 = some c22 := hm
        unfold law05_ActsRuns_L4 at hm
        show CWalk _ [.fact 0 (.lo [17, 18] x6.1), .fact 2 (.rep [] (s16 : Int)), .fact 3 (.rep [] (s18 : Int)), .fact 4 (.rep [] (s21 : Int)), .fact 902000 (.cst (u1 0) (Fact.rep [0] (a0 : List Disk))), .fact 902001 (.cst (u1 1) (Fact.rep [0] (a1 : List Act64))), .fact 902009 (.cst (u1 9) (Fact.ow [13] [14] 41 (x4 : List Disk))), .fact 902010 (.cst (u1 10) (Fact.ow [15] [16] 64 (x5 : List Act64))), .fact 902015 (.cst (u1 15) (Fact.rep [] (((((x8 && (x6.2 == x7.2)) && (x9 == x10)) && (x11 == x12)) && x13) : Bool)))] _ _
        refine CWalk.seq ?_
        refine CWalk.seq ?_
        refine CWalk.region ?_
        refine mv ?_
        refine mv ?_
        refine mv ?_
        obtain ⟨x23, hx23, hm⟩ := bind_some hm
        refine wo (Spec.idxLo hx23 sl22 (Has.s rfl) (Has.s rfl)) ?_
        refine wo (Spec.fieldLo fd41_0 (loDisk_0 _) (Has.s rfl)) ?_
        refine wo (Spec.loadLo ty38 (Has.s rfl)) ?_
        refine mv ?_
        obtain ⟨x24, hx24, hm⟩ := bind_some hm
        refine wo (Spec.idxLo hx24 sl38 (Has.s rfl) (Has.s rfl)) ?_
        refine wo (Spec.loadLo ty54 (Has.s rfl)) ?_
        refine wo (Spec.lenLo (Has.s rfl) Try.underlying54) ?_
        refine wo (Spec.lssI (Has.s rfl) (Has.s rfl)) ?_
        refine Walk.nil ?_
        refine Leaf.thenN ?_
        refine CWalk.cond rfl (fun hb => ?_) (fun hb => ?_)
        ·have hm := cond_t hb hm
         refine CWalk.skip ?_
         refine Leaf.thenN ?_
         refine CWalk.seq ?_
         refine CWalk.block ?_
         refine CWalk.region ?_
         refine mv ?_
         refine mv ?_
         obtain ⟨x25, hx25, hm⟩ := bind_some hm
         refine wo (Spec.idxLo hx25 sl22 (Has.s rfl) (Has.s rfl)) ?_
         refine wo (Spec.fieldLo fd41_0 (loDisk_0 _) (Has.s rfl)) ?_
         refine wo (Spec.loadLo ty38 (Has.s rfl)) ?_
         refine mv ?_
         obtain ⟨x26, hx26, hm⟩ := bind_some hm
         refine wo (Spec.idxLo hx26 sl38 (Has.s rfl) (Has.s rfl)) ?_
         refine wo (Spec.loadLo ty54 (Has.s rfl)) ?_
         refine mv ?_
         obtain ⟨x27, hx27, hm⟩ := bind_some hm
         refine wo (Spec.idxLo hx27 sl54 (Has.s rfl) (Has.s rfl)) ?_
         refine wo (Spec.loadLo ty5 (Has.s rfl)) ?_
         refine wo (Spec.add8Lo (Has.s rfl) (Has.u8 1 rfl)) ?_
         obtain ⟨x28, hx28, hm⟩ := bind_some hm
         refine wo (Spec.idxLo hx28 sl54 (Has.s rfl) (Has.s rfl)) ?_
         refine ws (Step.storeL (T := [17, 18]) (LL := [.fact 0 (.lo [17, 18] x6.1)]) rfl ty5 (Has.s rfl) (Has.s rfl) (LooseL.lo rfl LooseL.nil)) ?_
         refine Walk.nil ?_
         refine Leaf.blockN ?_
         refine Leaf.thenN ?_
         refine CWalk.region ?_
         refine mv ?_
         refine wo (Spec.addI (Has.s rfl) Has.int) ?_
         refine wo (Spec.assign (Has.s rfl)) ?_
         refine Walk.nil ?_
         exact Leaf.next hm (sn (st (st (st (Sub.cons (Has.cst (HasC.cv (HasC.s (s := 902000) rfl) (Cv.m rfl))) (Sub.cons (Has.cst (HasC.cv (HasC.s (s := 902001) rfl) (Cv.m rfl))) (Sub.cons (Has.cst (HasC.cv (HasC.s (s := 902009) rfl) (Cv.owM (T := [13]) (te := [14]) rfl rfl))) (Sub.cons (Has.cst (HasC.cv (HasC.s (s := 902010) rfl) (Cv.owM (T := [15]) (te := [16]) rfl rfl))) (Sub.cons (Has.cst (HasC.cv (HasC.s (s := 902015) rfl) Cv.fl)) Sub.nil)))))))))
        ·have hm := cond_f hb hm
         refine CWalk.exit ?_
         refine Leaf.thenE ?_
         exact Leaf.brk hm (fun h => nomatch h) rfl (sn (st (st (Sub.cons (Has.cst (HasC.cv (HasC.s (s := 902000) rfl) (Cv.m rfl))) (Sub.cons (Has.cst (HasC.cv (HasC.s (s := 902001) rfl) (Cv.m rfl))) (Sub.cons (Has.cst (HasC.cv (HasC.s (s := 902009) rfl) (Cv.owM (T := [13]) (te := [14]) rfl rfl))) (Sub.cons (Has.cst (HasC.cv (HasC.s (s := 902010) rfl) (Cv.owM (T := [15]) (te := [16]) rfl rfl))) (Sub.cons (Has.cst (HasC.cv (HasC.s (s := 902015) rfl) Cv.fl)) Sub.nil))))))))
       ·intro _
        refine Leaf.blockE ?_
        refine Leaf.blockN ?_
        refine Leaf.thenN ?_
        refine CWalk.region ?_
        refine mv ?_
        refine wo (Spec.addI (Has.s rfl) Has.int) ?_
        refine wo (Spec.assign (Has.s rfl)) ?_
        refine Walk.nil ?_
        exact Leaf.next hm (sn (st (st (Sub.cons (Has.cst (HasC.cv (HasC.s (s := 902000) rfl) (Cv.m rfl))) (Sub.cons (Has.cst (HasC.cv (HasC.s (s := 902001) rfl) (Cv.m rfl))) (Sub.cons (Has.cst (HasC.cv (HasC.s (s := 902009) rfl) (Cv.owM (T := [13]) (te := [14]) rfl rfl))) (Sub.cons (Has.cst (HasC.cv (HasC.s (s := 902010) rfl) (Cv.owM (T := [15]) (te := [16]) rfl rfl))) (Sub.cons (Has.cst (HasC.cv (HasC.s (s := 902015) rfl) Cv.fl)) Sub.nil))))))))
      ·have hm := cond_f hb hm
       refine CWalk.exit ?_
       refine Leaf.thenE ?_
       exact Leaf.brk hm (fun h => nomatch h) rfl (sn (st (Sub.cons (Has.cst (HasC.cv (HasC.s (s := 902000) rfl) (Cv.m rfl))) (Sub.cons (Has.cst (HasC.cv (HasC.s (s := 902001) rfl) (Cv.m rfl))) (Sub.cons (Has.cst (HasC.cv (HasC.s (s := 902009) rfl) (Cv.owM (T := [13]) (te := [14]) rfl rfl))) (Sub.cons (Has.cst (HasC.cv (HasC.s (s := 902010) rfl) (Cv.owM (T := [15]) (te := [16]) rfl rfl))) (Sub.cons (Has.cst (HasC.cv (HasC.s (s := 902015) rfl) Cv.fl)) Sub.nil)))))))
     ·intro _
      refine Leaf.blockE ?_
      refine Leaf.thenN ?_
      refine CWalk.seq ?_
      refine CWalk.region ?_
      refine wo (Spec.assign Has.int) ?_
      refine Walk.nil ?_
      refine Leaf.thenN ?_
      refine CWalk.block ?_
      obtain ⟨b43, hb43, hm⟩ := bind_some hm
      refine CWalk.loop (fun s : Int => [.fact 0 (.lo [17, 18] x6.1), .fact 2 (.rep [] (s16 : Int)), .fact 5 (.rep [] (s : Int)), .fact 902000 (.cst (u1 0) (Fact.rep [0] (a0 : List Disk))), .fact 902001 (.cst (u1 1) (Fact.rep [0] (a1 : List Act64))), .fact 902009 (.cst (u1 9) (Fact.ow [13] [14] 41 (x4 : List Disk))), .fact 902010 (.cst (u1 10) (Fact.ow [15] [16] 64 (x5 : List Act64))), .fact 902015 (.cst (u1 15) (Fact.rep [] (((((x8 && (x6.2 == x7.2)) && (x9 == x10)) && (x11 == x12)) && x13) : Bool)))]) (fun b : Unit => (Exit.exit 6, [.fact 0 (.lo [17, 18] x6.1), .fact 2 (.rep [] (s16 : Int)), .fact 902000 (.cst (u1 0) (Fact.rep [0] (a0 : List Disk))), .fact 902001 (.cst (u1 1) (Fact.rep [0] (a1 : List Act64))), .fact 902009 (.cst (u1 9) (Fact.ow [13] [14] 41 (x4 : List Disk))), .fact 902010 (.cst (u1 10) (Fact.ow [15] [16] 64 (x5 : List Act64))), .fact 902015 (.cst (u1 15) (Fact.rep [] (((((x8 && (x6.2 == x7.2)) && (x9 == x10)) && (x11 == x12)) && x13) : Bool)))])) hb43 (sn (st (st (Sub.cons (Has.cst (HasC.cv (HasC.s (s := 902000) rfl) (Cv.m rfl))) (Sub.cons (Has.cst (HasC.cv (HasC.s (s := 902001) rfl) (Cv.m rfl))) (Sub.cons (Has.cst (HasC.cv (HasC.s (s := 902009) rfl) (Cv.owM (T := [13]) (te := [14]) rfl rfl))) (Sub.cons (Has.cst (HasC.cv (HasC.s (s := 902010) rfl) (Cv.owM (T := [15]) (te := [16]) rfl rfl))) (Sub.cons (Has.cst (HasC.cv (HasC.s (s := 902015) rfl) Cv.fl)) Sub.nil)))))))) ?_ ?_
      ·rintro s31 c32 hm
       replace hm : law05_ActsRuns_L5 x6 s16 s31 = some c32 := hm
       unfold law05_ActsRuns_L5 at hm
       show CWalk _ [.fact 0 (.lo [17, 18] x6.1), .fact 2 (.rep [] (s16 : Int)), .fact 5 (.rep [] (s31 : Int)), .fact 902000 (.cst (u1 0) (Fact.rep [0] (a0 : List Disk))), .fact 902001 (.cst (u1 1) (Fact.rep [0] (a1 : List Act64))), .fact 902009 (.cst (u1 9) (Fact.ow [13] [14] 41 (x4 : List Disk))), .fact 902010 (.cst (u1 10) (Fact.ow [15] [16] 64 (x5 : List Act64))), .fact 902015 (.cst (u1 15) (Fact.rep [] (((((x8 && (x6.2 == x7.2)) && (x9 == x10)) && (x11 == x12)) && x13) : Bool)))] _ _
       refine CWalk.seq ?_
       refine CWalk.seq ?_
       refine CWalk.region ?_
       refine mv ?_
       refine mv ?_
       refine mv ?_
       obtain ⟨x33, hx33, hm⟩ := bind_some hm
       refine wo (Spec.idxLo hx33 sl22 (Has.s rfl) (Has.s rfl)) ?_
       refine wo (Spec.fieldLo fd41_1 (loDisk_1 _) (Has.s rfl)) ?_
       refine wo (Spec.loadLo ty39 (Has.s rfl)) ?_
       refine wo (Spec.lenLo (Has.s rfl) Try.underlying39) ?_
       refine wo (Spec.lssI (Has.s rfl) (Has.s rfl)) ?_
       refine Walk.nil ?_
       refine Leaf.thenN ?_
       refine CWalk.cond rfl (fun hb => ?_) (fun hb => ?_)
       ·have hm := cond_t hb hm
        refine CWalk.skip ?_
        refine Leaf.thenN ?_
        refine CWalk.seq ?_
        refine CWalk.block ?_
        refine CWalk.seq ?_
        refine CWalk.region ?_
        refine wo (Spec.assign Has.int) ?_
        refine Walk.nil ?_
        refine Leaf.thenN ?_
        refine CWalk.block ?_
        obtain ⟨b42, hb42, hm⟩ := bind_some hm
        refine CWalk.loop (fun s : Int => [.fact 0 (.lo [17, 18] x6.1), .fact 2 (.rep [] (s16 : Int)), .fact 5 (.rep [] (s31 : Int)), .fact 6 (.rep [] (s : Int)), .fact 902000 (.cst (u1 0) (Fact.rep [0] (a0 : List Disk))), .fact 902001 (.cst (u1 1) (Fact.rep [0] (a1 : List Act64))), .fact 902009 (.cst (u1 9) (Fact.ow [13] [14] 41 (x4 : List Disk))), .fact 902010 (.cst (u1 10) (Fact.ow [15] [16] 64 (x5 : List Act64))), .fact 902015 (.cst (u1 15) (Fact.rep [] (((((x8 && (x6.2 == x7.2)) && (x9 == x10)) && (x11 == x12)) && x13) : Bool)))]) (fun b : Unit => (Exit.exit 8, [.fact 0 (.lo [17, 18] x6.1), .fact 2 (.rep [] (s16 : Int)), .fact 5 (.rep [] (s31 : Int)), .fact 902000 (.cst (u1 0) (Fact.rep [0] (a0 : List Disk))), .fact 902001 (.cst (u1 1) (Fact.rep [0] (a1 : List Act64))), .fact 902009 (.cst (u1 9) (Fact.ow [13] [14] 41 (x4 : List Disk))), .fact 902010 (.cst (u1 10) (Fact.ow [15] [16] 64 (x5 : List Act64))), .fact 902015 (.cst (u1 15) (Fact.rep [] (((((x8 && (x6.2 == x7.2)) && (x9 == x10)) && (x11 == x12)) && x13) : Bool)))])) hb42 (sn (st (st (st (Sub.cons (Has.cst (HasC.cv (HasC.s (s := 902000) rfl) (Cv.m rfl))) (Sub.cons (Has.cst (HasC.cv (HasC.s (s := 902001) rfl) (Cv.m rfl))) (Sub.cons (Has.cst (HasC.cv (HasC.s (s := 902009) rfl) (Cv.owM (T := [13]) (te := [14]) rfl rfl))) (Sub.cons (Has.cst (HasC.cv (HasC.s (s := 902010) rfl) (Cv.owM (T := [15]) (te := [16]) rfl rfl))) (Sub.cons (Has.cst (HasC.cv (HasC.s (s := 902015) rfl) Cv.fl)) Sub.nil))))))))) ?_ ?_
        ·rintro s34 c35 hm
         replace hm : law05_ActsRuns_L6 x6 s16 s31 s34 = some c35 := hm
         unfold law05_ActsRuns_L6 at hm
         show CWalk _ [.fact 0 (.lo [17, 18] x6.1), .fact 2 (.rep [] (s16 : Int)), .fact 5 (.rep [] (s31 : Int)), .fact 6 (.rep [] (s34 : Int)), .fact 902000 (.cst (u1 0) (Fact.rep [0] (a0 : List Disk))), .fact 902001 (.cst (u1 1) (Fact.rep [0] (a1 : List Act64))), .fact 902009 (.cst (u1 9) (Fact.ow [13] [14] 41 (x4 : List Disk))), .fact 902010 (.cst (u1 10) (Fact.ow [15] [16] 64 (x5 : List Act64))), .fact 902015 (.cst (u1 15) (Fact.rep [] (((((x8 && (x6.2 == x7.2)) && (x9 == x10)) && (x11 == x12)) && x13) : Bool)))] _ _
         refine CWalk.seq ?_
         refine CWalk.seq ?_
         refine CWalk.region ?_
         refine mv ?_
         refine mv ?_
         refine mv ?_
         obtain ⟨x36, hx36, hm⟩ := bind_some hm
         refine wo (Spec.idxLo hx36 sl22 (Has.s rfl) (Has.s rfl)) ?_
         refine wo (Spec.fieldLo fd41_1 (loDisk_1 _) (Has.s rfl)) ?_
         refine wo (Spec.loadLo ty39 (Has.s rfl)) ?_
         refine mv ?_
         obtain ⟨x37, hx37, hm⟩ := bind_some hm
         refine wo (Spec.idxLo hx37 sl39 (Has.s rfl) (Has.s rfl)) ?_
         refine wo (Spec.fieldLo fd58_1 (loWrite_1 _) (Has.s rfl)) ?_
         refine wo (Spec.loadLo ty54 (Has.s rfl)) ?_
         refine wo (Spec.lenLo (Has.s rfl) Try.underlying54) ?_
         refine wo (Spec.lssI (Has.s rfl) (Has.s rfl)) ?_
         refine Walk.nil ?_
         refine Leaf.thenN ?_
         refine CWalk.cond rfl (fun hb => ?_) (fun hb => ?_)
         ·have hm := cond_t hb hm
          refine CWalk.skip ?_
          refine Leaf.thenN ?_
          refine CWalk.seq ?_
          refine CWalk.block ?_
          refine CWalk.region ?_
          refine mv ?_
          refine mv ?_
          obtain ⟨x38, hx38, hm⟩ := bind_some hm
          refine wo (Spec.idxLo hx38 sl22 (Has.s rfl) (Has.s rfl)) ?_
          refine wo (Spec.fieldLo fd41_1 (loDisk_1 _) (Has.s rfl)) ?_
          refine wo (Spec.loadLo ty39 (Has.s rfl)) ?_
          refine mv ?_
          obtain ⟨x39, hx39, hm⟩ := bind_some hm
          refine wo (Spec.idxLo hx39 sl39 (Has.s rfl) (Has.s rfl)) ?_
          refine wo (Spec.fieldLo fd58_1 (loWrite_1 _) (Has.s rfl)) ?_
          refine wo (Spec.loadLo ty54 (Has.s rfl)) ?_
          refine mv ?_
          obtain ⟨x40, hx40, hm⟩ := bind_some hm
          refine wo (Spec.idxLo hx40 sl54 (Has.s rfl) (Has.s rfl)) ?_
          refine wo (Spec.loadLo ty5 (Has.s rfl)) ?_
          refine wo (Spec.add8Lo (Has.s rfl) (Has.u8 1 rfl)) ?_
          obtain ⟨x41, hx41, hm⟩ := bind_some hm
          refine wo (Spec.idxLo hx41 sl54 (Has.s rfl) (Has.s rfl)) ?_
          refine ws (Step.storeL (T := [17, 18]) (LL := [.fact 0 (.lo [17, 18] x6.1)]) rfl ty5 (Has.s rfl) (Has.s rfl) (LooseL.lo rfl LooseL.nil)) ?_
          refine Walk.nil ?_
          refine Leaf.blockN ?_
          refine Leaf.thenN ?_
          refine CWalk.region ?_
          refine mv ?_
          refine wo (Spec.addI (Has.s rfl) Has.int) ?_
          refine wo (Spec.assign (Has.s rfl)) ?_
          refine Walk.nil ?_
          exact Leaf.next hm (sn (st (st (st (Sub.cons (Has.cst (HasC.cv (HasC.s (s := 902000) rfl) (Cv.m rfl))) (Sub.cons (Has.cst (HasC.cv (HasC.s (s := 902001) rfl) (Cv.m rfl))) (Sub.cons (Has.cst (HasC.cv (HasC.s (s := 902009) rfl) (Cv.owM (T := [13]) (te := [14]) rfl rfl))) (Sub.cons (Has.cst (HasC.cv (HasC.s (s := 902010) rfl) (Cv.owM (T := [15]) (te := [16]) rfl rfl))) (Sub.cons (Has.cst (HasC.cv (HasC.s (s := 902015) rfl) Cv.fl)) Sub.nil)))))))))
         ·have hm := cond_f hb hm
          refine CWalk.exit ?_
          refine Leaf.thenE ?_
          exact Leaf.brk hm (fun h => nomatch h) rfl (sn (st (st (Sub.cons (Has.cst (HasC.cv (HasC.s (s := 902000) rfl) (Cv.m rfl))) (Sub.cons (Has.cst (HasC.cv (HasC.s (s := 902001) rfl) (Cv.m rfl))) (Sub.cons (Has.cst (HasC.cv (HasC.s (s := 902009) rfl) (Cv.owM (T := [13]) (te := [14]) rfl rfl))) (Sub.cons (Has.cst (HasC.cv (HasC.s (s := 902010) rfl) (Cv.owM (T := [15]) (te := [16]) rfl rfl))) (Sub.cons (Has.cst (HasC.cv (HasC.s (s := 902015) rfl) Cv.fl)) Sub.nil))))))))
        ·intro _
         refine Leaf.blockE ?_
         refine Leaf.blockN ?_
         refine Leaf.thenN ?_
         refine CWalk.region ?_
         refine mv ?_
         refine wo (Spec.addI (Has.s rfl) Has.int) ?_
         refine wo (Spec.assign (Has.s rfl)) ?_
         refine Walk.nil ?_
         exact Leaf.next hm (sn (st (st (Sub.cons (Has.cst (HasC.cv (HasC.s (s := 902000) rfl) (Cv.m rfl))) (Sub.cons (Has.cst (HasC.cv (HasC.s (s := 902001) rfl) (Cv.m rfl))) (Sub.cons (Has.cst (HasC.cv (HasC.s (s := 902009) rfl) (Cv.owM (T := [13]) (te := [14]) rfl rfl))) (Sub.cons (Has.cst (HasC.cv (HasC.s (s := 902010) rfl) (Cv.owM (T := [15]) (te := [16]) rfl rfl))) (Sub.cons (Has.cst (HasC.cv (HasC.s (s := 902015) rfl) Cv.fl)) Sub.nil))))))))
       ·have hm := cond_f hb hm
        refine CWalk.exit ?_
        refine Leaf.thenE ?_
        exact Leaf.brk hm (fun h => nomatch h) rfl (sn (st (Sub.cons (Has.cst (HasC.cv (HasC.s (s := 902000) rfl) (Cv.m rfl))) (Sub.cons (Has.cst (HasC.cv (HasC.s (s := 902001) rfl) (Cv.m rfl))) (Sub.cons (Has.cst (HasC.cv (HasC.s (s := 902009) rfl) (Cv.owM (T := [13]) (te := [14]) rfl rfl))) (Sub.cons (Has.cst (HasC.cv (HasC.s (s := 902010) rfl) (Cv.owM (T := [15]) (te := [16]) rfl rfl))) (Sub.cons (Has.cst (HasC.cv (HasC.s (s := 902015) rfl) Cv.fl)) Sub.nil)))))))
      ·intro _
       refine Leaf.blockE ?_
       refine Leaf.blockN ?_
       refine Leaf.thenN ?_
       refine CWalk.region ?_
       refine mv ?_
       refine wo (Spec.addI (Has.s rfl) Has.int) ?_
       refine wo (Spec.assign (Has.s rfl)) ?_
       refine Walk.nil ?_
       exact Leaf.next hm (sn (st (Sub.cons (Has.cst (HasC.cv (HasC.s (s := 902000) rfl) (Cv.m rfl))) (Sub.cons (Has.cst (HasC.cv (HasC.s (s := 902001) rfl) (Cv.m rfl))) (Sub.cons (Has.cst (HasC.cv (HasC.s (s := 902009) rfl) (Cv.owM (T := [13]) (te := [14]) rfl rfl))) (Sub.cons (Has.cst (HasC.cv (HasC.s (s := 902010) rfl) (Cv.owM (T := [15]) (te := [16]) rfl rfl))) (Sub.cons (Has.cst (HasC.cv (HasC.s (s := 902015) rfl) Cv.fl)) Sub.nil)))))))
    ·have hm := cond_f hb hm
     refine CWalk.exit ?_
     refine Leaf.thenE ?_
     exact Leaf.brk hm (fun h => nomatch h) rfl (Sub.cons (Has.cst (HasC.cv (HasC.s (s := 902000) rfl) (Cv.m rfl))) (Sub.cons (Has.cst (HasC.cv (HasC.s (s := 902001) rfl) (Cv.m rfl))) (Sub.cons (Has.cst (HasC.cv (HasC.s (s := 902009) rfl) (Cv.owM (T := [13]) (te := [14]) rfl rfl))) (Sub.cons (Has.cst (HasC.cv (HasC.s (s := 902010) rfl) (Cv.owM (T := [15]) (te := [16]) rfl rfl))) (Sub.cons (Has.cst (HasC.cv (HasC.s (s := 902015) rfl) Cv.fl)) Sub.nil)))))
   ·intro _
    refine Leaf.blockE ?_
    exact Leaf.inN (Leaf.in0 (f0 := Fact.top) () hm rfl rfl (fun _ _ => trivial) (Low.slot rfl (HasC.cv (HasC.s (s := 902000) rfl) (Cv.m rfl)) (Low.slot rfl (HasC.cv (HasC.s (s := 902001) rfl) (Cv.m rfl)) (Low.slot rfl (HasC.cv (HasC.s (s := 902009) rfl) (Cv.owM (T := [13]) (te := [14]) rfl rfl)) (Low.slot rfl (HasC.cv (HasC.s (s := 902010) rfl) (Cv.owM (T := [15]) (te := [16]) rfl rfl)) (Low.slot rfl (HasC.cv (HasC.s (s := 902015) rfl) Cv.fl) (Low.res Low.nil)))))))
  ·rintro _ hm
   replace hm : law05_ActsRuns_J1 a0 a1 x4 x5 x6 x7 x8 x9 x10 x11 x12 x13 = some r := hm
   unfold law05_ActsRuns_J1 at hm
   show Walk _ _ _ [.fact 0 (.rep [0] (a0 : List Disk)), .fact 1 (.rep [0] (a1 : List Act64)), .fact 9 (.ow [13] [14] 41 (x4 : List Disk)), .fact 10 (.ow [15] [16] 64 (x5 : List Act64)), .fact 15 (.rep [] (((((x8 && (x6.2 == x7.2)) && (x9 == x10)) && (x11 == x12)) && x13) : Bool)), .fact 76 (.top)] _
   refine Walk.nil ?_
   refine Leaf.thenN ?_
   refine CWalk.seq ?_
   refine CWalk.region ?_
   refine mv ?_
   refine mv ?_
   refine wg rfl rfl (fun hb => Spec.move (Has.s rfl)) ?_
   refine wg rfl rfl (fun hb => Spec.move (Has.s rfl)) ?_
   obtain ⟨x14, hx14, hm⟩ := bind_some hm
   refine wg (f := Fact.rep [] (x14 : Bool)) rfl rfl (fun hb => Spec.callE [0, 13, 14] 26 rfl en15 (ref05_SameDisks_c x4 a0 (gO_t hx14 hb)) (HasAll.cons (Has.m (Has.cv (Has.u rfl hb) (Cv.trans Cv.owSl (Cv.slRep (T' := [13, 14]) rfl rfl))) rfl) (HasAll.cons (Has.m (Has.u rfl hb) rfl) HasAll.nil))) ?_
   refine wo (Spec.and (Has.s rfl) (fun h => Has.u rfl h)) ?_
   refine mv ?_
   refine wg rfl rfl (fun hb => Spec.move (Has.s rfl)) ?_
   refine wg rfl rfl (fun hb => Spec.move (Has.s rfl)) ?_
   obtain ⟨x15, hx15, hm⟩ := bind_some hm
   refine wg (f := Fact.rep [] (x15 : Bool)) rfl rfl (fun hb => Spec.callE [0, 15, 16] 27 rfl en25 (ref05_Same_c x5 a1 (gO_t hx15 hb)) (HasAll.cons (Has.m (Has.cv (Has.u rfl hb) (Cv.trans Cv.owSl (Cv.slRep (T' := [15, 16]) rfl rfl))) rfl) (HasAll.cons (Has.m (Has.u rfl hb) rfl) HasAll.nil))) ?_
   refine wo (Spec.and (Has.s rfl) (fun h => Has.u rfl h)) ?_
   refine wo (Spec.assign (Has.s rfl)) ?_
   refine Walk.nil ?_
   refine Leaf.thenN ?_
   refine CWalk.ret ?_
   obtain rfl := Option.some.inj hm
   exact Leaf.retC1 rfl (HasR.cv (HasR.tmp (Has.s rfl)) Cv.fl)

end Go.Proofs.Ytgkhjpfnmbdchaa
