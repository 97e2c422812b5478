/- Printed by a program of ours: models of functions, and that calls do what they say. -/
import Derived.Test.YtgjibgklailenaaGlt2
set_option linter.unusedVariables false
set_option linter.unusedSimpArgs false
set_option linter.unnecessarySimpa false
namespace Go.Proofs.Ytgjibgklailenaa
open Go GL
set_option linter.unusedVariables false

def law23_LossTold_J2 (s5 : Int) : Option (Ctl (Int) ((Unit) ⊕ (Unit))) :=
  some (Ctl.next (wI (s5 + (1 : Int))))
def law23_LossTold_L3 (a4 : Int) (x2 : Loss × (List Act58) × Int) (s5 : Int) (s9 : Bool) (s10 : Int) : Option (Ctl (Bool × Int) (Bool)) :=
  (bif (decide (s10 < a4)) then Option.bind (gO (!s9) (idx x2.2.1 s10)) (fun x12 => some (Ctl.next ((s9 || (x12.Disk == s5)), (wI (s10 + (1 : Int)))))) else some (Ctl.brk s9))
def law23_LossTold_J5 (s14 : Int) : Option (Ctl (Int) ((Unit) ⊕ (Unit))) :=
  some (Ctl.next (wI (s14 + (1 : Int))))
def law23_LossTold_L4 (a0 : Config) (a1 : List Disk) (a2 : Loss) (a3 : Bool) (x4 : (List Disk) × Int) (s5 : Int) (b13 : Bool) (s14 : Int) : Option (Ctl (Int) ((Unit) ⊕ (Unit))) :=
  Option.bind (idx a1 s5) (fun x16 => (bif (decide (s14 < ((x16.Blocks).length : Int))) then Option.bind (idx a1 s5) (fun x17 => Option.bind (disk_Read x17 s14) (fun x18 => Option.bind (idx x4.1 s5) (fun x19 => Option.bind (disk_Read x19 s14) (fun x20 => (bif ((x18.2 != (0 : Int)) || (x20.2 != (0 : Int))) then some (Ctl.brk (Sum.inr ())) else (bif ((s14 == (0 : Int)) && b13) then Option.bind (label_Read x20.1) (fun x21 => (bif ((x21.2 != (0 : Int)) || (!decide (x21.1 = (Label.mk a0.Id (scW.of ((a2.Events.toNat : Int) + ((1 : UInt32).toNat : Int))) a0.Members a0.Chunk a0.Rows a0.Log s5 a2.Lost a2.Done a3)))) then some (Ctl.brk (Sum.inr ())) else (law23_LossTold_J5 s14))) else (bif (!((Str.mk x18.1).s == (Str.mk x20.1).s)) then some (Ctl.brk (Sum.inr ())) else (law23_LossTold_J5 s14)))))))) else some (Ctl.brk (Sum.inl ()))))
def law23_LossTold_L1 (a0 : Config) (a1 : List Disk) (a2 : Loss) (a3 : Bool) (a4 : Int) (x2 : Loss × (List Act58) × Int) (x4 : (List Disk) × Int) (s5 : Int) : Option (Ctl (Int) ((Unit) ⊕ (Unit))) :=
  (bif (decide (s5 < ((a1).length : Int))) then Option.bind (idx a1 s5) (fun x7 => (bif x7.Dead then Option.bind (idx x4.1 s5) (fun x8 => (bif (!x8.Dead) then some (Ctl.brk (Sum.inr ())) else (law23_LossTold_J2 s5))) else Option.bind (loopM (fun s : Bool × Int => law23_LossTold_L3 a4 x2 s5 s.1 s.2) FUEL (false, (0 : Int))) (fun b13 => Option.bind (loopM (fun s : Int => law23_LossTold_L4 a0 a1 a2 a3 x4 s5 b13 s) FUEL (0 : Int)) (fun b22 => Sum.elim (fun b23 => (law23_LossTold_J2 s5)) (fun b24 => some (Ctl.brk (Sum.inr ()))) b22)))) else some (Ctl.brk (Sum.inl ())))
/-- freeboard/freeboardlaw23.LossTold -/
def law23_LossTold (a0 : Config) (a1 : List Disk) (a2 : Loss) (a3 : Bool) (a4 : Int) : Option (Bool) :=
  Option.bind (law23_alive) (fun x1 => Option.bind (loss_Labels a0 a2 a3) (fun x2 => Option.bind (ref05_Great a1) (fun x3 => (bif ((x3 || (x2.2.2 != (0 : Int))) || (!x1)) then some x1 else Option.bind (acts_Run a1 x2.2.1 a4) (fun x4 => (bif ((x4.2 != (0 : Int)) || (decide (((a1).length : Int) < a0.Members))) then some true else Option.bind (loopM (fun s : Int => law23_LossTold_L1 a0 a1 a2 a3 a4 x2 x4 s) FUEL (0 : Int)) (fun b25 => Sum.elim (fun b26 => Option.bind (gO (((x2.1.Events.toNat : Int) == ((scW.of ((a2.Events.toNat : Int) + ((1 : UInt32).toNat : Int))).toNat : Int))) (loss_Check a0 x2.1)) (fun x27 => some (((x2.1.Events.toNat : Int) == ((scW.of ((a2.Events.toNat : Int) + ((1 : UInt32).toNat : Int))).toNat : Int)) && (x27 == (0 : Int))))) (fun b28 => some false) b25)))))))
set_option maxRecDepth 100000 in
set_option maxHeartbeats 2000000 in
theorem law23_LossTold_c (a0 : Config) (a1 : List Disk) (a2 : Loss) (a3 : Bool) (a4 : Int) {r : Bool} (hm : law23_LossTold a0 a1 a2 a3 a4 = some r) : Ctr Try.prog 7 [.rep 0 a0, .rep 0 a1, .rep 0 a2, .rep 0 a3, .rep 0 a4] (.fl r) [] := by
 refine ctr_of_walk [[]] 184 Try.func7 rfl rfl rfl rfl (fun w0 om => ?_)
 unfold law23_LossTold at hm
 refine CWalk.sub (G' := [.fact 0 (.rep [] (a0 : Config)), .fact 1 (.rep [0] (a1 : List Disk)), .fact 2 (.rep [] (a2 : Loss)), .fact 3 (.rep [] (a3 : Bool)), .fact 4 (.rep [] (a4 : Int))]) (Sub.cons (Has.fl (Has.s rfl)) (sn (Sub.cons (Has.fl (Has.s rfl)) (Sub.cons (Has.fl (Has.s rfl)) (Sub.cons (Has.fl (Has.s rfl)) Sub.nil))))) ?_
 refine CWalk.seq ?_
 refine CWalk.region ?_
 refine ws (Step.boxObj (ls := [(false, 1, Fact.rep [] a0.Id), (false, 1, Fact.rep [] a0.Members), (false, 1, Fact.rep [] a0.Chunk), (false, 1, Fact.rep [] a0.Rows), (false, 1, Fact.rep [] a0.Log), (false, 1, Fact.rep [] a0.Heads)]) 10 rfl rfl rfl rfl (HasL.flds (Has.cv (Has.s rfl) (Cv.trans (Cv.opens (chConfig a0)) (Cv.flds (CvL.cons Cv.fl (CvL.cons Cv.fl (CvL.cons Cv.fl (CvL.cons Cv.fl (CvL.cons Cv.fl (CvL.cons Cv.fl CvL.nil))))))))))) ?_
 refine ws (Step.boxObj (ls := [(false, 1, Fact.rep [] a2.Events), (false, 1, Fact.rep [] a2.Lost), (false, 1, Fact.rep [] a2.Spare), (false, 1, Fact.rep [] a2.Pos), (false, 1, Fact.rep [] a2.Done), (false, 1, Fact.rep [] a2.NoLog), (false, 1, Fact.rep [] a2.Broken)]) 17 rfl rfl rfl rfl (HasL.flds (Has.cv (Has.s rfl) (Cv.trans (Cv.opens (chLoss a2)) (Cv.flds (CvL.cons Cv.fl (CvL.cons Cv.fl (CvL.cons Cv.fl (CvL.cons Cv.fl (CvL.cons Cv.fl (CvL.cons Cv.fl (CvL.cons Cv.fl CvL.nil)))))))))))) ?_
 refine wo (Spec.assign Has.bool) ?_
 refine Walk.nil ?_
 refine Leaf.thenN ?_
 refine CWalk.seq ?_
 refine CWalk.region ?_
 obtain ⟨x1, hx1, hm⟩ := bind_some hm
 refine wo (f := Fact.rep [] (x1 : Bool)) (Spec.callE [] 25 rfl en20 (law23_alive_c  hx1) HasAll.nil) ?_
 refine wo (Spec.assign (Has.s rfl)) ?_
 refine Walk.nil ?_
 refine Leaf.thenN ?_
 refine CWalk.seq ?_
 refine CWalk.region ?_
 refine wo (Spec.loadObj (ls := [(false, 1, Fact.rep [] a0.Id), (false, 1, Fact.rep [] a0.Members), (false, 1, Fact.rep [] a0.Chunk), (false, 1, Fact.rep [] a0.Rows), (false, 1, Fact.rep [] a0.Log), (false, 1, Fact.rep [] a0.Heads)]) ty24 rfl rfl (Has.s rfl) rfl (HasGs.cons (HasG.s rfl) (HasGs.cons (HasG.s rfl) (HasGs.cons (HasG.s rfl) (HasGs.cons (HasG.s rfl) (HasGs.cons (HasG.s rfl) (HasGs.cons (HasG.s rfl) HasGs.nil))))))) ?_
 refine wo (Spec.loadObj (ls := [(false, 1, Fact.rep [] a2.Events), (false, 1, Fact.rep [] a2.Lost), (false, 1, Fact.rep [] a2.Spare), (false, 1, Fact.rep [] a2.Pos), (false, 1, Fact.rep [] a2.Done), (false, 1, Fact.rep [] a2.NoLog), (false, 1, Fact.rep [] a2.Broken)]) ty26 rfl rfl (Has.s rfl) rfl (HasGs.cons (HasG.s rfl) (HasGs.cons (HasG.s rfl) (HasGs.cons (HasG.s rfl) (HasGs.cons (HasG.s rfl) (HasGs.cons (HasG.s rfl) (HasGs.cons (HasG.s rfl) (HasGs.cons (HasG.s rfl) HasGs.nil)))))))) ?_
 refine mv ?_
 obtain ⟨x2, hx2, hm⟩ := bind_some hm
 refine wo (f := Fact.tup3 (Fact.rep [] x2.1) (Fact.ow [26] [27] 58 (x2.2.1 : List Act58)) (Fact.rep [] x2.2.2)) (Spec.callE [] 26 rfl en25 (loss_Labels_c a0 a2 a3 hx2) (HasAll.cons (Has.fl (Has.cv (Has.s rfl) (Cv.trans (Cv.flds (CvL.cons Cv.fl (CvL.cons Cv.fl (CvL.cons Cv.fl (CvL.cons Cv.fl (CvL.cons Cv.fl (CvL.cons Cv.fl CvL.nil))))))) (Cv.close (T := []) (chConfig a0))))) (HasAll.cons (Has.fl (Has.cv (Has.s rfl) (Cv.trans (Cv.flds (CvL.cons Cv.fl (CvL.cons Cv.fl (CvL.cons Cv.fl (CvL.cons Cv.fl (CvL.cons Cv.fl (CvL.cons Cv.fl (CvL.cons Cv.fl CvL.nil)))))))) (Cv.close (T := []) (chLoss a2))))) (HasAll.cons (Has.fl (Has.s rfl)) HasAll.nil)))) ?_
 refine mv ?_
 refine wo (Spec.ext0_3 (Has.s rfl)) ?_
 refine wo (Spec.ext1_3 (Has.s rfl)) ?_
 refine wo (Spec.ext2_3 (Has.s rfl)) ?_
 refine ws (Step.allocObj (ls := [(false, 1, Fact.rep [] ((0 : UInt32) : UInt32)), (false, 1, Fact.rep [] ((0 : Int) : Int)), (false, 1, Fact.rep [] (false : Bool)), (false, 1, Fact.rep [] ((0 : Int) : Int)), (false, 1, Fact.rep [] ((0 : Int) : Int)), (false, 1, Fact.rep [] (false : Bool)), (false, 1, Fact.rep [] (false : Bool))]) 28 rfl rfl rfl rfl zl26) ?_
 refine ws (Step.storeObj (ls := [(false, 1, Fact.rep [] x2.1.Events), (false, 1, Fact.rep [] x2.1.Lost), (false, 1, Fact.rep [] x2.1.Spare), (false, 1, Fact.rep [] x2.1.Pos), (false, 1, Fact.rep [] x2.1.Done), (false, 1, Fact.rep [] x2.1.NoLog), (false, 1, Fact.rep [] x2.1.Broken)]) rfl ty26 rfl rfl (Has.s rfl) rfl (HasL.flds (Has.cv (Has.s rfl) (Cv.trans (Cv.opens (chLoss x2.1)) (Cv.flds (CvL.cons Cv.fl (CvL.cons Cv.fl (CvL.cons Cv.fl (CvL.cons Cv.fl (CvL.cons Cv.fl (CvL.cons Cv.fl (CvL.cons Cv.fl CvL.nil))))))))))) rfl) ?_
 refine wo (Spec.assign (Has.s rfl)) ?_
 refine wo (Spec.assign (Has.s rfl)) ?_
 refine Walk.nil ?_
 refine Leaf.thenN ?_
 refine CWalk.seq ?_
 refine CWalk.seq ?_
 refine CWalk.region ?_
 refine mv ?_
 obtain ⟨x3, hx3, hm⟩ := bind_some hm
 refine wo (f := Fact.rep [] (x3 : Bool)) (Spec.callE [0] 36 rfl en28 (ref05_Great_c a1 hx3) (HasAll.cons (Has.m (Has.s rfl) rfl) HasAll.nil)) ?_
 refine mv ?_
 refine wg rfl rfl (fun hb => Spec.move (Has.s rfl)) ?_
 refine wg rfl rfl (fun hb => Spec.neqI (Has.u rfl hb) Has.int) ?_
 refine wo (Spec.or (Has.s rfl) (fun h => Has.u rfl h)) ?_
 refine mv ?_
 refine wg rfl rfl (fun hb => Spec.move (Has.s rfl)) ?_
 refine wg rfl rfl (fun hb => Spec.not (Has.u rfl hb)) ?_
 refine wo (Spec.or (Has.s rfl) (fun h => Has.u rfl h)) ?_
 refine Walk.nil ?_
 refine Leaf.thenN ?_
 refine CWalk.cond rfl (fun hb => ?_) (fun hb => ?_)
 ·have hm := cond_t hb hm
  refine CWalk.seq ?_
  refine CWalk.region ?_
  refine mv ?_
  refine wo (Spec.assign (Has.s rfl)) ?_
  refine Walk.nil ?_
  refine Leaf.thenN ?_
  refine CWalk.ret ?_
  refine Leaf.thenR ?_
  obtain rfl := Option.some.inj hm
  exact Leaf.retC1 rfl (HasR.cv (HasR.tmp (Has.s rfl)) Cv.fl)
 ·have hm := cond_f hb hm
  refine CWalk.skip ?_
  refine Leaf.thenN ?_
  refine CWalk.seq ?_
  refine CWalk.region ?_
  refine mv ?_
  refine mv ?_
  refine mv ?_
  obtain ⟨x4, hx4, hm⟩ := bind_some hm
  refine wo (f := Fact.tup2 (Fact.ow [37] [38] 67 (x4.1 : List Disk)) (Fact.rep [] x4.2)) (Spec.callE [0, 26, 27] 37 rfl en29 (acts_Run_c a1 x2.2.1 a4 hx4) (HasAll.cons (Has.m (Has.s rfl) rfl) (HasAll.cons (Has.m (Has.cv (Has.s rfl) (Cv.trans Cv.owSl (Cv.slRep (T' := [26, 27]) rfl rfl))) rfl) (HasAll.cons (Has.fl (Has.s rfl)) HasAll.nil)))) ?_
  refine mv ?_
  refine wo (Spec.ext0 (Has.s rfl)) ?_
  refine wo (Spec.ext1 (Has.s rfl)) ?_
  refine wo (Spec.assign (Has.s rfl)) ?_
  refine wo (Spec.assign (Has.s rfl)) ?_
  refine Walk.nil ?_
  refine Leaf.thenN ?_
  refine CWalk.seq ?_
  refine CWalk.seq ?_
  refine CWalk.region ?_
  refine mv ?_
  refine wo (Spec.neqI (Has.s rfl) Has.int) ?_
  refine mv ?_
  refine wg rfl rfl (fun hb => Spec.move (Has.s rfl)) ?_
  refine wg rfl rfl (fun hb => Spec.len (Has.u rfl hb) Try.underlying60) ?_
  refine wg rfl rfl (fun hb => Spec.fieldAddrO fd24_1 (Has.cv (Has.s rfl) (Cv.isvP rfl))) ?_
  refine wg rfl rfl (fun hb => Spec.loadF (i := 1) ty3 rfl (Has.u rfl hb) rfl (HasG.s rfl)) ?_
  refine wg rfl rfl (fun hb => Spec.lssI (Has.u rfl hb) (Has.u rfl hb)) ?_
  refine wo (Spec.or (Has.s rfl) (fun h => Has.u rfl h)) ?_
  refine Walk.nil ?_
  refine Leaf.thenN ?_
  refine CWalk.cond rfl (fun hb => ?_) (fun hb => ?_)
  ·have hm := cond_t hb hm
   refine CWalk.seq ?_
   refine CWalk.region ?_
   refine wo (Spec.assign Has.bool) ?_
   refine Walk.nil ?_
   refine Leaf.thenN ?_
   refine CWalk.ret ?_
   refine Leaf.thenR ?_
   obtain rfl := Option.some.inj hm
   exact Leaf.retC1 rfl (HasR.cv (HasR.tmp (Has.s rfl)) Cv.fl)
  ·have hm := cond_f hb hm
   refine CWalk.skip ?_
   refine Leaf.thenN ?_
   refine CWalk.seq ?_
   refine CWalk.seq ?_
   refine CWalk.region ?_
   refine wo (Spec.assign Has.int) ?_
   refine Walk.nil ?_
   refine Leaf.thenN ?_
   refine CWalk.block ?_
   obtain ⟨b25, hb25, hm⟩ := bind_some hm
   refine CWalk.loop (fun s : Int => [.fact 1 (.rep [0] (a1 : List Disk)), .fact 3 (.rep [] (a3 : Bool)), .fact 4 (.rep [] (a4 : Int)), .fact 5 (.isv 10), .fact 7 (.isv 17), .fact 12 (.isv 28), .fact 13 (.ow [26] [27] 58 (x2.2.1 : List Act58)), .fact 15 (.ow [37] [38] 67 (x4.1 : List Disk)), .fact 17 (.rep [] (s : Int)), .fact 100011 (.at 11 (.rep [] a0.Id)), .fact 100012 (.at 12 (.rep [] a0.Members)), .fact 100013 (.at 13 (.rep [] a0.Chunk)), .fact 100014 (.at 14 (.rep [] a0.Rows)), .fact 100015 (.at 15 (.rep [] a0.Log)), .fact 100016 (.at 16 (.rep [] a0.Heads)), .fact 100018 (.at 18 (.rep [] a2.Events)), .fact 100019 (.at 19 (.rep [] a2.Lost)), .fact 100020 (.at 20 (.rep [] a2.Spare)), .fact 100021 (.at 21 (.rep [] a2.Pos)), .fact 100022 (.at 22 (.rep [] a2.Done)), .fact 100023 (.at 23 (.rep [] a2.NoLog)), .fact 100024 (.at 24 (.rep [] a2.Broken)), .fact 100029 (.at 29 (.rep [] x2.1.Events)), .fact 100030 (.at 30 (.rep [] x2.1.Lost)), .fact 100031 (.at 31 (.rep [] x2.1.Spare)), .fact 100032 (.at 32 (.rep [] x2.1.Pos)), .fact 100033 (.at 33 (.rep [] x2.1.Done)), .fact 100034 (.at 34 (.rep [] x2.1.NoLog)), .fact 100035 (.at 35 (.rep [] x2.1.Broken)), .fact 100010 (.obj 10 [(false, 1), (false, 1), (false, 1), (false, 1), (false, 1), (false, 1)]), .fact 100017 (.obj 17 [(false, 1), (false, 1), (false, 1), (false, 1), (false, 1), (false, 1), (false, 1)]), .fact 100028 (.obj 28 [(false, 1), (false, 1), (false, 1), (false, 1), (false, 1), (false, 1), (false, 1)])]) (fun b : (Unit) ⊕ (Unit) => Sum.elim (fun b => (Exit.exit 0, [.fact 5 (.isv 10), .fact 7 (.isv 17), .fact 12 (.isv 28), .fact 100011 (.at 11 (.rep [] a0.Id)), .fact 100012 (.at 12 (.rep [] a0.Members)), .fact 100013 (.at 13 (.rep [] a0.Chunk)), .fact 100014 (.at 14 (.rep [] a0.Rows)), .fact 100015 (.at 15 (.rep [] a0.Log)), .fact 100016 (.at 16 (.rep [] a0.Heads)), .fact 100018 (.at 18 (.rep [] a2.Events)), .fact 100019 (.at 19 (.rep [] a2.Lost)), .fact 100020 (.at 20 (.rep [] a2.Spare)), .fact 100021 (.at 21 (.rep [] a2.Pos)), .fact 100022 (.at 22 (.rep [] a2.Done)), .fact 100023 (.at 23 (.rep [] a2.NoLog)), .fact 100024 (.at 24 (.rep [] a2.Broken)), .fact 100029 (.at 29 (.rep [] x2.1.Events)), .fact 100030 (.at 30 (.rep [] x2.1.Lost)), .fact 100031 (.at 31 (.rep [] x2.1.Spare)), .fact 100032 (.at 32 (.rep [] x2.1.Pos)), .fact 100033 (.at 33 (.rep [] x2.1.Done)), .fact 100034 (.at 34 (.rep [] x2.1.NoLog)), .fact 100035 (.at 35 (.rep [] x2.1.Broken)), .fact 100010 (.obj 10 [(false, 1), (false, 1), (false, 1), (false, 1), (false, 1), (false, 1)]), .fact 100017 (.obj 17 [(false, 1), (false, 1), (false, 1), (false, 1), (false, 1), (false, 1), (false, 1)]), .fact 100028 (.obj 28 [(false, 1), (false, 1), (false, 1), (false, 1), (false, 1), (false, 1), (false, 1)])])) (fun b => (Exit.ret, [.fact 10 (.rep [] (false : Bool))])) b) hb25 (su (st (st (sn (sn (sn (Sub.cons (Has.cv (Has.s rfl) (Cv.owM (T := [26]) (te := [27]) rfl rfl)) (Sub.cons (Has.cv (Has.s rfl) (Cv.owM (T := [37]) (te := [38]) rfl rfl)) (st (sf (sf (sf (sf (sf (sf (sf (sf (sf (sf (sf (sf (sf (sf (sf (sf (sf (sf (sf (sf (sn (sn (sn Sub.nil)))))))))))))))))))))))))))))))) ?_ ?_
   ·rintro s5 c6 hm
    replace hm : law23_LossTold_L1 a0 a1 a2 a3 a4 x2 x4 s5 = some c6 := hm
    unfold law23_LossTold_L1 at hm
    show CWalk _ [.fact 1 (.rep [0] (a1 : List Disk)), .fact 3 (.rep [] (a3 : Bool)), .fact 4 (.rep [] (a4 : Int)), .fact 5 (.isv 10), .fact 7 (.isv 17), .fact 12 (.isv 28), .fact 13 (.ow [26] [27] 58 (x2.2.1 : List Act58)), .fact 15 (.ow [37] [38] 67 (x4.1 : List Disk)), .fact 17 (.rep [] (s5 : Int)), .fact 100011 (.at 11 (.rep [] a0.Id)), .fact 100012 (.at 12 (.rep [] a0.Members)), .fact 100013 (.at 13 (.rep [] a0.Chunk)), .fact 100014 (.at 14 (.rep [] a0.Rows)), .fact 100015 (.at 15 (.rep [] a0.Log)), .fact 100016 (.at 16 (.rep [] a0.Heads)), .fact 100018 (.at 18 (.rep [] a2.Events)), .fact 100019 (.at 19 (.rep [] a2.Lost)), .fact 100020 (.at 20 (.rep [] a2.Spare)), .fact 100021 (.at 21 (.rep [] a2.Pos)), .fact 100022 (.at 22 (.rep [] a2.Done)), .fact 100023 (.at 23 (.rep [] a2.NoLog)), .fact 100024 (.at 24 (.rep [] a2.Broken)), .fact 100029 (.at 29 (.rep [] x2.1.Events)), .fact 100030 (.at 30 (.rep [] x2.1.Lost)), .fact 100031 (.at 31 (.rep [] x2.1.Spare)), .fact 100032 (.at 32 (.rep [] x2.1.Pos)), .fact 100033 (.at 33 (.rep [] x2.1.Done)), .fact 100034 (.at 34 (.rep [] x2.1.NoLog)), .fact 100035 (.at 35 (.rep [] x2.1.Broken)), .fact 100010 (.obj 10 [(false, 1), (false, 1), (false, 1), (false, 1), (false, 1), (false, 1)]), .fact 100017 (.obj 17 [(false, 1), (false, 1), (false, 1), (false, 1), (false, 1), (false, 1), (false, 1)]), .fact 100028 (.obj 28 [(false, 1), (false, 1), (false, 1), (false, 1), (false, 1), (false, 1), (false, 1)])] _ _
    refine CWalk.seq ?_
    refine CWalk.seq ?_
    refine CWalk.region ?_
    refine mv ?_
    refine mv ?_
    refine wo (Spec.len (Has.s rfl) Try.underlying60) ?_
    refine wo (Spec.lssI (Has.s rfl) (Has.s rfl)) ?_
    refine Walk.nil ?_
    refine Leaf.thenN ?_
    refine CWalk.cond rfl (fun hb => ?_) (fun hb => ?_)
    ·have hm := cond_t hb hm
     refine CWalk.skip ?_
     refine Leaf.thenN ?_
     refine CWalk.seqJ (fun p : Unit => [.fact 1 (.rep [0] (a1 : List Disk)), .fact 3 (.rep [] (a3 : Bool)), .fact 4 (.rep [] (a4 : Int)), .fact 5 (.isv 10), .fact 7 (.isv 17), .fact 12 (.isv 28), .fact 13 (.ow [26] [27] 58 (x2.2.1 : List Act58)), .fact 15 (.ow [37] [38] 67 (x4.1 : List Disk)), .fact 17 (.rep [] (s5 : Int)), .fact 100011 (.at 11 (.rep [] a0.Id)), .fact 100012 (.at 12 (.rep [] a0.Members)), .fact 100013 (.at 13 (.rep [] a0.Chunk)), .fact 100014 (.at 14 (.rep [] a0.Rows)), .fact 100015 (.at 15 (.rep [] a0.Log)), .fact 100016 (.at 16 (.rep [] a0.Heads)), .fact 100018 (.at 18 (.rep [] a2.Events)), .fact 100019 (.at 19 (.rep [] a2.Lost)), .fact 100020 (.at 20 (.rep [] a2.Spare)), .fact 100021 (.at 21 (.rep [] a2.Pos)), .fact 100022 (.at 22 (.rep [] a2.Done)), .fact 100023 (.at 23 (.rep [] a2.NoLog)), .fact 100024 (.at 24 (.rep [] a2.Broken)), .fact 100029 (.at 29 (.rep [] x2.1.Events)), .fact 100030 (.at 30 (.rep [] x2.1.Lost)), .fact 100031 (.at 31 (.rep [] x2.1.Spare)), .fact 100032 (.at 32 (.rep [] x2.1.Pos)), .fact 100033 (.at 33 (.rep [] x2.1.Done)), .fact 100034 (.at 34 (.rep [] x2.1.NoLog)), .fact 100035 (.at 35 (.rep [] x2.1.Broken)), .fact 100010 (.obj 10 [(false, 1), (false, 1), (false, 1), (false, 1), (false, 1), (false, 1)]), .fact 100017 (.obj 17 [(false, 1), (false, 1), (false, 1), (false, 1), (false, 1), (false, 1), (false, 1)]), .fact 100028 (.obj 28 [(false, 1), (false, 1), (false, 1), (false, 1), (false, 1), (false, 1), (false, 1)])]) (fun p : Unit => law23_LossTold_J2 s5 = some c6) ?_ ?_
     ·rintro _ hm
      replace hm : law23_LossTold_J2 s5 = some c6 := hm
      unfold law23_LossTold_J2 at hm
      show CWalk _ [.fact 1 (.rep [0] (a1 : List Disk)), .fact 3 (.rep [] (a3 : Bool)), .fact 4 (.rep [] (a4 : Int)), .fact 5 (.isv 10), .fact 7 (.isv 17), .fact 12 (.isv 28), .fact 13 (.ow [26] [27] 58 (x2.2.1 : List Act58)), .fact 15 (.ow [37] [38] 67 (x4.1 : List Disk)), .fact 17 (.rep [] (s5 : Int)), .fact 100011 (.at 11 (.rep [] a0.Id)), .fact 100012 (.at 12 (.rep [] a0.Members)), .fact 100013 (.at 13 (.rep [] a0.Chunk)), .fact 100014 (.at 14 (.rep [] a0.Rows)), .fact 100015 (.at 15 (.rep [] a0.Log)), .fact 100016 (.at 16 (.rep [] a0.Heads)), .fact 100018 (.at 18 (.rep [] a2.Events)), .fact 100019 (.at 19 (.rep [] a2.Lost)), .fact 100020 (.at 20 (.rep [] a2.Spare)), .fact 100021 (.at 21 (.rep [] a2.Pos)), .fact 100022 (.at 22 (.rep [] a2.Done)), .fact 100023 (.at 23 (.rep [] a2.NoLog)), .fact 100024 (.at 24 (.rep [] a2.Broken)), .fact 100029 (.at 29 (.rep [] x2.1.Events)), .fact 100030 (.at 30 (.rep [] x2.1.Lost)), .fact 100031 (.at 31 (.rep [] x2.1.Spare)), .fact 100032 (.at 32 (.rep [] x2.1.Pos)), .fact 100033 (.at 33 (.rep [] x2.1.Done)), .fact 100034 (.at 34 (.rep [] x2.1.NoLog)), .fact 100035 (.at 35 (.rep [] x2.1.Broken)), .fact 100010 (.obj 10 [(false, 1), (false, 1), (false, 1), (false, 1), (false, 1), (false, 1)]), .fact 100017 (.obj 17 [(false, 1), (false, 1), (false, 1), (false, 1), (false, 1), (false, 1), (false, 1)]), .fact 100028 (.obj 28 [(false, 1), (false, 1), (false, 1), (false, 1), (false, 1), (false, 1), (false, 1)])] _ _
      refine CWalk.region ?_
      refine mv ?_
      refine wo (Spec.addI (Has.s rfl) Has.int) ?_
      refine wo (Spec.assign (Has.s rfl)) ?_
      refine Walk.nil ?_
      exact Leaf.next hm (su (st (st (sn (sn (sn (Sub.cons (Has.cv (Has.s rfl) (Cv.owM (T := [26]) (te := [27]) rfl rfl)) (Sub.cons (Has.cv (Has.s rfl) (Cv.owM (T := [37]) (te := [38]) rfl rfl)) (st (sf (sf (sf (sf (sf (sf (sf (sf (sf (sf (sf (sf (sf (sf (sf (sf (sf (sf (sf (sf (sn (sn (sn Sub.nil))))))))))))))))))))))))))))))))
     ·refine CWalk.block ?_
      refine CWalk.seq ?_
      refine CWalk.seq ?_
      refine CWalk.region ?_
      refine mv ?_
      refine mv ?_
      obtain ⟨x7, hx7, hm⟩ := bind_some hm
      refine wo (Spec.indexAddr hx7 sl60 (Has.s rfl) (Has.s rfl)) ?_
      refine wo (Spec.fieldAddrP fd67_2 (chDisk x7) rfl (Has.s rfl)) ?_
      refine wo ((Spec.load ty4 (Has.s rfl)).flat (T' := [])) ?_
      refine Walk.nil ?_
      refine Leaf.thenN ?_
      refine CWalk.cond rfl (fun hb => ?_) (fun hb => ?_)
      ·have hm := cond_t hb hm
       refine CWalk.seq ?_
       refine CWalk.seq ?_
       refine CWalk.region ?_
       refine mv ?_
       refine mv ?_
       obtain ⟨x8, hx8, hm⟩ := bind_some hm
       refine wo (Spec.indexSl hx8 sl60 (Has.cv (Has.s rfl) Cv.owSl) (Has.s rfl)) ?_
       refine wo (Spec.fieldAddrS fd67_2 (chDisk x8) rfl (Has.s rfl)) ?_
       refine wo ((Spec.loadS ty4 (Has.s rfl)).flat (T' := [])) ?_
       refine wo (Spec.not (Has.s rfl)) ?_
       refine Walk.nil ?_
       refine Leaf.thenN ?_
       refine CWalk.cond rfl (fun hb => ?_) (fun hb => ?_)
       ·have hm := cond_t hb hm
        refine CWalk.seq ?_
        refine CWalk.region ?_
        refine wo (Spec.assign Has.bool) ?_
        refine Walk.nil ?_
        refine Leaf.thenN ?_
        refine CWalk.ret ?_
        refine Leaf.thenR ?_
        refine Leaf.thenR ?_
        refine Leaf.blockR ?_
        refine Leaf.thenR ?_
        exact Leaf.brk hm (fun h => nomatch h) rfl (st Sub.nil)
       ·have hm := cond_f hb hm
        refine CWalk.skip ?_
        refine Leaf.thenN ?_
        refine CWalk.exit ?_
        refine Leaf.thenE ?_
        refine Leaf.blockE ?_
        exact Leaf.join () hm (su (st (st (sn (sn (sn (Sub.cons (Has.cv (Has.s rfl) (Cv.owM (T := [26]) (te := [27]) rfl rfl)) (Sub.cons (Has.cv (Has.s rfl) (Cv.owM (T := [37]) (te := [38]) rfl rfl)) (st (sf (sf (sf (sf (sf (sf (sf (sf (sf (sf (sf (sf (sf (sf (sf (sf (sf (sf (sf (sf (sn (sn (sn Sub.nil))))))))))))))))))))))))))))))))
      ·have hm := cond_f hb hm
       refine CWalk.skip ?_
       refine Leaf.thenN ?_
       refine CWalk.seq ?_
       refine CWalk.region ?_
       refine wo (Spec.assign Has.bool) ?_
       refine Walk.nil ?_
       refine Leaf.thenN ?_
       refine CWalk.seq ?_
       refine CWalk.seq ?_
       refine CWalk.region ?_
       refine wo (Spec.assign Has.int) ?_
       refine Walk.nil ?_
       refine Leaf.thenN ?_
       refine CWalk.block ?_
       obtain ⟨b13, hb13, hm⟩ := bind_some hm
       refine CWalk.loop (fun s : Bool × Int => [.fact 1 (.rep [0] (a1 : List Disk)), .fact 3 (.rep [] (a3 : Bool)), .fact 4 (.rep [] (a4 : Int)), .fact 5 (.isv 10), .fact 7 (.isv 17), .fact 12 (.isv 28), .fact 13 (.ow [26] [27] 58 (x2.2.1 : List Act58)), .fact 15 (.ow [37] [38] 67 (x4.1 : List Disk)), .fact 17 (.rep [] (s5 : Int)), .fact 18 (.rep [] s.1), .fact 19 (.rep [] s.2), .fact 100011 (.at 11 (.rep [] a0.Id)), .fact 100012 (.at 12 (.rep [] a0.Members)), .fact 100013 (.at 13 (.rep [] a0.Chunk)), .fact 100014 (.at 14 (.rep [] a0.Rows)), .fact 100015 (.at 15 (.rep [] a0.Log)), .fact 100016 (.at 16 (.rep [] a0.Heads)), .fact 100018 (.at 18 (.rep [] a2.Events)), .fact 100019 (.at 19 (.rep [] a2.Lost)), .fact 100020 (.at 20 (.rep [] a2.Spare)), .fact 100021 (.at 21 (.rep [] a2.Pos)), .fact 100022 (.at 22 (.rep [] a2.Done)), .fact 100023 (.at 23 (.rep [] a2.NoLog)), .fact 100024 (.at 24 (.rep [] a2.Broken)), .fact 100029 (.at 29 (.rep [] x2.1.Events)), .fact 100030 (.at 30 (.rep [] x2.1.Lost)), .fact 100031 (.at 31 (.rep [] x2.1.Spare)), .fact 100032 (.at 32 (.rep [] x2.1.Pos)), .fact 100033 (.at 33 (.rep [] x2.1.Done)), .fact 100034 (.at 34 (.rep [] x2.1.NoLog)), .fact 100035 (.at 35 (.rep [] x2.1.Broken)), .fact 100010 (.obj 10 [(false, 1), (false, 1), (false, 1), (false, 1), (false, 1), (false, 1)]), .fact 100017 (.obj 17 [(false, 1), (false, 1), (false, 1), (false, 1), (false, 1), (false, 1), (false, 1)]), .fact 100028 (.obj 28 [(false, 1), (false, 1), (false, 1), (false, 1), (false, 1), (false, 1), (false, 1)])]) (fun b : Bool => (Exit.exit 2, [.fact 1 (.rep [0] (a1 : List Disk)), .fact 3 (.rep [] (a3 : Bool)), .fact 4 (.rep [] (a4 : Int)), .fact 5 (.isv 10), .fact 7 (.isv 17), .fact 12 (.isv 28), .fact 13 (.ow [26] [27] 58 (x2.2.1 : List Act58)), .fact 15 (.ow [37] [38] 67 (x4.1 : List Disk)), .fact 17 (.rep [] (s5 : Int)), .fact 18 (.rep [] (b : Bool)), .fact 100011 (.at 11 (.rep [] a0.Id)), .fact 100012 (.at 12 (.rep [] a0.Members)), .fact 100013 (.at 13 (.rep [] a0.Chunk)), .fact 100014 (.at 14 (.rep [] a0.Rows)), .fact 100015 (.at 15 (.rep [] a0.Log)), .fact 100016 (.at 16 (.rep [] a0.Heads)), .fact 100018 (.at 18 (.rep [] a2.Events)), .fact 100019 (.at 19 (.rep [] a2.Lost)), .fact 100020 (.at 20 (.rep [] a2.Spare)), .fact 100021 (.at 21 (.rep [] a2.Pos)), .fact 100022 (.at 22 (.rep [] a2.Done)), .fact 100023 (.at 23 (.rep [] a2.NoLog)), .fact 100024 (.at 24 (.rep [] a2.Broken)), .fact 100029 (.at 29 (.rep [] x2.1.Events)), .fact 100030 (.at 30 (.rep [] x2.1.Lost)), .fact 100031 (.at 31 (.rep [] x2.1.Spare)), .fact 100032 (.at 32 (.rep [] x2.1.Pos)), .fact 100033 (.at 33 (.rep [] x2.1.Done)), .fact 100034 (.at 34 (.rep [] x2.1.NoLog)), .fact 100035 (.at 35 (.rep [] x2.1.Broken)), .fact 100010 (.obj 10 [(false, 1), (false, 1), (false, 1), (false, 1), (false, 1), (false, 1)]), .fact 100017 (.obj 17 [(false, 1), (false, 1), (false, 1), (false, 1), (false, 1), (false, 1), (false, 1)]), .fact 100028 (.obj 28 [(false, 1), (false, 1), (false, 1), (false, 1), (false, 1), (false, 1), (false, 1)])])) hb13 (su (st (st (sn (sn (sn (Sub.cons (Has.cv (Has.s rfl) (Cv.owM (T := [26]) (te := [27]) rfl rfl)) (Sub.cons (Has.cv (Has.s rfl) (Cv.owM (T := [37]) (te := [38]) rfl rfl)) (st (st (st (sf (sf (sf (sf (sf (sf (sf (sf (sf (sf (sf (sf (sf (sf (sf (sf (sf (sf (sf (sf (sn (sn (sn Sub.nil)))))))))))))))))))))))))))))))))) ?_ ?_
       ·rintro ⟨s9, s10⟩ c11 hm
        replace hm : law23_LossTold_L3 a4 x2 s5 s9 s10 = some c11 := hm
        unfold law23_LossTold_L3 at hm
        show CWalk _ [.fact 1 (.rep [0] (a1 : List Disk)), .fact 3 (.rep [] (a3 : Bool)), .fact 4 (.rep [] (a4 : Int)), .fact 5 (.isv 10), .fact 7 (.isv 17), .fact 12 (.isv 28), .fact 13 (.ow [26] [27] 58 (x2.2.1 : List Act58)), .fact 15 (.ow [37] [38] 67 (x4.1 : List Disk)), .fact 17 (.rep [] (s5 : Int)), .fact 18 (.rep [] (s9 : Bool)), .fact 19 (.rep [] (s10 : Int)), .fact 100011 (.at 11 (.rep [] a0.Id)), .fact 100012 (.at 12 (.rep [] a0.Members)), .fact 100013 (.at 13 (.rep [] a0.Chunk)), .fact 100014 (.at 14 (.rep [] a0.Rows)), .fact 100015 (.at 15 (.rep [] a0.Log)), .fact 100016 (.at 16 (.rep [] a0.Heads)), .fact 100018 (.at 18 (.rep [] a2.Events)), .fact 100019 (.at 19 (.rep [] a2.Lost)), .fact 100020 (.at 20 (.rep [] a2.Spare)), .fact 100021 (.at 21 (.rep [] a2.Pos)), .fact 100022 (.at 22 (.rep [] a2.Done)), .fact 100023 (.at 23 (.rep [] a2.NoLog)), .fact 100024 (.at 24 (.rep [] a2.Broken)), .fact 100029 (.at 29 (.rep [] x2.1.Events)), .fact 100030 (.at 30 (.rep [] x2.1.Lost)), .fact 100031 (.at 31 (.rep [] x2.1.Spare)), .fact 100032 (.at 32 (.rep [] x2.1.Pos)), .fact 100033 (.at 33 (.rep [] x2.1.Done)), .fact 100034 (.at 34 (.rep [] x2.1.NoLog)), .fact 100035 (.at 35 (.rep [] x2.1.Broken)), .fact 100010 (.obj 10 [(false, 1), (false, 1), (false, 1), (false, 1), (false, 1), (false, 1)]), .fact 100017 (.obj 17 [(false, 1), (false, 1), (false, 1), (false, 1), (false, 1), (false, 1), (false, 1)]), .fact 100028 (.obj 28 [(false, 1), (false, 1), (false, 1), (false, 1), (false, 1), (false, 1), (false, 1)])] _ _
        refine CWalk.seq ?_
        refine CWalk.seq ?_
        refine CWalk.region ?_
        refine mv ?_
        refine mv ?_
        refine wo (Spec.lssI (Has.s rfl) (Has.s rfl)) ?_
        refine Walk.nil ?_
        refine Leaf.thenN ?_
        refine CWalk.cond rfl (fun hb => ?_) (fun hb => ?_)
        ·have hm := cond_t hb hm
         refine CWalk.skip ?_
         refine Leaf.thenN ?_
         refine CWalk.seq ?_
         refine CWalk.block ?_
         refine CWalk.region ?_
         refine mv ?_
         refine mv ?_
         refine wg rfl rfl (fun hb => Spec.move (Has.s rfl)) ?_
         refine wg rfl rfl (fun hb => Spec.move (Has.s rfl)) ?_
         obtain ⟨x12, hx12, hm⟩ := bind_some hm
         refine wg rfl rfl (fun hb => Spec.indexSl (gO_t hx12 (not_t hb)) sl50 (Has.cv (Has.u rfl hb) Cv.owSl) (Has.u rfl hb)) ?_
         refine wg rfl rfl (fun hb => Spec.fieldAddrS fd58_0 (chAct58 x12) rfl (Has.u rfl hb)) ?_
         refine wg rfl rfl (fun hb => (Spec.loadS ty3 (Has.u rfl hb)).flat (T' := [])) ?_
         refine wg rfl rfl (fun hb => Spec.move (Has.s rfl)) ?_
         refine wg rfl rfl (fun hb => Spec.eqlI (Has.u rfl hb) (Has.u rfl hb)) ?_
         refine wo (Spec.or (Has.s rfl) (fun h => Has.u rfl h)) ?_
         refine wo (Spec.assign (Has.s rfl)) ?_
         refine Walk.nil ?_
         refine Leaf.blockN ?_
         refine Leaf.thenN ?_
         refine CWalk.region ?_
         refine mv ?_
         refine wo (Spec.addI (Has.s rfl) Has.int) ?_
         refine wo (Spec.assign (Has.s rfl)) ?_
         refine Walk.nil ?_
         exact Leaf.next hm (su (st (st (sn (sn (sn (Sub.cons (Has.cv (Has.s rfl) (Cv.owM (T := [26]) (te := [27]) rfl rfl)) (Sub.cons (Has.cv (Has.s rfl) (Cv.owM (T := [37]) (te := [38]) rfl rfl)) (st (st (st (sf (sf (sf (sf (sf (sf (sf (sf (sf (sf (sf (sf (sf (sf (sf (sf (sf (sf (sf (sf (sn (sn (sn Sub.nil))))))))))))))))))))))))))))))))))
        ·have hm := cond_f hb hm
         refine CWalk.exit ?_
         refine Leaf.thenE ?_
         exact Leaf.brk hm (fun h => nomatch h) rfl (su (st (st (sn (sn (sn (Sub.cons (Has.cv (Has.s rfl) (Cv.owM (T := [26]) (te := [27]) rfl rfl)) (Sub.cons (Has.cv (Has.s rfl) (Cv.owM (T := [37]) (te := [38]) rfl rfl)) (st (st (sf (sf (sf (sf (sf (sf (sf (sf (sf (sf (sf (sf (sf (sf (sf (sf (sf (sf (sf (sf (sn (sn (sn Sub.nil)))))))))))))))))))))))))))))))))
       ·intro _
        refine Leaf.blockE ?_
        refine Leaf.thenN ?_
        refine CWalk.seq ?_
        refine CWalk.region ?_
        refine wo (Spec.assign Has.int) ?_
        refine Walk.nil ?_
        refine Leaf.thenN ?_
        refine CWalk.block ?_
        obtain ⟨b22, hb22, hm⟩ := bind_some hm
        refine CWalk.loop (fun s : Int => [.fact 1 (.rep [0] (a1 : List Disk)), .fact 3 (.rep [] (a3 : Bool)), .fact 4 (.rep [] (a4 : Int)), .fact 5 (.isv 10), .fact 7 (.isv 17), .fact 12 (.isv 28), .fact 13 (.ow [26] [27] 58 (x2.2.1 : List Act58)), .fact 15 (.ow [37] [38] 67 (x4.1 : List Disk)), .fact 17 (.rep [] (s5 : Int)), .fact 18 (.rep [] (b13 : Bool)), .fact 20 (.rep [] (s : Int)), .fact 100011 (.at 11 (.rep [] a0.Id)), .fact 100012 (.at 12 (.rep [] a0.Members)), .fact 100013 (.at 13 (.rep [] a0.Chunk)), .fact 100014 (.at 14 (.rep [] a0.Rows)), .fact 100015 (.at 15 (.rep [] a0.Log)), .fact 100016 (.at 16 (.rep [] a0.Heads)), .fact 100018 (.at 18 (.rep [] a2.Events)), .fact 100019 (.at 19 (.rep [] a2.Lost)), .fact 100020 (.at 20 (.rep [] a2.Spare)), .fact 100021 (.at 21 (.rep [] a2.Pos)), .fact 100022 (.at 22 (.rep [] a2.Done)), .fact 100023 (.at 23 (.rep [] a2.NoLog)), .fact 100024 (.at 24 (.rep [] a2.Broken)), .fact 100029 (.at 29 (.rep [] x2.1.Events)), .fact 100030 (.at 30 (.rep [] x2.1.Lost)), .fact 100031 (.at 31 (.rep [] x2.1.Spare)), .fact 100032 (.at 32 (.rep [] x2.1.Pos)), .fact 100033 (.at 33 (.rep [] x2.1.Done)), .fact 100034 (.at 34 (.rep [] x2.1.NoLog)), .fact 100035 (.at 35 (.rep [] x2.1.Broken)), .fact 100010 (.obj 10 [(false, 1), (false, 1), (false, 1), (false, 1), (false, 1), (false, 1)]), .fact 100017 (.obj 17 [(false, 1), (false, 1), (false, 1), (false, 1), (false, 1), (false, 1), (false, 1)]), .fact 100028 (.obj 28 [(false, 1), (false, 1), (false, 1), (false, 1), (false, 1), (false, 1), (false, 1)])]) (fun b : (Unit) ⊕ (Unit) => Sum.elim (fun b => (Exit.exit 4, [.fact 1 (.rep [0] (a1 : List Disk)), .fact 3 (.rep [] (a3 : Bool)), .fact 4 (.rep [] (a4 : Int)), .fact 5 (.isv 10), .fact 7 (.isv 17), .fact 12 (.isv 28), .fact 13 (.ow [26] [27] 58 (x2.2.1 : List Act58)), .fact 15 (.ow [37] [38] 67 (x4.1 : List Disk)), .fact 17 (.rep [] (s5 : Int)), .fact 100011 (.at 11 (.rep [] a0.Id)), .fact 100012 (.at 12 (.rep [] a0.Members)), .fact 100013 (.at 13 (.rep [] a0.Chunk)), .fact 100014 (.at 14 (.rep [] a0.Rows)), .fact 100015 (.at 15 (.rep [] a0.Log)), .fact 100016 (.at 16 (.rep [] a0.Heads)), .fact 100018 (.at 18 (.rep [] a2.Events)), .fact 100019 (.at 19 (.rep [] a2.Lost)), .fact 100020 (.at 20 (.rep [] a2.Spare)), .fact 100021 (.at 21 (.rep [] a2.Pos)), .fact 100022 (.at 22 (.rep [] a2.Done)), .fact 100023 (.at 23 (.rep [] a2.NoLog)), .fact 100024 (.at 24 (.rep [] a2.Broken)), .fact 100029 (.at 29 (.rep [] x2.1.Events)), .fact 100030 (.at 30 (.rep [] x2.1.Lost)), .fact 100031 (.at 31 (.rep [] x2.1.Spare)), .fact 100032 (.at 32 (.rep [] x2.1.Pos)), .fact 100033 (.at 33 (.rep [] x2.1.Done)), .fact 100034 (.at 34 (.rep [] x2.1.NoLog)), .fact 100035 (.at 35 (.rep [] x2.1.Broken)), .fact 100010 (.obj 10 [(false, 1), (false, 1), (false, 1), (false, 1), (false, 1), (false, 1)]), .fact 100017 (.obj 17 [(false, 1), (false, 1), (false, 1), (false, 1), (false, 1), (false, 1), (false, 1)]), .fact 100028 (.obj 28 [(false, 1), (false, 1), (false, 1), (false, 1), (false, 1), (false, 1), (false, 1)])])) (fun b => (Exit.ret, [.fact 10 (.rep [] (false : Bool))])) b) hb22 (su (st (st (sn (sn (sn (Sub.cons (Has.cv (Has.s rfl) (Cv.owM (T := [26]) (te := [27]) rfl rfl)) (Sub.cons (Has.cv (Has.s rfl) (Cv.owM (T := [37]) (te := [38]) rfl rfl)) (st (st (st (sf (sf (sf (sf (sf (sf (sf (sf (sf (sf (sf (sf (sf (sf (sf (sf (sf (sf (sf (sf (sn (sn (sn Sub.nil)))))))))))))))))))))))))))))))))) ?_ ?_
        ·rintro s14 c15 hm
         replace hm : law23_LossTold_L4 a0 a1 a2 a3 x4 s5 b13 s14 = some c15 := hm
         unfold law23_LossTold_L4 at hm
         show CWalk _ [.fact 1 (.rep [0] (a1 : List Disk)), .fact 3 (.rep [] (a3 : Bool)), .fact 4 (.rep [] (a4 : Int)), .fact 5 (.isv 10), .fact 7 (.isv 17), .fact 12 (.isv 28), .fact 13 (.ow [26] [27] 58 (x2.2.1 : List Act58)), .fact 15 (.ow [37] [38] 67 (x4.1 : List Disk)), .fact 17 (.rep [] (s5 : Int)), .fact 18 (.rep [] (b13 : Bool)), .fact 20 (.rep [] (s14 : Int)), .fact 100011 (.at 11 (.rep [] a0.Id)), .fact 100012 (.at 12 (.rep [] a0.Members)), .fact 100013 (.at 13 (.rep [] a0.Chunk)), .fact 100014 (.at 14 (.rep [] a0.Rows)), .fact 100015 (.at 15 (.rep [] a0.Log)), .fact 100016 (.at 16 (.rep [] a0.Heads)), .fact 100018 (.at 18 (.rep [] a2.Events)), .fact 100019 (.at 19 (.rep [] a2.Lost)), .fact 100020 (.at 20 (.rep [] a2.Spare)), .fact 100021 (.at 21 (.rep [] a2.Pos)), .fact 100022 (.at 22 (.rep [] a2.Done)), .fact 100023 (.at 23 (.rep [] a2.NoLog)), .fact 100024 (.at 24 (.rep [] a2.Broken)), .fact 100029 (.at 29 (.rep [] x2.1.Events)), .fact 100030 (.at 30 (.rep [] x2.1.Lost)), .fact 100031 (.at 31 (.rep [] x2.1.Spare)), .fact 100032 (.at 32 (.rep [] x2.1.Pos)), .fact 100033 (.at 33 (.rep [] x2.1.Done)), .fact 100034 (.at 34 (.rep [] x2.1.NoLog)), .fact 100035 (.at 35 (.rep [] x2.1.Broken)), .fact 100010 (.obj 10 [(false, 1), (false, 1), (false, 1), (false, 1), (false, 1), (false, 1)]), .fact 100017 (.obj 17 [(false, 1), (false, 1), (false, 1), (false, 1), (false, 1), (false, 1), (false, 1)]), .fact 100028 (.obj 28 [(false, 1), (false, 1), (false, 1), (false, 1), (false, 1), (false, 1), (false, 1)])] _ _
         refine CWalk.seq ?_
         refine CWalk.seq ?_
         refine CWalk.region ?_
         refine mv ?_
         refine mv ?_
         refine mv ?_
         obtain ⟨x16, hx16, hm⟩ := bind_some hm
         refine wo (Spec.indexAddr hx16 sl60 (Has.s rfl) (Has.s rfl)) ?_
         refine wo (Spec.fieldAddrP fd67_0 (chDisk x16) rfl (Has.s rfl)) ?_
         refine wo (Spec.load ty64 (Has.s rfl)) ?_
         refine wo (Spec.len (Has.s rfl) Try.underlying64) ?_
         refine wo (Spec.lssI (Has.s rfl) (Has.s rfl)) ?_
         refine Walk.nil ?_
         refine Leaf.thenN ?_
         refine CWalk.cond rfl (fun hb => ?_) (fun hb => ?_)
         ·have hm := cond_t hb hm
          refine CWalk.skip ?_
          refine Leaf.thenN ?_
          refine CWalk.seqJ (fun p : Unit => [.fact 1 (.rep [0] (a1 : List Disk)), .fact 3 (.rep [] (a3 : Bool)), .fact 4 (.rep [] (a4 : Int)), .fact 5 (.isv 10), .fact 7 (.isv 17), .fact 12 (.isv 28), .fact 13 (.ow [26] [27] 58 (x2.2.1 : List Act58)), .fact 15 (.ow [37] [38] 67 (x4.1 : List Disk)), .fact 17 (.rep [] (s5 : Int)), .fact 18 (.rep [] (b13 : Bool)), .fact 20 (.rep [] (s14 : Int)), .fact 100011 (.at 11 (.rep [] a0.Id)), .fact 100012 (.at 12 (.rep [] a0.Members)), .fact 100013 (.at 13 (.rep [] a0.Chunk)), .fact 100014 (.at 14 (.rep [] a0.Rows)), .fact 100015 (.at 15 (.rep [] a0.Log)), .fact 100016 (.at 16 (.rep [] a0.Heads)), .fact 100018 (.at 18 (.rep [] a2.Events)), .fact 100019 (.at 19 (.rep [] a2.Lost)), .fact 100020 (.at 20 (.rep [] a2.Spare)), .fact 100021 (.at 21 (.rep [] a2.Pos)), .fact 100022 (.at 22 (.rep [] a2.Done)), .fact 100023 (.at 23 (.rep [] a2.NoLog)), .fact 100024 (.at 24 (.rep [] a2.Broken)), .fact 100029 (.at 29 (.rep [] x2.1.Events)), .fact 100030 (.at 30 (.rep [] x2.1.Lost)), .fact 100031 (.at 31 (.rep [] x2.1.Spare)), .fact 100032 (.at 32 (.rep [] x2.1.Pos)), .fact 100033 (.at 33 (.rep [] x2.1.Done)), .fact 100034 (.at 34 (.rep [] x2.1.NoLog)), .fact 100035 (.at 35 (.rep [] x2.1.Broken)), .fact 100010 (.obj 10 [(false, 1), (false, 1), (false, 1), (false, 1), (false, 1), (false, 1)]), .fact 100017 (.obj 17 [(false, 1), (false, 1), (false, 1), (false, 1), (false, 1), (false, 1), (false, 1)]), .fact 100028 (.obj 28 [(false, 1), (false, 1), (false, 1), (false, 1), (false, 1), (false, 1), (false, 1)])]) (fun p : Unit => law23_LossTold_J5 s14 = some c15) ?_ ?_
          ·rintro _ hm
           replace hm : law23_LossTold_J5 s14 = some c15 := hm
           unfold law23_LossTold_J5 at hm
           show CWalk _ [.fact 1 (.rep [0] (a1 : List Disk)), .fact 3 (.rep [] (a3 : Bool)), .fact 4 (.rep [] (a4 : Int)), .fact 5 (.isv 10), .fact 7 (.isv 17), .fact 12 (.isv 28), .fact 13 (.ow [26] [27] 58 (x2.2.1 : List Act58)), .fact 15 (.ow [37] [38] 67 (x4.1 : List Disk)), .fact 17 (.rep [] (s5 : Int)), .fact 18 (.rep [] (b13 : Bool)), .fact 20 (.rep [] (s14 : Int)), .fact 100011 (.at 11 (.rep [] a0.Id)), .fact 100012 (.at 12 (.rep [] a0.Members)), .fact 100013 (.at 13 (.rep [] a0.Chunk)), .fact 100014 (.at 14 (.rep [] a0.Rows)), .fact 100015 (.at 15 (.rep [] a0.Log)), .fact 100016 (.at 16 (.rep [] a0.Heads)), .fact 100018 (.at 18 (.rep [] a2.Events)), .fact 100019 (.at 19 (.rep [] a2.Lost)), .fact 100020 (.at 20 (.rep [] a2.Spare)), .fact 100021 (.at 21 (.rep [] a2.Pos)), .fact 100022 (.at 22 (.rep [] a2.Done)), .fact 100023 (.at 23 (.rep [] a2.NoLog)), .fact 100024 (.at 24 (.rep [] a2.Broken)), .fact 100029 (.at 29 (.rep [] x2.1.Events)), .fact 100030 (.at 30 (.rep [] x2.1.Lost)), .fact 100031 (.at 31 (.rep [] x2.1.Spare)), .fact 100032 (.at 32 (.rep [] x2.1.Pos)), .fact 100033 (.at 33 (.rep [] x2.1.Done)), .fact 100034 (.at 34 (.rep [] x2.1.NoLog)), .fact 100035 (.at 35 (.rep [] x2.1.Broken)), .fact 100010 (.obj 10 [(false, 1), (false, 1), (false, 1), (false, 1), (false, 1), (false, 1)]), .fact 100017 (.obj 17 [(false, 1), (false, 1), (false, 1), (false, 1), (false, 1), (false, 1), (false, 1)]), .fact 100028 (.obj 28 [(false, 1), (false, 1), (false, 1), (false, 1), (false, 1), (false, 1), (false, 1)])] _ _
           refine CWalk.region ?_
           refine mv ?_
           refine wo (Spec.addI (Has.s rfl) Has.int) ?_
           refine wo (Spec.assign (Has.s rfl)) ?_
           refine Walk.nil ?_
           exact Leaf.next hm (su (st (st (sn (sn (sn (Sub.cons (Has.cv (Has.s rfl) (Cv.owM (T := [26]) (te := [27]) rfl rfl)) (Sub.cons (Has.cv (Has.s rfl) (Cv.owM (T := [37]) (te := [38]) rfl rfl)) (st (st (st (sf (sf (sf (sf (sf (sf (sf (sf (sf (sf (sf (sf (sf (sf (sf (sf (sf (sf (sf (sf (sn (sn (sn Sub.nil))))))))))))))))))))))))))))))))))
          ·refine CWalk.block ?_
           refine CWalk.seq ?_
           refine CWalk.region ?_
           refine mv ?_
           refine mv ?_
           obtain ⟨x17, hx17, hm⟩ := bind_some hm
           refine wo (Spec.indexAddr hx17 sl60 (Has.s rfl) (Has.s rfl)) ?_
           refine wo (Spec.load ty67 (Has.s rfl)) ?_
           refine mv ?_
           obtain ⟨x18, hx18, hm⟩ := bind_some hm
           refine wo (f := Fact.tup2 (Fact.ow [39] [] 5 (x18.1 : List UInt8)) (Fact.rep [] x18.2)) (Spec.callE [0] 39 rfl en30 (disk_Read_c x17 s14 hx18) (HasAll.cons (Has.m (Has.s rfl) rfl) (HasAll.cons (Has.fl (Has.s rfl)) HasAll.nil))) ?_
           refine mv ?_
           refine wo (Spec.ext0 (Has.s rfl)) ?_
           refine wo (Spec.ext1 (Has.s rfl)) ?_
           refine wo (Spec.assign (Has.s rfl)) ?_
           refine wo (Spec.assign (Has.s rfl)) ?_
           refine Walk.nil ?_
           refine Leaf.thenN ?_
           refine CWalk.seq ?_
           refine CWalk.region ?_
           refine mv ?_
           refine mv ?_
           obtain ⟨x19, hx19, hm⟩ := bind_some hm
           refine wo (Spec.indexSl hx19 sl60 (Has.cv (Has.s rfl) Cv.owSl) (Has.s rfl)) ?_
           refine wo (Spec.loadS ty67 (Has.s rfl)) ?_
           refine mv ?_
           obtain ⟨x20, hx20, hm⟩ := bind_some hm
           refine wo (f := Fact.tup2 (Fact.ow [40] [] 5 (x20.1 : List UInt8)) (Fact.rep [] x20.2)) (Spec.callE [38] 40 rfl en30 (disk_Read_c x19 s14 hx20) (HasAll.cons (Has.m (Has.s rfl) rfl) (HasAll.cons (Has.fl (Has.s rfl)) HasAll.nil))) ?_
           refine mv ?_
           refine wo (Spec.ext0 (Has.s rfl)) ?_
           refine wo (Spec.ext1 (Has.s rfl)) ?_
           refine wo (Spec.assign (Has.s rfl)) ?_
           refine wo (Spec.assign (Has.s rfl)) ?_
           refine Walk.nil ?_
           refine Leaf.thenN ?_
           refine CWalk.seq ?_
           refine CWalk.seq ?_
           refine CWalk.region ?_
           refine mv ?_
           refine wo (Spec.neqI (Has.s rfl) Has.int) ?_
           refine mv ?_
           refine wg rfl rfl (fun hb => Spec.move (Has.s rfl)) ?_
           refine wg rfl rfl (fun hb => Spec.neqI (Has.u rfl hb) Has.int) ?_
           refine wo (Spec.or (Has.s rfl) (fun h => Has.u rfl h)) ?_
           refine Walk.nil ?_
           refine Leaf.thenN ?_
           refine CWalk.cond rfl (fun hb => ?_) (fun hb => ?_)
           ·have hm := cond_t hb hm
            refine CWalk.seq ?_
            refine CWalk.region ?_
            refine wo (Spec.assign Has.bool) ?_
            refine Walk.nil ?_
            refine Leaf.thenN ?_
            refine CWalk.ret ?_
            refine Leaf.thenR ?_
            refine Leaf.blockR ?_
            refine Leaf.thenR ?_
            exact Leaf.brk hm (fun h => nomatch h) rfl (st Sub.nil)
           ·have hm := cond_f hb hm
            refine CWalk.skip ?_
            refine Leaf.thenN ?_
            refine CWalk.seq ?_
            refine CWalk.region ?_
            refine mv ?_
            refine wo (Spec.eqlI (Has.s rfl) Has.int) ?_
            refine mv ?_
            refine wg rfl rfl (fun hb => Spec.move (Has.s rfl)) ?_
            refine wo (Spec.and (Has.s rfl) (fun h => Has.u rfl h)) ?_
            refine Walk.nil ?_
            refine Leaf.thenN ?_
            refine CWalk.cond rfl (fun hb => ?_) (fun hb => ?_)
            ·have hm := cond_t hb hm
             refine CWalk.seq ?_
             refine CWalk.region ?_
             refine mv ?_
             obtain ⟨x21, hx21, hm⟩ := bind_some hm
             refine wo (f := Fact.tup2 (Fact.rep [] x21.1) (Fact.rep [] x21.2)) (Spec.callE [40] 41 rfl en31 (label_Read_c x20.1 hx21) (HasAll.cons (Has.m (Has.cv (Has.s rfl) (Cv.trans Cv.owSl (Cv.slRep (T' := [40]) rfl rfl))) rfl) HasAll.nil)) ?_
             refine mv ?_
             refine wo (Spec.ext0 (Has.s rfl)) ?_
             refine wo (Spec.ext1 (Has.s rfl)) ?_
             refine ws (Step.allocObj (ls := [(false, 1, Fact.rep [] ((0 : UInt32) : UInt32)), (false, 1, Fact.rep [] ((0 : UInt32) : UInt32)), (false, 1, Fact.rep [] ((0 : Int) : Int)), (false, 1, Fact.rep [] ((0 : Int) : Int)), (false, 1, Fact.rep [] ((0 : Int) : Int)), (false, 1, Fact.rep [] ((0 : Int) : Int)), (false, 1, Fact.rep [] ((0 : Int) : Int)), (false, 1, Fact.rep [] ((0 : Int) : Int)), (false, 1, Fact.rep [] ((0 : Int) : Int)), (false, 1, Fact.rep [] (false : Bool))]) 42 rfl rfl rfl rfl zl71) ?_
             refine ws (Step.storeObj (ls := [(false, 1, Fact.rep [] x21.1.Id), (false, 1, Fact.rep [] x21.1.Events), (false, 1, Fact.rep [] x21.1.Members), (false, 1, Fact.rep [] x21.1.Chunk), (false, 1, Fact.rep [] x21.1.Rows), (false, 1, Fact.rep [] x21.1.Log), (false, 1, Fact.rep [] x21.1.Me), (false, 1, Fact.rep [] x21.1.Lost), (false, 1, Fact.rep [] x21.1.Done), (false, 1, Fact.rep [] x21.1.Open)]) rfl ty71 rfl rfl (Has.s rfl) rfl (HasL.flds (Has.cv (Has.s rfl) (Cv.trans (Cv.opens (chLabel x21.1)) (Cv.flds (CvL.cons Cv.fl (CvL.cons Cv.fl (CvL.cons Cv.fl (CvL.cons Cv.fl (CvL.cons Cv.fl (CvL.cons Cv.fl (CvL.cons Cv.fl (CvL.cons Cv.fl (CvL.cons Cv.fl (CvL.cons Cv.fl CvL.nil)))))))))))))) rfl) ?_
             refine wo (Spec.assign (Has.s rfl)) ?_
             refine Walk.nil ?_
             refine Leaf.thenN ?_
             refine CWalk.seq ?_
             refine CWalk.region ?_
             refine wo (Spec.fieldAddrO fd24_0 (Has.cv (Has.s rfl) (Cv.isvP rfl))) ?_
             refine wo (Spec.loadF (i := 0) ty22 rfl (Has.s rfl) rfl (HasG.s rfl)) ?_
             refine wo (Spec.fieldAddrO fd26_0 (Has.cv (Has.s rfl) (Cv.isvP rfl))) ?_
             refine wo (Spec.loadF (i := 0) ty22 rfl (Has.s rfl) rfl (HasG.s rfl)) ?_
             refine wo (Spec.addN (α := UInt32) (Has.s rfl) (Has.u32 1 rfl)) ?_
             refine wo (Spec.fieldAddrO fd24_1 (Has.cv (Has.s rfl) (Cv.isvP rfl))) ?_
             refine wo (Spec.loadF (i := 1) ty3 rfl (Has.s rfl) rfl (HasG.s rfl)) ?_
             refine wo (Spec.fieldAddrO fd24_2 (Has.cv (Has.s rfl) (Cv.isvP rfl))) ?_
             refine wo (Spec.loadF (i := 2) ty3 rfl (Has.s rfl) rfl (HasG.s rfl)) ?_
             refine wo (Spec.fieldAddrO fd24_3 (Has.cv (Has.s rfl) (Cv.isvP rfl))) ?_
             refine wo (Spec.loadF (i := 3) ty3 rfl (Has.s rfl) rfl (HasG.s rfl)) ?_
             refine wo (Spec.fieldAddrO fd24_4 (Has.cv (Has.s rfl) (Cv.isvP rfl))) ?_
             refine wo (Spec.loadF (i := 4) ty3 rfl (Has.s rfl) rfl (HasG.s rfl)) ?_
             refine mv ?_
             refine wo (Spec.fieldAddrO fd26_1 (Has.cv (Has.s rfl) (Cv.isvP rfl))) ?_
             refine wo (Spec.loadF (i := 1) ty3 rfl (Has.s rfl) rfl (HasG.s rfl)) ?_
             refine wo (Spec.fieldAddrO fd26_4 (Has.cv (Has.s rfl) (Cv.isvP rfl))) ?_
             refine wo (Spec.loadF (i := 4) ty3 rfl (Has.s rfl) rfl (HasG.s rfl)) ?_
             refine mv ?_
             refine wo (Spec.build (us := [(0, .tmp 141), (1, .tmp 144), (2, .tmp 146), (3, .tmp 148), (4, .tmp 150), (5, .tmp 152), (6, .tmp 153), (7, .tmp 155), (8, .tmp 157), (9, .tmp 158)]) (ls' := [(false, 1, Fact.rep [] a0.Id), (false, 1, Fact.rep [] ((scW.of ((a2.Events.toNat : Int) + ((1 : UInt32).toNat : Int))) : UInt32)), (false, 1, Fact.rep [] a0.Members), (false, 1, Fact.rep [] a0.Chunk), (false, 1, Fact.rep [] a0.Rows), (false, 1, Fact.rep [] a0.Log), (false, 1, Fact.rep [] (s5 : Int)), (false, 1, Fact.rep [] a2.Lost), (false, 1, Fact.rep [] a2.Done), (false, 1, Fact.rep [] (a3 : Bool))]) bd71 rfl (BP.cons rfl rfl (Has.s rfl) (Has.s rfl) (BP.cons rfl rfl (Has.s rfl) (Has.s rfl) (BP.cons rfl rfl (Has.s rfl) (Has.s rfl) (BP.cons rfl rfl (Has.s rfl) (Has.s rfl) (BP.cons rfl rfl (Has.s rfl) (Has.s rfl) (BP.cons rfl rfl (Has.s rfl) (Has.s rfl) (BP.cons rfl rfl (Has.s rfl) (Has.s rfl) (BP.cons rfl rfl (Has.s rfl) (Has.s rfl) (BP.cons rfl rfl (Has.s rfl) (Has.s rfl) (BP.cons rfl rfl (Has.s rfl) (Has.s rfl) BP.nil))))))))))) ?_
             refine ws (Step.allocObj (ls := [(false, 1, Fact.rep [] ((0 : UInt32) : UInt32)), (false, 1, Fact.rep [] ((0 : UInt32) : UInt32)), (false, 1, Fact.rep [] ((0 : Int) : Int)), (false, 1, Fact.rep [] ((0 : Int) : Int)), (false, 1, Fact.rep [] ((0 : Int) : Int)), (false, 1, Fact.rep [] ((0 : Int) : Int)), (false, 1, Fact.rep [] ((0 : Int) : Int)), (false, 1, Fact.rep [] ((0 : Int) : Int)), (false, 1, Fact.rep [] ((0 : Int) : Int)), (false, 1, Fact.rep [] (false : Bool))]) 53 rfl rfl rfl rfl zl71) ?_
             refine ws (Step.storeObj (ls := [(false, 1, Fact.rep [] a0.Id), (false, 1, Fact.rep [] ((scW.of ((a2.Events.toNat : Int) + ((1 : UInt32).toNat : Int))) : UInt32)), (false, 1, Fact.rep [] a0.Members), (false, 1, Fact.rep [] a0.Chunk), (false, 1, Fact.rep [] a0.Rows), (false, 1, Fact.rep [] a0.Log), (false, 1, Fact.rep [] (s5 : Int)), (false, 1, Fact.rep [] a2.Lost), (false, 1, Fact.rep [] a2.Done), (false, 1, Fact.rep [] (a3 : Bool))]) rfl ty71 rfl rfl (Has.s rfl) rfl (HasL.flds (Has.s rfl)) rfl) ?_
             refine Walk.nil ?_
             refine Leaf.thenN ?_
             refine CWalk.seq ?_
             refine CWalk.region ?_
             refine mv ?_
             refine wo (Spec.neqI (Has.s rfl) Has.int) ?_
             refine mv ?_
             refine wg rfl rfl (fun hb => Spec.loadObj (ls := [(false, 1, Fact.rep [] x21.1.Id), (false, 1, Fact.rep [] x21.1.Events), (false, 1, Fact.rep [] x21.1.Members), (false, 1, Fact.rep [] x21.1.Chunk), (false, 1, Fact.rep [] x21.1.Rows), (false, 1, Fact.rep [] x21.1.Log), (false, 1, Fact.rep [] x21.1.Me), (false, 1, Fact.rep [] x21.1.Lost), (false, 1, Fact.rep [] x21.1.Done), (false, 1, Fact.rep [] x21.1.Open)]) ty71 rfl rfl (Has.s rfl) rfl (HasGs.cons (HasG.s rfl) (HasGs.cons (HasG.s rfl) (HasGs.cons (HasG.s rfl) (HasGs.cons (HasG.s rfl) (HasGs.cons (HasG.s rfl) (HasGs.cons (HasG.s rfl) (HasGs.cons (HasG.s rfl) (HasGs.cons (HasG.s rfl) (HasGs.cons (HasG.s rfl) (HasGs.cons (HasG.s rfl) HasGs.nil))))))))))) ?_
             refine wg rfl rfl (fun hb => Spec.loadObj (ls := [(false, 1, Fact.rep [] a0.Id), (false, 1, Fact.rep [] ((scW.of ((a2.Events.toNat : Int) + ((1 : UInt32).toNat : Int))) : UInt32)), (false, 1, Fact.rep [] a0.Members), (false, 1, Fact.rep [] a0.Chunk), (false, 1, Fact.rep [] a0.Rows), (false, 1, Fact.rep [] a0.Log), (false, 1, Fact.rep [] (s5 : Int)), (false, 1, Fact.rep [] a2.Lost), (false, 1, Fact.rep [] a2.Done), (false, 1, Fact.rep [] (a3 : Bool))]) ty71 rfl rfl (Has.s rfl) rfl (HasGs.cons (HasG.s rfl) (HasGs.cons (HasG.s rfl) (HasGs.cons (HasG.s rfl) (HasGs.cons (HasG.s rfl) (HasGs.cons (HasG.s rfl) (HasGs.cons (HasG.s rfl) (HasGs.cons (HasG.s rfl) (HasGs.cons (HasG.s rfl) (HasGs.cons (HasG.s rfl) (HasGs.cons (HasG.s rfl) HasGs.nil))))))))))) ?_
             refine wg rfl rfl (fun hb => Spec.neqSt eqs71 eqg71 rfl (Has.cv (Has.u rfl hb) (Cv.trans (Cv.flds (CvL.cons Cv.fl (CvL.cons Cv.fl (CvL.cons Cv.fl (CvL.cons Cv.fl (CvL.cons Cv.fl (CvL.cons Cv.fl (CvL.cons Cv.fl (CvL.cons Cv.fl (CvL.cons Cv.fl (CvL.cons Cv.fl CvL.nil))))))))))) (Cv.close (T := []) (chLabel x21.1)))) (Has.cv (Has.u rfl hb) (Cv.trans (Cv.flds (CvL.cons Cv.fl (CvL.cons Cv.fl (CvL.cons Cv.fl (CvL.cons Cv.fl (CvL.cons Cv.fl (CvL.cons Cv.fl (CvL.cons Cv.fl (CvL.cons Cv.fl (CvL.cons Cv.fl (CvL.cons Cv.fl CvL.nil))))))))))) (Cv.close (T := []) (chLabel (Label.mk a0.Id (scW.of ((a2.Events.toNat : Int) + ((1 : UInt32).toNat : Int))) a0.Members a0.Chunk a0.Rows a0.Log s5 a2.Lost a2.Done a3)))))) ?_
             refine wo (Spec.or (Has.s rfl) (fun h => Has.u rfl h)) ?_
             refine Walk.nil ?_
             refine Leaf.thenN ?_
             refine CWalk.cond rfl (fun hb => ?_) (fun hb => ?_)
             ·have hm := cond_t hb hm
              refine CWalk.seq ?_
              refine CWalk.region ?_
              refine wo (Spec.assign Has.bool) ?_
              refine Walk.nil ?_
              refine Leaf.thenN ?_
              refine CWalk.ret ?_
              refine Leaf.blockR ?_
              refine Leaf.thenR ?_
              exact Leaf.brk hm (fun h => nomatch h) rfl (st Sub.nil)
             ·have hm := cond_f hb hm
              refine CWalk.skip ?_
              refine Leaf.blockN ?_
              exact Leaf.join () hm (su (st (st (sn (sn (sn (Sub.cons (Has.cv (Has.s rfl) (Cv.owM (T := [26]) (te := [27]) rfl rfl)) (Sub.cons (Has.cv (Has.s rfl) (Cv.owM (T := [37]) (te := [38]) rfl rfl)) (st (st (st (sf (sf (sf (sf (sf (sf (sf (sf (sf (sf (sf (sf (sf (sf (sf (sf (sf (sf (sf (sf (sn (sn (sn Sub.nil))))))))))))))))))))))))))))))))))
            ·have hm := cond_f hb hm
             refine CWalk.seq ?_
             refine CWalk.region ?_
             refine mv ?_
             refine wo (Spec.toStr Try.underlying56 Try.underlying5 Try.underlying9 (Has.cv (Has.s rfl) (Cv.trans Cv.owSl (Cv.slRep (T' := [39]) rfl rfl)))) ?_
             refine mv ?_
             refine wo (Spec.toStr Try.underlying56 Try.underlying5 Try.underlying9 (Has.cv (Has.s rfl) (Cv.trans Cv.owSl (Cv.slRep (T' := [40]) rfl rfl)))) ?_
             refine wo (Spec.neqS (Has.s rfl) (Has.s rfl)) ?_
             refine Walk.nil ?_
             refine Leaf.thenN ?_
             refine CWalk.cond rfl (fun hb => ?_) (fun hb => ?_)
             ·have hm := cond_t hb hm
              refine CWalk.seq ?_
              refine CWalk.region ?_
              refine wo (Spec.assign Has.bool) ?_
              refine Walk.nil ?_
              refine Leaf.thenN ?_
              refine CWalk.ret ?_
              refine Leaf.blockR ?_
              refine Leaf.thenR ?_
              exact Leaf.brk hm (fun h => nomatch h) rfl (st Sub.nil)
             ·have hm := cond_f hb hm
              refine CWalk.skip ?_
              refine Leaf.blockN ?_
              exact Leaf.join () hm (su (st (st (sn (sn (sn (Sub.cons (Has.cv (Has.s rfl) (Cv.owM (T := [26]) (te := [27]) rfl rfl)) (Sub.cons (Has.cv (Has.s rfl) (Cv.owM (T := [37]) (te := [38]) rfl rfl)) (st (st (st (sf (sf (sf (sf (sf (sf (sf (sf (sf (sf (sf (sf (sf (sf (sf (sf (sf (sf (sf (sf (sn (sn (sn Sub.nil))))))))))))))))))))))))))))))))))
         ·have hm := cond_f hb hm
          refine CWalk.exit ?_
          refine Leaf.thenE ?_
          exact Leaf.brk hm (fun h => nomatch h) rfl (su (st (st (sn (sn (sn (Sub.cons (Has.cv (Has.s rfl) (Cv.owM (T := [26]) (te := [27]) rfl rfl)) (Sub.cons (Has.cv (Has.s rfl) (Cv.owM (T := [37]) (te := [38]) rfl rfl)) (st (sf (sf (sf (sf (sf (sf (sf (sf (sf (sf (sf (sf (sf (sf (sf (sf (sf (sf (sf (sf (sn (sn (sn Sub.nil))))))))))))))))))))))))))))))))
        ·intro _
         rcases b22 with b23 | b24
         ·have hm := selim_l hm
          refine Leaf.blockE ?_
          refine Leaf.blockN ?_
          exact Leaf.join () hm (su (st (st (sn (sn (sn (Sub.cons (Has.cv (Has.s rfl) (Cv.owM (T := [26]) (te := [27]) rfl rfl)) (Sub.cons (Has.cv (Has.s rfl) (Cv.owM (T := [37]) (te := [38]) rfl rfl)) (st (sf (sf (sf (sf (sf (sf (sf (sf (sf (sf (sf (sf (sf (sf (sf (sf (sf (sf (sf (sf (sn (sn (sn Sub.nil))))))))))))))))))))))))))))))))
         ·have hm := selim_r hm
          refine Leaf.blockR ?_
          refine Leaf.blockR ?_
          refine Leaf.thenR ?_
          exact Leaf.brk hm (fun h => nomatch h) rfl (st Sub.nil)
    ·have hm := cond_f hb hm
     refine CWalk.exit ?_
     refine Leaf.thenE ?_
     exact Leaf.brk hm (fun h => nomatch h) rfl (sn (sn (sn (sf (sf (sf (sf (sf (sf (sf (sf (sf (sf (sf (sf (sf (sf (sf (sf (sf (sf (sf (sf (sn (sn (sn Sub.nil))))))))))))))))))))))))))
   ·intro _
    rcases b25 with b26 | b28
    ·have hm := selim_l hm
     refine Leaf.blockE ?_
     refine Leaf.thenN ?_
     refine CWalk.seq ?_
     refine CWalk.region ?_
     refine wo (Spec.fieldAddrO fd26_0 (Has.cv (Has.s rfl) (Cv.isvP rfl))) ?_
     refine wo (Spec.loadF (i := 0) ty22 rfl (Has.s rfl) rfl (HasG.s rfl)) ?_
     refine wo (Spec.fieldAddrO fd26_0 (Has.cv (Has.s rfl) (Cv.isvP rfl))) ?_
     refine wo (Spec.loadF (i := 0) ty22 rfl (Has.s rfl) rfl (HasG.s rfl)) ?_
     refine wo (Spec.addN (α := UInt32) (Has.s rfl) (Has.u32 1 rfl)) ?_
     refine wo (Spec.eqlN (α := UInt32) (Has.s rfl) (Has.s rfl)) ?_
     refine mv ?_
     refine wg rfl rfl (fun hb => Spec.loadObj (ls := [(false, 1, Fact.rep [] a0.Id), (false, 1, Fact.rep [] a0.Members), (false, 1, Fact.rep [] a0.Chunk), (false, 1, Fact.rep [] a0.Rows), (false, 1, Fact.rep [] a0.Log), (false, 1, Fact.rep [] a0.Heads)]) ty24 rfl rfl (Has.s rfl) rfl (HasGs.cons (HasG.s rfl) (HasGs.cons (HasG.s rfl) (HasGs.cons (HasG.s rfl) (HasGs.cons (HasG.s rfl) (HasGs.cons (HasG.s rfl) (HasGs.cons (HasG.s rfl) HasGs.nil))))))) ?_
     refine wg rfl rfl (fun hb => Spec.loadObj (ls := [(false, 1, Fact.rep [] x2.1.Events), (false, 1, Fact.rep [] x2.1.Lost), (false, 1, Fact.rep [] x2.1.Spare), (false, 1, Fact.rep [] x2.1.Pos), (false, 1, Fact.rep [] x2.1.Done), (false, 1, Fact.rep [] x2.1.NoLog), (false, 1, Fact.rep [] x2.1.Broken)]) ty26 rfl rfl (Has.s rfl) rfl (HasGs.cons (HasG.s rfl) (HasGs.cons (HasG.s rfl) (HasGs.cons (HasG.s rfl) (HasGs.cons (HasG.s rfl) (HasGs.cons (HasG.s rfl) (HasGs.cons (HasG.s rfl) (HasGs.cons (HasG.s rfl) HasGs.nil)))))))) ?_
     obtain ⟨x27, hx27, hm⟩ := bind_some hm
     refine wg (f := Fact.rep [] (x27 : Int)) rfl rfl (fun hb => Spec.callE [] 64 rfl en18 (loss_Check_c a0 x2.1 (gO_t hx27 hb)) (HasAll.cons (Has.fl (Has.cv (Has.u rfl hb) (Cv.trans (Cv.flds (CvL.cons Cv.fl (CvL.cons Cv.fl (CvL.cons Cv.fl (CvL.cons Cv.fl (CvL.cons Cv.fl (CvL.cons Cv.fl CvL.nil))))))) (Cv.close (T := []) (chConfig a0))))) (HasAll.cons (Has.fl (Has.cv (Has.u rfl hb) (Cv.trans (Cv.flds (CvL.cons Cv.fl (CvL.cons Cv.fl (CvL.cons Cv.fl (CvL.cons Cv.fl (CvL.cons Cv.fl (CvL.cons Cv.fl (CvL.cons Cv.fl CvL.nil)))))))) (Cv.close (T := []) (chLoss x2.1))))) HasAll.nil))) ?_
     refine wg rfl rfl (fun hb => Spec.eqlI (Has.u rfl hb) Has.int) ?_
     refine wo (Spec.and (Has.s rfl) (fun h => Has.u rfl h)) ?_
     refine wo (Spec.assign (Has.s rfl)) ?_
     refine Walk.nil ?_
     refine Leaf.thenN ?_
     refine CWalk.ret ?_
     obtain rfl := Option.some.inj hm
     exact Leaf.retC1 rfl (HasR.cv (HasR.tmp (Has.s rfl)) Cv.fl)
    ·have hm := selim_r hm
     refine Leaf.blockR ?_
     refine Leaf.thenR ?_
     obtain rfl := Option.some.inj hm
     exact Leaf.retC1 rfl (HasR.cv (HasR.tmp (Has.s rfl)) Cv.fl)

end Go.Proofs.Ytgjibgklailenaa
