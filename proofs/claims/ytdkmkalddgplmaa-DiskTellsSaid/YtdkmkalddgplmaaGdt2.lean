/- Printed by a program of ours: models of functions, and that calls do what they say. -/
import Derived.Test.YtdkmkalddgplmaaGdt1
namespace Go.Proofs.Ytdkmkalddgplmaa
open Go GL
set_option linter.unusedVariables false

def law04_DiskTells_L2 (x4 : (List UInt8) × Int) (s18 : Int) : Option (Ctl (Int) (Unit)) :=
  (bif (decide (s18 < ((x4.1).length : Int))) then Option.bind (idx x4.1 s18) (fun x20 => Option.bind (idx x4.1 s18) (fun x21 => some (Ctl.next (wI (s18 + (1 : Int)))))) else some (Ctl.brk ()))
def law04_DiskTells_L3 (x6 : (List UInt8) × Int) (s23 : Int) : Option (Ctl (Int) (Unit)) :=
  (bif (decide (s23 < ((x6.1).length : Int))) then Option.bind (idx x6.1 s23) (fun x25 => Option.bind (idx x6.1 s23) (fun x26 => some (Ctl.next (wI (s23 + (1 : Int)))))) else some (Ctl.brk ()))
def law04_DiskTells_J1 (a0 : Disk) (x3 : Disk) (x4 : (List UInt8) × Int) (x5 : (List UInt8) × Int) (x6 : (List UInt8) × Int) (x7 : (List UInt8) × Int) (x8 : Disk × Int) (x9 : Disk × Int) (x11 : Bool) (x12 : Int) (x13 : Int) (x14 : Bool) (x15 : Bool) (x16 : Bool) (x17 : Bool) : Option (Bool) :=
  Option.bind (loopM (fun s : Int => law04_DiskTells_L2 x4 s) FUEL (0 : Int)) (fun b22 => Option.bind (loopM (fun s : Int => law04_DiskTells_L3 x6 s) FUEL (0 : Int)) (fun b27 => Option.bind (gO (((((((((Str.mk x4.1).s == (Str.mk x5.1).s) && (x4.2 == x5.2)) && ((Str.mk x6.1).s == (Str.mk x7.1).s)) && (x6.2 == x7.2)) && x11) && (x8.2 == x9.2)) && ((((x12 == x13) && x14) && (x15 == x16)) && x17))) (ref04_Same x3 a0)) (fun x28 => some (((((((((Str.mk x4.1).s == (Str.mk x5.1).s) && (x4.2 == x5.2)) && ((Str.mk x6.1).s == (Str.mk x7.1).s)) && (x6.2 == x7.2)) && x11) && (x8.2 == x9.2)) && ((((x12 == x13) && x14) && (x15 == x16)) && x17)) && x28))))
def law04_DiskTells_L5 (x10 : Disk) (s29 : Int) (s31 : Int) : Option (Ctl (Int) (Unit)) :=
  Option.bind (idx x10.Blocks s29) (fun x33 => (bif (decide (s31 < ((x33).length : Int))) then Option.bind (idx x10.Blocks s29) (fun x34 => Option.bind (idx x34 s31) (fun x35 => Option.bind (idx x34 s31) (fun x36 => some (Ctl.next (wI (s31 + (1 : Int))))))) else some (Ctl.brk ())))
def law04_DiskTells_L4 (x10 : Disk) (s29 : Int) : Option (Ctl (Int) (Unit)) :=
  (bif (decide (s29 < ((x10.Blocks).length : Int))) then Option.bind (loopM (fun s : Int => law04_DiskTells_L5 x10 s29 s) FUEL (0 : Int)) (fun b37 => some (Ctl.next (wI (s29 + (1 : Int))))) else some (Ctl.brk ()))
def law04_DiskTells_L7 (x10 : Disk) (s39 : Int) (s42 : Int) : Option (Ctl (Int) (Unit)) :=
  Option.bind (idx x10.Wait s39) (fun x44 => (bif (decide (s42 < ((x44.Data).length : Int))) then Option.bind (idx x10.Wait s39) (fun x45 => Option.bind (idx x45.Data s42) (fun x46 => Option.bind (idx x45.Data s42) (fun x47 => some (Ctl.next (wI (s42 + (1 : Int))))))) else some (Ctl.brk ())))
def law04_DiskTells_L6 (x10 : Disk) (s39 : Int) : Option (Ctl (Int) (Unit)) :=
  (bif (decide (s39 < ((x10.Wait).length : Int))) then Option.bind (idx x10.Wait s39) (fun x41 => Option.bind (loopM (fun s : Int => law04_DiskTells_L7 x10 s39 s) FUEL (0 : Int)) (fun b48 => some (Ctl.next (wI (s39 + (1 : Int)))))) else some (Ctl.brk ()))
/-- freeboard/freeboardlaw04.DiskTells -/
def law04_DiskTells (a0 : Disk) (a1 : Disk) (a2 : Int) (a3 : Int) : Option (Bool) :=
  Option.bind (ref04_Great a0) (fun x1 => Option.bind (gO (!x1) (ref04_Great a1)) (fun x2 => (bif (x1 || x2) then some true else Option.bind (ref04_Twin a0) (fun x3 => Option.bind (disk_Read x3 a2) (fun x4 => Option.bind (ref04_Read a0 a2) (fun x5 => Option.bind (disk_Lasting x3 a2) (fun x6 => Option.bind (ref04_Lasting a0 a2) (fun x7 => Option.bind (disk_New a3) (fun x8 => Option.bind (ref04_New a3) (fun x9 => Option.bind (disk_Twin x3) (fun x10 => Option.bind (gO ((((((Str.mk x4.1).s == (Str.mk x5.1).s) && (x4.2 == x5.2)) && ((Str.mk x6.1).s == (Str.mk x7.1).s)) && (x6.2 == x7.2))) (ref04_Same x8.1 x9.1)) (fun x11 => Option.bind (disk_Check x3) (fun x12 => Option.bind (ref04_Check a0) (fun x13 => Option.bind (gO ((x12 == x13)) (ref04_Same x10 a0)) (fun x14 => Option.bind (gO (((x12 == x13) && x14)) (disk_Same a0 a1)) (fun x15 => Option.bind (gO (((x12 == x13) && x14)) (ref04_Same a0 a1)) (fun x16 => Option.bind (gO ((((x12 == x13) && x14) && (x15 == x16))) (disk_Same x3 a0)) (fun x17 => Option.bind (loopM (fun s : Int => law04_DiskTells_L4 x10 s) FUEL (0 : Int)) (fun b38 => Option.bind (loopM (fun s : Int => law04_DiskTells_L6 x10 s) FUEL (0 : Int)) (fun b49 => (law04_DiskTells_J1 a0 x3 x4 x5 x6 x7 x8 x9 x11 x12 x13 x14 x15 x16 x17)))))))))))))))))))))
set_option maxRecDepth 100000 in
set_option maxHeartbeats 2000000 in
theorem law04_DiskTells_c (a0 : Disk) (a1 : Disk) (a2 : Int) (a3 : Int) {r : Bool} (hm : law04_DiskTells a0 a1 a2 a3 = some r) : Ctr Try.prog 3 [.rep 0 a0, .rep 0 a1, .rep 0 a2, .rep 0 a3] (.fl r) [] := by
 refine ctr_of_walk [[]] 162 Try.func3 rfl rfl rfl rfl (fun w0 om => ?_)
 unfold law04_DiskTells at hm
 refine CWalk.sub (G' := [.fact 0 (.rep [0] (a0 : Disk)), .fact 1 (.rep [0] (a1 : Disk)), .fact 2 (.rep [] (a2 : Int)), .fact 3 (.rep [] (a3 : Int))]) (sn (sn (Sub.cons (Has.fl (Has.s rfl)) (Sub.cons (Has.fl (Has.s rfl)) Sub.nil)))) ?_
 refine CWalk.seq ?_
 refine CWalk.region ?_
 refine ws (Step.boxObj (ls := [(false, 1, Fact.rep [0] a0.Blocks), (false, 1, Fact.rep [0] a0.Wait), (false, 1, Fact.rep [] a0.Dead)]) 10 rfl rfl rfl rfl (HasL.flds (Has.cv (Has.s rfl) (Cv.trans (Cv.opens (chDisk a0)) (Cv.flds (CvL.cons Cv.refl (CvL.cons Cv.refl (CvL.cons Cv.fl CvL.nil)))))))) ?_
 refine ws (Step.boxObj (ls := [(false, 1, Fact.rep [0] a1.Blocks), (false, 1, Fact.rep [0] a1.Wait), (false, 1, Fact.rep [] a1.Dead)]) 14 rfl rfl rfl rfl (HasL.flds (Has.cv (Has.s rfl) (Cv.trans (Cv.opens (chDisk a1)) (Cv.flds (CvL.cons Cv.refl (CvL.cons Cv.refl (CvL.cons Cv.fl CvL.nil)))))))) ?_
 refine wo (Spec.assign Has.bool) ?_
 refine Walk.nil ?_
 refine Leaf.thenN ?_
 refine CWalk.seq ?_
 refine CWalk.seq ?_
 refine CWalk.region ?_
 refine wo (Spec.loadObj (ls := [(false, 1, Fact.rep [0] a0.Blocks), (false, 1, Fact.rep [0] a0.Wait), (false, 1, Fact.rep [] a0.Dead)]) ty25 rfl rfl (Has.s rfl) rfl (HasGs.cons (HasG.s rfl) (HasGs.cons (HasG.s rfl) (HasGs.cons (HasG.s rfl) HasGs.nil)))) ?_
 obtain ⟨x1, hx1, hm⟩ := bind_some hm
 refine wo (f := Fact.rep [] (x1 : Bool)) (Spec.callE [0] 18 rfl en9 (ref04_Great_c a0 hx1) (HasAll.cons (Has.m (Has.cv (Has.s rfl) (Cv.trans (Cv.flds (CvL.cons (Cv.m rfl) (CvL.cons (Cv.m rfl) (CvL.cons Cv.fl CvL.nil)))) (Cv.close (T := [0]) (chDisk a0)))) rfl) HasAll.nil)) ?_
 refine mv ?_
 refine wg rfl rfl (fun hb => Spec.loadObj (ls := [(false, 1, Fact.rep [0] a1.Blocks), (false, 1, Fact.rep [0] a1.Wait), (false, 1, Fact.rep [] a1.Dead)]) ty25 rfl rfl (Has.s rfl) rfl (HasGs.cons (HasG.s rfl) (HasGs.cons (HasG.s rfl) (HasGs.cons (HasG.s rfl) HasGs.nil)))) ?_
 obtain ⟨x2, hx2, hm⟩ := bind_some hm
 refine wg (f := Fact.rep [] (x2 : Bool)) rfl rfl (fun hb => Spec.callE [0] 19 rfl en9 (ref04_Great_c a1 (gO_t hx2 (not_t hb))) (HasAll.cons (Has.m (Has.cv (Has.u rfl hb) (Cv.trans (Cv.flds (CvL.cons (Cv.m rfl) (CvL.cons (Cv.m rfl) (CvL.cons Cv.fl CvL.nil)))) (Cv.close (T := [0]) (chDisk a1)))) rfl) HasAll.nil)) ?_
 refine wo (Spec.or (Has.s rfl) (fun h => Has.u rfl h)) ?_
 refine Walk.nil ?_
 refine Leaf.thenN ?_
 refine CWalk.cond rfl (fun hb => ?_) (fun hb => ?_)
 ·have hm := cond_t hb hm
  refine CWalk.seq ?_
  refine CWalk.region ?_
  refine wo (Spec.assign Has.bool) ?_
  refine Walk.nil ?_
  refine Leaf.thenN ?_
  refine CWalk.ret ?_
  refine Leaf.thenR ?_
  obtain rfl := Option.some.inj hm
  exact Leaf.retC1 rfl (HasR.cv (HasR.tmp (Has.s rfl)) Cv.fl)
 ·have hm := cond_f hb hm
  refine CWalk.skip ?_
  refine Leaf.thenN ?_
  refine CWalk.seq ?_
  refine CWalk.region ?_
  refine wo (Spec.loadObj (ls := [(false, 1, Fact.rep [0] a0.Blocks), (false, 1, Fact.rep [0] a0.Wait), (false, 1, Fact.rep [] a0.Dead)]) ty25 rfl rfl (Has.s rfl) rfl (HasGs.cons (HasG.s rfl) (HasGs.cons (HasG.s rfl) (HasGs.cons (HasG.s rfl) HasGs.nil)))) ?_
  obtain ⟨x3, hx3, hm⟩ := bind_some hm
  refine wo (f := Fact.flds [(false, 1, Fact.ow [20] [21] 28 (x3.Blocks : List (List UInt8))), (false, 1, Fact.ow [22] [23] 59 (x3.Wait : List Write)), (false, 1, Fact.rep [] x3.Dead)]) (Spec.callE [0] 20 rfl en10 (ref04_Twin_c a0 hx3) (HasAll.cons (Has.m (Has.cv (Has.s rfl) (Cv.trans (Cv.flds (CvL.cons (Cv.m rfl) (CvL.cons (Cv.m rfl) (CvL.cons Cv.fl CvL.nil)))) (Cv.close (T := [0]) (chDisk a0)))) rfl) HasAll.nil)) ?_
  refine ws (Step.allocObj (ls := [(false, 1, Fact.nilv), (false, 1, Fact.nilv), (false, 1, Fact.rep [] (false : Bool))]) 24 rfl rfl rfl rfl zl25) ?_
  refine ws (Step.storeObj (ls := [(false, 1, Fact.ow [20] [21] 28 (x3.Blocks : List (List UInt8))), (false, 1, Fact.ow [22] [23] 59 (x3.Wait : List Write)), (false, 1, Fact.rep [] x3.Dead)]) rfl ty25 rfl rfl (Has.s rfl) rfl (HasL.flds (Has.s rfl)) rfl) ?_
  refine Walk.nil ?_
  refine Leaf.thenN ?_
  refine CWalk.seq ?_
  refine CWalk.region ?_
  refine wo (Spec.loadObj (ls := [(false, 1, Fact.ow [20] [21] 28 (x3.Blocks : List (List UInt8))), (false, 1, Fact.ow [22] [23] 59 (x3.Wait : List Write)), (false, 1, Fact.rep [] x3.Dead)]) ty25 rfl rfl (Has.s rfl) rfl (HasGs.cons (HasG.s rfl) (HasGs.cons (HasG.s rfl) (HasGs.cons (HasG.s rfl) HasGs.nil)))) ?_
  refine mv ?_
  obtain ⟨x4, hx4, hm⟩ := bind_some hm
  refine wo (f := Fact.tup2 (Fact.ow [28] [] 5 (x4.1 : List UInt8)) (Fact.rep [] x4.2)) (Spec.callE [20, 21, 22, 23] 28 rfl en11 (disk_Read_c x3 a2 hx4) (HasAll.cons (Has.m (Has.cv (Has.s rfl) (Cv.trans (Cv.flds (CvL.cons (Cv.trans (Cv.trans Cv.owSl (Cv.slRep (T' := [20, 21]) rfl rfl)) (Cv.m rfl)) (CvL.cons (Cv.trans (Cv.trans Cv.owSl (Cv.slRep (T' := [22, 23]) rfl rfl)) (Cv.m rfl)) (CvL.cons Cv.fl CvL.nil)))) (Cv.close (T := [20, 21, 22, 23]) (chDisk x3)))) rfl) (HasAll.cons (Has.fl (Has.s rfl)) HasAll.nil))) ?_
  refine mv ?_
  refine wo (Spec.ext0 (Has.s rfl)) ?_
  refine wo (Spec.ext1 (Has.s rfl)) ?_
  refine wo (Spec.assign (Has.s rfl)) ?_
  refine wo (Spec.assign (Has.s rfl)) ?_
  refine Walk.nil ?_
  refine Leaf.thenN ?_
  refine CWalk.seq ?_
  refine CWalk.region ?_
  refine wo (Spec.loadObj (ls := [(false, 1, Fact.rep [0] a0.Blocks), (false, 1, Fact.rep [0] a0.Wait), (false, 1, Fact.rep [] a0.Dead)]) ty25 rfl rfl (Has.s rfl) rfl (HasGs.cons (HasG.s rfl) (HasGs.cons (HasG.s rfl) (HasGs.cons (HasG.s rfl) HasGs.nil)))) ?_
  refine mv ?_
  obtain ⟨x5, hx5, hm⟩ := bind_some hm
  refine wo (f := Fact.tup2 (Fact.ow [29] [] 5 (x5.1 : List UInt8)) (Fact.rep [] x5.2)) (Spec.callE [0] 29 rfl en12 (ref04_Read_c a0 a2 hx5) (HasAll.cons (Has.m (Has.cv (Has.s rfl) (Cv.trans (Cv.flds (CvL.cons (Cv.m rfl) (CvL.cons (Cv.m rfl) (CvL.cons Cv.fl CvL.nil)))) (Cv.close (T := [0]) (chDisk a0)))) rfl) (HasAll.cons (Has.fl (Has.s rfl)) HasAll.nil))) ?_
  refine mv ?_
  refine wo (Spec.ext0 (Has.s rfl)) ?_
  refine wo (Spec.ext1 (Has.s rfl)) ?_
  refine wo (Spec.assign (Has.s rfl)) ?_
  refine wo (Spec.assign (Has.s rfl)) ?_
  refine Walk.nil ?_
  refine Leaf.thenN ?_
  refine CWalk.seq ?_
  refine CWalk.region ?_
  refine wo (Spec.loadObj (ls := [(false, 1, Fact.ow [20] [21] 28 (x3.Blocks : List (List UInt8))), (false, 1, Fact.ow [22] [23] 59 (x3.Wait : List Write)), (false, 1, Fact.rep [] x3.Dead)]) ty25 rfl rfl (Has.s rfl) rfl (HasGs.cons (HasG.s rfl) (HasGs.cons (HasG.s rfl) (HasGs.cons (HasG.s rfl) HasGs.nil)))) ?_
  refine mv ?_
  obtain ⟨x6, hx6, hm⟩ := bind_some hm
  refine wo (f := Fact.tup2 (Fact.ow [30] [] 5 (x6.1 : List UInt8)) (Fact.rep [] x6.2)) (Spec.callE [20, 21, 22, 23] 30 rfl en13 (disk_Lasting_c x3 a2 hx6) (HasAll.cons (Has.m (Has.cv (Has.s rfl) (Cv.trans (Cv.flds (CvL.cons (Cv.trans (Cv.trans Cv.owSl (Cv.slRep (T' := [20, 21]) rfl rfl)) (Cv.m rfl)) (CvL.cons (Cv.trans (Cv.trans Cv.owSl (Cv.slRep (T' := [22, 23]) rfl rfl)) (Cv.m rfl)) (CvL.cons Cv.fl CvL.nil)))) (Cv.close (T := [20, 21, 22, 23]) (chDisk x3)))) rfl) (HasAll.cons (Has.fl (Has.s rfl)) HasAll.nil))) ?_
  refine mv ?_
  refine wo (Spec.ext0 (Has.s rfl)) ?_
  refine wo (Spec.ext1 (Has.s rfl)) ?_
  refine wo (Spec.assign (Has.s rfl)) ?_
  refine wo (Spec.assign (Has.s rfl)) ?_
  refine Walk.nil ?_
  refine Leaf.thenN ?_
  refine CWalk.seq ?_
  refine CWalk.region ?_
  refine wo (Spec.loadObj (ls := [(false, 1, Fact.rep [0] a0.Blocks), (false, 1, Fact.rep [0] a0.Wait), (false, 1, Fact.rep [] a0.Dead)]) ty25 rfl rfl (Has.s rfl) rfl (HasGs.cons (HasG.s rfl) (HasGs.cons (HasG.s rfl) (HasGs.cons (HasG.s rfl) HasGs.nil)))) ?_
  refine mv ?_
  obtain ⟨x7, hx7, hm⟩ := bind_some hm
  refine wo (f := Fact.tup2 (Fact.ow [31] [] 5 (x7.1 : List UInt8)) (Fact.rep [] x7.2)) (Spec.callE [0] 31 rfl en14 (ref04_Lasting_c a0 a2 hx7) (HasAll.cons (Has.m (Has.cv (Has.s rfl) (Cv.trans (Cv.flds (CvL.cons (Cv.m rfl) (CvL.cons (Cv.m rfl) (CvL.cons Cv.fl CvL.nil)))) (Cv.close (T := [0]) (chDisk a0)))) rfl) (HasAll.cons (Has.fl (Has.s rfl)) HasAll.nil))) ?_
  refine mv ?_
  refine wo (Spec.ext0 (Has.s rfl)) ?_
  refine wo (Spec.ext1 (Has.s rfl)) ?_
  refine wo (Spec.assign (Has.s rfl)) ?_
  refine wo (Spec.assign (Has.s rfl)) ?_
  refine Walk.nil ?_
  refine Leaf.thenN ?_
  refine CWalk.seq ?_
  refine CWalk.region ?_
  refine mv ?_
  obtain ⟨x8, hx8, hm⟩ := bind_some hm
  refine wo (f := Fact.tup2 (Fact.flds [(false, 1, Fact.ow [32] [] 28 (x8.1.Blocks : List (List UInt8))), (false, 1, Fact.ow [32] [] 59 (x8.1.Wait : List Write)), (false, 1, Fact.rep [] x8.1.Dead)]) (Fact.rep [] x8.2)) (Spec.callE [] 32 rfl en15 (disk_New_c a3 hx8) (HasAll.cons (Has.fl (Has.s rfl)) HasAll.nil)) ?_
  refine mv ?_
  refine wo (Spec.ext0 (Has.s rfl)) ?_
  refine wo (Spec.ext1 (Has.s rfl)) ?_
  refine ws (Step.allocObj (ls := [(false, 1, Fact.nilv), (false, 1, Fact.nilv), (false, 1, Fact.rep [] (false : Bool))]) 33 rfl rfl rfl rfl zl25) ?_
  refine ws (Step.storeObj (ls := [(false, 1, Fact.ow [32] [] 28 (x8.1.Blocks : List (List UInt8))), (false, 1, Fact.ow [32] [] 59 (x8.1.Wait : List Write)), (false, 1, Fact.rep [] x8.1.Dead)]) rfl ty25 rfl rfl (Has.s rfl) rfl (HasL.flds (Has.s rfl)) rfl) ?_
  refine wo (Spec.assign (Has.s rfl)) ?_
  refine Walk.nil ?_
  refine Leaf.thenN ?_
  refine CWalk.seq ?_
  refine CWalk.region ?_
  refine mv ?_
  obtain ⟨x9, hx9, hm⟩ := bind_some hm
  refine wo (f := Fact.tup2 (Fact.flds [(false, 1, Fact.ow [37] [] 28 (x9.1.Blocks : List (List UInt8))), (false, 1, Fact.ow [37] [] 59 (x9.1.Wait : List Write)), (false, 1, Fact.rep [] x9.1.Dead)]) (Fact.rep [] x9.2)) (Spec.callE [] 37 rfl en16 (ref04_New_c a3 hx9) (HasAll.cons (Has.fl (Has.s rfl)) HasAll.nil)) ?_
  refine mv ?_
  refine wo (Spec.ext0 (Has.s rfl)) ?_
  refine wo (Spec.ext1 (Has.s rfl)) ?_
  refine ws (Step.allocObj (ls := [(false, 1, Fact.nilv), (false, 1, Fact.nilv), (false, 1, Fact.rep [] (false : Bool))]) 38 rfl rfl rfl rfl zl25) ?_
  refine ws (Step.storeObj (ls := [(false, 1, Fact.ow [37] [] 28 (x9.1.Blocks : List (List UInt8))), (false, 1, Fact.ow [37] [] 59 (x9.1.Wait : List Write)), (false, 1, Fact.rep [] x9.1.Dead)]) rfl ty25 rfl rfl (Has.s rfl) rfl (HasL.flds (Has.s rfl)) rfl) ?_
  refine wo (Spec.assign (Has.s rfl)) ?_
  refine Walk.nil ?_
  refine Leaf.thenN ?_
  refine CWalk.seq ?_
  refine CWalk.region ?_
  refine wo (Spec.loadObj (ls := [(false, 1, Fact.ow [20] [21] 28 (x3.Blocks : List (List UInt8))), (false, 1, Fact.ow [22] [23] 59 (x3.Wait : List Write)), (false, 1, Fact.rep [] x3.Dead)]) ty25 rfl rfl (Has.s rfl) rfl (HasGs.cons (HasG.s rfl) (HasGs.cons (HasG.s rfl) (HasGs.cons (HasG.s rfl) HasGs.nil)))) ?_
  obtain ⟨x10, hx10, hm⟩ := bind_some hm
  refine wo (f := Fact.flds [(false, 1, Fact.ow [42] [43] 28 (x10.Blocks : List (List UInt8))), (false, 1, Fact.ow [44] [45] 59 (x10.Wait : List Write)), (false, 1, Fact.rep [] x10.Dead)]) (Spec.callE [20, 21, 22, 23] 42 rfl en17 (disk_Twin_c x3 hx10) (HasAll.cons (Has.m (Has.cv (Has.s rfl) (Cv.trans (Cv.flds (CvL.cons (Cv.trans (Cv.trans Cv.owSl (Cv.slRep (T' := [20, 21]) rfl rfl)) (Cv.m rfl)) (CvL.cons (Cv.trans (Cv.trans Cv.owSl (Cv.slRep (T' := [22, 23]) rfl rfl)) (Cv.m rfl)) (CvL.cons Cv.fl CvL.nil)))) (Cv.close (T := [20, 21, 22, 23]) (chDisk x3)))) rfl) HasAll.nil)) ?_
  refine ws (Step.allocObj (ls := [(false, 1, Fact.nilv), (false, 1, Fact.nilv), (false, 1, Fact.rep [] (false : Bool))]) 46 rfl rfl rfl rfl zl25) ?_
  refine ws (Step.storeObj (ls := [(false, 1, Fact.ow [42] [43] 28 (x10.Blocks : List (List UInt8))), (false, 1, Fact.ow [44] [45] 59 (x10.Wait : List Write)), (false, 1, Fact.rep [] x10.Dead)]) rfl ty25 rfl rfl (Has.s rfl) rfl (HasL.flds (Has.s rfl)) rfl) ?_
  refine Walk.nil ?_
  refine Leaf.thenN ?_
  refine CWalk.seq ?_
  refine CWalk.region ?_
  refine mv ?_
  refine wo (Spec.toStr Try.underlying28 Try.underlying5 Try.underlying9 (Has.cv (Has.s rfl) (Cv.trans Cv.owSl (Cv.slRep (T' := [28]) rfl rfl)))) ?_
  refine mv ?_
  refine wo (Spec.toStr Try.underlying28 Try.underlying5 Try.underlying9 (Has.cv (Has.s rfl) (Cv.trans Cv.owSl (Cv.slRep (T' := [29]) rfl rfl)))) ?_
  refine wo (Spec.eqlS (Has.s rfl) (Has.s rfl)) ?_
  refine mv ?_
  refine wg rfl rfl (fun hb => Spec.move (Has.s rfl)) ?_
  refine wg rfl rfl (fun hb => Spec.move (Has.s rfl)) ?_
  refine wg rfl rfl (fun hb => Spec.eqlI (Has.u rfl hb) (Has.u rfl hb)) ?_
  refine wo (Spec.and (Has.s rfl) (fun h => Has.u rfl h)) ?_
  refine mv ?_
  refine wg rfl rfl (fun hb => Spec.move (Has.s rfl)) ?_
  refine wg rfl rfl (fun hb => Spec.toStr Try.underlying28 Try.underlying5 Try.underlying9 (Has.cv (Has.u rfl hb) (Cv.trans Cv.owSl (Cv.slRep (T' := [30]) rfl rfl)))) ?_
  refine wg rfl rfl (fun hb => Spec.move (Has.s rfl)) ?_
  refine wg rfl rfl (fun hb => Spec.toStr Try.underlying28 Try.underlying5 Try.underlying9 (Has.cv (Has.u rfl hb) (Cv.trans Cv.owSl (Cv.slRep (T' := [31]) rfl rfl)))) ?_
  refine wg rfl rfl (fun hb => Spec.eqlS (Has.u rfl hb) (Has.u rfl hb)) ?_
  refine wo (Spec.and (Has.s rfl) (fun h => Has.u rfl h)) ?_
  refine mv ?_
  refine wg rfl rfl (fun hb => Spec.move (Has.s rfl)) ?_
  refine wg rfl rfl (fun hb => Spec.move (Has.s rfl)) ?_
  refine wg rfl rfl (fun hb => Spec.eqlI (Has.u rfl hb) (Has.u rfl hb)) ?_
  refine wo (Spec.and (Has.s rfl) (fun h => Has.u rfl h)) ?_
  refine mv ?_
  refine wg rfl rfl (fun hb => Spec.loadObj (ls := [(false, 1, Fact.ow [32] [] 28 (x8.1.Blocks : List (List UInt8))), (false, 1, Fact.ow [32] [] 59 (x8.1.Wait : List Write)), (false, 1, Fact.rep [] x8.1.Dead)]) ty25 rfl rfl (Has.s rfl) rfl (HasGs.cons (HasG.s rfl) (HasGs.cons (HasG.s rfl) (HasGs.cons (HasG.s rfl) HasGs.nil)))) ?_
  refine wg rfl rfl (fun hb => Spec.loadObj (ls := [(false, 1, Fact.ow [37] [] 28 (x9.1.Blocks : List (List UInt8))), (false, 1, Fact.ow [37] [] 59 (x9.1.Wait : List Write)), (false, 1, Fact.rep [] x9.1.Dead)]) ty25 rfl rfl (Has.s rfl) rfl (HasGs.cons (HasG.s rfl) (HasGs.cons (HasG.s rfl) (HasGs.cons (HasG.s rfl) HasGs.nil)))) ?_
  obtain ⟨x11, hx11, hm⟩ := bind_some hm
  refine wg (f := Fact.rep [] (x11 : Bool)) rfl rfl (fun hb => Spec.callE [32, 37] 50 rfl en18 (ref04_Same_c x8.1 x9.1 (gO_t hx11 hb)) (HasAll.cons (Has.m (Has.cv (Has.u rfl hb) (Cv.trans (Cv.flds (CvL.cons (Cv.trans (Cv.trans Cv.owSl (Cv.slRep (T' := [32]) rfl rfl)) (Cv.m rfl)) (CvL.cons (Cv.trans (Cv.trans Cv.owSl (Cv.slRep (T' := [32]) rfl rfl)) (Cv.m rfl)) (CvL.cons Cv.fl CvL.nil)))) (Cv.close (T := [32]) (chDisk x8.1)))) rfl) (HasAll.cons (Has.m (Has.cv (Has.u rfl hb) (Cv.trans (Cv.flds (CvL.cons (Cv.trans (Cv.trans Cv.owSl (Cv.slRep (T' := [37]) rfl rfl)) (Cv.m rfl)) (CvL.cons (Cv.trans (Cv.trans Cv.owSl (Cv.slRep (T' := [37]) rfl rfl)) (Cv.m rfl)) (CvL.cons Cv.fl CvL.nil)))) (Cv.close (T := [37]) (chDisk x9.1)))) rfl) HasAll.nil))) ?_
  refine wo (Spec.and (Has.s rfl) (fun h => Has.u rfl h)) ?_
  refine mv ?_
  refine wg rfl rfl (fun hb => Spec.move (Has.s rfl)) ?_
  refine wg rfl rfl (fun hb => Spec.move (Has.s rfl)) ?_
  refine wg rfl rfl (fun hb => Spec.eqlI (Has.u rfl hb) (Has.u rfl hb)) ?_
  refine wo (Spec.and (Has.s rfl) (fun h => Has.u rfl h)) ?_
  refine wo (Spec.assign (Has.s rfl)) ?_
  refine Walk.nil ?_
  refine Leaf.thenN ?_
  refine CWalk.seq ?_
  obtain ⟨x12, hx12, hm⟩ := bind_some hm
  obtain ⟨x13, hx13, hm⟩ := bind_some hm
  obtain ⟨x14, hx14, hm⟩ := bind_some hm
  obtain ⟨x15, hx15, hm⟩ := bind_some hm
  obtain ⟨x16, hx16, hm⟩ := bind_some hm
  obtain ⟨x17, hx17, hm⟩ := bind_some hm
  refine CWalk.drawM [[], [0], [], [0, 1, 2], [0, 1, 2, 3], [0, 1, 2, 3, 4], [0, 1, 2, 3, 4, 5], [0, 1, 2, 3, 4, 5], [0, 1, 2, 3, 4, 5, 6, 7], [0, 1, 2, 3, 4, 5, 6, 7, 8], [0, 1, 2, 3, 4, 5, 6, 7, 8, 9], [0, 1, 2, 3, 4, 5, 6, 7, 8, 9, 10], [0, 1, 2, 3, 4, 5, 6, 7, 8, 9, 10], [0, 1, 2, 3, 4, 5, 6, 7, 8, 9, 10, 11, 12], [0, 1, 2, 3, 4, 5, 6, 7, 8, 9, 10], [0, 1, 2, 3, 4, 5, 6, 7, 8, 9, 10], [0, 1, 2, 3, 4, 5, 6, 7, 8, 9, 10, 11, 12, 13, 14, 15], [0, 1, 2, 3, 4, 5, 6, 7, 8, 9, 10, 11, 12, 13, 14, 15, 16], [0, 1, 2, 3, 4, 5, 6, 7, 8, 9, 10, 11, 12, 13, 14, 15, 16, 17], [0, 1, 2, 3, 4, 5, 6, 7, 8, 9, 10, 11, 12, 13, 14, 15, 16, 17, 18], [0, 1, 2, 3, 4, 5, 6, 7, 8, 9, 10, 11, 12, 13, 14, 15, 16, 17, 18, 19], [0, 1, 2, 3, 4, 5, 6, 7, 8, 9, 10, 11, 12, 13, 14, 15, 16, 17, 18, 19], [0, 1, 2, 3, 4, 5, 6, 7, 8, 9, 10, 11, 12, 13, 14, 15, 16, 17, 18, 19, 20, 21], [0, 1, 2, 3, 4, 5, 6, 7, 8, 9, 10, 11, 12, 13, 14, 15, 16, 17, 18, 19, 20, 21, 22], [0, 1, 2, 3, 4, 5, 6, 7, 8, 9, 10, 11, 12, 13, 14, 15, 16, 17, 18, 19, 20, 21, 22, 23]] [[.fact 103 (.flds [(false, 1, Fact.ow [20] [21] 28 (x3.Blocks : List (List UInt8))), (false, 1, Fact.ow [22] [23] 59 (x3.Wait : List Write)), (false, 1, Fact.rep [] x3.Dead)])], [.fact 104 (.rep [] (x12 : Int))], [.fact 105 (.flds [(false, 1, Fact.rep [0] a0.Blocks), (false, 1, Fact.rep [0] a0.Wait), (false, 1, Fact.rep [] a0.Dead)])], [.fact 106 (.rep [] (x13 : Int))], [.fact 107 (.rep [] ((x12 == x13) : Bool))], [.fact 108 (.rep [] ((x12 == x13) : Bool))], [.fact 109 (.under ((x12 == x13) = true) (.flds [(false, 1, Fact.ow [42] [43] 28 (x10.Blocks : List (List UInt8))), (false, 1, Fact.ow [44] [45] 59 (x10.Wait : List Write)), (false, 1, Fact.rep [] x10.Dead)]))], [.fact 110 (.under ((x12 == x13) = true) (.flds [(false, 1, Fact.rep [0] a0.Blocks), (false, 1, Fact.rep [0] a0.Wait), (false, 1, Fact.rep [] a0.Dead)]))], [.fact 111 (.under ((x12 == x13) = true) (.rep [] (x14 : Bool)))], [.fact 112 (.rep [] (((x12 == x13) && x14) : Bool))], [.fact 113 (.rep [] (((x12 == x13) && x14) : Bool))], [.fact 114 (.under (((x12 == x13) && x14) = true) (.flds [(false, 1, Fact.rep [0] a0.Blocks), (false, 1, Fact.rep [0] a0.Wait), (false, 1, Fact.rep [] a0.Dead)]))], [.fact 115 (.under (((x12 == x13) && x14) = true) (.flds [(false, 1, Fact.rep [0] a1.Blocks), (false, 1, Fact.rep [0] a1.Wait), (false, 1, Fact.rep [] a1.Dead)]))], [.fact 116 (.under (((x12 == x13) && x14) = true) (.rep [] (x15 : Bool)))], [.fact 117 (.under (((x12 == x13) && x14) = true) (.flds [(false, 1, Fact.rep [0] a0.Blocks), (false, 1, Fact.rep [0] a0.Wait), (false, 1, Fact.rep [] a0.Dead)]))], [.fact 118 (.under (((x12 == x13) && x14) = true) (.flds [(false, 1, Fact.rep [0] a1.Blocks), (false, 1, Fact.rep [0] a1.Wait), (false, 1, Fact.rep [] a1.Dead)]))], [.fact 119 (.under (((x12 == x13) && x14) = true) (.rep [] (x16 : Bool)))], [.fact 120 (.under (((x12 == x13) && x14) = true) (.rep [] ((x15 == x16) : Bool)))], [.fact 121 (.rep [] ((((x12 == x13) && x14) && (x15 == x16)) : Bool))], [.fact 122 (.rep [] ((((x12 == x13) && x14) && (x15 == x16)) : Bool))], [.fact 123 (.under ((((x12 == x13) && x14) && (x15 == x16)) = true) (.flds [(false, 1, Fact.ow [20] [21] 28 (x3.Blocks : List (List UInt8))), (false, 1, Fact.ow [22] [23] 59 (x3.Wait : List Write)), (false, 1, Fact.rep [] x3.Dead)]))], [.fact 124 (.under ((((x12 == x13) && x14) && (x15 == x16)) = true) (.flds [(false, 1, Fact.rep [0] a0.Blocks), (false, 1, Fact.rep [0] a0.Wait), (false, 1, Fact.rep [] a0.Dead)]))], [.fact 125 (.under ((((x12 == x13) && x14) && (x15 == x16)) = true) (.rep [] (x17 : Bool)))], [.fact 126 (.rep [] (((((x12 == x13) && x14) && (x15 == x16)) && x17) : Bool))], [.fact 24 (.rep [] (((((x12 == x13) && x14) && (x15 == x16)) && x17) : Bool))]] mixed (by kernel_rfl) (ao (so (Spec.loadObj (ls := [(false, 1, Fact.ow [20] [21] 28 (x3.Blocks : List (List UInt8))), (false, 1, Fact.ow [22] [23] 59 (x3.Wait : List Write)), (false, 1, Fact.rep [] x3.Dead)]) ty25 rfl rfl (Has.s rfl) rfl (HasGs.cons (HasG.s rfl) (HasGs.cons (HasG.s rfl) (HasGs.cons (HasG.s rfl) HasGs.nil))))) (ao (so (Spec.callE [20, 21, 22, 23] 51 rfl en19 (disk_Check_c x3 hx12) (HasAll.cons (Has.m (Has.cv (Has.s rfl) (Cv.trans (Cv.flds (CvL.cons (Cv.trans (Cv.trans Cv.owSl (Cv.slRep (T' := [20, 21]) rfl rfl)) (Cv.m rfl)) (CvL.cons (Cv.trans (Cv.trans Cv.owSl (Cv.slRep (T' := [22, 23]) rfl rfl)) (Cv.m rfl)) (CvL.cons Cv.fl CvL.nil)))) (Cv.close (T := [20, 21, 22, 23]) (chDisk x3)))) rfl) HasAll.nil))) (ao (so (Spec.loadObj (ls := [(false, 1, Fact.rep [0] a0.Blocks), (false, 1, Fact.rep [0] a0.Wait), (false, 1, Fact.rep [] a0.Dead)]) ty25 rfl rfl (Has.s rfl) rfl (HasGs.cons (HasG.s rfl) (HasGs.cons (HasG.s rfl) (HasGs.cons (HasG.s rfl) HasGs.nil))))) (ao (so (Spec.callE [0] 52 rfl en20 (ref04_Check_c a0 hx13) (HasAll.cons (Has.m (Has.cv (Has.s rfl) (Cv.trans (Cv.flds (CvL.cons (Cv.m rfl) (CvL.cons (Cv.m rfl) (CvL.cons Cv.fl CvL.nil)))) (Cv.close (T := [0]) (chDisk a0)))) rfl) HasAll.nil))) (ao (so (Spec.eqlI (Has.s rfl) (Has.s rfl))) (ao (so (Spec.move (Has.s rfl))) (ao (StepG.opg rfl rfl rfl (fun hb => Spec.loadObj (ls := [(false, 1, Fact.ow [42] [43] 28 (x10.Blocks : List (List UInt8))), (false, 1, Fact.ow [44] [45] 59 (x10.Wait : List Write)), (false, 1, Fact.rep [] x10.Dead)]) ty25 rfl rfl (Has.s rfl) rfl (HasGs.cons (HasG.s rfl) (HasGs.cons (HasG.s rfl) (HasGs.cons (HasG.s rfl) HasGs.nil))))) (ao (StepG.opg rfl rfl rfl (fun hb => Spec.loadObj (ls := [(false, 1, Fact.rep [0] a0.Blocks), (false, 1, Fact.rep [0] a0.Wait), (false, 1, Fact.rep [] a0.Dead)]) ty25 rfl rfl (Has.s rfl) rfl (HasGs.cons (HasG.s rfl) (HasGs.cons (HasG.s rfl) (HasGs.cons (HasG.s rfl) HasGs.nil))))) (ao (StepG.opg rfl rfl rfl (fun hb => Spec.callE [0, 42, 43, 44, 45] 53 rfl en18 (ref04_Same_c x10 a0 (gO_t hx14 hb)) (HasAll.cons (Has.m (Has.cv (Has.u rfl hb) (Cv.trans (Cv.flds (CvL.cons (Cv.trans (Cv.trans Cv.owSl (Cv.slRep (T' := [42, 43]) rfl rfl)) (Cv.m rfl)) (CvL.cons (Cv.trans (Cv.trans Cv.owSl (Cv.slRep (T' := [44, 45]) rfl rfl)) (Cv.m rfl)) (CvL.cons Cv.fl CvL.nil)))) (Cv.close (T := [42, 43, 44, 45]) (chDisk x10)))) rfl) (HasAll.cons (Has.m (Has.cv (Has.u rfl hb) (Cv.trans (Cv.flds (CvL.cons (Cv.m rfl) (CvL.cons (Cv.m rfl) (CvL.cons Cv.fl CvL.nil)))) (Cv.close (T := [0]) (chDisk a0)))) rfl) HasAll.nil)))) (ao (so (Spec.and (Has.s rfl) (fun h => Has.u rfl h))) (ao (so (Spec.move (Has.s rfl))) (ao (StepG.opg rfl rfl rfl (fun hb => Spec.loadObj (ls := [(false, 1, Fact.rep [0] a0.Blocks), (false, 1, Fact.rep [0] a0.Wait), (false, 1, Fact.rep [] a0.Dead)]) ty25 rfl rfl (Has.s rfl) rfl (HasGs.cons (HasG.s rfl) (HasGs.cons (HasG.s rfl) (HasGs.cons (HasG.s rfl) HasGs.nil))))) (ao (StepG.opg rfl rfl rfl (fun hb => Spec.loadObj (ls := [(false, 1, Fact.rep [0] a1.Blocks), (false, 1, Fact.rep [0] a1.Wait), (false, 1, Fact.rep [] a1.Dead)]) ty25 rfl rfl (Has.s rfl) rfl (HasGs.cons (HasG.s rfl) (HasGs.cons (HasG.s rfl) (HasGs.cons (HasG.s rfl) HasGs.nil))))) (ao (StepG.opg rfl rfl rfl (fun hb => Spec.callE [0] 54 rfl en21 (disk_Same_c a0 a1 (gO_t hx15 hb)) (HasAll.cons (Has.m (Has.cv (Has.u rfl hb) (Cv.trans (Cv.flds (CvL.cons (Cv.m rfl) (CvL.cons (Cv.m rfl) (CvL.cons Cv.fl CvL.nil)))) (Cv.close (T := [0]) (chDisk a0)))) rfl) (HasAll.cons (Has.m (Has.cv (Has.u rfl hb) (Cv.trans (Cv.flds (CvL.cons (Cv.m rfl) (CvL.cons (Cv.m rfl) (CvL.cons Cv.fl CvL.nil)))) (Cv.close (T := [0]) (chDisk a1)))) rfl) HasAll.nil)))) (ao (StepG.opg rfl rfl rfl (fun hb => Spec.loadObj (ls := [(false, 1, Fact.rep [0] a0.Blocks), (false, 1, Fact.rep [0] a0.Wait), (false, 1, Fact.rep [] a0.Dead)]) ty25 rfl rfl (Has.s rfl) rfl (HasGs.cons (HasG.s rfl) (HasGs.cons (HasG.s rfl) (HasGs.cons (HasG.s rfl) HasGs.nil))))) (ao (StepG.opg rfl rfl rfl (fun hb => Spec.loadObj (ls := [(false, 1, Fact.rep [0] a1.Blocks), (false, 1, Fact.rep [0] a1.Wait), (false, 1, Fact.rep [] a1.Dead)]) ty25 rfl rfl (Has.s rfl) rfl (HasGs.cons (HasG.s rfl) (HasGs.cons (HasG.s rfl) (HasGs.cons (HasG.s rfl) HasGs.nil))))) (ao (StepG.opg rfl rfl rfl (fun hb => Spec.callE [0] 55 rfl en18 (ref04_Same_c a0 a1 (gO_t hx16 hb)) (HasAll.cons (Has.m (Has.cv (Has.u rfl hb) (Cv.trans (Cv.flds (CvL.cons (Cv.m rfl) (CvL.cons (Cv.m rfl) (CvL.cons Cv.fl CvL.nil)))) (Cv.close (T := [0]) (chDisk a0)))) rfl) (HasAll.cons (Has.m (Has.cv (Has.u rfl hb) (Cv.trans (Cv.flds (CvL.cons (Cv.m rfl) (CvL.cons (Cv.m rfl) (CvL.cons Cv.fl CvL.nil)))) (Cv.close (T := [0]) (chDisk a1)))) rfl) HasAll.nil)))) (ao (StepG.opg rfl rfl rfl (fun hb => Spec.eqlT (Has.u rfl hb) (Has.u rfl hb) Try.underlying4)) (ao (so (Spec.and (Has.s rfl) (fun h => Has.u rfl h))) (ao (so (Spec.move (Has.s rfl))) (ao (StepG.opg rfl rfl rfl (fun hb => Spec.loadObj (ls := [(false, 1, Fact.ow [20] [21] 28 (x3.Blocks : List (List UInt8))), (false, 1, Fact.ow [22] [23] 59 (x3.Wait : List Write)), (false, 1, Fact.rep [] x3.Dead)]) ty25 rfl rfl (Has.s rfl) rfl (HasGs.cons (HasG.s rfl) (HasGs.cons (HasG.s rfl) (HasGs.cons (HasG.s rfl) HasGs.nil))))) (ao (StepG.opg rfl rfl rfl (fun hb => Spec.loadObj (ls := [(false, 1, Fact.rep [0] a0.Blocks), (false, 1, Fact.rep [0] a0.Wait), (false, 1, Fact.rep [] a0.Dead)]) ty25 rfl rfl (Has.s rfl) rfl (HasGs.cons (HasG.s rfl) (HasGs.cons (HasG.s rfl) (HasGs.cons (HasG.s rfl) HasGs.nil))))) (ao (StepG.opg rfl rfl rfl (fun hb => Spec.callE [0, 20, 21, 22, 23] 56 rfl en21 (disk_Same_c x3 a0 (gO_t hx17 hb)) (HasAll.cons (Has.m (Has.cv (Has.u rfl hb) (Cv.trans (Cv.flds (CvL.cons (Cv.trans (Cv.trans Cv.owSl (Cv.slRep (T' := [20, 21]) rfl rfl)) (Cv.m rfl)) (CvL.cons (Cv.trans (Cv.trans Cv.owSl (Cv.slRep (T' := [22, 23]) rfl rfl)) (Cv.m rfl)) (CvL.cons Cv.fl CvL.nil)))) (Cv.close (T := [20, 21, 22, 23]) (chDisk x3)))) rfl) (HasAll.cons (Has.m (Has.cv (Has.u rfl hb) (Cv.trans (Cv.flds (CvL.cons (Cv.m rfl) (CvL.cons (Cv.m rfl) (CvL.cons Cv.fl CvL.nil)))) (Cv.close (T := [0]) (chDisk a0)))) rfl) HasAll.nil)))) (ao (so (Spec.and (Has.s rfl) (fun h => Has.u rfl h))) (ao (so (Spec.assign (Has.s rfl))) AllM.nil))))))))))))))))))))))))) ?_
  refine Leaf.thenN ?_
  refine CWalk.seq ?_
  refine CWalk.region ?_
  refine wo (Spec.loadObj (ls := [(false, 1, Fact.ow [42] [43] 28 (x10.Blocks : List (List UInt8))), (false, 1, Fact.ow [44] [45] 59 (x10.Wait : List Write)), (false, 1, Fact.rep [] x10.Dead)]) ty25 rfl rfl (Has.s rfl) rfl (HasGs.cons (HasG.s rfl) (HasGs.cons (HasG.s rfl) (HasGs.cons (HasG.s rfl) HasGs.nil)))) ?_
  refine Walk.inline (S := Unit) (fun p : Unit => [.fact 4 (.isv 10), .fact 9 (.isv 24), .fact 10 (.ow [28] [] 5 (x4.1 : List UInt8)), .fact 14 (.ow [30] [] 5 (x6.1 : List UInt8)), .fact 23 (.rep [] ((((((((Str.mk x4.1).s == (Str.mk x5.1).s) && (x4.2 == x5.2)) && ((Str.mk x6.1).s == (Str.mk x7.1).s)) && (x6.2 == x7.2)) && x11) && (x8.2 == x9.2)) : Bool)), .fact 24 (.rep [] (((((x12 == x13) && x14) && (x15 == x16)) && x17) : Bool)), .fact 128 (.top), .fact 100011 (.at 11 (.rep [0] a0.Blocks)), .fact 100012 (.at 12 (.rep [0] a0.Wait)), .fact 100013 (.at 13 (.rep [] a0.Dead)), .fact 100025 (.at 25 (.ow [20] [21] 28 (x3.Blocks : List (List UInt8)))), .fact 100026 (.at 26 (.ow [22] [23] 59 (x3.Wait : List Write))), .fact 100027 (.at 27 (.rep [] x3.Dead)), .fact 100010 (.obj 10 [(false, 1), (false, 1), (false, 1)]), .fact 100024 (.obj 24 [(false, 1), (false, 1), (false, 1)])]) (fun p : Unit => law04_DiskTells_J1 a0 x3 x4 x5 x6 x7 x8 x9 x11 x12 x13 x14 x15 x16 x17 = some r) (fun u1 => [.fact 100011 (.at 11 (.rep [0] a0.Blocks)), .fact 100012 (.at 12 (.rep [0] a0.Wait)), .fact 100013 (.at 13 (.rep [] a0.Dead)), .fact 100025 (.at 25 (.ow [20] [21] 28 (x3.Blocks : List (List UInt8)))), .fact 100026 (.at 26 (.ow [22] [23] 59 (x3.Wait : List Write))), .fact 100027 (.at 27 (.rep [] x3.Dead)), .fact 902004 (.cst (u1 4) (Fact.isv 10)), .fact 902009 (.cst (u1 9) (Fact.isv 24)), .fact 902010 (.cst (u1 10) (Fact.ow [28] [] 5 (x4.1 : List UInt8))), .fact 902014 (.cst (u1 14) (Fact.ow [30] [] 5 (x6.1 : List UInt8))), .fact 902023 (.cst (u1 23) (Fact.rep [] ((((((((Str.mk x4.1).s == (Str.mk x5.1).s) && (x4.2 == x5.2)) && ((Str.mk x6.1).s == (Str.mk x7.1).s)) && (x6.2 == x7.2)) && x11) && (x8.2 == x9.2)) : Bool))), .fact 902024 (.cst (u1 24) (Fact.rep [] (((((x12 == x13) && x14) && (x15 == x16)) && x17) : Bool))), .fact 100010 (.obj 10 [(false, 1), (false, 1), (false, 1)]), .fact 100024 (.obj 24 [(false, 1), (false, 1), (false, 1)])]) (FA := [Fact.flds [(false, 1, Fact.ow [42] [43] 28 (x10.Blocks : List (List UInt8))), (false, 1, Fact.ow [44] [45] 59 (x10.Wait : List Write)), (false, 1, Fact.rep [] x10.Dead)]]) rfl Try.func22 rfl rfl rfl (CallOk.fn en22 (HasF.cons (Has.s rfl) HasF.nil)) (fun u1 => (ck (ck (ck (ck (ck (ck (cs 902000 4 (cs 902000 9 (cs 902000 10 (cs 902000 14 (cs 902000 23 (cs 902000 24 (ck (ck Carry.nil))))))))))))))) (fun u1 => ?_) ?_
  ·refine CWalk.seq ?_
   refine CWalk.region ?_
   refine ws (Step.boxObj (ls := [(false, 1, Fact.ow [42] [43] 28 (x10.Blocks : List (List UInt8))), (false, 1, Fact.ow [44] [45] 59 (x10.Wait : List Write)), (false, 1, Fact.rep [] x10.Dead)]) 57 rfl rfl rfl rfl (HasL.flds (Has.s rfl))) ?_
   refine Walk.nil ?_
   refine Leaf.thenN ?_
   refine CWalk.seq ?_
   refine CWalk.seq ?_
   refine CWalk.region ?_
   refine wo (Spec.assign Has.int) ?_
   refine Walk.nil ?_
   refine Leaf.thenN ?_
   refine CWalk.block ?_
   obtain ⟨b38, hb38, hm⟩ := bind_some hm
   refine CWalk.loop (fun s : Int => [.fact 1 (.isv 57), .fact 2 (.rep [] (s : Int)), .fact 902004 (.cst (u1 4) (Fact.isv 10)), .fact 902009 (.cst (u1 9) (Fact.isv 24)), .fact 902010 (.cst (u1 10) (Fact.ow [28] [] 5 (x4.1 : List UInt8))), .fact 902014 (.cst (u1 14) (Fact.ow [30] [] 5 (x6.1 : List UInt8))), .fact 902023 (.cst (u1 23) (Fact.rep [] ((((((((Str.mk x4.1).s == (Str.mk x5.1).s) && (x4.2 == x5.2)) && ((Str.mk x6.1).s == (Str.mk x7.1).s)) && (x6.2 == x7.2)) && x11) && (x8.2 == x9.2)) : Bool))), .fact 902024 (.cst (u1 24) (Fact.rep [] (((((x12 == x13) && x14) && (x15 == x16)) && x17) : Bool))), .fact 100058 (.at 58 (.lo [42, 43] x10.Blocks)), .fact 100059 (.at 59 (.ow [44] [45] 59 (x10.Wait : List Write))), .fact 100060 (.at 60 (.rep [] x10.Dead)), .fact 100011 (.at 11 (.rep [0] a0.Blocks)), .fact 100012 (.at 12 (.rep [0] a0.Wait)), .fact 100013 (.at 13 (.rep [] a0.Dead)), .fact 100025 (.at 25 (.ow [20] [21] 28 (x3.Blocks : List (List UInt8)))), .fact 100026 (.at 26 (.ow [22] [23] 59 (x3.Wait : List Write))), .fact 100027 (.at 27 (.rep [] x3.Dead)), .fact 100057 (.obj 57 [(false, 1), (false, 1), (false, 1)]), .fact 100010 (.obj 10 [(false, 1), (false, 1), (false, 1)]), .fact 100024 (.obj 24 [(false, 1), (false, 1), (false, 1)])]) (fun b : Unit => (Exit.exit 0, [.fact 1 (.isv 57), .fact 902004 (.cst (u1 4) (Fact.isv 10)), .fact 902009 (.cst (u1 9) (Fact.isv 24)), .fact 902010 (.cst (u1 10) (Fact.ow [28] [] 5 (x4.1 : List UInt8))), .fact 902014 (.cst (u1 14) (Fact.ow [30] [] 5 (x6.1 : List UInt8))), .fact 902023 (.cst (u1 23) (Fact.rep [] ((((((((Str.mk x4.1).s == (Str.mk x5.1).s) && (x4.2 == x5.2)) && ((Str.mk x6.1).s == (Str.mk x7.1).s)) && (x6.2 == x7.2)) && x11) && (x8.2 == x9.2)) : Bool))), .fact 902024 (.cst (u1 24) (Fact.rep [] (((((x12 == x13) && x14) && (x15 == x16)) && x17) : Bool))), .fact 100058 (.at 58 (.lo [42, 43] x10.Blocks)), .fact 100059 (.at 59 (.ow [44] [45] 59 (x10.Wait : List Write))), .fact 100060 (.at 60 (.rep [] x10.Dead)), .fact 100011 (.at 11 (.rep [0] a0.Blocks)), .fact 100012 (.at 12 (.rep [0] a0.Wait)), .fact 100013 (.at 13 (.rep [] a0.Dead)), .fact 100025 (.at 25 (.ow [20] [21] 28 (x3.Blocks : List (List UInt8)))), .fact 100026 (.at 26 (.ow [22] [23] 59 (x3.Wait : List Write))), .fact 100027 (.at 27 (.rep [] x3.Dead)), .fact 100057 (.obj 57 [(false, 1), (false, 1), (false, 1)]), .fact 100010 (.obj 10 [(false, 1), (false, 1), (false, 1)]), .fact 100024 (.obj 24 [(false, 1), (false, 1), (false, 1)])])) hb38 (sn (st (sc (sc (Sub.cons (Has.cst (HasC.cv (HasC.s (s := 902010) rfl) (Cv.owF (T := [28]) (te := []) rfl))) (Sub.cons (Has.cst (HasC.cv (HasC.s (s := 902014) rfl) (Cv.owF (T := [30]) (te := []) rfl))) (Sub.cons (Has.cst (HasC.cv (HasC.s (s := 902023) rfl) Cv.fl)) (Sub.cons (Has.cst (HasC.cv (HasC.s (s := 902024) rfl) Cv.fl)) (Sub.cons (Has.at (HasG.cv (HasG.s rfl) (Cv.trans (Cv.trans Cv.owSl (Cv.slRep (T' := [42, 43]) rfl rfl)) (Cv.lo rfl)))) (Sub.cons (Has.at (HasG.cv (HasG.s rfl) (Cv.owM (T := [44]) (te := [45]) rfl rfl))) (sf (sm (sm (sf (Sub.cons (Has.at (HasG.cv (HasG.s rfl) (Cv.owM (T := [20]) (te := [21]) rfl rfl))) (Sub.cons (Has.at (HasG.cv (HasG.s rfl) (Cv.owM (T := [22]) (te := [23]) rfl rfl))) (sf (sn (sn (sn Sub.nil)))))))))))))))))))) ?_ ?_
   ·rintro s29 c30 hm
    replace hm : law04_DiskTells_L4 x10 s29 = some c30 := hm
    unfold law04_DiskTells_L4 at hm
    show CWalk _ [.fact 1 (.isv 57), .fact 2 (.rep [] (s29 : Int)), .fact 902004 (.cst (u1 4) (Fact.isv 10)), .fact 902009 (.cst (u1 9) (Fact.isv 24)), .fact 902010 (.cst (u1 10) (Fact.ow [28] [] 5 (x4.1 : List UInt8))), .fact 902014 (.cst (u1 14) (Fact.ow [30] [] 5 (x6.1 : List UInt8))), .fact 902023 (.cst (u1 23) (Fact.rep [] ((((((((Str.mk x4.1).s == (Str.mk x5.1).s) && (x4.2 == x5.2)) && ((Str.mk x6.1).s == (Str.mk x7.1).s)) && (x6.2 == x7.2)) && x11) && (x8.2 == x9.2)) : Bool))), .fact 902024 (.cst (u1 24) (Fact.rep [] (((((x12 == x13) && x14) && (x15 == x16)) && x17) : Bool))), .fact 100058 (.at 58 (.lo [42, 43] x10.Blocks)), .fact 100059 (.at 59 (.ow [44] [45] 59 (x10.Wait : List Write))), .fact 100060 (.at 60 (.rep [] x10.Dead)), .fact 100011 (.at 11 (.rep [0] a0.Blocks)), .fact 100012 (.at 12 (.rep [0] a0.Wait)), .fact 100013 (.at 13 (.rep [] a0.Dead)), .fact 100025 (.at 25 (.ow [20] [21] 28 (x3.Blocks : List (List UInt8)))), .fact 100026 (.at 26 (.ow [22] [23] 59 (x3.Wait : List Write))), .fact 100027 (.at 27 (.rep [] x3.Dead)), .fact 100057 (.obj 57 [(false, 1), (false, 1), (false, 1)]), .fact 100010 (.obj 10 [(false, 1), (false, 1), (false, 1)]), .fact 100024 (.obj 24 [(false, 1), (false, 1), (false, 1)])] _ _
    refine CWalk.seq ?_
    refine CWalk.seq ?_
    refine CWalk.region ?_
    refine mv ?_
    refine wo (Spec.fieldAddrO fd25_0 (Has.cv (Has.s rfl) (Cv.isvP rfl))) ?_
    refine wo (Spec.loadF (i := 0) ty22 rfl (Has.s rfl) rfl (HasG.s rfl)) ?_
    refine wo (Spec.lenLo (Has.s rfl) Try.underlying22) ?_
    refine wo (Spec.lssI (Has.s rfl) (Has.s rfl)) ?_
    refine Walk.nil ?_
    refine Leaf.thenN ?_
    refine CWalk.cond rfl (fun hb => ?_) (fun hb => ?_)
    ·have hm := cond_t hb hm
     refine CWalk.skip ?_
     refine Leaf.thenN ?_
     refine CWalk.seq ?_
     refine CWalk.block ?_
     refine CWalk.seq ?_
     refine CWalk.region ?_
     refine wo (Spec.assign Has.int) ?_
     refine Walk.nil ?_
     refine Leaf.thenN ?_
     refine CWalk.block ?_
     obtain ⟨b37, hb37, hm⟩ := bind_some hm
     refine CWalk.loop (fun s : Int => [.fact 1 (.isv 57), .fact 2 (.rep [] (s29 : Int)), .fact 3 (.rep [] (s : Int)), .fact 902004 (.cst (u1 4) (Fact.isv 10)), .fact 902009 (.cst (u1 9) (Fact.isv 24)), .fact 902010 (.cst (u1 10) (Fact.ow [28] [] 5 (x4.1 : List UInt8))), .fact 902014 (.cst (u1 14) (Fact.ow [30] [] 5 (x6.1 : List UInt8))), .fact 902023 (.cst (u1 23) (Fact.rep [] ((((((((Str.mk x4.1).s == (Str.mk x5.1).s) && (x4.2 == x5.2)) && ((Str.mk x6.1).s == (Str.mk x7.1).s)) && (x6.2 == x7.2)) && x11) && (x8.2 == x9.2)) : Bool))), .fact 902024 (.cst (u1 24) (Fact.rep [] (((((x12 == x13) && x14) && (x15 == x16)) && x17) : Bool))), .fact 100058 (.at 58 (.lo [42, 43] x10.Blocks)), .fact 100059 (.at 59 (.ow [44] [45] 59 (x10.Wait : List Write))), .fact 100060 (.at 60 (.rep [] x10.Dead)), .fact 100011 (.at 11 (.rep [0] a0.Blocks)), .fact 100012 (.at 12 (.rep [0] a0.Wait)), .fact 100013 (.at 13 (.rep [] a0.Dead)), .fact 100025 (.at 25 (.ow [20] [21] 28 (x3.Blocks : List (List UInt8)))), .fact 100026 (.at 26 (.ow [22] [23] 59 (x3.Wait : List Write))), .fact 100027 (.at 27 (.rep [] x3.Dead)), .fact 100057 (.obj 57 [(false, 1), (false, 1), (false, 1)]), .fact 100010 (.obj 10 [(false, 1), (false, 1), (false, 1)]), .fact 100024 (.obj 24 [(false, 1), (false, 1), (false, 1)])]) (fun b : Unit => (Exit.exit 2, [.fact 1 (.isv 57), .fact 2 (.rep [] (s29 : Int)), .fact 902004 (.cst (u1 4) (Fact.isv 10)), .fact 902009 (.cst (u1 9) (Fact.isv 24)), .fact 902010 (.cst (u1 10) (Fact.ow [28] [] 5 (x4.1 : List UInt8))), .fact 902014 (.cst (u1 14) (Fact.ow [30] [] 5 (x6.1 : List UInt8))), .fact 902023 (.cst (u1 23) (Fact.rep [] ((((((((Str.mk x4.1).s == (Str.mk x5.1).s) && (x4.2 == x5.2)) && ((Str.mk x6.1).s == (Str.mk x7.1).s)) && (x6.2 == x7.2)) && x11) && (x8.2 == x9.2)) : Bool))), .fact 902024 (.cst (u1 24) (Fact.rep [] (((((x12 == x13) && x14) && (x15 == x16)) && x17) : Bool))), .fact 100058 (.at 58 (.lo [42, 43] x10.Blocks)), .fact 100059 (.at 59 (.ow [44] [45] 59 (x10.Wait : List Write))), .fact 100060 (.at 60 (.rep [] x10.Dead)), .fact 100011 (.at 11 (.rep [0] a0.Blocks)), .fact 100012 (.at 12 (.rep [0] a0.Wait)), .fact 100013 (.at 13 (.rep [] a0.Dead)), .fact 100025 (.at 25 (.ow [20] [21] 28 (x3.Blocks : List (List UInt8)))), .fact 100026 (.at 26 (.ow [22] [23] 59 (x3.Wait : List Write))), .fact 100027 (.at 27 (.rep [] x3.Dead)), .fact 100057 (.obj 57 [(false, 1), (false, 1), (false, 1)]), .fact 100010 (.obj 10 [(false, 1), (false, 1), (false, 1)]), .fact 100024 (.obj 24 [(false, 1), (false, 1), (false, 1)])])) hb37 (sn (st (st (sc (sc (Sub.cons (Has.cst (HasC.cv (HasC.s (s := 902010) rfl) (Cv.owF (T := [28]) (te := []) rfl))) (Sub.cons (Has.cst (HasC.cv (HasC.s (s := 902014) rfl) (Cv.owF (T := [30]) (te := []) rfl))) (Sub.cons (Has.cst (HasC.cv (HasC.s (s := 902023) rfl) Cv.fl)) (Sub.cons (Has.cst (HasC.cv (HasC.s (s := 902024) rfl) Cv.fl)) (sg (Sub.cons (Has.at (HasG.cv (HasG.s rfl) (Cv.owM (T := [44]) (te := [45]) rfl rfl))) (sf (sm (sm (sf (Sub.cons (Has.at (HasG.cv (HasG.s rfl) (Cv.owM (T := [20]) (te := [21]) rfl rfl))) (Sub.cons (Has.at (HasG.cv (HasG.s rfl) (Cv.owM (T := [22]) (te := [23]) rfl rfl))) (sf (sn (sn (sn Sub.nil))))))))))))))))))))) ?_ ?_
     ·rintro s31 c32 hm
      replace hm : law04_DiskTells_L5 x10 s29 s31 = some c32 := hm
      unfold law04_DiskTells_L5 at hm
      show CWalk _ [.fact 1 (.isv 57), .fact 2 (.rep [] (s29 : Int)), .fact 3 (.rep [] (s31 : Int)), .fact 902004 (.cst (u1 4) (Fact.isv 10)), .fact 902009 (.cst (u1 9) (Fact.isv 24)), .fact 902010 (.cst (u1 10) (Fact.ow [28] [] 5 (x4.1 : List UInt8))), .fact 902014 (.cst (u1 14) (Fact.ow [30] [] 5 (x6.1 : List UInt8))), .fact 902023 (.cst (u1 23) (Fact.rep [] ((((((((Str.mk x4.1).s == (Str.mk x5.1).s) && (x4.2 == x5.2)) && ((Str.mk x6.1).s == (Str.mk x7.1).s)) && (x6.2 == x7.2)) && x11) && (x8.2 == x9.2)) : Bool))), .fact 902024 (.cst (u1 24) (Fact.rep [] (((((x12 == x13) && x14) && (x15 == x16)) && x17) : Bool))), .fact 100058 (.at 58 (.lo [42, 43] x10.Blocks)), .fact 100059 (.at 59 (.ow [44] [45] 59 (x10.Wait : List Write))), .fact 100060 (.at 60 (.rep [] x10.Dead)), .fact 100011 (.at 11 (.rep [0] a0.Blocks)), .fact 100012 (.at 12 (.rep [0] a0.Wait)), .fact 100013 (.at 13 (.rep [] a0.Dead)), .fact 100025 (.at 25 (.ow [20] [21] 28 (x3.Blocks : List (List UInt8)))), .fact 100026 (.at 26 (.ow [22] [23] 59 (x3.Wait : List Write))), .fact 100027 (.at 27 (.rep [] x3.Dead)), .fact 100057 (.obj 57 [(false, 1), (false, 1), (false, 1)]), .fact 100010 (.obj 10 [(false, 1), (false, 1), (false, 1)]), .fact 100024 (.obj 24 [(false, 1), (false, 1), (false, 1)])] _ _
      refine CWalk.seq ?_
      refine CWalk.seq ?_
      refine CWalk.region ?_
      refine mv ?_
      refine wo (Spec.fieldAddrO fd25_0 (Has.cv (Has.s rfl) (Cv.isvP rfl))) ?_
      refine wo (Spec.loadF (i := 0) ty22 rfl (Has.s rfl) rfl (HasG.s rfl)) ?_
      refine mv ?_
      obtain ⟨x33, hx33, hm⟩ := bind_some hm
      refine wo (Spec.idxLo hx33 sl22 (Has.s rfl) (Has.s rfl)) ?_
      refine wo (Spec.loadLo ty28 (Has.s rfl)) ?_
      refine wo (Spec.lenLo (Has.s rfl) Try.underlying28) ?_
      refine wo (Spec.lssI (Has.s rfl) (Has.s rfl)) ?_
      refine Walk.nil ?_
      refine Leaf.thenN ?_
      refine CWalk.cond rfl (fun hb => ?_) (fun hb => ?_)
      ·have hm := cond_t hb hm
       refine CWalk.skip ?_
       refine Leaf.thenN ?_
       refine CWalk.seq ?_
       refine CWalk.block ?_
       refine CWalk.region ?_
       refine wo (Spec.fieldAddrO fd25_0 (Has.cv (Has.s rfl) (Cv.isvP rfl))) ?_
       refine wo (Spec.loadF (i := 0) ty22 rfl (Has.s rfl) rfl (HasG.s rfl)) ?_
       refine mv ?_
       obtain ⟨x34, hx34, hm⟩ := bind_some hm
       refine wo (Spec.idxLo hx34 sl22 (Has.s rfl) (Has.s rfl)) ?_
       refine wo (Spec.loadLo ty28 (Has.s rfl)) ?_
       refine mv ?_
       obtain ⟨x35, hx35, hm⟩ := bind_some hm
       refine wo (Spec.idxLo hx35 sl28 (Has.s rfl) (Has.s rfl)) ?_
       refine wo (Spec.loadLo ty5 (Has.s rfl)) ?_
       refine wo (Spec.add8Lo (Has.s rfl) (Has.u8 1 rfl)) ?_
       obtain ⟨x36, hx36, hm⟩ := bind_some hm
       refine wo (Spec.idxLo hx36 sl28 (Has.s rfl) (Has.s rfl)) ?_
       refine ws (Step.storeL (T := [42, 43]) (LL := [.fact 100058 (.at 58 (.lo [42, 43] x10.Blocks))]) rfl ty5 (Has.s rfl) (Has.s rfl) (LooseL.loF rfl LooseL.nil)) ?_
       refine Walk.nil ?_
       refine Leaf.blockN ?_
       refine Leaf.thenN ?_
       refine CWalk.region ?_
       refine mv ?_
       refine wo (Spec.addI (Has.s rfl) Has.int) ?_
       refine wo (Spec.assign (Has.s rfl)) ?_
       refine Walk.nil ?_
       exact Leaf.next hm (sn (st (st (sc (sc (Sub.cons (Has.cst (HasC.cv (HasC.s (s := 902010) rfl) (Cv.owF (T := [28]) (te := []) rfl))) (Sub.cons (Has.cst (HasC.cv (HasC.s (s := 902014) rfl) (Cv.owF (T := [30]) (te := []) rfl))) (Sub.cons (Has.cst (HasC.cv (HasC.s (s := 902023) rfl) Cv.fl)) (Sub.cons (Has.cst (HasC.cv (HasC.s (s := 902024) rfl) Cv.fl)) (sg (Sub.cons (Has.at (HasG.cv (HasG.s rfl) (Cv.owM (T := [44]) (te := [45]) rfl rfl))) (sf (sm (sm (sf (Sub.cons (Has.at (HasG.cv (HasG.s rfl) (Cv.owM (T := [20]) (te := [21]) rfl rfl))) (Sub.cons (Has.at (HasG.cv (HasG.s rfl) (Cv.owM (T := [22]) (te := [23]) rfl rfl))) (sf (sn (sn (sn Sub.nil)))))))))))))))))))))
      ·have hm := cond_f hb hm
       refine CWalk.exit ?_
       refine Leaf.thenE ?_
       exact Leaf.brk hm (fun h => nomatch h) rfl (sn (st (sc (sc (Sub.cons (Has.cst (HasC.cv (HasC.s (s := 902010) rfl) (Cv.owF (T := [28]) (te := []) rfl))) (Sub.cons (Has.cst (HasC.cv (HasC.s (s := 902014) rfl) (Cv.owF (T := [30]) (te := []) rfl))) (Sub.cons (Has.cst (HasC.cv (HasC.s (s := 902023) rfl) Cv.fl)) (Sub.cons (Has.cst (HasC.cv (HasC.s (s := 902024) rfl) Cv.fl)) (sg (Sub.cons (Has.at (HasG.cv (HasG.s rfl) (Cv.owM (T := [44]) (te := [45]) rfl rfl))) (sf (sm (sm (sf (Sub.cons (Has.at (HasG.cv (HasG.s rfl) (Cv.owM (T := [20]) (te := [21]) rfl rfl))) (Sub.cons (Has.at (HasG.cv (HasG.s rfl) (Cv.owM (T := [22]) (te := [23]) rfl rfl))) (sf (sn (sn (sn Sub.nil))))))))))))))))))))
     ·intro _
      refine Leaf.blockE ?_
      refine Leaf.blockN ?_
      refine Leaf.thenN ?_
      refine CWalk.region ?_
      refine mv ?_
      refine wo (Spec.addI (Has.s rfl) Has.int) ?_
      refine wo (Spec.assign (Has.s rfl)) ?_
      refine Walk.nil ?_
      exact Leaf.next hm (sn (st (sc (sc (Sub.cons (Has.cst (HasC.cv (HasC.s (s := 902010) rfl) (Cv.owF (T := [28]) (te := []) rfl))) (Sub.cons (Has.cst (HasC.cv (HasC.s (s := 902014) rfl) (Cv.owF (T := [30]) (te := []) rfl))) (Sub.cons (Has.cst (HasC.cv (HasC.s (s := 902023) rfl) Cv.fl)) (Sub.cons (Has.cst (HasC.cv (HasC.s (s := 902024) rfl) Cv.fl)) (sg (Sub.cons (Has.at (HasG.cv (HasG.s rfl) (Cv.owM (T := [44]) (te := [45]) rfl rfl))) (sf (sm (sm (sf (Sub.cons (Has.at (HasG.cv (HasG.s rfl) (Cv.owM (T := [20]) (te := [21]) rfl rfl))) (Sub.cons (Has.at (HasG.cv (HasG.s rfl) (Cv.owM (T := [22]) (te := [23]) rfl rfl))) (sf (sn (sn (sn Sub.nil))))))))))))))))))))
    ·have hm := cond_f hb hm
     refine CWalk.exit ?_
     refine Leaf.thenE ?_
     exact Leaf.brk hm (fun h => nomatch h) rfl (sn (sc (sc (Sub.cons (Has.cst (HasC.cv (HasC.s (s := 902010) rfl) (Cv.owF (T := [28]) (te := []) rfl))) (Sub.cons (Has.cst (HasC.cv (HasC.s (s := 902014) rfl) (Cv.owF (T := [30]) (te := []) rfl))) (Sub.cons (Has.cst (HasC.cv (HasC.s (s := 902023) rfl) Cv.fl)) (Sub.cons (Has.cst (HasC.cv (HasC.s (s := 902024) rfl) Cv.fl)) (sg (Sub.cons (Has.at (HasG.cv (HasG.s rfl) (Cv.owM (T := [44]) (te := [45]) rfl rfl))) (sf (sm (sm (sf (Sub.cons (Has.at (HasG.cv (HasG.s rfl) (Cv.owM (T := [20]) (te := [21]) rfl rfl))) (Sub.cons (Has.at (HasG.cv (HasG.s rfl) (Cv.owM (T := [22]) (te := [23]) rfl rfl))) (sf (sn (sn (sn Sub.nil)))))))))))))))))))
   ·intro _
    refine Leaf.blockE ?_
    refine Leaf.thenN ?_
    refine CWalk.seq ?_
    refine CWalk.region ?_
    refine wo (Spec.assign Has.int) ?_
    refine Walk.nil ?_
    refine Leaf.thenN ?_
    refine CWalk.block ?_
    obtain ⟨b49, hb49, hm⟩ := bind_some hm
    refine CWalk.loop (fun s : Int => [.fact 1 (.isv 57), .fact 4 (.rep [] (s : Int)), .fact 902004 (.cst (u1 4) (Fact.isv 10)), .fact 902009 (.cst (u1 9) (Fact.isv 24)), .fact 902010 (.cst (u1 10) (Fact.ow [28] [] 5 (x4.1 : List UInt8))), .fact 902014 (.cst (u1 14) (Fact.ow [30] [] 5 (x6.1 : List UInt8))), .fact 902023 (.cst (u1 23) (Fact.rep [] ((((((((Str.mk x4.1).s == (Str.mk x5.1).s) && (x4.2 == x5.2)) && ((Str.mk x6.1).s == (Str.mk x7.1).s)) && (x6.2 == x7.2)) && x11) && (x8.2 == x9.2)) : Bool))), .fact 902024 (.cst (u1 24) (Fact.rep [] (((((x12 == x13) && x14) && (x15 == x16)) && x17) : Bool))), .fact 100058 (.at 58 (.lo [42, 43] x10.Blocks)), .fact 100059 (.at 59 (.lo [44, 45] x10.Wait)), .fact 100060 (.at 60 (.rep [] x10.Dead)), .fact 100011 (.at 11 (.rep [0] a0.Blocks)), .fact 100012 (.at 12 (.rep [0] a0.Wait)), .fact 100013 (.at 13 (.rep [] a0.Dead)), .fact 100025 (.at 25 (.ow [20] [21] 28 (x3.Blocks : List (List UInt8)))), .fact 100026 (.at 26 (.ow [22] [23] 59 (x3.Wait : List Write))), .fact 100027 (.at 27 (.rep [] x3.Dead)), .fact 100057 (.obj 57 [(false, 1), (false, 1), (false, 1)]), .fact 100010 (.obj 10 [(false, 1), (false, 1), (false, 1)]), .fact 100024 (.obj 24 [(false, 1), (false, 1), (false, 1)])]) (fun b : Unit => (Exit.exit 4, [.fact 902004 (.cst (u1 4) (Fact.isv 10)), .fact 902009 (.cst (u1 9) (Fact.isv 24)), .fact 902010 (.cst (u1 10) (Fact.ow [28] [] 5 (x4.1 : List UInt8))), .fact 902014 (.cst (u1 14) (Fact.ow [30] [] 5 (x6.1 : List UInt8))), .fact 902023 (.cst (u1 23) (Fact.rep [] ((((((((Str.mk x4.1).s == (Str.mk x5.1).s) && (x4.2 == x5.2)) && ((Str.mk x6.1).s == (Str.mk x7.1).s)) && (x6.2 == x7.2)) && x11) && (x8.2 == x9.2)) : Bool))), .fact 902024 (.cst (u1 24) (Fact.rep [] (((((x12 == x13) && x14) && (x15 == x16)) && x17) : Bool))), .fact 100011 (.at 11 (.rep [0] a0.Blocks)), .fact 100012 (.at 12 (.rep [0] a0.Wait)), .fact 100013 (.at 13 (.rep [] a0.Dead)), .fact 100025 (.at 25 (.ow [20] [21] 28 (x3.Blocks : List (List UInt8)))), .fact 100026 (.at 26 (.ow [22] [23] 59 (x3.Wait : List Write))), .fact 100027 (.at 27 (.rep [] x3.Dead)), .fact 100010 (.obj 10 [(false, 1), (false, 1), (false, 1)]), .fact 100024 (.obj 24 [(false, 1), (false, 1), (false, 1)])])) hb49 (sn (st (sc (sc (Sub.cons (Has.cst (HasC.cv (HasC.s (s := 902010) rfl) (Cv.owF (T := [28]) (te := []) rfl))) (Sub.cons (Has.cst (HasC.cv (HasC.s (s := 902014) rfl) (Cv.owF (T := [30]) (te := []) rfl))) (Sub.cons (Has.cst (HasC.cv (HasC.s (s := 902023) rfl) Cv.fl)) (Sub.cons (Has.cst (HasC.cv (HasC.s (s := 902024) rfl) Cv.fl)) (sg (Sub.cons (Has.at (HasG.cv (HasG.s rfl) (Cv.trans (Cv.trans Cv.owSl (Cv.slRep (T' := [44, 45]) rfl rfl)) (Cv.lo rfl)))) (sf (sm (sm (sf (Sub.cons (Has.at (HasG.cv (HasG.s rfl) (Cv.owM (T := [20]) (te := [21]) rfl rfl))) (Sub.cons (Has.at (HasG.cv (HasG.s rfl) (Cv.owM (T := [22]) (te := [23]) rfl rfl))) (sf (sn (sn (sn Sub.nil)))))))))))))))))))) ?_ ?_
    ·rintro s39 c40 hm
     replace hm : law04_DiskTells_L6 x10 s39 = some c40 := hm
     unfold law04_DiskTells_L6 at hm
     show CWalk _ [.fact 1 (.isv 57), .fact 4 (.rep [] (s39 : Int)), .fact 902004 (.cst (u1 4) (Fact.isv 10)), .fact 902009 (.cst (u1 9) (Fact.isv 24)), .fact 902010 (.cst (u1 10) (Fact.ow [28] [] 5 (x4.1 : List UInt8))), .fact 902014 (.cst (u1 14) (Fact.ow [30] [] 5 (x6.1 : List UInt8))), .fact 902023 (.cst (u1 23) (Fact.rep [] ((((((((Str.mk x4.1).s == (Str.mk x5.1).s) && (x4.2 == x5.2)) && ((Str.mk x6.1).s == (Str.mk x7.1).s)) && (x6.2 == x7.2)) && x11) && (x8.2 == x9.2)) : Bool))), .fact 902024 (.cst (u1 24) (Fact.rep [] (((((x12 == x13) && x14) && (x15 == x16)) && x17) : Bool))), .fact 100058 (.at 58 (.lo [42, 43] x10.Blocks)), .fact 100059 (.at 59 (.lo [44, 45] x10.Wait)), .fact 100060 (.at 60 (.rep [] x10.Dead)), .fact 100011 (.at 11 (.rep [0] a0.Blocks)), .fact 100012 (.at 12 (.rep [0] a0.Wait)), .fact 100013 (.at 13 (.rep [] a0.Dead)), .fact 100025 (.at 25 (.ow [20] [21] 28 (x3.Blocks : List (List UInt8)))), .fact 100026 (.at 26 (.ow [22] [23] 59 (x3.Wait : List Write))), .fact 100027 (.at 27 (.rep [] x3.Dead)), .fact 100057 (.obj 57 [(false, 1), (false, 1), (false, 1)]), .fact 100010 (.obj 10 [(false, 1), (false, 1), (false, 1)]), .fact 100024 (.obj 24 [(false, 1), (false, 1), (false, 1)])] _ _
     refine CWalk.seq ?_
     refine CWalk.seq ?_
     refine CWalk.region ?_
     refine mv ?_
     refine wo (Spec.fieldAddrO fd25_1 (Has.cv (Has.s rfl) (Cv.isvP rfl))) ?_
     refine wo (Spec.loadF (i := 1) ty23 rfl (Has.s rfl) rfl (HasG.s rfl)) ?_
     refine wo (Spec.lenLo (Has.s rfl) Try.underlying23) ?_
     refine wo (Spec.lssI (Has.s rfl) (Has.s rfl)) ?_
     refine Walk.nil ?_
     refine Leaf.thenN ?_
     refine CWalk.cond rfl (fun hb => ?_) (fun hb => ?_)
     ·have hm := cond_t hb hm
      refine CWalk.skip ?_
      refine Leaf.thenN ?_
      refine CWalk.seq ?_
      refine CWalk.block ?_
      refine CWalk.seq ?_
      refine CWalk.region ?_
      refine wo (Spec.fieldAddrO fd25_1 (Has.cv (Has.s rfl) (Cv.isvP rfl))) ?_
      refine wo (Spec.loadF (i := 1) ty23 rfl (Has.s rfl) rfl (HasG.s rfl)) ?_
      refine mv ?_
      obtain ⟨x41, hx41, hm⟩ := bind_some hm
      refine wo (Spec.idxLo hx41 sl23 (Has.s rfl) (Has.s rfl)) ?_
      refine wo (Spec.fieldLo fd59_0 (loWrite_0 _) (Has.s rfl)) ?_
      refine ws (Step.storeL (T := [44, 45]) (Tx := []) (LL := [.fact 100059 (.at 59 (.lo [44, 45] x10.Wait))]) rfl ty3 (Has.s rfl) (Has.cv Has.int Cv.loF) (LooseL.loF rfl LooseL.nil)) ?_
      refine Walk.nil ?_
      refine Leaf.thenN ?_
      refine CWalk.seq ?_
      refine CWalk.region ?_
      refine wo (Spec.assign Has.int) ?_
      refine Walk.nil ?_
      refine Leaf.thenN ?_
      refine CWalk.block ?_
      obtain ⟨b48, hb48, hm⟩ := bind_some hm
      refine CWalk.loop (fun s : Int => [.fact 1 (.isv 57), .fact 4 (.rep [] (s39 : Int)), .fact 5 (.rep [] (s : Int)), .fact 902004 (.cst (u1 4) (Fact.isv 10)), .fact 902009 (.cst (u1 9) (Fact.isv 24)), .fact 902010 (.cst (u1 10) (Fact.ow [28] [] 5 (x4.1 : List UInt8))), .fact 902014 (.cst (u1 14) (Fact.ow [30] [] 5 (x6.1 : List UInt8))), .fact 902023 (.cst (u1 23) (Fact.rep [] ((((((((Str.mk x4.1).s == (Str.mk x5.1).s) && (x4.2 == x5.2)) && ((Str.mk x6.1).s == (Str.mk x7.1).s)) && (x6.2 == x7.2)) && x11) && (x8.2 == x9.2)) : Bool))), .fact 902024 (.cst (u1 24) (Fact.rep [] (((((x12 == x13) && x14) && (x15 == x16)) && x17) : Bool))), .fact 100058 (.at 58 (.lo [42, 43] x10.Blocks)), .fact 100059 (.at 59 (.lo [44, 45] x10.Wait)), .fact 100060 (.at 60 (.rep [] x10.Dead)), .fact 100011 (.at 11 (.rep [0] a0.Blocks)), .fact 100012 (.at 12 (.rep [0] a0.Wait)), .fact 100013 (.at 13 (.rep [] a0.Dead)), .fact 100025 (.at 25 (.ow [20] [21] 28 (x3.Blocks : List (List UInt8)))), .fact 100026 (.at 26 (.ow [22] [23] 59 (x3.Wait : List Write))), .fact 100027 (.at 27 (.rep [] x3.Dead)), .fact 100057 (.obj 57 [(false, 1), (false, 1), (false, 1)]), .fact 100010 (.obj 10 [(false, 1), (false, 1), (false, 1)]), .fact 100024 (.obj 24 [(false, 1), (false, 1), (false, 1)])]) (fun b : Unit => (Exit.exit 6, [.fact 1 (.isv 57), .fact 4 (.rep [] (s39 : Int)), .fact 902004 (.cst (u1 4) (Fact.isv 10)), .fact 902009 (.cst (u1 9) (Fact.isv 24)), .fact 902010 (.cst (u1 10) (Fact.ow [28] [] 5 (x4.1 : List UInt8))), .fact 902014 (.cst (u1 14) (Fact.ow [30] [] 5 (x6.1 : List UInt8))), .fact 902023 (.cst (u1 23) (Fact.rep [] ((((((((Str.mk x4.1).s == (Str.mk x5.1).s) && (x4.2 == x5.2)) && ((Str.mk x6.1).s == (Str.mk x7.1).s)) && (x6.2 == x7.2)) && x11) && (x8.2 == x9.2)) : Bool))), .fact 902024 (.cst (u1 24) (Fact.rep [] (((((x12 == x13) && x14) && (x15 == x16)) && x17) : Bool))), .fact 100058 (.at 58 (.lo [42, 43] x10.Blocks)), .fact 100059 (.at 59 (.lo [44, 45] x10.Wait)), .fact 100060 (.at 60 (.rep [] x10.Dead)), .fact 100011 (.at 11 (.rep [0] a0.Blocks)), .fact 100012 (.at 12 (.rep [0] a0.Wait)), .fact 100013 (.at 13 (.rep [] a0.Dead)), .fact 100025 (.at 25 (.ow [20] [21] 28 (x3.Blocks : List (List UInt8)))), .fact 100026 (.at 26 (.ow [22] [23] 59 (x3.Wait : List Write))), .fact 100027 (.at 27 (.rep [] x3.Dead)), .fact 100057 (.obj 57 [(false, 1), (false, 1), (false, 1)]), .fact 100010 (.obj 10 [(false, 1), (false, 1), (false, 1)]), .fact 100024 (.obj 24 [(false, 1), (false, 1), (false, 1)])])) hb48 (sn (st (st (sc (sc (Sub.cons (Has.cst (HasC.cv (HasC.s (s := 902010) rfl) (Cv.owF (T := [28]) (te := []) rfl))) (Sub.cons (Has.cst (HasC.cv (HasC.s (s := 902014) rfl) (Cv.owF (T := [30]) (te := []) rfl))) (Sub.cons (Has.cst (HasC.cv (HasC.s (s := 902023) rfl) Cv.fl)) (Sub.cons (Has.cst (HasC.cv (HasC.s (s := 902024) rfl) Cv.fl)) (sg (sg (sf (sm (sm (sf (Sub.cons (Has.at (HasG.cv (HasG.s rfl) (Cv.owM (T := [20]) (te := [21]) rfl rfl))) (Sub.cons (Has.at (HasG.cv (HasG.s rfl) (Cv.owM (T := [22]) (te := [23]) rfl rfl))) (sf (sn (sn (sn Sub.nil))))))))))))))))))))) ?_ ?_
      ·rintro s42 c43 hm
       replace hm : law04_DiskTells_L7 x10 s39 s42 = some c43 := hm
       unfold law04_DiskTells_L7 at hm
       show CWalk _ [.fact 1 (.isv 57), .fact 4 (.rep [] (s39 : Int)), .fact 5 (.rep [] (s42 : Int)), .fact 902004 (.cst (u1 4) (Fact.isv 10)), .fact 902009 (.cst (u1 9) (Fact.isv 24)), .fact 902010 (.cst (u1 10) (Fact.ow [28] [] 5 (x4.1 : List UInt8))), .fact 902014 (.cst (u1 14) (Fact.ow [30] [] 5 (x6.1 : List UInt8))), .fact 902023 (.cst (u1 23) (Fact.rep [] ((((((((Str.mk x4.1).s == (Str.mk x5.1).s) && (x4.2 == x5.2)) && ((Str.mk x6.1).s == (Str.mk x7.1).s)) && (x6.2 == x7.2)) && x11) && (x8.2 == x9.2)) : Bool))), .fact 902024 (.cst (u1 24) (Fact.rep [] (((((x12 == x13) && x14) && (x15 == x16)) && x17) : Bool))), .fact 100058 (.at 58 (.lo [42, 43] x10.Blocks)), .fact 100059 (.at 59 (.lo [44, 45] x10.Wait)), .fact 100060 (.at 60 (.rep [] x10.Dead)), .fact 100011 (.at 11 (.rep [0] a0.Blocks)), .fact 100012 (.at 12 (.rep [0] a0.Wait)), .fact 100013 (.at 13 (.rep [] a0.Dead)), .fact 100025 (.at 25 (.ow [20] [21] 28 (x3.Blocks : List (List UInt8)))), .fact 100026 (.at 26 (.ow [22] [23] 59 (x3.Wait : List Write))), .fact 100027 (.at 27 (.rep [] x3.Dead)), .fact 100057 (.obj 57 [(false, 1), (false, 1), (false, 1)]), .fact 100010 (.obj 10 [(false, 1), (false, 1), (false, 1)]), .fact 100024 (.obj 24 [(false, 1), (false, 1), (false, 1)])] _ _
       refine CWalk.seq ?_
       refine CWalk.seq ?_
       refine CWalk.region ?_
       refine mv ?_
       refine wo (Spec.fieldAddrO fd25_1 (Has.cv (Has.s rfl) (Cv.isvP rfl))) ?_
       refine wo (Spec.loadF (i := 1) ty23 rfl (Has.s rfl) rfl (HasG.s rfl)) ?_
       refine mv ?_
       obtain ⟨x44, hx44, hm⟩ := bind_some hm
       refine wo (Spec.idxLo hx44 sl23 (Has.s rfl) (Has.s rfl)) ?_
       refine wo (Spec.fieldLo fd59_1 (loWrite_1 _) (Has.s rfl)) ?_
       refine wo (Spec.loadLo ty28 (Has.s rfl)) ?_
       refine wo (Spec.lenLo (Has.s rfl) Try.underlying28) ?_
       refine wo (Spec.lssI (Has.s rfl) (Has.s rfl)) ?_
       refine Walk.nil ?_
       refine Leaf.thenN ?_
       refine CWalk.cond rfl (fun hb => ?_) (fun hb => ?_)
       ·have hm := cond_t hb hm
        refine CWalk.skip ?_
        refine Leaf.thenN ?_
        refine CWalk.seq ?_
        refine CWalk.block ?_
        refine CWalk.region ?_
        refine wo (Spec.fieldAddrO fd25_1 (Has.cv (Has.s rfl) (Cv.isvP rfl))) ?_
        refine wo (Spec.loadF (i := 1) ty23 rfl (Has.s rfl) rfl (HasG.s rfl)) ?_
        refine mv ?_
        obtain ⟨x45, hx45, hm⟩ := bind_some hm
        refine wo (Spec.idxLo hx45 sl23 (Has.s rfl) (Has.s rfl)) ?_
        refine wo (Spec.fieldLo fd59_1 (loWrite_1 _) (Has.s rfl)) ?_
        refine wo (Spec.loadLo ty28 (Has.s rfl)) ?_
        refine mv ?_
        obtain ⟨x46, hx46, hm⟩ := bind_some hm
        refine wo (Spec.idxLo hx46 sl28 (Has.s rfl) (Has.s rfl)) ?_
        refine wo (Spec.loadLo ty5 (Has.s rfl)) ?_
        refine wo (Spec.add8Lo (Has.s rfl) (Has.u8 1 rfl)) ?_
        obtain ⟨x47, hx47, hm⟩ := bind_some hm
        refine wo (Spec.idxLo hx47 sl28 (Has.s rfl) (Has.s rfl)) ?_
        refine ws (Step.storeL (T := [44, 45]) (LL := [.fact 100059 (.at 59 (.lo [44, 45] x10.Wait))]) rfl ty5 (Has.s rfl) (Has.s rfl) (LooseL.loF rfl LooseL.nil)) ?_
        refine Walk.nil ?_
        refine Leaf.blockN ?_
        refine Leaf.thenN ?_
        refine CWalk.region ?_
        refine mv ?_
        refine wo (Spec.addI (Has.s rfl) Has.int) ?_
        refine wo (Spec.assign (Has.s rfl)) ?_
        refine Walk.nil ?_
        exact Leaf.next hm (sn (st (st (sc (sc (Sub.cons (Has.cst (HasC.cv (HasC.s (s := 902010) rfl) (Cv.owF (T := [28]) (te := []) rfl))) (Sub.cons (Has.cst (HasC.cv (HasC.s (s := 902014) rfl) (Cv.owF (T := [30]) (te := []) rfl))) (Sub.cons (Has.cst (HasC.cv (HasC.s (s := 902023) rfl) Cv.fl)) (Sub.cons (Has.cst (HasC.cv (HasC.s (s := 902024) rfl) Cv.fl)) (sg (sg (sf (sm (sm (sf (Sub.cons (Has.at (HasG.cv (HasG.s rfl) (Cv.owM (T := [20]) (te := [21]) rfl rfl))) (Sub.cons (Has.at (HasG.cv (HasG.s rfl) (Cv.owM (T := [22]) (te := [23]) rfl rfl))) (sf (sn (sn (sn Sub.nil)))))))))))))))))))))
       ·have hm := cond_f hb hm
        refine CWalk.exit ?_
        refine Leaf.thenE ?_
        exact Leaf.brk hm (fun h => nomatch h) rfl (sn (st (sc (sc (Sub.cons (Has.cst (HasC.cv (HasC.s (s := 902010) rfl) (Cv.owF (T := [28]) (te := []) rfl))) (Sub.cons (Has.cst (HasC.cv (HasC.s (s := 902014) rfl) (Cv.owF (T := [30]) (te := []) rfl))) (Sub.cons (Has.cst (HasC.cv (HasC.s (s := 902023) rfl) Cv.fl)) (Sub.cons (Has.cst (HasC.cv (HasC.s (s := 902024) rfl) Cv.fl)) (sg (sg (sf (sm (sm (sf (Sub.cons (Has.at (HasG.cv (HasG.s rfl) (Cv.owM (T := [20]) (te := [21]) rfl rfl))) (Sub.cons (Has.at (HasG.cv (HasG.s rfl) (Cv.owM (T := [22]) (te := [23]) rfl rfl))) (sf (sn (sn (sn Sub.nil))))))))))))))))))))
      ·intro _
       refine Leaf.blockE ?_
       refine Leaf.blockN ?_
       refine Leaf.thenN ?_
       refine CWalk.region ?_
       refine mv ?_
       refine wo (Spec.addI (Has.s rfl) Has.int) ?_
       refine wo (Spec.assign (Has.s rfl)) ?_
       refine Walk.nil ?_
       exact Leaf.next hm (sn (st (sc (sc (Sub.cons (Has.cst (HasC.cv (HasC.s (s := 902010) rfl) (Cv.owF (T := [28]) (te := []) rfl))) (Sub.cons (Has.cst (HasC.cv (HasC.s (s := 902014) rfl) (Cv.owF (T := [30]) (te := []) rfl))) (Sub.cons (Has.cst (HasC.cv (HasC.s (s := 902023) rfl) Cv.fl)) (Sub.cons (Has.cst (HasC.cv (HasC.s (s := 902024) rfl) Cv.fl)) (sg (sg (sf (sm (sm (sf (Sub.cons (Has.at (HasG.cv (HasG.s rfl) (Cv.owM (T := [20]) (te := [21]) rfl rfl))) (Sub.cons (Has.at (HasG.cv (HasG.s rfl) (Cv.owM (T := [22]) (te := [23]) rfl rfl))) (sf (sn (sn (sn Sub.nil))))))))))))))))))))
     ·have hm := cond_f hb hm
      refine CWalk.exit ?_
      refine Leaf.thenE ?_
      exact Leaf.brk hm (fun h => nomatch h) rfl (sc (sc (Sub.cons (Has.cst (HasC.cv (HasC.s (s := 902010) rfl) (Cv.owF (T := [28]) (te := []) rfl))) (Sub.cons (Has.cst (HasC.cv (HasC.s (s := 902014) rfl) (Cv.owF (T := [30]) (te := []) rfl))) (Sub.cons (Has.cst (HasC.cv (HasC.s (s := 902023) rfl) Cv.fl)) (Sub.cons (Has.cst (HasC.cv (HasC.s (s := 902024) rfl) Cv.fl)) (sm (sm (sf (Sub.cons (Has.at (HasG.cv (HasG.s rfl) (Cv.owM (T := [20]) (te := [21]) rfl rfl))) (Sub.cons (Has.at (HasG.cv (HasG.s rfl) (Cv.owM (T := [22]) (te := [23]) rfl rfl))) (sf (sn (sn Sub.nil))))))))))))))
    ·intro _
     refine Leaf.blockE ?_
     exact Leaf.inN (Leaf.in0 (f0 := Fact.top) () hm rfl rfl (fun _ _ => trivial) (ls 902004 (ls 902009 (Low.slot rfl (HasC.cv (HasC.s (s := 902010) rfl) (Cv.owF (T := [28]) (te := []) rfl)) (Low.slot rfl (HasC.cv (HasC.s (s := 902014) rfl) (Cv.owF (T := [30]) (te := []) rfl)) (Low.slot rfl (HasC.cv (HasC.s (s := 902023) rfl) Cv.fl) (Low.slot rfl (HasC.cv (HasC.s (s := 902024) rfl) Cv.fl) (Low.res (lm (lm (lf (Low.keepG (HasG.cv (HasG.s rfl) (Cv.owM (T := [20]) (te := [21]) rfl rfl)) (Low.keepG (HasG.cv (HasG.s rfl) (Cv.owM (T := [22]) (te := [23]) rfl rfl)) (lf (lo (lo Low.nil))))))))))))))))
  ·rintro _ hm
   replace hm : law04_DiskTells_J1 a0 x3 x4 x5 x6 x7 x8 x9 x11 x12 x13 x14 x15 x16 x17 = some r := hm
   unfold law04_DiskTells_J1 at hm
   show Walk _ _ _ [.fact 4 (.isv 10), .fact 9 (.isv 24), .fact 10 (.ow [28] [] 5 (x4.1 : List UInt8)), .fact 14 (.ow [30] [] 5 (x6.1 : List UInt8)), .fact 23 (.rep [] ((((((((Str.mk x4.1).s == (Str.mk x5.1).s) && (x4.2 == x5.2)) && ((Str.mk x6.1).s == (Str.mk x7.1).s)) && (x6.2 == x7.2)) && x11) && (x8.2 == x9.2)) : Bool)), .fact 24 (.rep [] (((((x12 == x13) && x14) && (x15 == x16)) && x17) : Bool)), .fact 128 (.top), .fact 100011 (.at 11 (.rep [0] a0.Blocks)), .fact 100012 (.at 12 (.rep [0] a0.Wait)), .fact 100013 (.at 13 (.rep [] a0.Dead)), .fact 100025 (.at 25 (.ow [20] [21] 28 (x3.Blocks : List (List UInt8)))), .fact 100026 (.at 26 (.ow [22] [23] 59 (x3.Wait : List Write))), .fact 100027 (.at 27 (.rep [] x3.Dead)), .fact 100010 (.obj 10 [(false, 1), (false, 1), (false, 1)]), .fact 100024 (.obj 24 [(false, 1), (false, 1), (false, 1)])] _
   refine Walk.nil ?_
   refine Leaf.thenN ?_
   refine CWalk.seq ?_
   refine CWalk.seq ?_
   refine CWalk.region ?_
   refine wo (Spec.assign Has.int) ?_
   refine Walk.nil ?_
   refine Leaf.thenN ?_
   refine CWalk.block ?_
   obtain ⟨b22, hb22, hm⟩ := bind_some hm
   refine CWalk.loop (fun s : Int => [.fact 4 (.isv 10), .fact 9 (.isv 24), .fact 10 (.lo [28] x4.1), .fact 14 (.ow [30] [] 5 (x6.1 : List UInt8)), .fact 23 (.rep [] ((((((((Str.mk x4.1).s == (Str.mk x5.1).s) && (x4.2 == x5.2)) && ((Str.mk x6.1).s == (Str.mk x7.1).s)) && (x6.2 == x7.2)) && x11) && (x8.2 == x9.2)) : Bool)), .fact 24 (.rep [] (((((x12 == x13) && x14) && (x15 == x16)) && x17) : Bool)), .fact 25 (.rep [] (s : Int)), .fact 100011 (.at 11 (.rep [0] a0.Blocks)), .fact 100012 (.at 12 (.rep [0] a0.Wait)), .fact 100013 (.at 13 (.rep [] a0.Dead)), .fact 100025 (.at 25 (.ow [20] [21] 28 (x3.Blocks : List (List UInt8)))), .fact 100026 (.at 26 (.ow [22] [23] 59 (x3.Wait : List Write))), .fact 100027 (.at 27 (.rep [] x3.Dead)), .fact 100010 (.obj 10 [(false, 1), (false, 1), (false, 1)]), .fact 100024 (.obj 24 [(false, 1), (false, 1), (false, 1)])]) (fun b : Unit => (Exit.exit 0, [.fact 4 (.isv 10), .fact 9 (.isv 24), .fact 14 (.ow [30] [] 5 (x6.1 : List UInt8)), .fact 23 (.rep [] ((((((((Str.mk x4.1).s == (Str.mk x5.1).s) && (x4.2 == x5.2)) && ((Str.mk x6.1).s == (Str.mk x7.1).s)) && (x6.2 == x7.2)) && x11) && (x8.2 == x9.2)) : Bool)), .fact 24 (.rep [] (((((x12 == x13) && x14) && (x15 == x16)) && x17) : Bool)), .fact 100011 (.at 11 (.rep [0] a0.Blocks)), .fact 100012 (.at 12 (.rep [0] a0.Wait)), .fact 100013 (.at 13 (.rep [] a0.Dead)), .fact 100025 (.at 25 (.ow [20] [21] 28 (x3.Blocks : List (List UInt8)))), .fact 100026 (.at 26 (.ow [22] [23] 59 (x3.Wait : List Write))), .fact 100027 (.at 27 (.rep [] x3.Dead)), .fact 100010 (.obj 10 [(false, 1), (false, 1), (false, 1)]), .fact 100024 (.obj 24 [(false, 1), (false, 1), (false, 1)])])) hb22 (sn (sn (Sub.cons (Has.cv (Has.s rfl) (Cv.trans (Cv.trans Cv.owSl (Cv.slRep (T' := [28]) rfl rfl)) (Cv.lo rfl))) (Sub.cons (Has.cv (Has.s rfl) (Cv.owF (T := [30]) (te := []) rfl)) (st (st (st (sm (sm (sf (Sub.cons (Has.at (HasG.cv (HasG.s rfl) (Cv.owM (T := [20]) (te := [21]) rfl rfl))) (Sub.cons (Has.at (HasG.cv (HasG.s rfl) (Cv.owM (T := [22]) (te := [23]) rfl rfl))) (sf (sn (sn Sub.nil))))))))))))))) ?_ ?_
   ·rintro s18 c19 hm
    replace hm : law04_DiskTells_L2 x4 s18 = some c19 := hm
    unfold law04_DiskTells_L2 at hm
    show CWalk _ [.fact 4 (.isv 10), .fact 9 (.isv 24), .fact 10 (.lo [28] x4.1), .fact 14 (.ow [30] [] 5 (x6.1 : List UInt8)), .fact 23 (.rep [] ((((((((Str.mk x4.1).s == (Str.mk x5.1).s) && (x4.2 == x5.2)) && ((Str.mk x6.1).s == (Str.mk x7.1).s)) && (x6.2 == x7.2)) && x11) && (x8.2 == x9.2)) : Bool)), .fact 24 (.rep [] (((((x12 == x13) && x14) && (x15 == x16)) && x17) : Bool)), .fact 25 (.rep [] (s18 : Int)), .fact 100011 (.at 11 (.rep [0] a0.Blocks)), .fact 100012 (.at 12 (.rep [0] a0.Wait)), .fact 100013 (.at 13 (.rep [] a0.Dead)), .fact 100025 (.at 25 (.ow [20] [21] 28 (x3.Blocks : List (List UInt8)))), .fact 100026 (.at 26 (.ow [22] [23] 59 (x3.Wait : List Write))), .fact 100027 (.at 27 (.rep [] x3.Dead)), .fact 100010 (.obj 10 [(false, 1), (false, 1), (false, 1)]), .fact 100024 (.obj 24 [(false, 1), (false, 1), (false, 1)])] _ _
    refine CWalk.seq ?_
    refine CWalk.seq ?_
    refine CWalk.region ?_
    refine mv ?_
    refine mv ?_
    refine wo (Spec.lenLo (Has.s rfl) Try.underlying28) ?_
    refine wo (Spec.lssI (Has.s rfl) (Has.s rfl)) ?_
    refine Walk.nil ?_
    refine Leaf.thenN ?_
    refine CWalk.cond rfl (fun hb => ?_) (fun hb => ?_)
    ·have hm := cond_t hb hm
     refine CWalk.skip ?_
     refine Leaf.thenN ?_
     refine CWalk.seq ?_
     refine CWalk.block ?_
     refine CWalk.region ?_
     refine mv ?_
     refine mv ?_
     obtain ⟨x20, hx20, hm⟩ := bind_some hm
     refine wo (Spec.idxLo hx20 sl28 (Has.s rfl) (Has.s rfl)) ?_
     refine wo (Spec.loadLo ty5 (Has.s rfl)) ?_
     refine wo (Spec.add8Lo (Has.s rfl) (Has.u8 1 rfl)) ?_
     obtain ⟨x21, hx21, hm⟩ := bind_some hm
     refine wo (Spec.idxLo hx21 sl28 (Has.s rfl) (Has.s rfl)) ?_
     refine ws (Step.storeL (T := [28]) (LL := [.fact 10 (.lo [28] x4.1)]) rfl ty5 (Has.s rfl) (Has.s rfl) (LooseL.lo rfl LooseL.nil)) ?_
     refine Walk.nil ?_
     refine Leaf.blockN ?_
     refine Leaf.thenN ?_
     refine CWalk.region ?_
     refine mv ?_
     refine wo (Spec.addI (Has.s rfl) Has.int) ?_
     refine wo (Spec.assign (Has.s rfl)) ?_
     refine Walk.nil ?_
     exact Leaf.next hm (sn (sn (sn (Sub.cons (Has.cv (Has.s rfl) (Cv.owF (T := [30]) (te := []) rfl)) (st (st (st (sm (sm (sf (Sub.cons (Has.at (HasG.cv (HasG.s rfl) (Cv.owM (T := [20]) (te := [21]) rfl rfl))) (Sub.cons (Has.at (HasG.cv (HasG.s rfl) (Cv.owM (T := [22]) (te := [23]) rfl rfl))) (sf (sn (sn Sub.nil)))))))))))))))
    ·have hm := cond_f hb hm
     refine CWalk.exit ?_
     refine Leaf.thenE ?_
     exact Leaf.brk hm (fun h => nomatch h) rfl (sn (sn (Sub.cons (Has.cv (Has.s rfl) (Cv.owF (T := [30]) (te := []) rfl)) (st (st (sm (sm (sf (Sub.cons (Has.at (HasG.cv (HasG.s rfl) (Cv.owM (T := [20]) (te := [21]) rfl rfl))) (Sub.cons (Has.at (HasG.cv (HasG.s rfl) (Cv.owM (T := [22]) (te := [23]) rfl rfl))) (sf (sn (sn Sub.nil)))))))))))))
   ·intro _
    refine Leaf.blockE ?_
    refine Leaf.thenN ?_
    refine CWalk.seq ?_
    refine CWalk.seq ?_
    refine CWalk.region ?_
    refine wo (Spec.assign Has.int) ?_
    refine Walk.nil ?_
    refine Leaf.thenN ?_
    refine CWalk.block ?_
    obtain ⟨b27, hb27, hm⟩ := bind_some hm
    refine CWalk.loop (fun s : Int => [.fact 4 (.isv 10), .fact 9 (.isv 24), .fact 14 (.lo [30] x6.1), .fact 23 (.rep [] ((((((((Str.mk x4.1).s == (Str.mk x5.1).s) && (x4.2 == x5.2)) && ((Str.mk x6.1).s == (Str.mk x7.1).s)) && (x6.2 == x7.2)) && x11) && (x8.2 == x9.2)) : Bool)), .fact 24 (.rep [] (((((x12 == x13) && x14) && (x15 == x16)) && x17) : Bool)), .fact 26 (.rep [] (s : Int)), .fact 100011 (.at 11 (.rep [0] a0.Blocks)), .fact 100012 (.at 12 (.rep [0] a0.Wait)), .fact 100013 (.at 13 (.rep [] a0.Dead)), .fact 100025 (.at 25 (.ow [20] [21] 28 (x3.Blocks : List (List UInt8)))), .fact 100026 (.at 26 (.ow [22] [23] 59 (x3.Wait : List Write))), .fact 100027 (.at 27 (.rep [] x3.Dead)), .fact 100010 (.obj 10 [(false, 1), (false, 1), (false, 1)]), .fact 100024 (.obj 24 [(false, 1), (false, 1), (false, 1)])]) (fun b : Unit => (Exit.exit 2, [.fact 4 (.isv 10), .fact 9 (.isv 24), .fact 23 (.rep [] ((((((((Str.mk x4.1).s == (Str.mk x5.1).s) && (x4.2 == x5.2)) && ((Str.mk x6.1).s == (Str.mk x7.1).s)) && (x6.2 == x7.2)) && x11) && (x8.2 == x9.2)) : Bool)), .fact 24 (.rep [] (((((x12 == x13) && x14) && (x15 == x16)) && x17) : Bool)), .fact 100011 (.at 11 (.rep [0] a0.Blocks)), .fact 100012 (.at 12 (.rep [0] a0.Wait)), .fact 100013 (.at 13 (.rep [] a0.Dead)), .fact 100025 (.at 25 (.ow [20] [21] 28 (x3.Blocks : List (List UInt8)))), .fact 100026 (.at 26 (.ow [22] [23] 59 (x3.Wait : List Write))), .fact 100027 (.at 27 (.rep [] x3.Dead)), .fact 100010 (.obj 10 [(false, 1), (false, 1), (false, 1)]), .fact 100024 (.obj 24 [(false, 1), (false, 1), (false, 1)])])) hb27 (sn (sn (Sub.cons (Has.cv (Has.s rfl) (Cv.trans (Cv.trans Cv.owSl (Cv.slRep (T' := [30]) rfl rfl)) (Cv.lo rfl))) (st (st (st (sm (sm (sf (Sub.cons (Has.at (HasG.cv (HasG.s rfl) (Cv.owM (T := [20]) (te := [21]) rfl rfl))) (Sub.cons (Has.at (HasG.cv (HasG.s rfl) (Cv.owM (T := [22]) (te := [23]) rfl rfl))) (sf (sn (sn Sub.nil)))))))))))))) ?_ ?_
    ·rintro s23 c24 hm
     replace hm : law04_DiskTells_L3 x6 s23 = some c24 := hm
     unfold law04_DiskTells_L3 at hm
     show CWalk _ [.fact 4 (.isv 10), .fact 9 (.isv 24), .fact 14 (.lo [30] x6.1), .fact 23 (.rep [] ((((((((Str.mk x4.1).s == (Str.mk x5.1).s) && (x4.2 == x5.2)) && ((Str.mk x6.1).s == (Str.mk x7.1).s)) && (x6.2 == x7.2)) && x11) && (x8.2 == x9.2)) : Bool)), .fact 24 (.rep [] (((((x12 == x13) && x14) && (x15 == x16)) && x17) : Bool)), .fact 26 (.rep [] (s23 : Int)), .fact 100011 (.at 11 (.rep [0] a0.Blocks)), .fact 100012 (.at 12 (.rep [0] a0.Wait)), .fact 100013 (.at 13 (.rep [] a0.Dead)), .fact 100025 (.at 25 (.ow [20] [21] 28 (x3.Blocks : List (List UInt8)))), .fact 100026 (.at 26 (.ow [22] [23] 59 (x3.Wait : List Write))), .fact 100027 (.at 27 (.rep [] x3.Dead)), .fact 100010 (.obj 10 [(false, 1), (false, 1), (false, 1)]), .fact 100024 (.obj 24 [(false, 1), (false, 1), (false, 1)])] _ _
     refine CWalk.seq ?_
     refine CWalk.seq ?_
     refine CWalk.region ?_
     refine mv ?_
     refine mv ?_
     refine wo (Spec.lenLo (Has.s rfl) Try.underlying28) ?_
     refine wo (Spec.lssI (Has.s rfl) (Has.s rfl)) ?_
     refine Walk.nil ?_
     refine Leaf.thenN ?_
     refine CWalk.cond rfl (fun hb => ?_) (fun hb => ?_)
     ·have hm := cond_t hb hm
      refine CWalk.skip ?_
      refine Leaf.thenN ?_
      refine CWalk.seq ?_
      refine CWalk.block ?_
      refine CWalk.region ?_
      refine mv ?_
      refine mv ?_
      obtain ⟨x25, hx25, hm⟩ := bind_some hm
      refine wo (Spec.idxLo hx25 sl28 (Has.s rfl) (Has.s rfl)) ?_
      refine wo (Spec.loadLo ty5 (Has.s rfl)) ?_
      refine wo (Spec.add8Lo (Has.s rfl) (Has.u8 1 rfl)) ?_
      obtain ⟨x26, hx26, hm⟩ := bind_some hm
      refine wo (Spec.idxLo hx26 sl28 (Has.s rfl) (Has.s rfl)) ?_
      refine ws (Step.storeL (T := [30]) (LL := [.fact 14 (.lo [30] x6.1)]) rfl ty5 (Has.s rfl) (Has.s rfl) (LooseL.lo rfl LooseL.nil)) ?_
      refine Walk.nil ?_
      refine Leaf.blockN ?_
      refine Leaf.thenN ?_
      refine CWalk.region ?_
      refine mv ?_
      refine wo (Spec.addI (Has.s rfl) Has.int) ?_
      refine wo (Spec.assign (Has.s rfl)) ?_
      refine Walk.nil ?_
      exact Leaf.next hm (sn (sn (sn (st (st (st (sm (sm (sf (Sub.cons (Has.at (HasG.cv (HasG.s rfl) (Cv.owM (T := [20]) (te := [21]) rfl rfl))) (Sub.cons (Has.at (HasG.cv (HasG.s rfl) (Cv.owM (T := [22]) (te := [23]) rfl rfl))) (sf (sn (sn Sub.nil))))))))))))))
     ·have hm := cond_f hb hm
      refine CWalk.exit ?_
      refine Leaf.thenE ?_
      exact Leaf.brk hm (fun h => nomatch h) rfl (sn (sn (st (st (sm (sm (sf (Sub.cons (Has.at (HasG.cv (HasG.s rfl) (Cv.owM (T := [20]) (te := [21]) rfl rfl))) (Sub.cons (Has.at (HasG.cv (HasG.s rfl) (Cv.owM (T := [22]) (te := [23]) rfl rfl))) (sf (sn (sn Sub.nil))))))))))))
    ·intro _
     refine Leaf.blockE ?_
     refine Leaf.thenN ?_
     refine CWalk.seq ?_
     refine CWalk.region ?_
     refine mv ?_
     refine mv ?_
     refine wg rfl rfl (fun hb => Spec.move (Has.s rfl)) ?_
     refine wo (Spec.and (Has.s rfl) (fun h => Has.u rfl h)) ?_
     refine mv ?_
     refine wg rfl rfl (fun hb => Spec.loadObj (ls := [(false, 1, Fact.ow [20] [21] 28 (x3.Blocks : List (List UInt8))), (false, 1, Fact.ow [22] [23] 59 (x3.Wait : List Write)), (false, 1, Fact.rep [] x3.Dead)]) ty25 rfl rfl (Has.s rfl) rfl (HasGs.cons (HasG.s rfl) (HasGs.cons (HasG.s rfl) (HasGs.cons (HasG.s rfl) HasGs.nil)))) ?_
     refine wg rfl rfl (fun hb => Spec.loadObj (ls := [(false, 1, Fact.rep [0] a0.Blocks), (false, 1, Fact.rep [0] a0.Wait), (false, 1, Fact.rep [] a0.Dead)]) ty25 rfl rfl (Has.s rfl) rfl (HasGs.cons (HasG.s rfl) (HasGs.cons (HasG.s rfl) (HasGs.cons (HasG.s rfl) HasGs.nil)))) ?_
     obtain ⟨x28, hx28, hm⟩ := bind_some hm
     refine wg (f := Fact.rep [] (x28 : Bool)) rfl rfl (fun hb => Spec.callE [0, 20, 21, 22, 23] 61 rfl en18 (ref04_Same_c x3 a0 (gO_t hx28 hb)) (HasAll.cons (Has.m (Has.cv (Has.u rfl hb) (Cv.trans (Cv.flds (CvL.cons (Cv.trans (Cv.trans Cv.owSl (Cv.slRep (T' := [20, 21]) rfl rfl)) (Cv.m rfl)) (CvL.cons (Cv.trans (Cv.trans Cv.owSl (Cv.slRep (T' := [22, 23]) rfl rfl)) (Cv.m rfl)) (CvL.cons Cv.fl CvL.nil)))) (Cv.close (T := [20, 21, 22, 23]) (chDisk x3)))) rfl) (HasAll.cons (Has.m (Has.cv (Has.u rfl hb) (Cv.trans (Cv.flds (CvL.cons (Cv.m rfl) (CvL.cons (Cv.m rfl) (CvL.cons Cv.fl CvL.nil)))) (Cv.close (T := [0]) (chDisk a0)))) rfl) HasAll.nil))) ?_
     refine wo (Spec.and (Has.s rfl) (fun h => Has.u rfl h)) ?_
     refine wo (Spec.assign (Has.s rfl)) ?_
     refine Walk.nil ?_
     refine Leaf.thenN ?_
     refine CWalk.ret ?_
     obtain rfl := Option.some.inj hm
     exact Leaf.retC1 rfl (HasR.cv (HasR.tmp (Has.s rfl)) Cv.fl)

end Go.Proofs.Ytdkmkalddgplmaa
