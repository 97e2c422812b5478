/- Printed by a program of ours: models of functions, and that calls do what they say. -/
import Derived.Test.YtdkmkalddgplmaaGdu1
namespace Go.Proofs.Ytdkmkalddgplmaa
open Go GL
set_option linter.unusedVariables false

def law04_DiskTurns_J4 (a0 : Disk) (a2 : List UInt8) (x2 : Disk) (x3 : Disk × Int) (x4 : Disk × Int) (x5 : Disk × Int) (x6 : Disk × Int) (x7 : Disk × Int) (x8 : Disk × Int) (x9 : Disk × Int) (x10 : Disk × Int) (x11 : Bool) (x12 : Bool) (x13 : Bool) (x14 : Bool) : Option (Bool) :=
  Option.bind (gO ((((((((x11 && (x3.2 == x4.2)) && x12) && (x5.2 == x6.2)) && x13) && (x7.2 == x8.2)) && x14) && (x9.2 == x10.2))) (ref04_Same x2 a0)) (fun x15 => some (((((((((x11 && (x3.2 == x4.2)) && x12) && (x5.2 == x6.2)) && x13) && (x7.2 == x8.2)) && x14) && (x9.2 == x10.2)) && x15) && ((Str.mk a2).s == (Str.mk a2).s)))
def law04_DiskTurns_L6 (x9 : Disk × Int) (s16 : Int) (s18 : Int) : Option (Ctl (Int) (Unit)) :=
  Option.bind (idx x9.1.Blocks s16) (fun x20 => (bif (decide (s18 < ((x20).length : Int))) then Option.bind (idx x9.1.Blocks s16) (fun x21 => Option.bind (idx x21 s18) (fun x22 => Option.bind (idx x21 s18) (fun x23 => some (Ctl.next (wI (s18 + (1 : Int))))))) else some (Ctl.brk ())))
def law04_DiskTurns_L5 (x9 : Disk × Int) (s16 : Int) : Option (Ctl (Int) (Unit)) :=
  (bif (decide (s16 < ((x9.1.Blocks).length : Int))) then Option.bind (loopM (fun s : Int => law04_DiskTurns_L6 x9 s16 s) FUEL (0 : Int)) (fun b24 => some (Ctl.next (wI (s16 + (1 : Int))))) else some (Ctl.brk ()))
def law04_DiskTurns_L8 (x9 : Disk × Int) (s26 : Int) (s29 : Int) : Option (Ctl (Int) (Unit)) :=
  Option.bind (idx x9.1.Wait s26) (fun x31 => (bif (decide (s29 < ((x31.Data).length : Int))) then Option.bind (idx x9.1.Wait s26) (fun x32 => Option.bind (idx x32.Data s29) (fun x33 => Option.bind (idx x32.Data s29) (fun x34 => some (Ctl.next (wI (s29 + (1 : Int))))))) else some (Ctl.brk ())))
def law04_DiskTurns_L7 (x9 : Disk × Int) (s26 : Int) : Option (Ctl (Int) (Unit)) :=
  (bif (decide (s26 < ((x9.1.Wait).length : Int))) then Option.bind (idx x9.1.Wait s26) (fun x28 => Option.bind (loopM (fun s : Int => law04_DiskTurns_L8 x9 s26 s) FUEL (0 : Int)) (fun b35 => some (Ctl.next (wI (s26 + (1 : Int)))))) else some (Ctl.brk ()))
def law04_DiskTurns_J3 (a0 : Disk) (a2 : List UInt8) (x2 : Disk) (x3 : Disk × Int) (x4 : Disk × Int) (x5 : Disk × Int) (x6 : Disk × Int) (x7 : Disk × Int) (x8 : Disk × Int) (x9 : Disk × Int) (x10 : Disk × Int) (x11 : Bool) (x12 : Bool) (x13 : Bool) (x14 : Bool) : Option (Bool) :=
  Option.bind (loopM (fun s : Int => law04_DiskTurns_L5 x9 s) FUEL (0 : Int)) (fun b25 => Option.bind (loopM (fun s : Int => law04_DiskTurns_L7 x9 s) FUEL (0 : Int)) (fun b36 => (law04_DiskTurns_J4 a0 a2 x2 x3 x4 x5 x6 x7 x8 x9 x10 x11 x12 x13 x14)))
def law04_DiskTurns_L10 (x7 : Disk × Int) (s37 : Int) (s39 : Int) : Option (Ctl (Int) (Unit)) :=
  Option.bind (idx x7.1.Blocks s37) (fun x41 => (bif (decide (s39 < ((x41).length : Int))) then Option.bind (idx x7.1.Blocks s37) (fun x42 => Option.bind (idx x42 s39) (fun x43 => Option.bind (idx x42 s39) (fun x44 => some (Ctl.next (wI (s39 + (1 : Int))))))) else some (Ctl.brk ())))
def law04_DiskTurns_L9 (x7 : Disk × Int) (s37 : Int) : Option (Ctl (Int) (Unit)) :=
  (bif (decide (s37 < ((x7.1.Blocks).length : Int))) then Option.bind (loopM (fun s : Int => law04_DiskTurns_L10 x7 s37 s) FUEL (0 : Int)) (fun b45 => some (Ctl.next (wI (s37 + (1 : Int))))) else some (Ctl.brk ()))
def law04_DiskTurns_L12 (x7 : Disk × Int) (s47 : Int) (s50 : Int) : Option (Ctl (Int) (Unit)) :=
  Option.bind (idx x7.1.Wait s47) (fun x52 => (bif (decide (s50 < ((x52.Data).length : Int))) then Option.bind (idx x7.1.Wait s47) (fun x53 => Option.bind (idx x53.Data s50) (fun x54 => Option.bind (idx x53.Data s50) (fun x55 => some (Ctl.next (wI (s50 + (1 : Int))))))) else some (Ctl.brk ())))
def law04_DiskTurns_L11 (x7 : Disk × Int) (s47 : Int) : Option (Ctl (Int) (Unit)) :=
  (bif (decide (s47 < ((x7.1.Wait).length : Int))) then Option.bind (idx x7.1.Wait s47) (fun x49 => Option.bind (loopM (fun s : Int => law04_DiskTurns_L12 x7 s47 s) FUEL (0 : Int)) (fun b56 => some (Ctl.next (wI (s47 + (1 : Int)))))) else some (Ctl.brk ()))
def law04_DiskTurns_J2 (a0 : Disk) (a2 : List UInt8) (x2 : Disk) (x3 : Disk × Int) (x4 : Disk × Int) (x5 : Disk × Int) (x6 : Disk × Int) (x7 : Disk × Int) (x8 : Disk × Int) (x9 : Disk × Int) (x10 : Disk × Int) (x11 : Bool) (x12 : Bool) (x13 : Bool) (x14 : Bool) : Option (Bool) :=
  Option.bind (loopM (fun s : Int => law04_DiskTurns_L9 x7 s) FUEL (0 : Int)) (fun b46 => Option.bind (loopM (fun s : Int => law04_DiskTurns_L11 x7 s) FUEL (0 : Int)) (fun b57 => (law04_DiskTurns_J3 a0 a2 x2 x3 x4 x5 x6 x7 x8 x9 x10 x11 x12 x13 x14)))
def law04_DiskTurns_L14 (x5 : Disk × Int) (s58 : Int) (s60 : Int) : Option (Ctl (Int) (Unit)) :=
  Option.bind (idx x5.1.Blocks s58) (fun x62 => (bif (decide (s60 < ((x62).length : Int))) then Option.bind (idx x5.1.Blocks s58) (fun x63 => Option.bind (idx x63 s60) (fun x64 => Option.bind (idx x63 s60) (fun x65 => some (Ctl.next (wI (s60 + (1 : Int))))))) else some (Ctl.brk ())))
def law04_DiskTurns_L13 (x5 : Disk × Int) (s58 : Int) : Option (Ctl (Int) (Unit)) :=
  (bif (decide (s58 < ((x5.1.Blocks).length : Int))) then Option.bind (loopM (fun s : Int => law04_DiskTurns_L14 x5 s58 s) FUEL (0 : Int)) (fun b66 => some (Ctl.next (wI (s58 + (1 : Int))))) else some (Ctl.brk ()))
def law04_DiskTurns_L16 (x5 : Disk × Int) (s68 : Int) (s71 : Int) : Option (Ctl (Int) (Unit)) :=
  Option.bind (idx x5.1.Wait s68) (fun x73 => (bif (decide (s71 < ((x73.Data).length : Int))) then Option.bind (idx x5.1.Wait s68) (fun x74 => Option.bind (idx x74.Data s71) (fun x75 => Option.bind (idx x74.Data s71) (fun x76 => some (Ctl.next (wI (s71 + (1 : Int))))))) else some (Ctl.brk ())))
def law04_DiskTurns_L15 (x5 : Disk × Int) (s68 : Int) : Option (Ctl (Int) (Unit)) :=
  (bif (decide (s68 < ((x5.1.Wait).length : Int))) then Option.bind (idx x5.1.Wait s68) (fun x70 => Option.bind (loopM (fun s : Int => law04_DiskTurns_L16 x5 s68 s) FUEL (0 : Int)) (fun b77 => some (Ctl.next (wI (s68 + (1 : Int)))))) else some (Ctl.brk ()))
def law04_DiskTurns_J1 (a0 : Disk) (a2 : List UInt8) (x2 : Disk) (x3 : Disk × Int) (x4 : Disk × Int) (x5 : Disk × Int) (x6 : Disk × Int) (x7 : Disk × Int) (x8 : Disk × Int) (x9 : Disk × Int) (x10 : Disk × Int) (x11 : Bool) (x12 : Bool) (x13 : Bool) (x14 : Bool) : Option (Bool) :=
  Option.bind (loopM (fun s : Int => law04_DiskTurns_L13 x5 s) FUEL (0 : Int)) (fun b67 => Option.bind (loopM (fun s : Int => law04_DiskTurns_L15 x5 s) FUEL (0 : Int)) (fun b78 => (law04_DiskTurns_J2 a0 a2 x2 x3 x4 x5 x6 x7 x8 x9 x10 x11 x12 x13 x14)))
def law04_DiskTurns_L18 (x3 : Disk × Int) (s79 : Int) (s81 : Int) : Option (Ctl (Int) (Unit)) :=
  Option.bind (idx x3.1.Blocks s79) (fun x83 => (bif (decide (s81 < ((x83).length : Int))) then Option.bind (idx x3.1.Blocks s79) (fun x84 => Option.bind (idx x84 s81) (fun x85 => Option.bind (idx x84 s81) (fun x86 => some (Ctl.next (wI (s81 + (1 : Int))))))) else some (Ctl.brk ())))
def law04_DiskTurns_L17 (x3 : Disk × Int) (s79 : Int) : Option (Ctl (Int) (Unit)) :=
  (bif (decide (s79 < ((x3.1.Blocks).length : Int))) then Option.bind (loopM (fun s : Int => law04_DiskTurns_L18 x3 s79 s) FUEL (0 : Int)) (fun b87 => some (Ctl.next (wI (s79 + (1 : Int))))) else some (Ctl.brk ()))
def law04_DiskTurns_L20 (x3 : Disk × Int) (s89 : Int) (s92 : Int) : Option (Ctl (Int) (Unit)) :=
  Option.bind (idx x3.1.Wait s89) (fun x94 => (bif (decide (s92 < ((x94.Data).length : Int))) then Option.bind (idx x3.1.Wait s89) (fun x95 => Option.bind (idx x95.Data s92) (fun x96 => Option.bind (idx x95.Data s92) (fun x97 => some (Ctl.next (wI (s92 + (1 : Int))))))) else some (Ctl.brk ())))
def law04_DiskTurns_L19 (x3 : Disk × Int) (s89 : Int) : Option (Ctl (Int) (Unit)) :=
  (bif (decide (s89 < ((x3.1.Wait).length : Int))) then Option.bind (idx x3.1.Wait s89) (fun x91 => Option.bind (loopM (fun s : Int => law04_DiskTurns_L20 x3 s89 s) FUEL (0 : Int)) (fun b98 => some (Ctl.next (wI (s89 + (1 : Int)))))) else some (Ctl.brk ()))
/-- freeboard/freeboardlaw04.DiskTurns -/
def law04_DiskTurns (a0 : Disk) (a1 : Int) (a2 : List UInt8) : Option (Bool) :=
  Option.bind (ref04_Great a0) (fun x1 => (bif (x1 || (decide (((a2).length : Int) > (1000 : Int)))) then some true else Option.bind (ref04_Twin a0) (fun x2 => Option.bind (disk_Write x2 a1 a2) (fun x3 => Option.bind (ref04_Write a0 a1 a2) (fun x4 => Option.bind (disk_Fua x2 a1 a2) (fun x5 => Option.bind (ref04_Fua a0 a1 a2) (fun x6 => Option.bind (disk_Flush x2) (fun x7 => Option.bind (ref04_Flush a0) (fun x8 => Option.bind (disk_Kill x2) (fun x9 => Option.bind (ref04_Kill a0) (fun x10 => Option.bind (ref04_Same x3.1 x4.1) (fun x11 => Option.bind (gO ((x11 && (x3.2 == x4.2))) (ref04_Same x5.1 x6.1)) (fun x12 => Option.bind (gO ((((x11 && (x3.2 == x4.2)) && x12) && (x5.2 == x6.2))) (ref04_Same x7.1 x8.1)) (fun x13 => Option.bind (gO ((((((x11 && (x3.2 == x4.2)) && x12) && (x5.2 == x6.2)) && x13) && (x7.2 == x8.2))) (ref04_Same x9.1 x10.1)) (fun x14 => Option.bind (loopM (fun s : Int => law04_DiskTurns_L17 x3 s) FUEL (0 : Int)) (fun b88 => Option.bind (loopM (fun s : Int => law04_DiskTurns_L19 x3 s) FUEL (0 : Int)) (fun b99 => (law04_DiskTurns_J1 a0 a2 x2 x3 x4 x5 x6 x7 x8 x9 x10 x11 x12 x13 x14))))))))))))))))))
set_option maxRecDepth 100000 in
set_option maxHeartbeats 2000000 in
theorem law04_DiskTurns_c (a0 : Disk) (a1 : Int) (a2 : List UInt8) {r : Bool} (hm : law04_DiskTurns a0 a1 a2 = some r) : Ctr Try.prog 4 [.rep 0 a0, .rep 0 a1, .rep 0 a2] (.fl r) [] := by
 refine ctr_of_walk [[]] 143 Try.func4 rfl rfl rfl rfl (fun w0 om => ?_)
 unfold law04_DiskTurns at hm
 refine CWalk.sub (G' := [.fact 0 (.rep [0] (a0 : Disk)), .fact 1 (.rep [] (a1 : Int)), .fact 2 (.rep [0] (a2 : List UInt8))]) (sn (Sub.cons (Has.fl (Has.s rfl)) (sn Sub.nil))) ?_
 refine CWalk.seq ?_
 refine CWalk.region ?_
 refine ws (Step.boxObj (ls := [(false, 1, Fact.rep [0] a0.Blocks), (false, 1, Fact.rep [0] a0.Wait), (false, 1, Fact.rep [] a0.Dead)]) 10 rfl rfl rfl rfl (HasL.flds (Has.cv (Has.s rfl) (Cv.trans (Cv.opens (chDisk a0)) (Cv.flds (CvL.cons Cv.refl (CvL.cons Cv.refl (CvL.cons Cv.fl CvL.nil)))))))) ?_
 refine wo (Spec.assign Has.bool) ?_
 refine Walk.nil ?_
 refine Leaf.thenN ?_
 refine CWalk.seq ?_
 refine CWalk.seq ?_
 refine CWalk.region ?_
 refine wo (Spec.loadObj (ls := [(false, 1, Fact.rep [0] a0.Blocks), (false, 1, Fact.rep [0] a0.Wait), (false, 1, Fact.rep [] a0.Dead)]) ty25 rfl rfl (Has.s rfl) rfl (HasGs.cons (HasG.s rfl) (HasGs.cons (HasG.s rfl) (HasGs.cons (HasG.s rfl) HasGs.nil)))) ?_
 obtain ⟨x1, hx1, hm⟩ := bind_some hm
 refine wo (f := Fact.rep [] (x1 : Bool)) (Spec.callE [0] 14 rfl en9 (ref04_Great_c a0 hx1) (HasAll.cons (Has.m (Has.cv (Has.s rfl) (Cv.trans (Cv.flds (CvL.cons (Cv.m rfl) (CvL.cons (Cv.m rfl) (CvL.cons Cv.fl CvL.nil)))) (Cv.close (T := [0]) (chDisk a0)))) rfl) HasAll.nil)) ?_
 refine mv ?_
 refine wg rfl rfl (fun hb => Spec.move (Has.s rfl)) ?_
 refine wg rfl rfl (fun hb => Spec.len (Has.u rfl hb) Try.underlying28) ?_
 refine wg rfl rfl (fun hb => Spec.gtrI (Has.u rfl hb) Has.int) ?_
 refine wo (Spec.or (Has.s rfl) (fun h => Has.u rfl h)) ?_
 refine Walk.nil ?_
 refine Leaf.thenN ?_
 refine CWalk.cond rfl (fun hb => ?_) (fun hb => ?_)
 ·have hm := cond_t hb hm
  refine CWalk.seq ?_
  refine CWalk.region ?_
  refine wo (Spec.assign Has.bool) ?_
  refine Walk.nil ?_
  refine Leaf.thenN ?_
  refine CWalk.ret ?_
  refine Leaf.thenR ?_
  obtain rfl := Option.some.inj hm
  exact Leaf.retC1 rfl (HasR.cv (HasR.tmp (Has.s rfl)) Cv.fl)
 ·have hm := cond_f hb hm
  refine CWalk.skip ?_
  refine Leaf.thenN ?_
  refine CWalk.seq ?_
  refine CWalk.region ?_
  refine wo (Spec.loadObj (ls := [(false, 1, Fact.rep [0] a0.Blocks), (false, 1, Fact.rep [0] a0.Wait), (false, 1, Fact.rep [] a0.Dead)]) ty25 rfl rfl (Has.s rfl) rfl (HasGs.cons (HasG.s rfl) (HasGs.cons (HasG.s rfl) (HasGs.cons (HasG.s rfl) HasGs.nil)))) ?_
  obtain ⟨x2, hx2, hm⟩ := bind_some hm
  refine wo (f := Fact.flds [(false, 1, Fact.ow [15] [16] 28 (x2.Blocks : List (List UInt8))), (false, 1, Fact.ow [17] [18] 59 (x2.Wait : List Write)), (false, 1, Fact.rep [] x2.Dead)]) (Spec.callE [0] 15 rfl en10 (ref04_Twin_c a0 hx2) (HasAll.cons (Has.m (Has.cv (Has.s rfl) (Cv.trans (Cv.flds (CvL.cons (Cv.m rfl) (CvL.cons (Cv.m rfl) (CvL.cons Cv.fl CvL.nil)))) (Cv.close (T := [0]) (chDisk a0)))) rfl) HasAll.nil)) ?_
  refine ws (Step.allocObj (ls := [(false, 1, Fact.nilv), (false, 1, Fact.nilv), (false, 1, Fact.rep [] (false : Bool))]) 19 rfl rfl rfl rfl zl25) ?_
  refine ws (Step.storeObj (ls := [(false, 1, Fact.ow [15] [16] 28 (x2.Blocks : List (List UInt8))), (false, 1, Fact.ow [17] [18] 59 (x2.Wait : List Write)), (false, 1, Fact.rep [] x2.Dead)]) rfl ty25 rfl rfl (Has.s rfl) rfl (HasL.flds (Has.s rfl)) rfl) ?_
  refine Walk.nil ?_
  refine Leaf.thenN ?_
  refine CWalk.seq ?_
  refine CWalk.region ?_
  refine mv ?_
  refine wo (Spec.toStr Try.underlying28 Try.underlying5 Try.underlying9 (Has.s rfl)) ?_
  refine wo (Spec.assign (Has.s rfl)) ?_
  refine Walk.nil ?_
  refine Leaf.thenN ?_
  refine CWalk.seq ?_
  refine CWalk.region ?_
  refine wo (Spec.loadObj (ls := [(false, 1, Fact.ow [15] [16] 28 (x2.Blocks : List (List UInt8))), (false, 1, Fact.ow [17] [18] 59 (x2.Wait : List Write)), (false, 1, Fact.rep [] x2.Dead)]) ty25 rfl rfl (Has.s rfl) rfl (HasGs.cons (HasG.s rfl) (HasGs.cons (HasG.s rfl) (HasGs.cons (HasG.s rfl) HasGs.nil)))) ?_
  refine mv ?_
  refine mv ?_
  obtain ⟨x3, hx3, hm⟩ := bind_some hm
  refine wo (f := Fact.tup2 (Fact.flds [(false, 1, Fact.ow [23] [24] 28 (x3.1.Blocks : List (List UInt8))), (false, 1, Fact.ow [25] [26] 59 (x3.1.Wait : List Write)), (false, 1, Fact.rep [] x3.1.Dead)]) (Fact.rep [] x3.2)) (Spec.callE [0, 15, 16, 17, 18] 23 rfl en23 (disk_Write_c x2 a1 a2 hx3) (HasAll.cons (Has.m (Has.cv (Has.s rfl) (Cv.trans (Cv.flds (CvL.cons (Cv.trans (Cv.trans Cv.owSl (Cv.slRep (T' := [15, 16]) rfl rfl)) (Cv.m rfl)) (CvL.cons (Cv.trans (Cv.trans Cv.owSl (Cv.slRep (T' := [17, 18]) rfl rfl)) (Cv.m rfl)) (CvL.cons Cv.fl CvL.nil)))) (Cv.close (T := [15, 16, 17, 18]) (chDisk x2)))) rfl) (HasAll.cons (Has.fl (Has.s rfl)) (HasAll.cons (Has.m (Has.s rfl) rfl) HasAll.nil)))) ?_
  refine mv ?_
  refine wo (Spec.ext0 (Has.s rfl)) ?_
  refine wo (Spec.ext1 (Has.s rfl)) ?_
  refine ws (Step.allocObj (ls := [(false, 1, Fact.nilv), (false, 1, Fact.nilv), (false, 1, Fact.rep [] (false : Bool))]) 27 rfl rfl rfl rfl zl25) ?_
  refine ws (Step.storeObj (ls := [(false, 1, Fact.ow [23] [24] 28 (x3.1.Blocks : List (List UInt8))), (false, 1, Fact.ow [25] [26] 59 (x3.1.Wait : List Write)), (false, 1, Fact.rep [] x3.1.Dead)]) rfl ty25 rfl rfl (Has.s rfl) rfl (HasL.flds (Has.s rfl)) rfl) ?_
  refine wo (Spec.assign (Has.s rfl)) ?_
  refine Walk.nil ?_
  refine Leaf.thenN ?_
  refine CWalk.seq ?_
  refine CWalk.region ?_
  refine wo (Spec.loadObj (ls := [(false, 1, Fact.rep [0] a0.Blocks), (false, 1, Fact.rep [0] a0.Wait), (false, 1, Fact.rep [] a0.Dead)]) ty25 rfl rfl (Has.s rfl) rfl (HasGs.cons (HasG.s rfl) (HasGs.cons (HasG.s rfl) (HasGs.cons (HasG.s rfl) HasGs.nil)))) ?_
  refine mv ?_
  refine mv ?_
  obtain ⟨x4, hx4, hm⟩ := bind_some hm
  refine wo (f := Fact.tup2 (Fact.flds [(false, 1, Fact.ow [31] [32] 28 (x4.1.Blocks : List (List UInt8))), (false, 1, Fact.ow [33] [34] 59 (x4.1.Wait : List Write)), (false, 1, Fact.rep [] x4.1.Dead)]) (Fact.rep [] x4.2)) (Spec.callE [0] 31 rfl en24 (ref04_Write_c a0 a1 a2 hx4) (HasAll.cons (Has.m (Has.cv (Has.s rfl) (Cv.trans (Cv.flds (CvL.cons (Cv.m rfl) (CvL.cons (Cv.m rfl) (CvL.cons Cv.fl CvL.nil)))) (Cv.close (T := [0]) (chDisk a0)))) rfl) (HasAll.cons (Has.fl (Has.s rfl)) (HasAll.cons (Has.m (Has.s rfl) rfl) HasAll.nil)))) ?_
  refine mv ?_
  refine wo (Spec.ext0 (Has.s rfl)) ?_
  refine wo (Spec.ext1 (Has.s rfl)) ?_
  refine ws (Step.allocObj (ls := [(false, 1, Fact.nilv), (false, 1, Fact.nilv), (false, 1, Fact.rep [] (false : Bool))]) 35 rfl rfl rfl rfl zl25) ?_
  refine ws (Step.storeObj (ls := [(false, 1, Fact.ow [31] [32] 28 (x4.1.Blocks : List (List UInt8))), (false, 1, Fact.ow [33] [34] 59 (x4.1.Wait : List Write)), (false, 1, Fact.rep [] x4.1.Dead)]) rfl ty25 rfl rfl (Has.s rfl) rfl (HasL.flds (Has.s rfl)) rfl) ?_
  refine wo (Spec.assign (Has.s rfl)) ?_
  refine Walk.nil ?_
  refine Leaf.thenN ?_
  refine CWalk.seq ?_
  refine CWalk.region ?_
  refine wo (Spec.loadObj (ls := [(false, 1, Fact.ow [15] [16] 28 (x2.Blocks : List (List UInt8))), (false, 1, Fact.ow [17] [18] 59 (x2.Wait : List Write)), (false, 1, Fact.rep [] x2.Dead)]) ty25 rfl rfl (Has.s rfl) rfl (HasGs.cons (HasG.s rfl) (HasGs.cons (HasG.s rfl) (HasGs.cons (HasG.s rfl) HasGs.nil)))) ?_
  refine mv ?_
  refine mv ?_
  obtain ⟨x5, hx5, hm⟩ := bind_some hm
  refine wo (f := Fact.tup2 (Fact.flds [(false, 1, Fact.ow [39] [40] 28 (x5.1.Blocks : List (List UInt8))), (false, 1, Fact.ow [41] [42] 59 (x5.1.Wait : List Write)), (false, 1, Fact.rep [] x5.1.Dead)]) (Fact.rep [] x5.2)) (Spec.callE [0, 15, 16, 17, 18] 39 rfl en25 (disk_Fua_c x2 a1 a2 hx5) (HasAll.cons (Has.m (Has.cv (Has.s rfl) (Cv.trans (Cv.flds (CvL.cons (Cv.trans (Cv.trans Cv.owSl (Cv.slRep (T' := [15, 16]) rfl rfl)) (Cv.m rfl)) (CvL.cons (Cv.trans (Cv.trans Cv.owSl (Cv.slRep (T' := [17, 18]) rfl rfl)) (Cv.m rfl)) (CvL.cons Cv.fl CvL.nil)))) (Cv.close (T := [15, 16, 17, 18]) (chDisk x2)))) rfl) (HasAll.cons (Has.fl (Has.s rfl)) (HasAll.cons (Has.m (Has.s rfl) rfl) HasAll.nil)))) ?_
  refine mv ?_
  refine wo (Spec.ext0 (Has.s rfl)) ?_
  refine wo (Spec.ext1 (Has.s rfl)) ?_
  refine ws (Step.allocObj (ls := [(false, 1, Fact.nilv), (false, 1, Fact.nilv), (false, 1, Fact.rep [] (false : Bool))]) 43 rfl rfl rfl rfl zl25) ?_
  refine ws (Step.storeObj (ls := [(false, 1, Fact.ow [39] [40] 28 (x5.1.Blocks : List (List UInt8))), (false, 1, Fact.ow [41] [42] 59 (x5.1.Wait : List Write)), (false, 1, Fact.rep [] x5.1.Dead)]) rfl ty25 rfl rfl (Has.s rfl) rfl (HasL.flds (Has.s rfl)) rfl) ?_
  refine wo (Spec.assign (Has.s rfl)) ?_
  refine Walk.nil ?_
  refine Leaf.thenN ?_
  refine CWalk.seq ?_
  refine CWalk.region ?_
  refine wo (Spec.loadObj (ls := [(false, 1, Fact.rep [0] a0.Blocks), (false, 1, Fact.rep [0] a0.Wait), (false, 1, Fact.rep [] a0.Dead)]) ty25 rfl rfl (Has.s rfl) rfl (HasGs.cons (HasG.s rfl) (HasGs.cons (HasG.s rfl) (HasGs.cons (HasG.s rfl) HasGs.nil)))) ?_
  refine mv ?_
  refine mv ?_
  obtain ⟨x6, hx6, hm⟩ := bind_some hm
  refine wo (f := Fact.tup2 (Fact.flds [(false, 1, Fact.ow [47] [48] 28 (x6.1.Blocks : List (List UInt8))), (false, 1, Fact.ow [49] [50] 59 (x6.1.Wait : List Write)), (false, 1, Fact.rep [] x6.1.Dead)]) (Fact.rep [] x6.2)) (Spec.callE [0] 47 rfl en26 (ref04_Fua_c a0 a1 a2 hx6) (HasAll.cons (Has.m (Has.cv (Has.s rfl) (Cv.trans (Cv.flds (CvL.cons (Cv.m rfl) (CvL.cons (Cv.m rfl) (CvL.cons Cv.fl CvL.nil)))) (Cv.close (T := [0]) (chDisk a0)))) rfl) (HasAll.cons (Has.fl (Has.s rfl)) (HasAll.cons (Has.m (Has.s rfl) rfl) HasAll.nil)))) ?_
  refine mv ?_
  refine wo (Spec.ext0 (Has.s rfl)) ?_
  refine wo (Spec.ext1 (Has.s rfl)) ?_
  refine ws (Step.allocObj (ls := [(false, 1, Fact.nilv), (false, 1, Fact.nilv), (false, 1, Fact.rep [] (false : Bool))]) 51 rfl rfl rfl rfl zl25) ?_
  refine ws (Step.storeObj (ls := [(false, 1, Fact.ow [47] [48] 28 (x6.1.Blocks : List (List UInt8))), (false, 1, Fact.ow [49] [50] 59 (x6.1.Wait : List Write)), (false, 1, Fact.rep [] x6.1.Dead)]) rfl ty25 rfl rfl (Has.s rfl) rfl (HasL.flds (Has.s rfl)) rfl) ?_
  refine wo (Spec.assign (Has.s rfl)) ?_
  refine Walk.nil ?_
  refine Leaf.thenN ?_
  refine CWalk.seq ?_
  refine CWalk.region ?_
  refine wo (Spec.loadObj (ls := [(false, 1, Fact.ow [15] [16] 28 (x2.Blocks : List (List UInt8))), (false, 1, Fact.ow [17] [18] 59 (x2.Wait : List Write)), (false, 1, Fact.rep [] x2.Dead)]) ty25 rfl rfl (Has.s rfl) rfl (HasGs.cons (HasG.s rfl) (HasGs.cons (HasG.s rfl) (HasGs.cons (HasG.s rfl) HasGs.nil)))) ?_
  obtain ⟨x7, hx7, hm⟩ := bind_some hm
  refine wo (f := Fact.tup2 (Fact.flds [(false, 1, Fact.ow [55] [56] 28 (x7.1.Blocks : List (List UInt8))), (false, 1, Fact.ow [57] [58] 59 (x7.1.Wait : List Write)), (false, 1, Fact.rep [] x7.1.Dead)]) (Fact.rep [] x7.2)) (Spec.callE [15, 16, 17, 18] 55 rfl en27 (disk_Flush_c x2 hx7) (HasAll.cons (Has.m (Has.cv (Has.s rfl) (Cv.trans (Cv.flds (CvL.cons (Cv.trans (Cv.trans Cv.owSl (Cv.slRep (T' := [15, 16]) rfl rfl)) (Cv.m rfl)) (CvL.cons (Cv.trans (Cv.trans Cv.owSl (Cv.slRep (T' := [17, 18]) rfl rfl)) (Cv.m rfl)) (CvL.cons Cv.fl CvL.nil)))) (Cv.close (T := [15, 16, 17, 18]) (chDisk x2)))) rfl) HasAll.nil)) ?_
  refine mv ?_
  refine wo (Spec.ext0 (Has.s rfl)) ?_
  refine wo (Spec.ext1 (Has.s rfl)) ?_
  refine ws (Step.allocObj (ls := [(false, 1, Fact.nilv), (false, 1, Fact.nilv), (false, 1, Fact.rep [] (false : Bool))]) 59 rfl rfl rfl rfl zl25) ?_
  refine ws (Step.storeObj (ls := [(false, 1, Fact.ow [55] [56] 28 (x7.1.Blocks : List (List UInt8))), (false, 1, Fact.ow [57] [58] 59 (x7.1.Wait : List Write)), (false, 1, Fact.rep [] x7.1.Dead)]) rfl ty25 rfl rfl (Has.s rfl) rfl (HasL.flds (Has.s rfl)) rfl) ?_
  refine wo (Spec.assign (Has.s rfl)) ?_
  refine Walk.nil ?_
  refine Leaf.thenN ?_
  refine CWalk.seq ?_
  refine CWalk.region ?_
  refine wo (Spec.loadObj (ls := [(false, 1, Fact.rep [0] a0.Blocks), (false, 1, Fact.rep [0] a0.Wait), (false, 1, Fact.rep [] a0.Dead)]) ty25 rfl rfl (Has.s rfl) rfl (HasGs.cons (HasG.s rfl) (HasGs.cons (HasG.s rfl) (HasGs.cons (HasG.s rfl) HasGs.nil)))) ?_
  obtain ⟨x8, hx8, hm⟩ := bind_some hm
  refine wo (f := Fact.tup2 (Fact.flds [(false, 1, Fact.ow [64] [63] 28 (x8.1.Blocks : List (List UInt8))), (false, 1, Fact.ow [64] [] 59 (x8.1.Wait : List Write)), (false, 1, Fact.rep [] x8.1.Dead)]) (Fact.rep [] x8.2)) (Spec.callE [0] 63 rfl en28 (ref04_Flush_c a0 hx8) (HasAll.cons (Has.m (Has.cv (Has.s rfl) (Cv.trans (Cv.flds (CvL.cons (Cv.m rfl) (CvL.cons (Cv.m rfl) (CvL.cons Cv.fl CvL.nil)))) (Cv.close (T := [0]) (chDisk a0)))) rfl) HasAll.nil)) ?_
  refine mv ?_
  refine wo (Spec.ext0 (Has.s rfl)) ?_
  refine wo (Spec.ext1 (Has.s rfl)) ?_
  refine ws (Step.allocObj (ls := [(false, 1, Fact.nilv), (false, 1, Fact.nilv), (false, 1, Fact.rep [] (false : Bool))]) 65 rfl rfl rfl rfl zl25) ?_
  refine ws (Step.storeObj (ls := [(false, 1, Fact.ow [64] [63] 28 (x8.1.Blocks : List (List UInt8))), (false, 1, Fact.ow [64] [] 59 (x8.1.Wait : List Write)), (false, 1, Fact.rep [] x8.1.Dead)]) rfl ty25 rfl rfl (Has.s rfl) rfl (HasL.flds (Has.s rfl)) rfl) ?_
  refine wo (Spec.assign (Has.s rfl)) ?_
  refine Walk.nil ?_
  refine Leaf.thenN ?_
  refine CWalk.seq ?_
  refine CWalk.region ?_
  refine wo (Spec.loadObj (ls := [(false, 1, Fact.ow [15] [16] 28 (x2.Blocks : List (List UInt8))), (false, 1, Fact.ow [17] [18] 59 (x2.Wait : List Write)), (false, 1, Fact.rep [] x2.Dead)]) ty25 rfl rfl (Has.s rfl) rfl (HasGs.cons (HasG.s rfl) (HasGs.cons (HasG.s rfl) (HasGs.cons (HasG.s rfl) HasGs.nil)))) ?_
  obtain ⟨x9, hx9, hm⟩ := bind_some hm
  refine wo (f := Fact.tup2 (Fact.flds [(false, 1, Fact.ow [69] [] 28 (x9.1.Blocks : List (List UInt8))), (false, 1, Fact.ow [69] [] 59 (x9.1.Wait : List Write)), (false, 1, Fact.rep [] x9.1.Dead)]) (Fact.rep [] x9.2)) (Spec.callE [15, 16, 17, 18] 69 rfl en29 (disk_Kill_c x2 hx9) (HasAll.cons (Has.m (Has.cv (Has.s rfl) (Cv.trans (Cv.flds (CvL.cons (Cv.trans (Cv.trans Cv.owSl (Cv.slRep (T' := [15, 16]) rfl rfl)) (Cv.m rfl)) (CvL.cons (Cv.trans (Cv.trans Cv.owSl (Cv.slRep (T' := [17, 18]) rfl rfl)) (Cv.m rfl)) (CvL.cons Cv.fl CvL.nil)))) (Cv.close (T := [15, 16, 17, 18]) (chDisk x2)))) rfl) HasAll.nil)) ?_
  refine mv ?_
  refine wo (Spec.ext0 (Has.s rfl)) ?_
  refine wo (Spec.ext1 (Has.s rfl)) ?_
  refine ws (Step.allocObj (ls := [(false, 1, Fact.nilv), (false, 1, Fact.nilv), (false, 1, Fact.rep [] (false : Bool))]) 70 rfl rfl rfl rfl zl25) ?_
  refine ws (Step.storeObj (ls := [(false, 1, Fact.ow [69] [] 28 (x9.1.Blocks : List (List UInt8))), (false, 1, Fact.ow [69] [] 59 (x9.1.Wait : List Write)), (false, 1, Fact.rep [] x9.1.Dead)]) rfl ty25 rfl rfl (Has.s rfl) rfl (HasL.flds (Has.s rfl)) rfl) ?_
  refine wo (Spec.assign (Has.s rfl)) ?_
  refine Walk.nil ?_
  refine Leaf.thenN ?_
  refine CWalk.seq ?_
  refine CWalk.region ?_
  refine wo (Spec.loadObj (ls := [(false, 1, Fact.rep [0] a0.Blocks), (false, 1, Fact.rep [0] a0.Wait), (false, 1, Fact.rep [] a0.Dead)]) ty25 rfl rfl (Has.s rfl) rfl (HasGs.cons (HasG.s rfl) (HasGs.cons (HasG.s rfl) (HasGs.cons (HasG.s rfl) HasGs.nil)))) ?_
  obtain ⟨x10, hx10, hm⟩ := bind_some hm
  refine wo (f := Fact.tup2 (Fact.flds [(false, 1, Fact.ow [74] [] 28 (x10.1.Blocks : List (List UInt8))), (false, 1, Fact.ow [74] [] 59 (x10.1.Wait : List Write)), (false, 1, Fact.rep [] x10.1.Dead)]) (Fact.rep [] x10.2)) (Spec.callE [0] 74 rfl en30 (ref04_Kill_c a0 hx10) (HasAll.cons (Has.m (Has.cv (Has.s rfl) (Cv.trans (Cv.flds (CvL.cons (Cv.m rfl) (CvL.cons (Cv.m rfl) (CvL.cons Cv.fl CvL.nil)))) (Cv.close (T := [0]) (chDisk a0)))) rfl) HasAll.nil)) ?_
  refine mv ?_
  refine wo (Spec.ext0 (Has.s rfl)) ?_
  refine wo (Spec.ext1 (Has.s rfl)) ?_
  refine ws (Step.allocObj (ls := [(false, 1, Fact.nilv), (false, 1, Fact.nilv), (false, 1, Fact.rep [] (false : Bool))]) 75 rfl rfl rfl rfl zl25) ?_
  refine ws (Step.storeObj (ls := [(false, 1, Fact.ow [74] [] 28 (x10.1.Blocks : List (List UInt8))), (false, 1, Fact.ow [74] [] 59 (x10.1.Wait : List Write)), (false, 1, Fact.rep [] x10.1.Dead)]) rfl ty25 rfl rfl (Has.s rfl) rfl (HasL.flds (Has.s rfl)) rfl) ?_
  refine wo (Spec.assign (Has.s rfl)) ?_
  refine Walk.nil ?_
  refine Leaf.thenN ?_
  refine CWalk.seq ?_
  refine CWalk.region ?_
  refine wo (Spec.loadObj (ls := [(false, 1, Fact.ow [23] [24] 28 (x3.1.Blocks : List (List UInt8))), (false, 1, Fact.ow [25] [26] 59 (x3.1.Wait : List Write)), (false, 1, Fact.rep [] x3.1.Dead)]) ty25 rfl rfl (Has.s rfl) rfl (HasGs.cons (HasG.s rfl) (HasGs.cons (HasG.s rfl) (HasGs.cons (HasG.s rfl) HasGs.nil)))) ?_
  refine wo (Spec.loadObj (ls := [(false, 1, Fact.ow [31] [32] 28 (x4.1.Blocks : List (List UInt8))), (false, 1, Fact.ow [33] [34] 59 (x4.1.Wait : List Write)), (false, 1, Fact.rep [] x4.1.Dead)]) ty25 rfl rfl (Has.s rfl) rfl (HasGs.cons (HasG.s rfl) (HasGs.cons (HasG.s rfl) (HasGs.cons (HasG.s rfl) HasGs.nil)))) ?_
  obtain ⟨x11, hx11, hm⟩ := bind_some hm
  refine wo (f := Fact.rep [] (x11 : Bool)) (Spec.callE [23, 24, 25, 26, 31, 32, 33, 34] 79 rfl en18 (ref04_Same_c x3.1 x4.1 hx11) (HasAll.cons (Has.m (Has.cv (Has.s rfl) (Cv.trans (Cv.flds (CvL.cons (Cv.trans (Cv.trans Cv.owSl (Cv.slRep (T' := [23, 24]) rfl rfl)) (Cv.m rfl)) (CvL.cons (Cv.trans (Cv.trans Cv.owSl (Cv.slRep (T' := [25, 26]) rfl rfl)) (Cv.m rfl)) (CvL.cons Cv.fl CvL.nil)))) (Cv.close (T := [23, 24, 25, 26]) (chDisk x3.1)))) rfl) (HasAll.cons (Has.m (Has.cv (Has.s rfl) (Cv.trans (Cv.flds (CvL.cons (Cv.trans (Cv.trans Cv.owSl (Cv.slRep (T' := [31, 32]) rfl rfl)) (Cv.m rfl)) (CvL.cons (Cv.trans (Cv.trans Cv.owSl (Cv.slRep (T' := [33, 34]) rfl rfl)) (Cv.m rfl)) (CvL.cons Cv.fl CvL.nil)))) (Cv.close (T := [31, 32, 33, 34]) (chDisk x4.1)))) rfl) HasAll.nil))) ?_
  refine mv ?_
  refine wg rfl rfl (fun hb => Spec.move (Has.s rfl)) ?_
  refine wg rfl rfl (fun hb => Spec.move (Has.s rfl)) ?_
  refine wg rfl rfl (fun hb => Spec.eqlI (Has.u rfl hb) (Has.u rfl hb)) ?_
  refine wo (Spec.and (Has.s rfl) (fun h => Has.u rfl h)) ?_
  refine mv ?_
  refine wg rfl rfl (fun hb => Spec.loadObj (ls := [(false, 1, Fact.ow [39] [40] 28 (x5.1.Blocks : List (List UInt8))), (false, 1, Fact.ow [41] [42] 59 (x5.1.Wait : List Write)), (false, 1, Fact.rep [] x5.1.Dead)]) ty25 rfl rfl (Has.s rfl) rfl (HasGs.cons (HasG.s rfl) (HasGs.cons (HasG.s rfl) (HasGs.cons (HasG.s rfl) HasGs.nil)))) ?_
  refine wg rfl rfl (fun hb => Spec.loadObj (ls := [(false, 1, Fact.ow [47] [48] 28 (x6.1.Blocks : List (List UInt8))), (false, 1, Fact.ow [49] [50] 59 (x6.1.Wait : List Write)), (false, 1, Fact.rep [] x6.1.Dead)]) ty25 rfl rfl (Has.s rfl) rfl (HasGs.cons (HasG.s rfl) (HasGs.cons (HasG.s rfl) (HasGs.cons (HasG.s rfl) HasGs.nil)))) ?_
  obtain ⟨x12, hx12, hm⟩ := bind_some hm
  refine wg (f := Fact.rep [] (x12 : Bool)) rfl rfl (fun hb => Spec.callE [39, 40, 41, 42, 47, 48, 49, 50] 80 rfl en18 (ref04_Same_c x5.1 x6.1 (gO_t hx12 hb)) (HasAll.cons (Has.m (Has.cv (Has.u rfl hb) (Cv.trans (Cv.flds (CvL.cons (Cv.trans (Cv.trans Cv.owSl (Cv.slRep (T' := [39, 40]) rfl rfl)) (Cv.m rfl)) (CvL.cons (Cv.trans (Cv.trans Cv.owSl (Cv.slRep (T' := [41, 42]) rfl rfl)) (Cv.m rfl)) (CvL.cons Cv.fl CvL.nil)))) (Cv.close (T := [39, 40, 41, 42]) (chDisk x5.1)))) rfl) (HasAll.cons (Has.m (Has.cv (Has.u rfl hb) (Cv.trans (Cv.flds (CvL.cons (Cv.trans (Cv.trans Cv.owSl (Cv.slRep (T' := [47, 48]) rfl rfl)) (Cv.m rfl)) (CvL.cons (Cv.trans (Cv.trans Cv.owSl (Cv.slRep (T' := [49, 50]) rfl rfl)) (Cv.m rfl)) (CvL.cons Cv.fl CvL.nil)))) (Cv.close (T := [47, 48, 49, 50]) (chDisk x6.1)))) rfl) HasAll.nil))) ?_
  refine wo (Spec.and (Has.s rfl) (fun h => Has.u rfl h)) ?_
  refine mv ?_
  refine wg rfl rfl (fun hb => Spec.move (Has.s rfl)) ?_
  refine wg rfl rfl (fun hb => Spec.move (Has.s rfl)) ?_
  refine wg rfl rfl (fun hb => Spec.eqlI (Has.u rfl hb) (Has.u rfl hb)) ?_
  refine wo (Spec.and (Has.s rfl) (fun h => Has.u rfl h)) ?_
  refine mv ?_
  refine wg rfl rfl (fun hb => Spec.loadObj (ls := [(false, 1, Fact.ow [55] [56] 28 (x7.1.Blocks : List (List UInt8))), (false, 1, Fact.ow [57] [58] 59 (x7.1.Wait : List Write)), (false, 1, Fact.rep [] x7.1.Dead)]) ty25 rfl rfl (Has.s rfl) rfl (HasGs.cons (HasG.s rfl) (HasGs.cons (HasG.s rfl) (HasGs.cons (HasG.s rfl) HasGs.nil)))) ?_
  refine wg rfl rfl (fun hb => Spec.loadObj (ls := [(false, 1, Fact.ow [64] [63] 28 (x8.1.Blocks : List (List UInt8))), (false, 1, Fact.ow [64] [] 59 (x8.1.Wait : List Write)), (false, 1, Fact.rep [] x8.1.Dead)]) ty25 rfl rfl (Has.s rfl) rfl (HasGs.cons (HasG.s rfl) (HasGs.cons (HasG.s rfl) (HasGs.cons (HasG.s rfl) HasGs.nil)))) ?_
  obtain ⟨x13, hx13, hm⟩ := bind_some hm
  refine wg (f := Fact.rep [] (x13 : Bool)) rfl rfl (fun hb => Spec.callE [55, 56, 57, 58, 63, 64] 81 rfl en18 (ref04_Same_c x7.1 x8.1 (gO_t hx13 hb)) (HasAll.cons (Has.m (Has.cv (Has.u rfl hb) (Cv.trans (Cv.flds (CvL.cons (Cv.trans (Cv.trans Cv.owSl (Cv.slRep (T' := [55, 56]) rfl rfl)) (Cv.m rfl)) (CvL.cons (Cv.trans (Cv.trans Cv.owSl (Cv.slRep (T' := [57, 58]) rfl rfl)) (Cv.m rfl)) (CvL.cons Cv.fl CvL.nil)))) (Cv.close (T := [55, 56, 57, 58]) (chDisk x7.1)))) rfl) (HasAll.cons (Has.m (Has.cv (Has.u rfl hb) (Cv.trans (Cv.flds (CvL.cons (Cv.trans (Cv.trans Cv.owSl (Cv.slRep (T' := [63, 64]) rfl rfl)) (Cv.m rfl)) (CvL.cons (Cv.trans (Cv.trans Cv.owSl (Cv.slRep (T' := [64]) rfl rfl)) (Cv.m rfl)) (CvL.cons Cv.fl CvL.nil)))) (Cv.close (T := [63, 64]) (chDisk x8.1)))) rfl) HasAll.nil))) ?_
  refine wo (Spec.and (Has.s rfl) (fun h => Has.u rfl h)) ?_
  refine mv ?_
  refine wg rfl rfl (fun hb => Spec.move (Has.s rfl)) ?_
  refine wg rfl rfl (fun hb => Spec.move (Has.s rfl)) ?_
  refine wg rfl rfl (fun hb => Spec.eqlI (Has.u rfl hb) (Has.u rfl hb)) ?_
  refine wo (Spec.and (Has.s rfl) (fun h => Has.u rfl h)) ?_
  refine mv ?_
  refine wg rfl rfl (fun hb => Spec.loadObj (ls := [(false, 1, Fact.ow [69] [] 28 (x9.1.Blocks : List (List UInt8))), (false, 1, Fact.ow [69] [] 59 (x9.1.Wait : List Write)), (false, 1, Fact.rep [] x9.1.Dead)]) ty25 rfl rfl (Has.s rfl) rfl (HasGs.cons (HasG.s rfl) (HasGs.cons (HasG.s rfl) (HasGs.cons (HasG.s rfl) HasGs.nil)))) ?_
  refine wg rfl rfl (fun hb => Spec.loadObj (ls := [(false, 1, Fact.ow [74] [] 28 (x10.1.Blocks : List (List UInt8))), (false, 1, Fact.ow [74] [] 59 (x10.1.Wait : List Write)), (false, 1, Fact.rep [] x10.1.Dead)]) ty25 rfl rfl (Has.s rfl) rfl (HasGs.cons (HasG.s rfl) (HasGs.cons (HasG.s rfl) (HasGs.cons (HasG.s rfl) HasGs.nil)))) ?_
  obtain ⟨x14, hx14, hm⟩ := bind_some hm
  refine wg (f := Fact.rep [] (x14 : Bool)) rfl rfl (fun hb => Spec.callE [69, 74] 82 rfl en18 (ref04_Same_c x9.1 x10.1 (gO_t hx14 hb)) (HasAll.cons (Has.m (Has.cv (Has.u rfl hb) (Cv.trans (Cv.flds (CvL.cons (Cv.trans (Cv.trans Cv.owSl (Cv.slRep (T' := [69]) rfl rfl)) (Cv.m rfl)) (CvL.cons (Cv.trans (Cv.trans Cv.owSl (Cv.slRep (T' := [69]) rfl rfl)) (Cv.m rfl)) (CvL.cons Cv.fl CvL.nil)))) (Cv.close (T := [69]) (chDisk x9.1)))) rfl) (HasAll.cons (Has.m (Has.cv (Has.u rfl hb) (Cv.trans (Cv.flds (CvL.cons (Cv.trans (Cv.trans Cv.owSl (Cv.slRep (T' := [74]) rfl rfl)) (Cv.m rfl)) (CvL.cons (Cv.trans (Cv.trans Cv.owSl (Cv.slRep (T' := [74]) rfl rfl)) (Cv.m rfl)) (CvL.cons Cv.fl CvL.nil)))) (Cv.close (T := [74]) (chDisk x10.1)))) rfl) HasAll.nil))) ?_
  refine wo (Spec.and (Has.s rfl) (fun h => Has.u rfl h)) ?_
  refine mv ?_
  refine wg rfl rfl (fun hb => Spec.move (Has.s rfl)) ?_
  refine wg rfl rfl (fun hb => Spec.move (Has.s rfl)) ?_
  refine wg rfl rfl (fun hb => Spec.eqlI (Has.u rfl hb) (Has.u rfl hb)) ?_
  refine wo (Spec.and (Has.s rfl) (fun h => Has.u rfl h)) ?_
  refine wo (Spec.assign (Has.s rfl)) ?_
  refine Walk.nil ?_
  refine Leaf.thenN ?_
  refine CWalk.seq ?_
  refine CWalk.region ?_
  refine wo (Spec.loadObj (ls := [(false, 1, Fact.ow [23] [24] 28 (x3.1.Blocks : List (List UInt8))), (false, 1, Fact.ow [25] [26] 59 (x3.1.Wait : List Write)), (false, 1, Fact.rep [] x3.1.Dead)]) ty25 rfl rfl (Has.s rfl) rfl (HasGs.cons (HasG.s rfl) (HasGs.cons (HasG.s rfl) (HasGs.cons (HasG.s rfl) HasGs.nil)))) ?_
  refine Walk.inline (S := Unit) (fun p : Unit => [.fact 2 (.rep [0] (a2 : List UInt8)), .fact 3 (.isv 10), .fact 7 (.isv 19), .fact 8 (.rep [] ((Str.mk a2) : Str)), .fact 13 (.isv 43), .fact 17 (.isv 59), .fact 21 (.isv 70), .fact 25 (.rep [] ((((((((x11 && (x3.2 == x4.2)) && x12) && (x5.2 == x6.2)) && x13) && (x7.2 == x8.2)) && x14) && (x9.2 == x10.2)) : Bool)), .fact 124 (.top), .fact 100011 (.at 11 (.rep [0] a0.Blocks)), .fact 100012 (.at 12 (.rep [0] a0.Wait)), .fact 100013 (.at 13 (.rep [] a0.Dead)), .fact 100020 (.at 20 (.ow [15] [16] 28 (x2.Blocks : List (List UInt8)))), .fact 100021 (.at 21 (.ow [17] [18] 59 (x2.Wait : List Write))), .fact 100022 (.at 22 (.rep [] x2.Dead)), .fact 100044 (.at 44 (.ow [39] [40] 28 (x5.1.Blocks : List (List UInt8)))), .fact 100045 (.at 45 (.ow [41] [42] 59 (x5.1.Wait : List Write))), .fact 100046 (.at 46 (.rep [] x5.1.Dead)), .fact 100060 (.at 60 (.ow [55] [56] 28 (x7.1.Blocks : List (List UInt8)))), .fact 100061 (.at 61 (.ow [57] [58] 59 (x7.1.Wait : List Write))), .fact 100062 (.at 62 (.rep [] x7.1.Dead)), .fact 100071 (.at 71 (.ow [69] [] 28 (x9.1.Blocks : List (List UInt8)))), .fact 100072 (.at 72 (.ow [69] [] 59 (x9.1.Wait : List Write))), .fact 100073 (.at 73 (.rep [] x9.1.Dead)), .fact 100010 (.obj 10 [(false, 1), (false, 1), (false, 1)]), .fact 100019 (.obj 19 [(false, 1), (false, 1), (false, 1)]), .fact 100043 (.obj 43 [(false, 1), (false, 1), (false, 1)]), .fact 100059 (.obj 59 [(false, 1), (false, 1), (false, 1)]), .fact 100070 (.obj 70 [(false, 1), (false, 1), (false, 1)])]) (fun p : Unit => law04_DiskTurns_J1 a0 a2 x2 x3 x4 x5 x6 x7 x8 x9 x10 x11 x12 x13 x14 = some r) (fun u1 => [.fact 100011 (.at 11 (.rep [0] a0.Blocks)), .fact 100012 (.at 12 (.rep [0] a0.Wait)), .fact 100013 (.at 13 (.rep [] a0.Dead)), .fact 100020 (.at 20 (.ow [15] [16] 28 (x2.Blocks : List (List UInt8)))), .fact 100021 (.at 21 (.ow [17] [18] 59 (x2.Wait : List Write))), .fact 100022 (.at 22 (.rep [] x2.Dead)), .fact 100044 (.at 44 (.ow [39] [40] 28 (x5.1.Blocks : List (List UInt8)))), .fact 100045 (.at 45 (.ow [41] [42] 59 (x5.1.Wait : List Write))), .fact 100046 (.at 46 (.rep [] x5.1.Dead)), .fact 100060 (.at 60 (.ow [55] [56] 28 (x7.1.Blocks : List (List UInt8)))), .fact 100061 (.at 61 (.ow [57] [58] 59 (x7.1.Wait : List Write))), .fact 100062 (.at 62 (.rep [] x7.1.Dead)), .fact 100071 (.at 71 (.ow [69] [] 28 (x9.1.Blocks : List (List UInt8)))), .fact 100072 (.at 72 (.ow [69] [] 59 (x9.1.Wait : List Write))), .fact 100073 (.at 73 (.rep [] x9.1.Dead)), .fact 902002 (.cst (u1 2) (Fact.rep [0] (a2 : List UInt8))), .fact 902003 (.cst (u1 3) (Fact.isv 10)), .fact 902007 (.cst (u1 7) (Fact.isv 19)), .fact 902008 (.cst (u1 8) (Fact.rep [] ((Str.mk a2) : Str))), .fact 902013 (.cst (u1 13) (Fact.isv 43)), .fact 902017 (.cst (u1 17) (Fact.isv 59)), .fact 902021 (.cst (u1 21) (Fact.isv 70)), .fact 902025 (.cst (u1 25) (Fact.rep [] ((((((((x11 && (x3.2 == x4.2)) && x12) && (x5.2 == x6.2)) && x13) && (x7.2 == x8.2)) && x14) && (x9.2 == x10.2)) : Bool))), .fact 100010 (.obj 10 [(false, 1), (false, 1), (false, 1)]), .fact 100019 (.obj 19 [(false, 1), (false, 1), (false, 1)]), .fact 100043 (.obj 43 [(false, 1), (false, 1), (false, 1)]), .fact 100059 (.obj 59 [(false, 1), (false, 1), (false, 1)]), .fact 100070 (.obj 70 [(false, 1), (false, 1), (false, 1)])]) (FA := [Fact.flds [(false, 1, Fact.ow [23] [24] 28 (x3.1.Blocks : List (List UInt8))), (false, 1, Fact.ow [25] [26] 59 (x3.1.Wait : List Write)), (false, 1, Fact.rep [] x3.1.Dead)]]) rfl Try.func22 rfl rfl rfl (CallOk.fn en22 (HasF.cons (Has.s rfl) HasF.nil)) (fun u1 => (ck (ck (ck (ck (ck (ck (ck (ck (ck (ck (ck (ck (ck (ck (ck (cs 902000 2 (cs 902000 3 (cs 902000 7 (cs 902000 8 (cs 902000 13 (cs 902000 17 (cs 902000 21 (cs 902000 25 (ck (ck (ck (ck (ck Carry.nil))))))))))))))))))))))))))))) (fun u1 => ?_) ?_
  ·refine CWalk.seq ?_
   refine CWalk.region ?_
   refine ws (Step.boxObj (ls := [(false, 1, Fact.ow [23] [24] 28 (x3.1.Blocks : List (List UInt8))), (false, 1, Fact.ow [25] [26] 59 (x3.1.Wait : List Write)), (false, 1, Fact.rep [] x3.1.Dead)]) 83 rfl rfl rfl rfl (HasL.flds (Has.s rfl))) ?_
   refine Walk.nil ?_
   refine Leaf.thenN ?_
   refine CWalk.seq ?_
   refine CWalk.seq ?_
   refine CWalk.region ?_
   refine wo (Spec.assign Has.int) ?_
   refine Walk.nil ?_
   refine Leaf.thenN ?_
   refine CWalk.block ?_
   obtain ⟨b88, hb88, hm⟩ := bind_some hm
   refine CWalk.loop (fun s : Int => [.fact 1 (.isv 83), .fact 2 (.rep [] (s : Int)), .fact 902002 (.cst (u1 2) (Fact.rep [0] (a2 : List UInt8))), .fact 902003 (.cst (u1 3) (Fact.isv 10)), .fact 902007 (.cst (u1 7) (Fact.isv 19)), .fact 902008 (.cst (u1 8) (Fact.rep [] ((Str.mk a2) : Str))), .fact 902013 (.cst (u1 13) (Fact.isv 43)), .fact 902017 (.cst (u1 17) (Fact.isv 59)), .fact 902021 (.cst (u1 21) (Fact.isv 70)), .fact 902025 (.cst (u1 25) (Fact.rep [] ((((((((x11 && (x3.2 == x4.2)) && x12) && (x5.2 == x6.2)) && x13) && (x7.2 == x8.2)) && x14) && (x9.2 == x10.2)) : Bool))), .fact 100084 (.at 84 (.lo [23, 24] x3.1.Blocks)), .fact 100085 (.at 85 (.ow [25] [26] 59 (x3.1.Wait : List Write))), .fact 100086 (.at 86 (.rep [] x3.1.Dead)), .fact 100011 (.at 11 (.rep [0] a0.Blocks)), .fact 100012 (.at 12 (.rep [0] a0.Wait)), .fact 100013 (.at 13 (.rep [] a0.Dead)), .fact 100020 (.at 20 (.ow [15] [16] 28 (x2.Blocks : List (List UInt8)))), .fact 100021 (.at 21 (.ow [17] [18] 59 (x2.Wait : List Write))), .fact 100022 (.at 22 (.rep [] x2.Dead)), .fact 100044 (.at 44 (.ow [39] [40] 28 (x5.1.Blocks : List (List UInt8)))), .fact 100045 (.at 45 (.ow [41] [42] 59 (x5.1.Wait : List Write))), .fact 100046 (.at 46 (.rep [] x5.1.Dead)), .fact 100060 (.at 60 (.ow [55] [56] 28 (x7.1.Blocks : List (List UInt8)))), .fact 100061 (.at 61 (.ow [57] [58] 59 (x7.1.Wait : List Write))), .fact 100062 (.at 62 (.rep [] x7.1.Dead)), .fact 100071 (.at 71 (.ow [69] [] 28 (x9.1.Blocks : List (List UInt8)))), .fact 100072 (.at 72 (.ow [69] [] 59 (x9.1.Wait : List Write))), .fact 100073 (.at 73 (.rep [] x9.1.Dead)), .fact 100083 (.obj 83 [(false, 1), (false, 1), (false, 1)]), .fact 100010 (.obj 10 [(false, 1), (false, 1), (false, 1)]), .fact 100019 (.obj 19 [(false, 1), (false, 1), (false, 1)]), .fact 100043 (.obj 43 [(false, 1), (false, 1), (false, 1)]), .fact 100059 (.obj 59 [(false, 1), (false, 1), (false, 1)]), .fact 100070 (.obj 70 [(false, 1), (false, 1), (false, 1)])]) (fun b : Unit => (Exit.exit 0, [.fact 1 (.isv 83), .fact 902002 (.cst (u1 2) (Fact.rep [0] (a2 : List UInt8))), .fact 902003 (.cst (u1 3) (Fact.isv 10)), .fact 902007 (.cst (u1 7) (Fact.isv 19)), .fact 902008 (.cst (u1 8) (Fact.rep [] ((Str.mk a2) : Str))), .fact 902013 (.cst (u1 13) (Fact.isv 43)), .fact 902017 (.cst (u1 17) (Fact.isv 59)), .fact 902021 (.cst (u1 21) (Fact.isv 70)), .fact 902025 (.cst (u1 25) (Fact.rep [] ((((((((x11 && (x3.2 == x4.2)) && x12) && (x5.2 == x6.2)) && x13) && (x7.2 == x8.2)) && x14) && (x9.2 == x10.2)) : Bool))), .fact 100084 (.at 84 (.lo [23, 24] x3.1.Blocks)), .fact 100085 (.at 85 (.ow [25] [26] 59 (x3.1.Wait : List Write))), .fact 100086 (.at 86 (.rep [] x3.1.Dead)), .fact 100011 (.at 11 (.rep [0] a0.Blocks)), .fact 100012 (.at 12 (.rep [0] a0.Wait)), .fact 100013 (.at 13 (.rep [] a0.Dead)), .fact 100020 (.at 20 (.ow [15] [16] 28 (x2.Blocks : List (List UInt8)))), .fact 100021 (.at 21 (.ow [17] [18] 59 (x2.Wait : List Write))), .fact 100022 (.at 22 (.rep [] x2.Dead)), .fact 100044 (.at 44 (.ow [39] [40] 28 (x5.1.Blocks : List (List UInt8)))), .fact 100045 (.at 45 (.ow [41] [42] 59 (x5.1.Wait : List Write))), .fact 100046 (.at 46 (.rep [] x5.1.Dead)), .fact 100060 (.at 60 (.ow [55] [56] 28 (x7.1.Blocks : List (List UInt8)))), .fact 100061 (.at 61 (.ow [57] [58] 59 (x7.1.Wait : List Write))), .fact 100062 (.at 62 (.rep [] x7.1.Dead)), .fact 100071 (.at 71 (.ow [69] [] 28 (x9.1.Blocks : List (List UInt8)))), .fact 100072 (.at 72 (.ow [69] [] 59 (x9.1.Wait : List Write))), .fact 100073 (.at 73 (.rep [] x9.1.Dead)), .fact 100083 (.obj 83 [(false, 1), (false, 1), (false, 1)]), .fact 100010 (.obj 10 [(false, 1), (false, 1), (false, 1)]), .fact 100019 (.obj 19 [(false, 1), (false, 1), (false, 1)]), .fact 100043 (.obj 43 [(false, 1), (false, 1), (false, 1)]), .fact 100059 (.obj 59 [(false, 1), (false, 1), (false, 1)]), .fact 100070 (.obj 70 [(false, 1), (false, 1), (false, 1)])])) hb88 (sn (st (Sub.cons (Has.cst (HasC.cv (HasC.s (s := 902002) rfl) (Cv.m rfl))) (sc (sc (Sub.cons (Has.cst (HasC.cv (HasC.s (s := 902008) rfl) Cv.fl)) (sc (sc (sc (Sub.cons (Has.cst (HasC.cv (HasC.s (s := 902025) rfl) Cv.fl)) (Sub.cons (Has.at (HasG.cv (HasG.s rfl) (Cv.trans (Cv.trans Cv.owSl (Cv.slRep (T' := [23, 24]) rfl rfl)) (Cv.lo rfl)))) (Sub.cons (Has.at (HasG.cv (HasG.s rfl) (Cv.owM (T := [25]) (te := [26]) rfl rfl))) (sf (sm (sm (sf (Sub.cons (Has.at (HasG.cv (HasG.s rfl) (Cv.owM (T := [15]) (te := [16]) rfl rfl))) (Sub.cons (Has.at (HasG.cv (HasG.s rfl) (Cv.owM (T := [17]) (te := [18]) rfl rfl))) (sf (Sub.cons (Has.at (HasG.cv (HasG.s rfl) (Cv.owM (T := [39]) (te := [40]) rfl rfl))) (Sub.cons (Has.at (HasG.cv (HasG.s rfl) (Cv.owM (T := [41]) (te := [42]) rfl rfl))) (sf (Sub.cons (Has.at (HasG.cv (HasG.s rfl) (Cv.owM (T := [55]) (te := [56]) rfl rfl))) (Sub.cons (Has.at (HasG.cv (HasG.s rfl) (Cv.owM (T := [57]) (te := [58]) rfl rfl))) (sf (Sub.cons (Has.at (HasG.cv (HasG.s rfl) (Cv.owM (T := [69]) (te := []) rfl rfl))) (Sub.cons (Has.at (HasG.cv (HasG.s rfl) (Cv.owM (T := [69]) (te := []) rfl rfl))) (sf (sn (sn (sn (sn (sn (sn Sub.nil)))))))))))))))))))))))))))))))))) ?_ ?_
   ·rintro s79 c80 hm
    replace hm : law04_DiskTurns_L17 x3 s79 = some c80 := hm
    unfold law04_DiskTurns_L17 at hm
    show CWalk _ [.fact 1 (.isv 83), .fact 2 (.rep [] (s79 : Int)), .fact 902002 (.cst (u1 2) (Fact.rep [0] (a2 : List UInt8))), .fact 902003 (.cst (u1 3) (Fact.isv 10)), .fact 902007 (.cst (u1 7) (Fact.isv 19)), .fact 902008 (.cst (u1 8) (Fact.rep [] ((Str.mk a2) : Str))), .fact 902013 (.cst (u1 13) (Fact.isv 43)), .fact 902017 (.cst (u1 17) (Fact.isv 59)), .fact 902021 (.cst (u1 21) (Fact.isv 70)), .fact 902025 (.cst (u1 25) (Fact.rep [] ((((((((x11 && (x3.2 == x4.2)) && x12) && (x5.2 == x6.2)) && x13) && (x7.2 == x8.2)) && x14) && (x9.2 == x10.2)) : Bool))), .fact 100084 (.at 84 (.lo [23, 24] x3.1.Blocks)), .fact 100085 (.at 85 (.ow [25] [26] 59 (x3.1.Wait : List Write))), .fact 100086 (.at 86 (.rep [] x3.1.Dead)), .fact 100011 (.at 11 (.rep [0] a0.Blocks)), .fact 100012 (.at 12 (.rep [0] a0.Wait)), .fact 100013 (.at 13 (.rep [] a0.Dead)), .fact 100020 (.at 20 (.ow [15] [16] 28 (x2.Blocks : List (List UInt8)))), .fact 100021 (.at 21 (.ow [17] [18] 59 (x2.Wait : List Write))), .fact 100022 (.at 22 (.rep [] x2.Dead)), .fact 100044 (.at 44 (.ow [39] [40] 28 (x5.1.Blocks : List (List UInt8)))), .fact 100045 (.at 45 (.ow [41] [42] 59 (x5.1.Wait : List Write))), .fact 100046 (.at 46 (.rep [] x5.1.Dead)), .fact 100060 (.at 60 (.ow [55] [56] 28 (x7.1.Blocks : List (List UInt8)))), .fact 100061 (.at 61 (.ow [57] [58] 59 (x7.1.Wait : List Write))), .fact 100062 (.at 62 (.rep [] x7.1.Dead)), .fact 100071 (.at 71 (.ow [69] [] 28 (x9.1.Blocks : List (List UInt8)))), .fact 100072 (.at 72 (.ow [69] [] 59 (x9.1.Wait : List Write))), .fact 100073 (.at 73 (.rep [] x9.1.Dead)), .fact 100083 (.obj 83 [(false, 1), (false, 1), (false, 1)]), .fact 100010 (.obj 10 [(false, 1), (false, 1), (false, 1)]), .fact 100019 (.obj 19 [(false, 1), (false, 1), (false, 1)]), .fact 100043 (.obj 43 [(false, 1), (false, 1), (false, 1)]), .fact 100059 (.obj 59 [(false, 1), (false, 1), (false, 1)]), .fact 100070 (.obj 70 [(false, 1), (false, 1), (false, 1)])] _ _
    refine CWalk.seq ?_
    refine CWalk.seq ?_
    refine CWalk.region ?_
    refine mv ?_
    refine wo (Spec.fieldAddrO fd25_0 (Has.cv (Has.s rfl) (Cv.isvP rfl))) ?_
    refine wo (Spec.loadF (i := 0) ty22 rfl (Has.s rfl) rfl (HasG.s rfl)) ?_
    refine wo (Spec.lenLo (Has.s rfl) Try.underlying22) ?_
    refine wo (Spec.lssI (Has.s rfl) (Has.s rfl)) ?_
    refine Walk.nil ?_
    refine Leaf.thenN ?_
    refine CWalk.cond rfl (fun hb => ?_) (fun hb => ?_)
    ·have hm := cond_t hb hm
     refine CWalk.skip ?_
     refine Leaf.thenN ?_
     refine CWalk.seq ?_
     refine CWalk.block ?_
     refine CWalk.seq ?_
     refine CWalk.region ?_
     refine wo (Spec.assign Has.int) ?_
     refine Walk.nil ?_
     refine Leaf.thenN ?_
     refine CWalk.block ?_
     obtain ⟨b87, hb87, hm⟩ := bind_some hm
     refine CWalk.loop (fun s : Int => [.fact 1 (.isv 83), .fact 2 (.rep [] (s79 : Int)), .fact 3 (.rep [] (s : Int)), .fact 902002 (.cst (u1 2) (Fact.rep [0] (a2 : List UInt8))), .fact 902003 (.cst (u1 3) (Fact.isv 10)), .fact 902007 (.cst (u1 7) (Fact.isv 19)), .fact 902008 (.cst (u1 8) (Fact.rep [] ((Str.mk a2) : Str))), .fact 902013 (.cst (u1 13) (Fact.isv 43)), .fact 902017 (.cst (u1 17) (Fact.isv 59)), .fact 902021 (.cst (u1 21) (Fact.isv 70)), .fact 902025 (.cst (u1 25) (Fact.rep [] ((((((((x11 && (x3.2 == x4.2)) && x12) && (x5.2 == x6.2)) && x13) && (x7.2 == x8.2)) && x14) && (x9.2 == x10.2)) : Bool))), .fact 100084 (.at 84 (.lo [23, 24] x3.1.Blocks)), .fact 100085 (.at 85 (.ow [25] [26] 59 (x3.1.Wait : List Write))), .fact 100086 (.at 86 (.rep [] x3.1.Dead)), .fact 100011 (.at 11 (.rep [0] a0.Blocks)), .fact 100012 (.at 12 (.rep [0] a0.Wait)), .fact 100013 (.at 13 (.rep [] a0.Dead)), .fact 100020 (.at 20 (.ow [15] [16] 28 (x2.Blocks : List (List UInt8)))), .fact 100021 (.at 21 (.ow [17] [18] 59 (x2.Wait : List Write))), .fact 100022 (.at 22 (.rep [] x2.Dead)), .fact 100044 (.at 44 (.ow [39] [40] 28 (x5.1.Blocks : List (List UInt8)))), .fact 100045 (.at 45 (.ow [41] [42] 59 (x5.1.Wait : List Write))), .fact 100046 (.at 46 (.rep [] x5.1.Dead)), .fact 100060 (.at 60 (.ow [55] [56] 28 (x7.1.Blocks : List (List UInt8)))), .fact 100061 (.at 61 (.ow [57] [58] 59 (x7.1.Wait : List Write))), .fact 100062 (.at 62 (.rep [] x7.1.Dead)), .fact 100071 (.at 71 (.ow [69] [] 28 (x9.1.Blocks : List (List UInt8)))), .fact 100072 (.at 72 (.ow [69] [] 59 (x9.1.Wait : List Write))), .fact 100073 (.at 73 (.rep [] x9.1.Dead)), .fact 100083 (.obj 83 [(false, 1), (false, 1), (false, 1)]), .fact 100010 (.obj 10 [(false, 1), (false, 1), (false, 1)]), .fact 100019 (.obj 19 [(false, 1), (false, 1), (false, 1)]), .fact 100043 (.obj 43 [(false, 1), (false, 1), (false, 1)]), .fact 100059 (.obj 59 [(false, 1), (false, 1), (false, 1)]), .fact 100070 (.obj 70 [(false, 1), (false, 1), (false, 1)])]) (fun b : Unit => (Exit.exit 2, [.fact 1 (.isv 83), .fact 2 (.rep [] (s79 : Int)), .fact 902002 (.cst (u1 2) (Fact.rep [0] (a2 : List UInt8))), .fact 902003 (.cst (u1 3) (Fact.isv 10)), .fact 902007 (.cst (u1 7) (Fact.isv 19)), .fact 902008 (.cst (u1 8) (Fact.rep [] ((Str.mk a2) : Str))), .fact 902013 (.cst (u1 13) (Fact.isv 43)), .fact 902017 (.cst (u1 17) (Fact.isv 59)), .fact 902021 (.cst (u1 21) (Fact.isv 70)), .fact 902025 (.cst (u1 25) (Fact.rep [] ((((((((x11 && (x3.2 == x4.2)) && x12) && (x5.2 == x6.2)) && x13) && (x7.2 == x8.2)) && x14) && (x9.2 == x10.2)) : Bool))), .fact 100084 (.at 84 (.lo [23, 24] x3.1.Blocks)), .fact 100085 (.at 85 (.ow [25] [26] 59 (x3.1.Wait : List Write))), .fact 100086 (.at 86 (.rep [] x3.1.Dead)), .fact 100011 (.at 11 (.rep [0] a0.Blocks)), .fact 100012 (.at 12 (.rep [0] a0.Wait)), .fact 100013 (.at 13 (.rep [] a0.Dead)), .fact 100020 (.at 20 (.ow [15] [16] 28 (x2.Blocks : List (List UInt8)))), .fact 100021 (.at 21 (.ow [17] [18] 59 (x2.Wait : List Write))), .fact 100022 (.at 22 (.rep [] x2.Dead)), .fact 100044 (.at 44 (.ow [39] [40] 28 (x5.1.Blocks : List (List UInt8)))), .fact 100045 (.at 45 (.ow [41] [42] 59 (x5.1.Wait : List Write))), .fact 100046 (.at 46 (.rep [] x5.1.Dead)), .fact 100060 (.at 60 (.ow [55] [56] 28 (x7.1.Blocks : List (List UInt8)))), .fact 100061 (.at 61 (.ow [57] [58] 59 (x7.1.Wait : List Write))), .fact 100062 (.at 62 (.rep [] x7.1.Dead)), .fact 100071 (.at 71 (.ow [69] [] 28 (x9.1.Blocks : List (List UInt8)))), .fact 100072 (.at 72 (.ow [69] [] 59 (x9.1.Wait : List Write))), .fact 100073 (.at 73 (.rep [] x9.1.Dead)), .fact 100083 (.obj 83 [(false, 1), (false, 1), (false, 1)]), .fact 100010 (.obj 10 [(false, 1), (false, 1), (false, 1)]), .fact 100019 (.obj 19 [(false, 1), (false, 1), (false, 1)]), .fact 100043 (.obj 43 [(false, 1), (false, 1), (false, 1)]), .fact 100059 (.obj 59 [(false, 1), (false, 1), (false, 1)]), .fact 100070 (.obj 70 [(false, 1), (false, 1), (false, 1)])])) hb87 (sn (st (st (Sub.cons (Has.cst (HasC.cv (HasC.s (s := 902002) rfl) (Cv.m rfl))) (sc (sc (Sub.cons (Has.cst (HasC.cv (HasC.s (s := 902008) rfl) Cv.fl)) (sc (sc (sc (Sub.cons (Has.cst (HasC.cv (HasC.s (s := 902025) rfl) Cv.fl)) (sg (Sub.cons (Has.at (HasG.cv (HasG.s rfl) (Cv.owM (T := [25]) (te := [26]) rfl rfl))) (sf (sm (sm (sf (Sub.cons (Has.at (HasG.cv (HasG.s rfl) (Cv.owM (T := [15]) (te := [16]) rfl rfl))) (Sub.cons (Has.at (HasG.cv (HasG.s rfl) (Cv.owM (T := [17]) (te := [18]) rfl rfl))) (sf (Sub.cons (Has.at (HasG.cv (HasG.s rfl) (Cv.owM (T := [39]) (te := [40]) rfl rfl))) (Sub.cons (Has.at (HasG.cv (HasG.s rfl) (Cv.owM (T := [41]) (te := [42]) rfl rfl))) (sf (Sub.cons (Has.at (HasG.cv (HasG.s rfl) (Cv.owM (T := [55]) (te := [56]) rfl rfl))) (Sub.cons (Has.at (HasG.cv (HasG.s rfl) (Cv.owM (T := [57]) (te := [58]) rfl rfl))) (sf (Sub.cons (Has.at (HasG.cv (HasG.s rfl) (Cv.owM (T := [69]) (te := []) rfl rfl))) (Sub.cons (Has.at (HasG.cv (HasG.s rfl) (Cv.owM (T := [69]) (te := []) rfl rfl))) (sf (sn (sn (sn (sn (sn (sn Sub.nil))))))))))))))))))))))))))))))))))) ?_ ?_
     ·rintro s81 c82 hm
      replace hm : law04_DiskTurns_L18 x3 s79 s81 = some c82 := hm
      unfold law04_DiskTurns_L18 at hm
      show CWalk _ [.fact 1 (.isv 83), .fact 2 (.rep [] (s79 : Int)), .fact 3 (.rep [] (s81 : Int)), .fact 902002 (.cst (u1 2) (Fact.rep [0] (a2 : List UInt8))), .fact 902003 (.cst (u1 3) (Fact.isv 10)), .fact 902007 (.cst (u1 7) (Fact.isv 19)), .fact 902008 (.cst (u1 8) (Fact.rep [] ((Str.mk a2) : Str))), .fact 902013 (.cst (u1 13) (Fact.isv 43)), .fact 902017 (.cst (u1 17) (Fact.isv 59)), .fact 902021 (.cst (u1 21) (Fact.isv 70)), .fact 902025 (.cst (u1 25) (Fact.rep [] ((((((((x11 && (x3.2 == x4.2)) && x12) && (x5.2 == x6.2)) && x13) && (x7.2 == x8.2)) && x14) && (x9.2 == x10.2)) : Bool))), .fact 100084 (.at 84 (.lo [23, 24] x3.1.Blocks)), .fact 100085 (.at 85 (.ow [25] [26] 59 (x3.1.Wait : List Write))), .fact 100086 (.at 86 (.rep [] x3.1.Dead)), .fact 100011 (.at 11 (.rep [0] a0.Blocks)), .fact 100012 (.at 12 (.rep [0] a0.Wait)), .fact 100013 (.at 13 (.rep [] a0.Dead)), .fact 100020 (.at 20 (.ow [15] [16] 28 (x2.Blocks : List (List UInt8)))), .fact 100021 (.at 21 (.ow [17] [18] 59 (x2.Wait : List Write))), .fact 100022 (.at 22 (.rep [] x2.Dead)), .fact 100044 (.at 44 (.ow [39] [40] 28 (x5.1.Blocks : List (List UInt8)))), .fact 100045 (.at 45 (.ow [41] [42] 59 (x5.1.Wait : List Write))), .fact 100046 (.at 46 (.rep [] x5.1.Dead)), .fact 100060 (.at 60 (.ow [55] [56] 28 (x7.1.Blocks : List (List UInt8)))), .fact 100061 (.at 61 (.ow [57] [58] 59 (x7.1.Wait : List Write))), .fact 100062 (.at 62 (.rep [] x7.1.Dead)), .fact 100071 (.at 71 (.ow [69] [] 28 (x9.1.Blocks : List (List UInt8)))), .fact 100072 (.at 72 (.ow [69] [] 59 (x9.1.Wait : List Write))), .fact 100073 (.at 73 (.rep [] x9.1.Dead)), .fact 100083 (.obj 83 [(false, 1), (false, 1), (false, 1)]), .fact 100010 (.obj 10 [(false, 1), (false, 1), (false, 1)]), .fact 100019 (.obj 19 [(false, 1), (false, 1), (false, 1)]), .fact 100043 (.obj 43 [(false, 1), (false, 1), (false, 1)]), .fact 100059 (.obj 59 [(false, 1), (false, 1), (false, 1)]), .fact 100070 (.obj 70 [(false, 1), (false, 1), (false, 1)])] _ _
      refine CWalk.seq ?_
      refine CWalk.seq ?_
      refine CWalk.region ?_
      refine mv ?_
      refine wo (Spec.fieldAddrO fd25_0 (Has.cv (Has.s rfl) (Cv.isvP rfl))) ?_
      refine wo (Spec.loadF (i := 0) ty22 rfl (Has.s rfl) rfl (HasG.s rfl)) ?_
      refine mv ?_
      obtain ⟨x83, hx83, hm⟩ := bind_some hm
      refine wo (Spec.idxLo hx83 sl22 (Has.s rfl) (Has.s rfl)) ?_
      refine wo (Spec.loadLo ty28 (Has.s rfl)) ?_
      refine wo (Spec.lenLo (Has.s rfl) Try.underlying28) ?_
      refine wo (Spec.lssI (Has.s rfl) (Has.s rfl)) ?_
      refine Walk.nil ?_
      refine Leaf.thenN ?_
      refine CWalk.cond rfl (fun hb => ?_) (fun hb => ?_)
      ·have hm := cond_t hb hm
       refine CWalk.skip ?_
       refine Leaf.thenN ?_
       refine CWalk.seq ?_
       refine CWalk.block ?_
       refine CWalk.region ?_
       refine wo (Spec.fieldAddrO fd25_0 (Has.cv (Has.s rfl) (Cv.isvP rfl))) ?_
       refine wo (Spec.loadF (i := 0) ty22 rfl (Has.s rfl) rfl (HasG.s rfl)) ?_
       refine mv ?_
       obtain ⟨x84, hx84, hm⟩ := bind_some hm
       refine wo (Spec.idxLo hx84 sl22 (Has.s rfl) (Has.s rfl)) ?_
       refine wo (Spec.loadLo ty28 (Has.s rfl)) ?_
       refine mv ?_
       obtain ⟨x85, hx85, hm⟩ := bind_some hm
       refine wo (Spec.idxLo hx85 sl28 (Has.s rfl) (Has.s rfl)) ?_
       refine wo (Spec.loadLo ty5 (Has.s rfl)) ?_
       refine wo (Spec.add8Lo (Has.s rfl) (Has.u8 1 rfl)) ?_
       obtain ⟨x86, hx86, hm⟩ := bind_some hm
       refine wo (Spec.idxLo hx86 sl28 (Has.s rfl) (Has.s rfl)) ?_
       refine ws (Step.storeL (T := [23, 24]) (LL := [.fact 100084 (.at 84 (.lo [23, 24] x3.1.Blocks))]) rfl ty5 (Has.s rfl) (Has.s rfl) (LooseL.loF rfl LooseL.nil)) ?_
       refine Walk.nil ?_
       refine Leaf.blockN ?_
       refine Leaf.thenN ?_
       refine CWalk.region ?_
       refine mv ?_
       refine wo (Spec.addI (Has.s rfl) Has.int) ?_
       refine wo (Spec.assign (Has.s rfl)) ?_
       refine Walk.nil ?_
       exact Leaf.next hm (sn (st (st (Sub.cons (Has.cst (HasC.cv (HasC.s (s := 902002) rfl) (Cv.m rfl))) (sc (sc (Sub.cons (Has.cst (HasC.cv (HasC.s (s := 902008) rfl) Cv.fl)) (sc (sc (sc (Sub.cons (Has.cst (HasC.cv (HasC.s (s := 902025) rfl) Cv.fl)) (sg (Sub.cons (Has.at (HasG.cv (HasG.s rfl) (Cv.owM (T := [25]) (te := [26]) rfl rfl))) (sf (sm (sm (sf (Sub.cons (Has.at (HasG.cv (HasG.s rfl) (Cv.owM (T := [15]) (te := [16]) rfl rfl))) (Sub.cons (Has.at (HasG.cv (HasG.s rfl) (Cv.owM (T := [17]) (te := [18]) rfl rfl))) (sf (Sub.cons (Has.at (HasG.cv (HasG.s rfl) (Cv.owM (T := [39]) (te := [40]) rfl rfl))) (Sub.cons (Has.at (HasG.cv (HasG.s rfl) (Cv.owM (T := [41]) (te := [42]) rfl rfl))) (sf (Sub.cons (Has.at (HasG.cv (HasG.s rfl) (Cv.owM (T := [55]) (te := [56]) rfl rfl))) (Sub.cons (Has.at (HasG.cv (HasG.s rfl) (Cv.owM (T := [57]) (te := [58]) rfl rfl))) (sf (Sub.cons (Has.at (HasG.cv (HasG.s rfl) (Cv.owM (T := [69]) (te := []) rfl rfl))) (Sub.cons (Has.at (HasG.cv (HasG.s rfl) (Cv.owM (T := [69]) (te := []) rfl rfl))) (sf (sn (sn (sn (sn (sn (sn Sub.nil)))))))))))))))))))))))))))))))))))
      ·have hm := cond_f hb hm
       refine CWalk.exit ?_
       refine Leaf.thenE ?_
       exact Leaf.brk hm (fun h => nomatch h) rfl (sn (st (Sub.cons (Has.cst (HasC.cv (HasC.s (s := 902002) rfl) (Cv.m rfl))) (sc (sc (Sub.cons (Has.cst (HasC.cv (HasC.s (s := 902008) rfl) Cv.fl)) (sc (sc (sc (Sub.cons (Has.cst (HasC.cv (HasC.s (s := 902025) rfl) Cv.fl)) (sg (Sub.cons (Has.at (HasG.cv (HasG.s rfl) (Cv.owM (T := [25]) (te := [26]) rfl rfl))) (sf (sm (sm (sf (Sub.cons (Has.at (HasG.cv (HasG.s rfl) (Cv.owM (T := [15]) (te := [16]) rfl rfl))) (Sub.cons (Has.at (HasG.cv (HasG.s rfl) (Cv.owM (T := [17]) (te := [18]) rfl rfl))) (sf (Sub.cons (Has.at (HasG.cv (HasG.s rfl) (Cv.owM (T := [39]) (te := [40]) rfl rfl))) (Sub.cons (Has.at (HasG.cv (HasG.s rfl) (Cv.owM (T := [41]) (te := [42]) rfl rfl))) (sf (Sub.cons (Has.at (HasG.cv (HasG.s rfl) (Cv.owM (T := [55]) (te := [56]) rfl rfl))) (Sub.cons (Has.at (HasG.cv (HasG.s rfl) (Cv.owM (T := [57]) (te := [58]) rfl rfl))) (sf (Sub.cons (Has.at (HasG.cv (HasG.s rfl) (Cv.owM (T := [69]) (te := []) rfl rfl))) (Sub.cons (Has.at (HasG.cv (HasG.s rfl) (Cv.owM (T := [69]) (te := []) rfl rfl))) (sf (sn (sn (sn (sn (sn (sn Sub.nil))))))))))))))))))))))))))))))))))
     ·intro _
      refine Leaf.blockE ?_
      refine Leaf.blockN ?_
      refine Leaf.thenN ?_
      refine CWalk.region ?_
      refine mv ?_
      refine wo (Spec.addI (Has.s rfl) Has.int) ?_
      refine wo (Spec.assign (Has.s rfl)) ?_
      refine Walk.nil ?_
      exact Leaf.next hm (sn (st (Sub.cons (Has.cst (HasC.cv (HasC.s (s := 902002) rfl) (Cv.m rfl))) (sc (sc (Sub.cons (Has.cst (HasC.cv (HasC.s (s := 902008) rfl) Cv.fl)) (sc (sc (sc (Sub.cons (Has.cst (HasC.cv (HasC.s (s := 902025) rfl) Cv.fl)) (sg (Sub.cons (Has.at (HasG.cv (HasG.s rfl) (Cv.owM (T := [25]) (te := [26]) rfl rfl))) (sf (sm (sm (sf (Sub.cons (Has.at (HasG.cv (HasG.s rfl) (Cv.owM (T := [15]) (te := [16]) rfl rfl))) (Sub.cons (Has.at (HasG.cv (HasG.s rfl) (Cv.owM (T := [17]) (te := [18]) rfl rfl))) (sf (Sub.cons (Has.at (HasG.cv (HasG.s rfl) (Cv.owM (T := [39]) (te := [40]) rfl rfl))) (Sub.cons (Has.at (HasG.cv (HasG.s rfl) (Cv.owM (T := [41]) (te := [42]) rfl rfl))) (sf (Sub.cons (Has.at (HasG.cv (HasG.s rfl) (Cv.owM (T := [55]) (te := [56]) rfl rfl))) (Sub.cons (Has.at (HasG.cv (HasG.s rfl) (Cv.owM (T := [57]) (te := [58]) rfl rfl))) (sf (Sub.cons (Has.at (HasG.cv (HasG.s rfl) (Cv.owM (T := [69]) (te := []) rfl rfl))) (Sub.cons (Has.at (HasG.cv (HasG.s rfl) (Cv.owM (T := [69]) (te := []) rfl rfl))) (sf (sn (sn (sn (sn (sn (sn Sub.nil))))))))))))))))))))))))))))))))))
    ·have hm := cond_f hb hm
     refine CWalk.exit ?_
     refine Leaf.thenE ?_
     exact Leaf.brk hm (fun h => nomatch h) rfl (sn (Sub.cons (Has.cst (HasC.cv (HasC.s (s := 902002) rfl) (Cv.m rfl))) (sc (sc (Sub.cons (Has.cst (HasC.cv (HasC.s (s := 902008) rfl) Cv.fl)) (sc (sc (sc (Sub.cons (Has.cst (HasC.cv (HasC.s (s := 902025) rfl) Cv.fl)) (sg (Sub.cons (Has.at (HasG.cv (HasG.s rfl) (Cv.owM (T := [25]) (te := [26]) rfl rfl))) (sf (sm (sm (sf (Sub.cons (Has.at (HasG.cv (HasG.s rfl) (Cv.owM (T := [15]) (te := [16]) rfl rfl))) (Sub.cons (Has.at (HasG.cv (HasG.s rfl) (Cv.owM (T := [17]) (te := [18]) rfl rfl))) (sf (Sub.cons (Has.at (HasG.cv (HasG.s rfl) (Cv.owM (T := [39]) (te := [40]) rfl rfl))) (Sub.cons (Has.at (HasG.cv (HasG.s rfl) (Cv.owM (T := [41]) (te := [42]) rfl rfl))) (sf (Sub.cons (Has.at (HasG.cv (HasG.s rfl) (Cv.owM (T := [55]) (te := [56]) rfl rfl))) (Sub.cons (Has.at (HasG.cv (HasG.s rfl) (Cv.owM (T := [57]) (te := [58]) rfl rfl))) (sf (Sub.cons (Has.at (HasG.cv (HasG.s rfl) (Cv.owM (T := [69]) (te := []) rfl rfl))) (Sub.cons (Has.at (HasG.cv (HasG.s rfl) (Cv.owM (T := [69]) (te := []) rfl rfl))) (sf (sn (sn (sn (sn (sn (sn Sub.nil)))))))))))))))))))))))))))))))))
   ·intro _
    refine Leaf.blockE ?_
    refine Leaf.thenN ?_
    refine CWalk.seq ?_
    refine CWalk.region ?_
    refine wo (Spec.assign Has.int) ?_
    refine Walk.nil ?_
    refine Leaf.thenN ?_
    refine CWalk.block ?_
    obtain ⟨b99, hb99, hm⟩ := bind_some hm
    refine CWalk.loop (fun s : Int => [.fact 1 (.isv 83), .fact 4 (.rep [] (s : Int)), .fact 902002 (.cst (u1 2) (Fact.rep [0] (a2 : List UInt8))), .fact 902003 (.cst (u1 3) (Fact.isv 10)), .fact 902007 (.cst (u1 7) (Fact.isv 19)), .fact 902008 (.cst (u1 8) (Fact.rep [] ((Str.mk a2) : Str))), .fact 902013 (.cst (u1 13) (Fact.isv 43)), .fact 902017 (.cst (u1 17) (Fact.isv 59)), .fact 902021 (.cst (u1 21) (Fact.isv 70)), .fact 902025 (.cst (u1 25) (Fact.rep [] ((((((((x11 && (x3.2 == x4.2)) && x12) && (x5.2 == x6.2)) && x13) && (x7.2 == x8.2)) && x14) && (x9.2 == x10.2)) : Bool))), .fact 100084 (.at 84 (.lo [23, 24] x3.1.Blocks)), .fact 100085 (.at 85 (.lo [25, 26] x3.1.Wait)), .fact 100086 (.at 86 (.rep [] x3.1.Dead)), .fact 100011 (.at 11 (.rep [0] a0.Blocks)), .fact 100012 (.at 12 (.rep [0] a0.Wait)), .fact 100013 (.at 13 (.rep [] a0.Dead)), .fact 100020 (.at 20 (.ow [15] [16] 28 (x2.Blocks : List (List UInt8)))), .fact 100021 (.at 21 (.ow [17] [18] 59 (x2.Wait : List Write))), .fact 100022 (.at 22 (.rep [] x2.Dead)), .fact 100044 (.at 44 (.ow [39] [40] 28 (x5.1.Blocks : List (List UInt8)))), .fact 100045 (.at 45 (.ow [41] [42] 59 (x5.1.Wait : List Write))), .fact 100046 (.at 46 (.rep [] x5.1.Dead)), .fact 100060 (.at 60 (.ow [55] [56] 28 (x7.1.Blocks : List (List UInt8)))), .fact 100061 (.at 61 (.ow [57] [58] 59 (x7.1.Wait : List Write))), .fact 100062 (.at 62 (.rep [] x7.1.Dead)), .fact 100071 (.at 71 (.ow [69] [] 28 (x9.1.Blocks : List (List UInt8)))), .fact 100072 (.at 72 (.ow [69] [] 59 (x9.1.Wait : List Write))), .fact 100073 (.at 73 (.rep [] x9.1.Dead)), .fact 100083 (.obj 83 [(false, 1), (false, 1), (false, 1)]), .fact 100010 (.obj 10 [(false, 1), (false, 1), (false, 1)]), .fact 100019 (.obj 19 [(false, 1), (false, 1), (false, 1)]), .fact 100043 (.obj 43 [(false, 1), (false, 1), (false, 1)]), .fact 100059 (.obj 59 [(false, 1), (false, 1), (false, 1)]), .fact 100070 (.obj 70 [(false, 1), (false, 1), (false, 1)])]) (fun b : Unit => (Exit.exit 4, [.fact 902002 (.cst (u1 2) (Fact.rep [0] (a2 : List UInt8))), .fact 902003 (.cst (u1 3) (Fact.isv 10)), .fact 902007 (.cst (u1 7) (Fact.isv 19)), .fact 902008 (.cst (u1 8) (Fact.rep [] ((Str.mk a2) : Str))), .fact 902013 (.cst (u1 13) (Fact.isv 43)), .fact 902017 (.cst (u1 17) (Fact.isv 59)), .fact 902021 (.cst (u1 21) (Fact.isv 70)), .fact 902025 (.cst (u1 25) (Fact.rep [] ((((((((x11 && (x3.2 == x4.2)) && x12) && (x5.2 == x6.2)) && x13) && (x7.2 == x8.2)) && x14) && (x9.2 == x10.2)) : Bool))), .fact 100011 (.at 11 (.rep [0] a0.Blocks)), .fact 100012 (.at 12 (.rep [0] a0.Wait)), .fact 100013 (.at 13 (.rep [] a0.Dead)), .fact 100020 (.at 20 (.ow [15] [16] 28 (x2.Blocks : List (List UInt8)))), .fact 100021 (.at 21 (.ow [17] [18] 59 (x2.Wait : List Write))), .fact 100022 (.at 22 (.rep [] x2.Dead)), .fact 100044 (.at 44 (.ow [39] [40] 28 (x5.1.Blocks : List (List UInt8)))), .fact 100045 (.at 45 (.ow [41] [42] 59 (x5.1.Wait : List Write))), .fact 100046 (.at 46 (.rep [] x5.1.Dead)), .fact 100060 (.at 60 (.ow [55] [56] 28 (x7.1.Blocks : List (List UInt8)))), .fact 100061 (.at 61 (.ow [57] [58] 59 (x7.1.Wait : List Write))), .fact 100062 (.at 62 (.rep [] x7.1.Dead)), .fact 100071 (.at 71 (.ow [69] [] 28 (x9.1.Blocks : List (List UInt8)))), .fact 100072 (.at 72 (.ow [69] [] 59 (x9.1.Wait : List Write))), .fact 100073 (.at 73 (.rep [] x9.1.Dead)), .fact 100010 (.obj 10 [(false, 1), (false, 1), (false, 1)]), .fact 100019 (.obj 19 [(false, 1), (false, 1), (false, 1)]), .fact 100043 (.obj 43 [(false, 1), (false, 1), (false, 1)]), .fact 100059 (.obj 59 [(false, 1), (false, 1), (false, 1)]), .fact 100070 (.obj 70 [(false, 1), (false, 1), (false, 1)])])) hb99 (sn (st (Sub.cons (Has.cst (HasC.cv (HasC.s (s := 902002) rfl) (Cv.m rfl))) (sc (sc (Sub.cons (Has.cst (HasC.cv (HasC.s (s := 902008) rfl) Cv.fl)) (sc (sc (sc (Sub.cons (Has.cst (HasC.cv (HasC.s (s := 902025) rfl) Cv.fl)) (sg (Sub.cons (Has.at (HasG.cv (HasG.s rfl) (Cv.trans (Cv.trans Cv.owSl (Cv.slRep (T' := [25, 26]) rfl rfl)) (Cv.lo rfl)))) (sf (sm (sm (sf (Sub.cons (Has.at (HasG.cv (HasG.s rfl) (Cv.owM (T := [15]) (te := [16]) rfl rfl))) (Sub.cons (Has.at (HasG.cv (HasG.s rfl) (Cv.owM (T := [17]) (te := [18]) rfl rfl))) (sf (Sub.cons (Has.at (HasG.cv (HasG.s rfl) (Cv.owM (T := [39]) (te := [40]) rfl rfl))) (Sub.cons (Has.at (HasG.cv (HasG.s rfl) (Cv.owM (T := [41]) (te := [42]) rfl rfl))) (sf (Sub.cons (Has.at (HasG.cv (HasG.s rfl) (Cv.owM (T := [55]) (te := [56]) rfl rfl))) (Sub.cons (Has.at (HasG.cv (HasG.s rfl) (Cv.owM (T := [57]) (te := [58]) rfl rfl))) (sf (Sub.cons (Has.at (HasG.cv (HasG.s rfl) (Cv.owM (T := [69]) (te := []) rfl rfl))) (Sub.cons (Has.at (HasG.cv (HasG.s rfl) (Cv.owM (T := [69]) (te := []) rfl rfl))) (sf (sn (sn (sn (sn (sn (sn Sub.nil)))))))))))))))))))))))))))))))))) ?_ ?_
    ·rintro s89 c90 hm
     replace hm : law04_DiskTurns_L19 x3 s89 = some c90 := hm
     unfold law04_DiskTurns_L19 at hm
     show CWalk _ [.fact 1 (.isv 83), .fact 4 (.rep [] (s89 : Int)), .fact 902002 (.cst (u1 2) (Fact.rep [0] (a2 : List UInt8))), .fact 902003 (.cst (u1 3) (Fact.isv 10)), .fact 902007 (.cst (u1 7) (Fact.isv 19)), .fact 902008 (.cst (u1 8) (Fact.rep [] ((Str.mk a2) : Str))), .fact 902013 (.cst (u1 13) (Fact.isv 43)), .fact 902017 (.cst (u1 17) (Fact.isv 59)), .fact 902021 (.cst (u1 21) (Fact.isv 70)), .fact 902025 (.cst (u1 25) (Fact.rep [] ((((((((x11 && (x3.2 == x4.2)) && x12) && (x5.2 == x6.2)) && x13) && (x7.2 == x8.2)) && x14) && (x9.2 == x10.2)) : Bool))), .fact 100084 (.at 84 (.lo [23, 24] x3.1.Blocks)), .fact 100085 (.at 85 (.lo [25, 26] x3.1.Wait)), .fact 100086 (.at 86 (.rep [] x3.1.Dead)), .fact 100011 (.at 11 (.rep [0] a0.Blocks)), .fact 100012 (.at 12 (.rep [0] a0.Wait)), .fact 100013 (.at 13 (.rep [] a0.Dead)), .fact 100020 (.at 20 (.ow [15] [16] 28 (x2.Blocks : List (List UInt8)))), .fact 100021 (.at 21 (.ow [17] [18] 59 (x2.Wait : List Write))), .fact 100022 (.at 22 (.rep [] x2.Dead)), .fact 100044 (.at 44 (.ow [39] [40] 28 (x5.1.Blocks : List (List UInt8)))), .fact 100045 (.at 45 (.ow [41] [42] 59 (x5.1.Wait : List Write))), .fact 100046 (.at 46 (.rep [] x5.1.Dead)), .fact 100060 (.at 60 (.ow [55] [56] 28 (x7.1.Blocks : List (List UInt8)))), .fact 100061 (.at 61 (.ow [57] [58] 59 (x7.1.Wait : List Write))), .fact 100062 (.at 62 (.rep [] x7.1.Dead)), .fact 100071 (.at 71 (.ow [69] [] 28 (x9.1.Blocks : List (List UInt8)))), .fact 100072 (.at 72 (.ow [69] [] 59 (x9.1.Wait : List Write))), .fact 100073 (.at 73 (.rep [] x9.1.Dead)), .fact 100083 (.obj 83 [(false, 1), (false, 1), (false, 1)]), .fact 100010 (.obj 10 [(false, 1), (false, 1), (false, 1)]), .fact 100019 (.obj 19 [(false, 1), (false, 1), (false, 1)]), .fact 100043 (.obj 43 [(false, 1), (false, 1), (false, 1)]), .fact 100059 (.obj 59 [(false, 1), (false, 1), (false, 1)]), .fact 100070 (.obj 70 [(false, 1), (false, 1), (false, 1)])] _ _
     refine CWalk.seq ?_
     refine CWalk.seq ?_
     refine CWalk.region ?_
     refine mv ?_
     refine wo (Spec.fieldAddrO fd25_1 (Has.cv (Has.s rfl) (Cv.isvP rfl))) ?_
     refine wo (Spec.loadF (i := 1) ty23 rfl (Has.s rfl) rfl (HasG.s rfl)) ?_
     refine wo (Spec.lenLo (Has.s rfl) Try.underlying23) ?_
     refine wo (Spec.lssI (Has.s rfl) (Has.s rfl)) ?_
     refine Walk.nil ?_
     refine Leaf.thenN ?_
     refine CWalk.cond rfl (fun hb => ?_) (fun hb => ?_)
     ·have hm := cond_t hb hm
      refine CWalk.skip ?_
      refine Leaf.thenN ?_
      refine CWalk.seq ?_
      refine CWalk.block ?_
      refine CWalk.seq ?_
      refine CWalk.region ?_
      refine wo (Spec.fieldAddrO fd25_1 (Has.cv (Has.s rfl) (Cv.isvP rfl))) ?_
      refine wo (Spec.loadF (i := 1) ty23 rfl (Has.s rfl) rfl (HasG.s rfl)) ?_
      refine mv ?_
      obtain ⟨x91, hx91, hm⟩ := bind_some hm
      refine wo (Spec.idxLo hx91 sl23 (Has.s rfl) (Has.s rfl)) ?_
      refine wo (Spec.fieldLo fd59_0 (loWrite_0 _) (Has.s rfl)) ?_
      refine ws (Step.storeL (T := [25, 26]) (Tx := []) (LL := [.fact 100085 (.at 85 (.lo [25, 26] x3.1.Wait))]) rfl ty3 (Has.s rfl) (Has.cv Has.int Cv.loF) (LooseL.loF rfl LooseL.nil)) ?_
      refine Walk.nil ?_
      refine Leaf.thenN ?_
      refine CWalk.seq ?_
      refine CWalk.region ?_
      refine wo (Spec.assign Has.int) ?_
      refine Walk.nil ?_
      refine Leaf.thenN ?_
      refine CWalk.block ?_
      obtain ⟨b98, hb98, hm⟩ := bind_some hm
      refine CWalk.loop (fun s : Int => [.fact 1 (.isv 83), .fact 4 (.rep [] (s89 : Int)), .fact 5 (.rep [] (s : Int)), .fact 902002 (.cst (u1 2) (Fact.rep [0] (a2 : List UInt8))), .fact 902003 (.cst (u1 3) (Fact.isv 10)), .fact 902007 (.cst (u1 7) (Fact.isv 19)), .fact 902008 (.cst (u1 8) (Fact.rep [] ((Str.mk a2) : Str))), .fact 902013 (.cst (u1 13) (Fact.isv 43)), .fact 902017 (.cst (u1 17) (Fact.isv 59)), .fact 902021 (.cst (u1 21) (Fact.isv 70)), .fact 902025 (.cst (u1 25) (Fact.rep [] ((((((((x11 && (x3.2 == x4.2)) && x12) && (x5.2 == x6.2)) && x13) && (x7.2 == x8.2)) && x14) && (x9.2 == x10.2)) : Bool))), .fact 100084 (.at 84 (.lo [23, 24] x3.1.Blocks)), .fact 100085 (.at 85 (.lo [25, 26] x3.1.Wait)), .fact 100086 (.at 86 (.rep [] x3.1.Dead)), .fact 100011 (.at 11 (.rep [0] a0.Blocks)), .fact 100012 (.at 12 (.rep [0] a0.Wait)), .fact 100013 (.at 13 (.rep [] a0.Dead)), .fact 100020 (.at 20 (.ow [15] [16] 28 (x2.Blocks : List (List UInt8)))), .fact 100021 (.at 21 (.ow [17] [18] 59 (x2.Wait : List Write))), .fact 100022 (.at 22 (.rep [] x2.Dead)), .fact 100044 (.at 44 (.ow [39] [40] 28 (x5.1.Blocks : List (List UInt8)))), .fact 100045 (.at 45 (.ow [41] [42] 59 (x5.1.Wait : List Write))), .fact 100046 (.at 46 (.rep [] x5.1.Dead)), .fact 100060 (.at 60 (.ow [55] [56] 28 (x7.1.Blocks : List (List UInt8)))), .fact 100061 (.at 61 (.ow [57] [58] 59 (x7.1.Wait : List Write))), .fact 100062 (.at 62 (.rep [] x7.1.Dead)), .fact 100071 (.at 71 (.ow [69] [] 28 (x9.1.Blocks : List (List UInt8)))), .fact 100072 (.at 72 (.ow [69] [] 59 (x9.1.Wait : List Write))), .fact 100073 (.at 73 (.rep [] x9.1.Dead)), .fact 100083 (.obj 83 [(false, 1), (false, 1), (false, 1)]), .fact 100010 (.obj 10 [(false, 1), (false, 1), (false, 1)]), .fact 100019 (.obj 19 [(false, 1), (false, 1), (false, 1)]), .fact 100043 (.obj 43 [(false, 1), (false, 1), (false, 1)]), .fact 100059 (.obj 59 [(false, 1), (false, 1), (false, 1)]), .fact 100070 (.obj 70 [(false, 1), (false, 1), (false, 1)])]) (fun b : Unit => (Exit.exit 6, [.fact 1 (.isv 83), .fact 4 (.rep [] (s89 : Int)), .fact 902002 (.cst (u1 2) (Fact.rep [0] (a2 : List UInt8))), .fact 902003 (.cst (u1 3) (Fact.isv 10)), .fact 902007 (.cst (u1 7) (Fact.isv 19)), .fact 902008 (.cst (u1 8) (Fact.rep [] ((Str.mk a2) : Str))), .fact 902013 (.cst (u1 13) (Fact.isv 43)), .fact 902017 (.cst (u1 17) (Fact.isv 59)), .fact 902021 (.cst (u1 21) (Fact.isv 70)), .fact 902025 (.cst (u1 25) (Fact.rep [] ((((((((x11 && (x3.2 == x4.2)) && x12) && (x5.2 == x6.2)) && x13) && (x7.2 == x8.2)) && x14) && (x9.2 == x10.2)) : Bool))), .fact 100084 (.at 84 (.lo [23, 24] x3.1.Blocks)), .fact 100085 (.at 85 (.lo [25, 26] x3.1.Wait)), .fact 100086 (.at 86 (.rep [] x3.1.Dead)), .fact 100011 (.at 11 (.rep [0] a0.Blocks)), .fact 100012 (.at 12 (.rep [0] a0.Wait)), .fact 100013 (.at 13 (.rep [] a0.Dead)), .fact 100020 (.at 20 (.ow [15] [16] 28 (x2.Blocks : List (List UInt8)))), .fact 100021 (.at 21 (.ow [17] [18] 59 (x2.Wait : List Write))), .fact 100022 (.at 22 (.rep [] x2.Dead)), .fact 100044 (.at 44 (.ow [39] [40] 28 (x5.1.Blocks : List (List UInt8)))), .fact 100045 (.at 45 (.ow [41] [42] 59 (x5.1.Wait : List Write))), .fact 100046 (.at 46 (.rep [] x5.1.Dead)), .fact 100060 (.at 60 (.ow [55] [56] 28 (x7.1.Blocks : List (List UInt8)))), .fact 100061 (.at 61 (.ow [57] [58] 59 (x7.1.Wait : List Write))), .fact 100062 (.at 62 (.rep [] x7.1.Dead)), .fact 100071 (.at 71 (.ow [69] [] 28 (x9.1.Blocks : List (List UInt8)))), .fact 100072 (.at 72 (.ow [69] [] 59 (x9.1.Wait : List Write))), .fact 100073 (.at 73 (.rep [] x9.1.Dead)), .fact 100083 (.obj 83 [(false, 1), (false, 1), (false, 1)]), .fact 100010 (.obj 10 [(false, 1), (false, 1), (false, 1)]), .fact 100019 (.obj 19 [(false, 1), (false, 1), (false, 1)]), .fact 100043 (.obj 43 [(false, 1), (false, 1), (false, 1)]), .fact 100059 (.obj 59 [(false, 1), (false, 1), (false, 1)]), .fact 100070 (.obj 70 [(false, 1), (false, 1), (false, 1)])])) hb98 (sn (st (st (Sub.cons (Has.cst (HasC.cv (HasC.s (s := 902002) rfl) (Cv.m rfl))) (sc (sc (Sub.cons (Has.cst (HasC.cv (HasC.s (s := 902008) rfl) Cv.fl)) (sc (sc (sc (Sub.cons (Has.cst (HasC.cv (HasC.s (s := 902025) rfl) Cv.fl)) (sg (sg (sf (sm (sm (sf (Sub.cons (Has.at (HasG.cv (HasG.s rfl) (Cv.owM (T := [15]) (te := [16]) rfl rfl))) (Sub.cons (Has.at (HasG.cv (HasG.s rfl) (Cv.owM (T := [17]) (te := [18]) rfl rfl))) (sf (Sub.cons (Has.at (HasG.cv (HasG.s rfl) (Cv.owM (T := [39]) (te := [40]) rfl rfl))) (Sub.cons (Has.at (HasG.cv (HasG.s rfl) (Cv.owM (T := [41]) (te := [42]) rfl rfl))) (sf (Sub.cons (Has.at (HasG.cv (HasG.s rfl) (Cv.owM (T := [55]) (te := [56]) rfl rfl))) (Sub.cons (Has.at (HasG.cv (HasG.s rfl) (Cv.owM (T := [57]) (te := [58]) rfl rfl))) (sf (Sub.cons (Has.at (HasG.cv (HasG.s rfl) (Cv.owM (T := [69]) (te := []) rfl rfl))) (Sub.cons (Has.at (HasG.cv (HasG.s rfl) (Cv.owM (T := [69]) (te := []) rfl rfl))) (sf (sn (sn (sn (sn (sn (sn Sub.nil))))))))))))))))))))))))))))))))))) ?_ ?_
      ·rintro s92 c93 hm
       replace hm : law04_DiskTurns_L20 x3 s89 s92 = some c93 := hm
       unfold law04_DiskTurns_L20 at hm
       show CWalk _ [.fact 1 (.isv 83), .fact 4 (.rep [] (s89 : Int)), .fact 5 (.rep [] (s92 : Int)), .fact 902002 (.cst (u1 2) (Fact.rep [0] (a2 : List UInt8))), .fact 902003 (.cst (u1 3) (Fact.isv 10)), .fact 902007 (.cst (u1 7) (Fact.isv 19)), .fact 902008 (.cst (u1 8) (Fact.rep [] ((Str.mk a2) : Str))), .fact 902013 (.cst (u1 13) (Fact.isv 43)), .fact 902017 (.cst (u1 17) (Fact.isv 59)), .fact 902021 (.cst (u1 21) (Fact.isv 70)), .fact 902025 (.cst (u1 25) (Fact.rep [] ((((((((x11 && (x3.2 == x4.2)) && x12) && (x5.2 == x6.2)) && x13) && (x7.2 == x8.2)) && x14) && (x9.2 == x10.2)) : Bool))), .fact 100084 (.at 84 (.lo [23, 24] x3.1.Blocks)), .fact 100085 (.at 85 (.lo [25, 26] x3.1.Wait)), .fact 100086 (.at 86 (.rep [] x3.1.Dead)), .fact 100011 (.at 11 (.rep [0] a0.Blocks)), .fact 100012 (.at 12 (.rep [0] a0.Wait)), .fact 100013 (.at 13 (.rep [] a0.Dead)), .fact 100020 (.at 20 (.ow [15] [16] 28 (x2.Blocks : List (List UInt8)))), .fact 100021 (.at 21 (.ow [17] [18] 59 (x2.Wait : List Write))), .fact 100022 (.at 22 (.rep [] x2.Dead)), .fact 100044 (.at 44 (.ow [39] [40] 28 (x5.1.Blocks : List (List UInt8)))), .fact 100045 (.at 45 (.ow [41] [42] 59 (x5.1.Wait : List Write))), .fact 100046 (.at 46 (.rep [] x5.1.Dead)), .fact 100060 (.at 60 (.ow [55] [56] 28 (x7.1.Blocks : List (List UInt8)))), .fact 100061 (.at 61 (.ow [57] [58] 59 (x7.1.Wait : List Write))), .fact 100062 (.at 62 (.rep [] x7.1.Dead)), .fact 100071 (.at 71 (.ow [69] [] 28 (x9.1.Blocks : List (List UInt8)))), .fact 100072 (.at 72 (.ow [69] [] 59 (x9.1.Wait : List Write))), .fact 100073 (.at 73 (.rep [] x9.1.Dead)), .fact 100083 (.obj 83 [(false, 1), (false, 1), (false, 1)]), .fact 100010 (.obj 10 [(false, 1), (false, 1), (false, 1)]), .fact 100019 (.obj 19 [(false, 1), (false, 1), (false, 1)]), .fact 100043 (.obj 43 [(false, 1), (false, 1), (false, 1)]), .fact 100059 (.obj 59 [(false, 1), (false, 1), (false, 1)]), .fact 100070 (.obj 70 [(false, 1), (false, 1), (false, 1)])] _ _
       refine CWalk.seq ?_
       refine CWalk.seq ?_
       refine CWalk.region ?_
       refine mv ?_
       refine wo (Spec.fieldAddrO fd25_1 (Has.cv (Has.s rfl) (Cv.isvP rfl))) ?_
       refine wo (Spec.loadF (i := 1) ty23 rfl (Has.s rfl) rfl (HasG.s rfl)) ?_
       refine mv ?_
       obtain ⟨x94, hx94, hm⟩ := bind_some hm
       refine wo (Spec.idxLo hx94 sl23 (Has.s rfl) (Has.s rfl)) ?_
       refine wo (Spec.fieldLo fd59_1 (loWrite_1 _) (Has.s rfl)) ?_
       refine wo (Spec.loadLo ty28 (Has.s rfl)) ?_
       refine wo (Spec.lenLo (Has.s rfl) Try.underlying28) ?_
       refine wo (Spec.lssI (Has.s rfl) (Has.s rfl)) ?_
       refine Walk.nil ?_
       refine Leaf.thenN ?_
       refine CWalk.cond rfl (fun hb => ?_) (fun hb => ?_)
       ·have hm := cond_t hb hm
        refine CWalk.skip ?_
        refine Leaf.thenN ?_
        refine CWalk.seq ?_
        refine CWalk.block ?_
        refine CWalk.region ?_
        refine wo (Spec.fieldAddrO fd25_1 (Has.cv (Has.s rfl) (Cv.isvP rfl))) ?_
        refine wo (Spec.loadF (i := 1) ty23 rfl (Has.s rfl) rfl (HasG.s rfl)) ?_
        refine mv ?_
        obtain ⟨x95, hx95, hm⟩ := bind_some hm
        refine wo (Spec.idxLo hx95 sl23 (Has.s rfl) (Has.s rfl)) ?_
        refine wo (Spec.fieldLo fd59_1 (loWrite_1 _) (Has.s rfl)) ?_
        refine wo (Spec.loadLo ty28 (Has.s rfl)) ?_
        refine mv ?_
        obtain ⟨x96, hx96, hm⟩ := bind_some hm
        refine wo (Spec.idxLo hx96 sl28 (Has.s rfl) (Has.s rfl)) ?_
        refine wo (Spec.loadLo ty5 (Has.s rfl)) ?_
        refine wo (Spec.add8Lo (Has.s rfl) (Has.u8 1 rfl)) ?_
        obtain ⟨x97, hx97, hm⟩ := bind_some hm
        refine wo (Spec.idxLo hx97 sl28 (Has.s rfl) (Has.s rfl)) ?_
        refine ws (Step.storeL (T := [25, 26]) (LL := [.fact 100085 (.at 85 (.lo [25, 26] x3.1.Wait))]) rfl ty5 (Has.s rfl) (Has.s rfl) (LooseL.loF rfl LooseL.nil)) ?_
        refine Walk.nil ?_
        refine Leaf.blockN ?_
        refine Leaf.thenN ?_
        refine CWalk.region ?_
        refine mv ?_
        refine wo (Spec.addI (Has.s rfl) Has.int) ?_
        refine wo (Spec.assign (Has.s rfl)) ?_
        refine Walk.nil ?_
        exact Leaf.next hm (sn (st (st (Sub.cons (Has.cst (HasC.cv (HasC.s (s := 902002) rfl) (Cv.m rfl))) (sc (sc (Sub.cons (Has.cst (HasC.cv (HasC.s (s := 902008) rfl) Cv.fl)) (sc (sc (sc (Sub.cons (Has.cst (HasC.cv (HasC.s (s := 902025) rfl) Cv.fl)) (sg (sg (sf (sm (sm (sf (Sub.cons (Has.at (HasG.cv (HasG.s rfl) (Cv.owM (T := [15]) (te := [16]) rfl rfl))) (Sub.cons (Has.at (HasG.cv (HasG.s rfl) (Cv.owM (T := [17]) (te := [18]) rfl rfl))) (sf (Sub.cons (Has.at (HasG.cv (HasG.s rfl) (Cv.owM (T := [39]) (te := [40]) rfl rfl))) (Sub.cons (Has.at (HasG.cv (HasG.s rfl) (Cv.owM (T := [41]) (te := [42]) rfl rfl))) (sf (Sub.cons (Has.at (HasG.cv (HasG.s rfl) (Cv.owM (T := [55]) (te := [56]) rfl rfl))) (Sub.cons (Has.at (HasG.cv (HasG.s rfl) (Cv.owM (T := [57]) (te := [58]) rfl rfl))) (sf (Sub.cons (Has.at (HasG.cv (HasG.s rfl) (Cv.owM (T := [69]) (te := []) rfl rfl))) (Sub.cons (Has.at (HasG.cv (HasG.s rfl) (Cv.owM (T := [69]) (te := []) rfl rfl))) (sf (sn (sn (sn (sn (sn (sn Sub.nil)))))))))))))))))))))))))))))))))))
       ·have hm := cond_f hb hm
        refine CWalk.exit ?_
        refine Leaf.thenE ?_
        exact Leaf.brk hm (fun h => nomatch h) rfl (sn (st (Sub.cons (Has.cst (HasC.cv (HasC.s (s := 902002) rfl) (Cv.m rfl))) (sc (sc (Sub.cons (Has.cst (HasC.cv (HasC.s (s := 902008) rfl) Cv.fl)) (sc (sc (sc (Sub.cons (Has.cst (HasC.cv (HasC.s (s := 902025) rfl) Cv.fl)) (sg (sg (sf (sm (sm (sf (Sub.cons (Has.at (HasG.cv (HasG.s rfl) (Cv.owM (T := [15]) (te := [16]) rfl rfl))) (Sub.cons (Has.at (HasG.cv (HasG.s rfl) (Cv.owM (T := [17]) (te := [18]) rfl rfl))) (sf (Sub.cons (Has.at (HasG.cv (HasG.s rfl) (Cv.owM (T := [39]) (te := [40]) rfl rfl))) (Sub.cons (Has.at (HasG.cv (HasG.s rfl) (Cv.owM (T := [41]) (te := [42]) rfl rfl))) (sf (Sub.cons (Has.at (HasG.cv (HasG.s rfl) (Cv.owM (T := [55]) (te := [56]) rfl rfl))) (Sub.cons (Has.at (HasG.cv (HasG.s rfl) (Cv.owM (T := [57]) (te := [58]) rfl rfl))) (sf (Sub.cons (Has.at (HasG.cv (HasG.s rfl) (Cv.owM (T := [69]) (te := []) rfl rfl))) (Sub.cons (Has.at (HasG.cv (HasG.s rfl) (Cv.owM (T := [69]) (te := []) rfl rfl))) (sf (sn (sn (sn (sn (sn (sn Sub.nil))))))))))))))))))))))))))))))))))
      ·intro _
       refine Leaf.blockE ?_
       refine Leaf.blockN ?_
       refine Leaf.thenN ?_
       refine CWalk.region ?_
       refine mv ?_
       refine wo (Spec.addI (Has.s rfl) Has.int) ?_
       refine wo (Spec.assign (Has.s rfl)) ?_
       refine Walk.nil ?_
       exact Leaf.next hm (sn (st (Sub.cons (Has.cst (HasC.cv (HasC.s (s := 902002) rfl) (Cv.m rfl))) (sc (sc (Sub.cons (Has.cst (HasC.cv (HasC.s (s := 902008) rfl) Cv.fl)) (sc (sc (sc (Sub.cons (Has.cst (HasC.cv (HasC.s (s := 902025) rfl) Cv.fl)) (sg (sg (sf (sm (sm (sf (Sub.cons (Has.at (HasG.cv (HasG.s rfl) (Cv.owM (T := [15]) (te := [16]) rfl rfl))) (Sub.cons (Has.at (HasG.cv (HasG.s rfl) (Cv.owM (T := [17]) (te := [18]) rfl rfl))) (sf (Sub.cons (Has.at (HasG.cv (HasG.s rfl) (Cv.owM (T := [39]) (te := [40]) rfl rfl))) (Sub.cons (Has.at (HasG.cv (HasG.s rfl) (Cv.owM (T := [41]) (te := [42]) rfl rfl))) (sf (Sub.cons (Has.at (HasG.cv (HasG.s rfl) (Cv.owM (T := [55]) (te := [56]) rfl rfl))) (Sub.cons (Has.at (HasG.cv (HasG.s rfl) (Cv.owM (T := [57]) (te := [58]) rfl rfl))) (sf (Sub.cons (Has.at (HasG.cv (HasG.s rfl) (Cv.owM (T := [69]) (te := []) rfl rfl))) (Sub.cons (Has.at (HasG.cv (HasG.s rfl) (Cv.owM (T := [69]) (te := []) rfl rfl))) (sf (sn (sn (sn (sn (sn (sn Sub.nil))))))))))))))))))))))))))))))))))
     ·have hm := cond_f hb hm
      refine CWalk.exit ?_
      refine Leaf.thenE ?_
      exact Leaf.brk hm (fun h => nomatch h) rfl (Sub.cons (Has.cst (HasC.cv (HasC.s (s := 902002) rfl) (Cv.m rfl))) (sc (sc (Sub.cons (Has.cst (HasC.cv (HasC.s (s := 902008) rfl) Cv.fl)) (sc (sc (sc (Sub.cons (Has.cst (HasC.cv (HasC.s (s := 902025) rfl) Cv.fl)) (sm (sm (sf (Sub.cons (Has.at (HasG.cv (HasG.s rfl) (Cv.owM (T := [15]) (te := [16]) rfl rfl))) (Sub.cons (Has.at (HasG.cv (HasG.s rfl) (Cv.owM (T := [17]) (te := [18]) rfl rfl))) (sf (Sub.cons (Has.at (HasG.cv (HasG.s rfl) (Cv.owM (T := [39]) (te := [40]) rfl rfl))) (Sub.cons (Has.at (HasG.cv (HasG.s rfl) (Cv.owM (T := [41]) (te := [42]) rfl rfl))) (sf (Sub.cons (Has.at (HasG.cv (HasG.s rfl) (Cv.owM (T := [55]) (te := [56]) rfl rfl))) (Sub.cons (Has.at (HasG.cv (HasG.s rfl) (Cv.owM (T := [57]) (te := [58]) rfl rfl))) (sf (Sub.cons (Has.at (HasG.cv (HasG.s rfl) (Cv.owM (T := [69]) (te := []) rfl rfl))) (Sub.cons (Has.at (HasG.cv (HasG.s rfl) (Cv.owM (T := [69]) (te := []) rfl rfl))) (sf (sn (sn (sn (sn (sn Sub.nil))))))))))))))))))))))))))))
    ·intro _
     refine Leaf.blockE ?_
     exact Leaf.inN (Leaf.in0 (f0 := Fact.top) () hm rfl rfl (fun _ _ => trivial) (Low.slot rfl (HasC.cv (HasC.s (s := 902002) rfl) (Cv.m rfl)) (ls 902003 (ls 902007 (Low.slot rfl (HasC.cv (HasC.s (s := 902008) rfl) Cv.fl) (ls 902013 (ls 902017 (ls 902021 (Low.slot rfl (HasC.cv (HasC.s (s := 902025) rfl) Cv.fl) (Low.res (lm (lm (lf (Low.keepG (HasG.cv (HasG.s rfl) (Cv.owM (T := [15]) (te := [16]) rfl rfl)) (Low.keepG (HasG.cv (HasG.s rfl) (Cv.owM (T := [17]) (te := [18]) rfl rfl)) (lf (Low.keepG (HasG.cv (HasG.s rfl) (Cv.owM (T := [39]) (te := [40]) rfl rfl)) (Low.keepG (HasG.cv (HasG.s rfl) (Cv.owM (T := [41]) (te := [42]) rfl rfl)) (lf (Low.keepG (HasG.cv (HasG.s rfl) (Cv.owM (T := [55]) (te := [56]) rfl rfl)) (Low.keepG (HasG.cv (HasG.s rfl) (Cv.owM (T := [57]) (te := [58]) rfl rfl)) (lf (Low.keepG (HasG.cv (HasG.s rfl) (Cv.owM (T := [69]) (te := []) rfl rfl)) (Low.keepG (HasG.cv (HasG.s rfl) (Cv.owM (T := [69]) (te := []) rfl rfl)) (lf (lo (lo (lo (lo (lo Low.nil))))))))))))))))))))))))))))))
  ·rintro _ hm
   replace hm : law04_DiskTurns_J1 a0 a2 x2 x3 x4 x5 x6 x7 x8 x9 x10 x11 x12 x13 x14 = some r := hm
   unfold law04_DiskTurns_J1 at hm
   show Walk _ _ _ [.fact 2 (.rep [0] (a2 : List UInt8)), .fact 3 (.isv 10), .fact 7 (.isv 19), .fact 8 (.rep [] ((Str.mk a2) : Str)), .fact 13 (.isv 43), .fact 17 (.isv 59), .fact 21 (.isv 70), .fact 25 (.rep [] ((((((((x11 && (x3.2 == x4.2)) && x12) && (x5.2 == x6.2)) && x13) && (x7.2 == x8.2)) && x14) && (x9.2 == x10.2)) : Bool)), .fact 124 (.top), .fact 100011 (.at 11 (.rep [0] a0.Blocks)), .fact 100012 (.at 12 (.rep [0] a0.Wait)), .fact 100013 (.at 13 (.rep [] a0.Dead)), .fact 100020 (.at 20 (.ow [15] [16] 28 (x2.Blocks : List (List UInt8)))), .fact 100021 (.at 21 (.ow [17] [18] 59 (x2.Wait : List Write))), .fact 100022 (.at 22 (.rep [] x2.Dead)), .fact 100044 (.at 44 (.ow [39] [40] 28 (x5.1.Blocks : List (List UInt8)))), .fact 100045 (.at 45 (.ow [41] [42] 59 (x5.1.Wait : List Write))), .fact 100046 (.at 46 (.rep [] x5.1.Dead)), .fact 100060 (.at 60 (.ow [55] [56] 28 (x7.1.Blocks : List (List UInt8)))), .fact 100061 (.at 61 (.ow [57] [58] 59 (x7.1.Wait : List Write))), .fact 100062 (.at 62 (.rep [] x7.1.Dead)), .fact 100071 (.at 71 (.ow [69] [] 28 (x9.1.Blocks : List (List UInt8)))), .fact 100072 (.at 72 (.ow [69] [] 59 (x9.1.Wait : List Write))), .fact 100073 (.at 73 (.rep [] x9.1.Dead)), .fact 100010 (.obj 10 [(false, 1), (false, 1), (false, 1)]), .fact 100019 (.obj 19 [(false, 1), (false, 1), (false, 1)]), .fact 100043 (.obj 43 [(false, 1), (false, 1), (false, 1)]), .fact 100059 (.obj 59 [(false, 1), (false, 1), (false, 1)]), .fact 100070 (.obj 70 [(false, 1), (false, 1), (false, 1)])] _
   refine Walk.nil ?_
   refine Leaf.thenN ?_
   refine CWalk.seq ?_
   refine CWalk.region ?_
   refine wo (Spec.loadObj (ls := [(false, 1, Fact.ow [39] [40] 28 (x5.1.Blocks : List (List UInt8))), (false, 1, Fact.ow [41] [42] 59 (x5.1.Wait : List Write)), (false, 1, Fact.rep [] x5.1.Dead)]) ty25 rfl rfl (Has.s rfl) rfl (HasGs.cons (HasG.s rfl) (HasGs.cons (HasG.s rfl) (HasGs.cons (HasG.s rfl) HasGs.nil)))) ?_
   refine Walk.inline (S := Unit) (fun p : Unit => [.fact 2 (.rep [0] (a2 : List UInt8)), .fact 3 (.isv 10), .fact 7 (.isv 19), .fact 8 (.rep [] ((Str.mk a2) : Str)), .fact 17 (.isv 59), .fact 21 (.isv 70), .fact 25 (.rep [] ((((((((x11 && (x3.2 == x4.2)) && x12) && (x5.2 == x6.2)) && x13) && (x7.2 == x8.2)) && x14) && (x9.2 == x10.2)) : Bool)), .fact 126 (.top), .fact 100011 (.at 11 (.rep [0] a0.Blocks)), .fact 100012 (.at 12 (.rep [0] a0.Wait)), .fact 100013 (.at 13 (.rep [] a0.Dead)), .fact 100020 (.at 20 (.ow [15] [16] 28 (x2.Blocks : List (List UInt8)))), .fact 100021 (.at 21 (.ow [17] [18] 59 (x2.Wait : List Write))), .fact 100022 (.at 22 (.rep [] x2.Dead)), .fact 100060 (.at 60 (.ow [55] [56] 28 (x7.1.Blocks : List (List UInt8)))), .fact 100061 (.at 61 (.ow [57] [58] 59 (x7.1.Wait : List Write))), .fact 100062 (.at 62 (.rep [] x7.1.Dead)), .fact 100071 (.at 71 (.ow [69] [] 28 (x9.1.Blocks : List (List UInt8)))), .fact 100072 (.at 72 (.ow [69] [] 59 (x9.1.Wait : List Write))), .fact 100073 (.at 73 (.rep [] x9.1.Dead)), .fact 100010 (.obj 10 [(false, 1), (false, 1), (false, 1)]), .fact 100019 (.obj 19 [(false, 1), (false, 1), (false, 1)]), .fact 100059 (.obj 59 [(false, 1), (false, 1), (false, 1)]), .fact 100070 (.obj 70 [(false, 1), (false, 1), (false, 1)])]) (fun p : Unit => law04_DiskTurns_J2 a0 a2 x2 x3 x4 x5 x6 x7 x8 x9 x10 x11 x12 x13 x14 = some r) (fun u1 => [.fact 100011 (.at 11 (.rep [0] a0.Blocks)), .fact 100012 (.at 12 (.rep [0] a0.Wait)), .fact 100013 (.at 13 (.rep [] a0.Dead)), .fact 100020 (.at 20 (.ow [15] [16] 28 (x2.Blocks : List (List UInt8)))), .fact 100021 (.at 21 (.ow [17] [18] 59 (x2.Wait : List Write))), .fact 100022 (.at 22 (.rep [] x2.Dead)), .fact 100060 (.at 60 (.ow [55] [56] 28 (x7.1.Blocks : List (List UInt8)))), .fact 100061 (.at 61 (.ow [57] [58] 59 (x7.1.Wait : List Write))), .fact 100062 (.at 62 (.rep [] x7.1.Dead)), .fact 100071 (.at 71 (.ow [69] [] 28 (x9.1.Blocks : List (List UInt8)))), .fact 100072 (.at 72 (.ow [69] [] 59 (x9.1.Wait : List Write))), .fact 100073 (.at 73 (.rep [] x9.1.Dead)), .fact 902002 (.cst (u1 2) (Fact.rep [0] (a2 : List UInt8))), .fact 902003 (.cst (u1 3) (Fact.isv 10)), .fact 902007 (.cst (u1 7) (Fact.isv 19)), .fact 902008 (.cst (u1 8) (Fact.rep [] ((Str.mk a2) : Str))), .fact 902017 (.cst (u1 17) (Fact.isv 59)), .fact 902021 (.cst (u1 21) (Fact.isv 70)), .fact 902025 (.cst (u1 25) (Fact.rep [] ((((((((x11 && (x3.2 == x4.2)) && x12) && (x5.2 == x6.2)) && x13) && (x7.2 == x8.2)) && x14) && (x9.2 == x10.2)) : Bool))), .fact 100010 (.obj 10 [(false, 1), (false, 1), (false, 1)]), .fact 100019 (.obj 19 [(false, 1), (false, 1), (false, 1)]), .fact 100059 (.obj 59 [(false, 1), (false, 1), (false, 1)]), .fact 100070 (.obj 70 [(false, 1), (false, 1), (false, 1)])]) (FA := [Fact.flds [(false, 1, Fact.ow [39] [40] 28 (x5.1.Blocks : List (List UInt8))), (false, 1, Fact.ow [41] [42] 59 (x5.1.Wait : List Write)), (false, 1, Fact.rep [] x5.1.Dead)]]) rfl Try.func22 rfl rfl rfl (CallOk.fn en22 (HasF.cons (Has.s rfl) HasF.nil)) (fun u1 => (ck (ck (ck (ck (ck (ck (ck (ck (ck (ck (ck (ck (cs 902000 2 (cs 902000 3 (cs 902000 7 (cs 902000 8 (cs 902000 17 (cs 902000 21 (cs 902000 25 (ck (ck (ck (ck Carry.nil)))))))))))))))))))))))) (fun u1 => ?_) ?_
   ·refine CWalk.seq ?_
    refine CWalk.region ?_
    refine ws (Step.boxObj (ls := [(false, 1, Fact.ow [39] [40] 28 (x5.1.Blocks : List (List UInt8))), (false, 1, Fact.ow [41] [42] 59 (x5.1.Wait : List Write)), (false, 1, Fact.rep [] x5.1.Dead)]) 87 rfl rfl rfl rfl (HasL.flds (Has.s rfl))) ?_
    refine Walk.nil ?_
    refine Leaf.thenN ?_
    refine CWalk.seq ?_
    refine CWalk.seq ?_
    refine CWalk.region ?_
    refine wo (Spec.assign Has.int) ?_
    refine Walk.nil ?_
    refine Leaf.thenN ?_
    refine CWalk.block ?_
    obtain ⟨b67, hb67, hm⟩ := bind_some hm
    refine CWalk.loop (fun s : Int => [.fact 1 (.isv 87), .fact 2 (.rep [] (s : Int)), .fact 902002 (.cst (u1 2) (Fact.rep [0] (a2 : List UInt8))), .fact 902003 (.cst (u1 3) (Fact.isv 10)), .fact 902007 (.cst (u1 7) (Fact.isv 19)), .fact 902008 (.cst (u1 8) (Fact.rep [] ((Str.mk a2) : Str))), .fact 902017 (.cst (u1 17) (Fact.isv 59)), .fact 902021 (.cst (u1 21) (Fact.isv 70)), .fact 902025 (.cst (u1 25) (Fact.rep [] ((((((((x11 && (x3.2 == x4.2)) && x12) && (x5.2 == x6.2)) && x13) && (x7.2 == x8.2)) && x14) && (x9.2 == x10.2)) : Bool))), .fact 100088 (.at 88 (.lo [39, 40] x5.1.Blocks)), .fact 100089 (.at 89 (.ow [41] [42] 59 (x5.1.Wait : List Write))), .fact 100090 (.at 90 (.rep [] x5.1.Dead)), .fact 100011 (.at 11 (.rep [0] a0.Blocks)), .fact 100012 (.at 12 (.rep [0] a0.Wait)), .fact 100013 (.at 13 (.rep [] a0.Dead)), .fact 100020 (.at 20 (.ow [15] [16] 28 (x2.Blocks : List (List UInt8)))), .fact 100021 (.at 21 (.ow [17] [18] 59 (x2.Wait : List Write))), .fact 100022 (.at 22 (.rep [] x2.Dead)), .fact 100060 (.at 60 (.ow [55] [56] 28 (x7.1.Blocks : List (List UInt8)))), .fact 100061 (.at 61 (.ow [57] [58] 59 (x7.1.Wait : List Write))), .fact 100062 (.at 62 (.rep [] x7.1.Dead)), .fact 100071 (.at 71 (.ow [69] [] 28 (x9.1.Blocks : List (List UInt8)))), .fact 100072 (.at 72 (.ow [69] [] 59 (x9.1.Wait : List Write))), .fact 100073 (.at 73 (.rep [] x9.1.Dead)), .fact 100087 (.obj 87 [(false, 1), (false, 1), (false, 1)]), .fact 100010 (.obj 10 [(false, 1), (false, 1), (false, 1)]), .fact 100019 (.obj 19 [(false, 1), (false, 1), (false, 1)]), .fact 100059 (.obj 59 [(false, 1), (false, 1), (false, 1)]), .fact 100070 (.obj 70 [(false, 1), (false, 1), (false, 1)])]) (fun b : Unit => (Exit.exit 0, [.fact 1 (.isv 87), .fact 902002 (.cst (u1 2) (Fact.rep [0] (a2 : List UInt8))), .fact 902003 (.cst (u1 3) (Fact.isv 10)), .fact 902007 (.cst (u1 7) (Fact.isv 19)), .fact 902008 (.cst (u1 8) (Fact.rep [] ((Str.mk a2) : Str))), .fact 902017 (.cst (u1 17) (Fact.isv 59)), .fact 902021 (.cst (u1 21) (Fact.isv 70)), .fact 902025 (.cst (u1 25) (Fact.rep [] ((((((((x11 && (x3.2 == x4.2)) && x12) && (x5.2 == x6.2)) && x13) && (x7.2 == x8.2)) && x14) && (x9.2 == x10.2)) : Bool))), .fact 100088 (.at 88 (.lo [39, 40] x5.1.Blocks)), .fact 100089 (.at 89 (.ow [41] [42] 59 (x5.1.Wait : List Write))), .fact 100090 (.at 90 (.rep [] x5.1.Dead)), .fact 100011 (.at 11 (.rep [0] a0.Blocks)), .fact 100012 (.at 12 (.rep [0] a0.Wait)), .fact 100013 (.at 13 (.rep [] a0.Dead)), .fact 100020 (.at 20 (.ow [15] [16] 28 (x2.Blocks : List (List UInt8)))), .fact 100021 (.at 21 (.ow [17] [18] 59 (x2.Wait : List Write))), .fact 100022 (.at 22 (.rep [] x2.Dead)), .fact 100060 (.at 60 (.ow [55] [56] 28 (x7.1.Blocks : List (List UInt8)))), .fact 100061 (.at 61 (.ow [57] [58] 59 (x7.1.Wait : List Write))), .fact 100062 (.at 62 (.rep [] x7.1.Dead)), .fact 100071 (.at 71 (.ow [69] [] 28 (x9.1.Blocks : List (List UInt8)))), .fact 100072 (.at 72 (.ow [69] [] 59 (x9.1.Wait : List Write))), .fact 100073 (.at 73 (.rep [] x9.1.Dead)), .fact 100087 (.obj 87 [(false, 1), (false, 1), (false, 1)]), .fact 100010 (.obj 10 [(false, 1), (false, 1), (false, 1)]), .fact 100019 (.obj 19 [(false, 1), (false, 1), (false, 1)]), .fact 100059 (.obj 59 [(false, 1), (false, 1), (false, 1)]), .fact 100070 (.obj 70 [(false, 1), (false, 1), (false, 1)])])) hb67 (sn (st (Sub.cons (Has.cst (HasC.cv (HasC.s (s := 902002) rfl) (Cv.m rfl))) (sc (sc (Sub.cons (Has.cst (HasC.cv (HasC.s (s := 902008) rfl) Cv.fl)) (sc (sc (Sub.cons (Has.cst (HasC.cv (HasC.s (s := 902025) rfl) Cv.fl)) (Sub.cons (Has.at (HasG.cv (HasG.s rfl) (Cv.trans (Cv.trans Cv.owSl (Cv.slRep (T' := [39, 40]) rfl rfl)) (Cv.lo rfl)))) (Sub.cons (Has.at (HasG.cv (HasG.s rfl) (Cv.owM (T := [41]) (te := [42]) rfl rfl))) (sf (sm (sm (sf (Sub.cons (Has.at (HasG.cv (HasG.s rfl) (Cv.owM (T := [15]) (te := [16]) rfl rfl))) (Sub.cons (Has.at (HasG.cv (HasG.s rfl) (Cv.owM (T := [17]) (te := [18]) rfl rfl))) (sf (Sub.cons (Has.at (HasG.cv (HasG.s rfl) (Cv.owM (T := [55]) (te := [56]) rfl rfl))) (Sub.cons (Has.at (HasG.cv (HasG.s rfl) (Cv.owM (T := [57]) (te := [58]) rfl rfl))) (sf (Sub.cons (Has.at (HasG.cv (HasG.s rfl) (Cv.owM (T := [69]) (te := []) rfl rfl))) (Sub.cons (Has.at (HasG.cv (HasG.s rfl) (Cv.owM (T := [69]) (te := []) rfl rfl))) (sf (sn (sn (sn (sn (sn Sub.nil))))))))))))))))))))))))))))) ?_ ?_
    ·rintro s58 c59 hm
     replace hm : law04_DiskTurns_L13 x5 s58 = some c59 := hm
     unfold law04_DiskTurns_L13 at hm
     show CWalk _ [.fact 1 (.isv 87), .fact 2 (.rep [] (s58 : Int)), .fact 902002 (.cst (u1 2) (Fact.rep [0] (a2 : List UInt8))), .fact 902003 (.cst (u1 3) (Fact.isv 10)), .fact 902007 (.cst (u1 7) (Fact.isv 19)), .fact 902008 (.cst (u1 8) (Fact.rep [] ((Str.mk a2) : Str))), .fact 902017 (.cst (u1 17) (Fact.isv 59)), .fact 902021 (.cst (u1 21) (Fact.isv 70)), .fact 902025 (.cst (u1 25) (Fact.rep [] ((((((((x11 && (x3.2 == x4.2)) && x12) && (x5.2 == x6.2)) && x13) && (x7.2 == x8.2)) && x14) && (x9.2 == x10.2)) : Bool))), .fact 100088 (.at 88 (.lo [39, 40] x5.1.Blocks)), .fact 100089 (.at 89 (.ow [41] [42] 59 (x5.1.Wait : List Write))), .fact 100090 (.at 90 (.rep [] x5.1.Dead)), .fact 100011 (.at 11 (.rep [0] a0.Blocks)), .fact 100012 (.at 12 (.rep [0] a0.Wait)), .fact 100013 (.at 13 (.rep [] a0.Dead)), .fact 100020 (.at 20 (.ow [15] [16] 28 (x2.Blocks : List (List UInt8)))), .fact 100021 (.at 21 (.ow [17] [18] 59 (x2.Wait : List Write))), .fact 100022 (.at 22 (.rep [] x2.Dead)), .fact 100060 (.at 60 (.ow [55] [56] 28 (x7.1.Blocks : List (List UInt8)))), .fact 100061 (.at 61 (.ow [57] [58] 59 (x7.1.Wait : List Write))), .fact 100062 (.at 62 (.rep [] x7.1.Dead)), .fact 100071 (.at 71 (.ow [69] [] 28 (x9.1.Blocks : List (List UInt8)))), .fact 100072 (.at 72 (.ow [69] [] 59 (x9.1.Wait : List Write))), .fact 100073 (.at 73 (.rep [] x9.1.Dead)), .fact 100087 (.obj 87 [(false, 1), (false, 1), (false, 1)]), .fact 100010 (.obj 10 [(false, 1), (false, 1), (false, 1)]), .fact 100019 (.obj 19 [(false, 1), (false, 1), (false, 1)]), .fact 100059 (.obj 59 [(false, 1), (false, 1), (false, 1)]), .fact 100070 (.obj 70 [(false, 1), (false, 1), (false, 1)])] _ _
     refine CWalk.seq ?_
     refine CWalk.seq ?_
     refine CWalk.region ?_
     refine mv ?_
     refine wo (Spec.fieldAddrO fd25_0 (Has.cv (Has.s rfl) (Cv.isvP rfl))) ?_
     refine wo (Spec.loadF (i := 0) ty22 rfl (Has.s rfl) rfl (HasG.s rfl)) ?_
     refine wo (Spec.lenLo (Has.s rfl) Try.underlying22) ?_
     refine wo (Spec.lssI (Has.s rfl) (Has.s rfl)) ?_
     refine Walk.nil ?_
     refine Leaf.thenN ?_
     refine CWalk.cond rfl (fun hb => ?_) (fun hb => ?_)
     ·have hm := cond_t hb hm
      refine CWalk.skip ?_
      refine Leaf.thenN ?_
      refine CWalk.seq ?_
      refine CWalk.block ?_
      refine CWalk.seq ?_
      refine CWalk.region ?_
      refine wo (Spec.assign Has.int) ?_
      refine Walk.nil ?_
      refine Leaf.thenN ?_
      refine CWalk.block ?_
      obtain ⟨b66, hb66, hm⟩ := bind_some hm
      refine CWalk.loop (fun s : Int => [.fact 1 (.isv 87), .fact 2 (.rep [] (s58 : Int)), .fact 3 (.rep [] (s : Int)), .fact 902002 (.cst (u1 2) (Fact.rep [0] (a2 : List UInt8))), .fact 902003 (.cst (u1 3) (Fact.isv 10)), .fact 902007 (.cst (u1 7) (Fact.isv 19)), .fact 902008 (.cst (u1 8) (Fact.rep [] ((Str.mk a2) : Str))), .fact 902017 (.cst (u1 17) (Fact.isv 59)), .fact 902021 (.cst (u1 21) (Fact.isv 70)), .fact 902025 (.cst (u1 25) (Fact.rep [] ((((((((x11 && (x3.2 == x4.2)) && x12) && (x5.2 == x6.2)) && x13) && (x7.2 == x8.2)) && x14) && (x9.2 == x10.2)) : Bool))), .fact 100088 (.at 88 (.lo [39, 40] x5.1.Blocks)), .fact 100089 (.at 89 (.ow [41] [42] 59 (x5.1.Wait : List Write))), .fact 100090 (.at 90 (.rep [] x5.1.Dead)), .fact 100011 (.at 11 (.rep [0] a0.Blocks)), .fact 100012 (.at 12 (.rep [0] a0.Wait)), .fact 100013 (.at 13 (.rep [] a0.Dead)), .fact 100020 (.at 20 (.ow [15] [16] 28 (x2.Blocks : List (List UInt8)))), .fact 100021 (.at 21 (.ow [17] [18] 59 (x2.Wait : List Write))), .fact 100022 (.at 22 (.rep [] x2.Dead)), .fact 100060 (.at 60 (.ow [55] [56] 28 (x7.1.Blocks : List (List UInt8)))), .fact 100061 (.at 61 (.ow [57] [58] 59 (x7.1.Wait : List Write))), .fact 100062 (.at 62 (.rep [] x7.1.Dead)), .fact 100071 (.at 71 (.ow [69] [] 28 (x9.1.Blocks : List (List UInt8)))), .fact 100072 (.at 72 (.ow [69] [] 59 (x9.1.Wait : List Write))), .fact 100073 (.at 73 (.rep [] x9.1.Dead)), .fact 100087 (.obj 87 [(false, 1), (false, 1), (false, 1)]), .fact 100010 (.obj 10 [(false, 1), (false, 1), (false, 1)]), .fact 100019 (.obj 19 [(false, 1), (false, 1), (false, 1)]), .fact 100059 (.obj 59 [(false, 1), (false, 1), (false, 1)]), .fact 100070 (.obj 70 [(false, 1), (false, 1), (false, 1)])]) (fun b : Unit => (Exit.exit 2, [.fact 1 (.isv 87), .fact 2 (.rep [] (s58 : Int)), .fact 902002 (.cst (u1 2) (Fact.rep [0] (a2 : List UInt8))), .fact 902003 (.cst (u1 3) (Fact.isv 10)), .fact 902007 (.cst (u1 7) (Fact.isv 19)), .fact 902008 (.cst (u1 8) (Fact.rep [] ((Str.mk a2) : Str))), .fact 902017 (.cst (u1 17) (Fact.isv 59)), .fact 902021 (.cst (u1 21) (Fact.isv 70)), .fact 902025 (.cst (u1 25) (Fact.rep [] ((((((((x11 && (x3.2 == x4.2)) && x12) && (x5.2 == x6.2)) && x13) && (x7.2 == x8.2)) && x14) && (x9.2 == x10.2)) : Bool))), .fact 100088 (.at 88 (.lo [39, 40] x5.1.Blocks)), .fact 100089 (.at 89 (.ow [41] [42] 59 (x5.1.Wait : List Write))), .fact 100090 (.at 90 (.rep [] x5.1.Dead)), .fact 100011 (.at 11 (.rep [0] a0.Blocks)), .fact 100012 (.at 12 (.rep [0] a0.Wait)), .fact 100013 (.at 13 (.rep [] a0.Dead)), .fact 100020 (.at 20 (.ow [15] [16] 28 (x2.Blocks : List (List UInt8)))), .fact 100021 (.at 21 (.ow [17] [18] 59 (x2.Wait : List Write))), .fact 100022 (.at 22 (.rep [] x2.Dead)), .fact 100060 (.at 60 (.ow [55] [56] 28 (x7.1.Blocks : List (List UInt8)))), .fact 100061 (.at 61 (.ow [57] [58] 59 (x7.1.Wait : List Write))), .fact 100062 (.at 62 (.rep [] x7.1.Dead)), .fact 100071 (.at 71 (.ow [69] [] 28 (x9.1.Blocks : List (List UInt8)))), .fact 100072 (.at 72 (.ow [69] [] 59 (x9.1.Wait : List Write))), .fact 100073 (.at 73 (.rep [] x9.1.Dead)), .fact 100087 (.obj 87 [(false, 1), (false, 1), (false, 1)]), .fact 100010 (.obj 10 [(false, 1), (false, 1), (false, 1)]), .fact 100019 (.obj 19 [(false, 1), (false, 1), (false, 1)]), .fact 100059 (.obj 59 [(false, 1), (false, 1), (false, 1)]), .fact 100070 (.obj 70 [(false, 1), (false, 1), (false, 1)])])) hb66 (sn (st (st (Sub.cons (Has.cst (HasC.cv (HasC.s (s := 902002) rfl) (Cv.m rfl))) (sc (sc (Sub.cons (Has.cst (HasC.cv (HasC.s (s := 902008) rfl) Cv.fl)) (sc (sc (Sub.cons (Has.cst (HasC.cv (HasC.s (s := 902025) rfl) Cv.fl)) (sg (Sub.cons (Has.at (HasG.cv (HasG.s rfl) (Cv.owM (T := [41]) (te := [42]) rfl rfl))) (sf (sm (sm (sf (Sub.cons (Has.at (HasG.cv (HasG.s rfl) (Cv.owM (T := [15]) (te := [16]) rfl rfl))) (Sub.cons (Has.at (HasG.cv (HasG.s rfl) (Cv.owM (T := [17]) (te := [18]) rfl rfl))) (sf (Sub.cons (Has.at (HasG.cv (HasG.s rfl) (Cv.owM (T := [55]) (te := [56]) rfl rfl))) (Sub.cons (Has.at (HasG.cv (HasG.s rfl) (Cv.owM (T := [57]) (te := [58]) rfl rfl))) (sf (Sub.cons (Has.at (HasG.cv (HasG.s rfl) (Cv.owM (T := [69]) (te := []) rfl rfl))) (Sub.cons (Has.at (HasG.cv (HasG.s rfl) (Cv.owM (T := [69]) (te := []) rfl rfl))) (sf (sn (sn (sn (sn (sn Sub.nil)))))))))))))))))))))))))))))) ?_ ?_
      ·rintro s60 c61 hm
       replace hm : law04_DiskTurns_L14 x5 s58 s60 = some c61 := hm
       unfold law04_DiskTurns_L14 at hm
       show CWalk _ [.fact 1 (.isv 87), .fact 2 (.rep [] (s58 : Int)), .fact 3 (.rep [] (s60 : Int)), .fact 902002 (.cst (u1 2) (Fact.rep [0] (a2 : List UInt8))), .fact 902003 (.cst (u1 3) (Fact.isv 10)), .fact 902007 (.cst (u1 7) (Fact.isv 19)), .fact 902008 (.cst (u1 8) (Fact.rep [] ((Str.mk a2) : Str))), .fact 902017 (.cst (u1 17) (Fact.isv 59)), .fact 902021 (.cst (u1 21) (Fact.isv 70)), .fact 902025 (.cst (u1 25) (Fact.rep [] ((((((((x11 && (x3.2 == x4.2)) && x12) && (x5.2 == x6.2)) && x13) && (x7.2 == x8.2)) && x14) && (x9.2 == x10.2)) : Bool))), .fact 100088 (.at 88 (.lo [39, 40] x5.1.Blocks)), .fact 100089 (.at 89 (.ow [41] [42] 59 (x5.1.Wait : List Write))), .fact 100090 (.at 90 (.rep [] x5.1.Dead)), .fact 100011 (.at 11 (.rep [0] a0.Blocks)), .fact 100012 (.at 12 (.rep [0] a0.Wait)), .fact 100013 (.at 13 (.rep [] a0.Dead)), .fact 100020 (.at 20 (.ow [15] [16] 28 (x2.Blocks : List (List UInt8)))), .fact 100021 (.at 21 (.ow [17] [18] 59 (x2.Wait : List Write))), .fact 100022 (.at 22 (.rep [] x2.Dead)), .fact 100060 (.at 60 (.ow [55] [56] 28 (x7.1.Blocks : List (List UInt8)))), .fact 100061 (.at 61 (.ow [57] [58] 59 (x7.1.Wait : List Write))), .fact 100062 (.at 62 (.rep [] x7.1.Dead)), .fact 100071 (.at 71 (.ow [69] [] 28 (x9.1.Blocks : List (List UInt8)))), .fact 100072 (.at 72 (.ow [69] [] 59 (x9.1.Wait : List Write))), .fact 100073 (.at 73 (.rep [] x9.1.Dead)), .fact 100087 (.obj 87 [(false, 1), (false, 1), (false, 1)]), .fact 100010 (.obj 10 [(false, 1), (false, 1), (false, 1)]), .fact 100019 (.obj 19 [(false, 1), (false, 1), (false, 1)]), .fact 100059 (.obj 59 [(false, 1), (false, 1), (false, 1)]), .fact 100070 (.obj 70 [(false, 1), (false, 1), (false, 1)])] _ _
       refine CWalk.seq ?_
       refine CWalk.seq ?_
       refine CWalk.region ?_
       refine mv ?_
       refine wo (Spec.fieldAddrO fd25_0 (Has.cv (Has.s rfl) (Cv.isvP rfl))) ?_
       refine wo (Spec.loadF (i := 0) ty22 rfl (Has.s rfl) rfl (HasG.s rfl)) ?_
       refine mv ?_
       obtain ⟨x62, hx62, hm⟩ := bind_some hm
       refine wo (Spec.idxLo hx62 sl22 (Has.s rfl) (Has.s rfl)) ?_
       refine wo (Spec.loadLo ty28 (Has.s rfl)) ?_
       refine wo (Spec.lenLo (Has.s rfl) Try.underlying28) ?_
       refine wo (Spec.lssI (Has.s rfl) (Has.s rfl)) ?_
       refine Walk.nil ?_
       refine Leaf.thenN ?_
       refine CWalk.cond rfl (fun hb => ?_) (fun hb => ?_)
       ·have hm := cond_t hb hm
        refine CWalk.skip ?_
        refine Leaf.thenN ?_
        refine CWalk.seq ?_
        refine CWalk.block ?_
        refine CWalk.region ?_
        refine wo (Spec.fieldAddrO fd25_0 (Has.cv (Has.s rfl) (Cv.isvP rfl))) ?_
        refine wo (Spec.loadF (i := 0) ty22 rfl (Has.s rfl) rfl (HasG.s rfl)) ?_
        refine mv ?_
        obtain ⟨x63, hx63, hm⟩ := bind_some hm
        refine wo (Spec.idxLo hx63 sl22 (Has.s rfl) (Has.s rfl)) ?_
        refine wo (Spec.loadLo ty28 (Has.s rfl)) ?_
        refine mv ?_
        obtain ⟨x64, hx64, hm⟩ := bind_some hm
        refine wo (Spec.idxLo hx64 sl28 (Has.s rfl) (Has.s rfl)) ?_
        refine wo (Spec.loadLo ty5 (Has.s rfl)) ?_
        refine wo (Spec.add8Lo (Has.s rfl) (Has.u8 1 rfl)) ?_
        obtain ⟨x65, hx65, hm⟩ := bind_some hm
        refine wo (Spec.idxLo hx65 sl28 (Has.s rfl) (Has.s rfl)) ?_
        refine ws (Step.storeL (T := [39, 40]) (LL := [.fact 100088 (.at 88 (.lo [39, 40] x5.1.Blocks))]) rfl ty5 (Has.s rfl) (Has.s rfl) (LooseL.loF rfl LooseL.nil)) ?_
        refine Walk.nil ?_
        refine Leaf.blockN ?_
        refine Leaf.thenN ?_
        refine CWalk.region ?_
        refine mv ?_
        refine wo (Spec.addI (Has.s rfl) Has.int) ?_
        refine wo (Spec.assign (Has.s rfl)) ?_
        refine Walk.nil ?_
        exact Leaf.next hm (sn (st (st (Sub.cons (Has.cst (HasC.cv (HasC.s (s := 902002) rfl) (Cv.m rfl))) (sc (sc (Sub.cons (Has.cst (HasC.cv (HasC.s (s := 902008) rfl) Cv.fl)) (sc (sc (Sub.cons (Has.cst (HasC.cv (HasC.s (s := 902025) rfl) Cv.fl)) (sg (Sub.cons (Has.at (HasG.cv (HasG.s rfl) (Cv.owM (T := [41]) (te := [42]) rfl rfl))) (sf (sm (sm (sf (Sub.cons (Has.at (HasG.cv (HasG.s rfl) (Cv.owM (T := [15]) (te := [16]) rfl rfl))) (Sub.cons (Has.at (HasG.cv (HasG.s rfl) (Cv.owM (T := [17]) (te := [18]) rfl rfl))) (sf (Sub.cons (Has.at (HasG.cv (HasG.s rfl) (Cv.owM (T := [55]) (te := [56]) rfl rfl))) (Sub.cons (Has.at (HasG.cv (HasG.s rfl) (Cv.owM (T := [57]) (te := [58]) rfl rfl))) (sf (Sub.cons (Has.at (HasG.cv (HasG.s rfl) (Cv.owM (T := [69]) (te := []) rfl rfl))) (Sub.cons (Has.at (HasG.cv (HasG.s rfl) (Cv.owM (T := [69]) (te := []) rfl rfl))) (sf (sn (sn (sn (sn (sn Sub.nil))))))))))))))))))))))))))))))
       ·have hm := cond_f hb hm
        refine CWalk.exit ?_
        refine Leaf.thenE ?_
        exact Leaf.brk hm (fun h => nomatch h) rfl (sn (st (Sub.cons (Has.cst (HasC.cv (HasC.s (s := 902002) rfl) (Cv.m rfl))) (sc (sc (Sub.cons (Has.cst (HasC.cv (HasC.s (s := 902008) rfl) Cv.fl)) (sc (sc (Sub.cons (Has.cst (HasC.cv (HasC.s (s := 902025) rfl) Cv.fl)) (sg (Sub.cons (Has.at (HasG.cv (HasG.s rfl) (Cv.owM (T := [41]) (te := [42]) rfl rfl))) (sf (sm (sm (sf (Sub.cons (Has.at (HasG.cv (HasG.s rfl) (Cv.owM (T := [15]) (te := [16]) rfl rfl))) (Sub.cons (Has.at (HasG.cv (HasG.s rfl) (Cv.owM (T := [17]) (te := [18]) rfl rfl))) (sf (Sub.cons (Has.at (HasG.cv (HasG.s rfl) (Cv.owM (T := [55]) (te := [56]) rfl rfl))) (Sub.cons (Has.at (HasG.cv (HasG.s rfl) (Cv.owM (T := [57]) (te := [58]) rfl rfl))) (sf (Sub.cons (Has.at (HasG.cv (HasG.s rfl) (Cv.owM (T := [69]) (te := []) rfl rfl))) (Sub.cons (Has.at (HasG.cv (HasG.s rfl) (Cv.owM (T := [69]) (te := []) rfl rfl))) (sf (sn (sn (sn (sn (sn Sub.nil)))))))))))))))))))))))))))))
      ·intro _
       refine Leaf.blockE ?_
       refine Leaf.blockN ?_
       refine Leaf.thenN ?_
       refine CWalk.region ?_
       refine mv ?_
       refine wo (Spec.addI (Has.s rfl) Has.int) ?_
       refine wo (Spec.assign (Has.s rfl)) ?_
       refine Walk.nil ?_
       exact Leaf.next hm (sn (st (Sub.cons (Has.cst (HasC.cv (HasC.s (s := 902002) rfl) (Cv.m rfl))) (sc (sc (Sub.cons (Has.cst (HasC.cv (HasC.s (s := 902008) rfl) Cv.fl)) (sc (sc (Sub.cons (Has.cst (HasC.cv (HasC.s (s := 902025) rfl) Cv.fl)) (sg (Sub.cons (Has.at (HasG.cv (HasG.s rfl) (Cv.owM (T := [41]) (te := [42]) rfl rfl))) (sf (sm (sm (sf (Sub.cons (Has.at (HasG.cv (HasG.s rfl) (Cv.owM (T := [15]) (te := [16]) rfl rfl))) (Sub.cons (Has.at (HasG.cv (HasG.s rfl) (Cv.owM (T := [17]) (te := [18]) rfl rfl))) (sf (Sub.cons (Has.at (HasG.cv (HasG.s rfl) (Cv.owM (T := [55]) (te := [56]) rfl rfl))) (Sub.cons (Has.at (HasG.cv (HasG.s rfl) (Cv.owM (T := [57]) (te := [58]) rfl rfl))) (sf (Sub.cons (Has.at (HasG.cv (HasG.s rfl) (Cv.owM (T := [69]) (te := []) rfl rfl))) (Sub.cons (Has.at (HasG.cv (HasG.s rfl) (Cv.owM (T := [69]) (te := []) rfl rfl))) (sf (sn (sn (sn (sn (sn Sub.nil)))))))))))))))))))))))))))))
     ·have hm := cond_f hb hm
      refine CWalk.exit ?_
      refine Leaf.thenE ?_
      exact Leaf.brk hm (fun h => nomatch h) rfl (sn (Sub.cons (Has.cst (HasC.cv (HasC.s (s := 902002) rfl) (Cv.m rfl))) (sc (sc (Sub.cons (Has.cst (HasC.cv (HasC.s (s := 902008) rfl) Cv.fl)) (sc (sc (Sub.cons (Has.cst (HasC.cv (HasC.s (s := 902025) rfl) Cv.fl)) (sg (Sub.cons (Has.at (HasG.cv (HasG.s rfl) (Cv.owM (T := [41]) (te := [42]) rfl rfl))) (sf (sm (sm (sf (Sub.cons (Has.at (HasG.cv (HasG.s rfl) (Cv.owM (T := [15]) (te := [16]) rfl rfl))) (Sub.cons (Has.at (HasG.cv (HasG.s rfl) (Cv.owM (T := [17]) (te := [18]) rfl rfl))) (sf (Sub.cons (Has.at (HasG.cv (HasG.s rfl) (Cv.owM (T := [55]) (te := [56]) rfl rfl))) (Sub.cons (Has.at (HasG.cv (HasG.s rfl) (Cv.owM (T := [57]) (te := [58]) rfl rfl))) (sf (Sub.cons (Has.at (HasG.cv (HasG.s rfl) (Cv.owM (T := [69]) (te := []) rfl rfl))) (Sub.cons (Has.at (HasG.cv (HasG.s rfl) (Cv.owM (T := [69]) (te := []) rfl rfl))) (sf (sn (sn (sn (sn (sn Sub.nil))))))))))))))))))))))))))))
    ·intro _
     refine Leaf.blockE ?_
     refine Leaf.thenN ?_
     refine CWalk.seq ?_
     refine CWalk.region ?_
     refine wo (Spec.assign Has.int) ?_
     refine Walk.nil ?_
     refine Leaf.thenN ?_
     refine CWalk.block ?_
     obtain ⟨b78, hb78, hm⟩ := bind_some hm
     refine CWalk.loop (fun s : Int => [.fact 1 (.isv 87), .fact 4 (.rep [] (s : Int)), .fact 902002 (.cst (u1 2) (Fact.rep [0] (a2 : List UInt8))), .fact 902003 (.cst (u1 3) (Fact.isv 10)), .fact 902007 (.cst (u1 7) (Fact.isv 19)), .fact 902008 (.cst (u1 8) (Fact.rep [] ((Str.mk a2) : Str))), .fact 902017 (.cst (u1 17) (Fact.isv 59)), .fact 902021 (.cst (u1 21) (Fact.isv 70)), .fact 902025 (.cst (u1 25) (Fact.rep [] ((((((((x11 && (x3.2 == x4.2)) && x12) && (x5.2 == x6.2)) && x13) && (x7.2 == x8.2)) && x14) && (x9.2 == x10.2)) : Bool))), .fact 100088 (.at 88 (.lo [39, 40] x5.1.Blocks)), .fact 100089 (.at 89 (.lo [41, 42] x5.1.Wait)), .fact 100090 (.at 90 (.rep [] x5.1.Dead)), .fact 100011 (.at 11 (.rep [0] a0.Blocks)), .fact 100012 (.at 12 (.rep [0] a0.Wait)), .fact 100013 (.at 13 (.rep [] a0.Dead)), .fact 100020 (.at 20 (.ow [15] [16] 28 (x2.Blocks : List (List UInt8)))), .fact 100021 (.at 21 (.ow [17] [18] 59 (x2.Wait : List Write))), .fact 100022 (.at 22 (.rep [] x2.Dead)), .fact 100060 (.at 60 (.ow [55] [56] 28 (x7.1.Blocks : List (List UInt8)))), .fact 100061 (.at 61 (.ow [57] [58] 59 (x7.1.Wait : List Write))), .fact 100062 (.at 62 (.rep [] x7.1.Dead)), .fact 100071 (.at 71 (.ow [69] [] 28 (x9.1.Blocks : List (List UInt8)))), .fact 100072 (.at 72 (.ow [69] [] 59 (x9.1.Wait : List Write))), .fact 100073 (.at 73 (.rep [] x9.1.Dead)), .fact 100087 (.obj 87 [(false, 1), (false, 1), (false, 1)]), .fact 100010 (.obj 10 [(false, 1), (false, 1), (false, 1)]), .fact 100019 (.obj 19 [(false, 1), (false, 1), (false, 1)]), .fact 100059 (.obj 59 [(false, 1), (false, 1), (false, 1)]), .fact 100070 (.obj 70 [(false, 1), (false, 1), (false, 1)])]) (fun b : Unit => (Exit.exit 4, [.fact 902002 (.cst (u1 2) (Fact.rep [0] (a2 : List UInt8))), .fact 902003 (.cst (u1 3) (Fact.isv 10)), .fact 902007 (.cst (u1 7) (Fact.isv 19)), .fact 902008 (.cst (u1 8) (Fact.rep [] ((Str.mk a2) : Str))), .fact 902017 (.cst (u1 17) (Fact.isv 59)), .fact 902021 (.cst (u1 21) (Fact.isv 70)), .fact 902025 (.cst (u1 25) (Fact.rep [] ((((((((x11 && (x3.2 == x4.2)) && x12) && (x5.2 == x6.2)) && x13) && (x7.2 == x8.2)) && x14) && (x9.2 == x10.2)) : Bool))), .fact 100011 (.at 11 (.rep [0] a0.Blocks)), .fact 100012 (.at 12 (.rep [0] a0.Wait)), .fact 100013 (.at 13 (.rep [] a0.Dead)), .fact 100020 (.at 20 (.ow [15] [16] 28 (x2.Blocks : List (List UInt8)))), .fact 100021 (.at 21 (.ow [17] [18] 59 (x2.Wait : List Write))), .fact 100022 (.at 22 (.rep [] x2.Dead)), .fact 100060 (.at 60 (.ow [55] [56] 28 (x7.1.Blocks : List (List UInt8)))), .fact 100061 (.at 61 (.ow [57] [58] 59 (x7.1.Wait : List Write))), .fact 100062 (.at 62 (.rep [] x7.1.Dead)), .fact 100071 (.at 71 (.ow [69] [] 28 (x9.1.Blocks : List (List UInt8)))), .fact 100072 (.at 72 (.ow [69] [] 59 (x9.1.Wait : List Write))), .fact 100073 (.at 73 (.rep [] x9.1.Dead)), .fact 100010 (.obj 10 [(false, 1), (false, 1), (false, 1)]), .fact 100019 (.obj 19 [(false, 1), (false, 1), (false, 1)]), .fact 100059 (.obj 59 [(false, 1), (false, 1), (false, 1)]), .fact 100070 (.obj 70 [(false, 1), (false, 1), (false, 1)])])) hb78 (sn (st (Sub.cons (Has.cst (HasC.cv (HasC.s (s := 902002) rfl) (Cv.m rfl))) (sc (sc (Sub.cons (Has.cst (HasC.cv (HasC.s (s := 902008) rfl) Cv.fl)) (sc (sc (Sub.cons (Has.cst (HasC.cv (HasC.s (s := 902025) rfl) Cv.fl)) (sg (Sub.cons (Has.at (HasG.cv (HasG.s rfl) (Cv.trans (Cv.trans Cv.owSl (Cv.slRep (T' := [41, 42]) rfl rfl)) (Cv.lo rfl)))) (sf (sm (sm (sf (Sub.cons (Has.at (HasG.cv (HasG.s rfl) (Cv.owM (T := [15]) (te := [16]) rfl rfl))) (Sub.cons (Has.at (HasG.cv (HasG.s rfl) (Cv.owM (T := [17]) (te := [18]) rfl rfl))) (sf (Sub.cons (Has.at (HasG.cv (HasG.s rfl) (Cv.owM (T := [55]) (te := [56]) rfl rfl))) (Sub.cons (Has.at (HasG.cv (HasG.s rfl) (Cv.owM (T := [57]) (te := [58]) rfl rfl))) (sf (Sub.cons (Has.at (HasG.cv (HasG.s rfl) (Cv.owM (T := [69]) (te := []) rfl rfl))) (Sub.cons (Has.at (HasG.cv (HasG.s rfl) (Cv.owM (T := [69]) (te := []) rfl rfl))) (sf (sn (sn (sn (sn (sn Sub.nil))))))))))))))))))))))))))))) ?_ ?_
     ·rintro s68 c69 hm
      replace hm : law04_DiskTurns_L15 x5 s68 = some c69 := hm
      unfold law04_DiskTurns_L15 at hm
      show CWalk _ [.fact 1 (.isv 87), .fact 4 (.rep [] (s68 : Int)), .fact 902002 (.cst (u1 2) (Fact.rep [0] (a2 : List UInt8))), .fact 902003 (.cst (u1 3) (Fact.isv 10)), .fact 902007 (.cst (u1 7) (Fact.isv 19)), .fact 902008 (.cst (u1 8) (Fact.rep [] ((Str.mk a2) : Str))), .fact 902017 (.cst (u1 17) (Fact.isv 59)), .fact 902021 (.cst (u1 21) (Fact.isv 70)), .fact 902025 (.cst (u1 25) (Fact.rep [] ((((((((x11 && (x3.2 == x4.2)) && x12) && (x5.2 == x6.2)) && x13) && (x7.2 == x8.2)) && x14) && (x9.2 == x10.2)) : Bool))), .fact 100088 (.at 88 (.lo [39, 40] x5.1.Blocks)), .fact 100089 (.at 89 (.lo [41, 42] x5.1.Wait)), .fact 100090 (.at 90 (.rep [] x5.1.Dead)), .fact 100011 (.at 11 (.rep [0] a0.Blocks)), .fact 100012 (.at 12 (.rep [0] a0.Wait)), .fact 100013 (.at 13 (.rep [] a0.Dead)), .fact 100020 (.at 20 (.ow [15] [16] 28 (x2.Blocks : List (List UInt8)))), .fact 100021 (.at 21 (.ow [17] [18] 59 (x2.Wait : List Write))), .fact 100022 (.at 22 (.rep [] x2.Dead)), .fact 100060 (.at 60 (.ow [55] [56] 28 (x7.1.Blocks : List (List UInt8)))), .fact 100061 (.at 61 (.ow [57] [58] 59 (x7.1.Wait : List Write))), .fact 100062 (.at 62 (.rep [] x7.1.Dead)), .fact 100071 (.at 71 (.ow [69] [] 28 (x9.1.Blocks : List (List UInt8)))), .fact 100072 (.at 72 (.ow [69] [] 59 (x9.1.Wait : List Write))), .fact 100073 (.at 73 (.rep [] x9.1.Dead)), .fact 100087 (.obj 87 [(false, 1), (false, 1), (false, 1)]), .fact 100010 (.obj 10 [(false, 1), (false, 1), (false, 1)]), .fact 100019 (.obj 19 [(false, 1), (false, 1), (false, 1)]), .fact 100059 (.obj 59 [(false, 1), (false, 1), (false, 1)]), .fact 100070 (.obj 70 [(false, 1), (false, 1), (false, 1)])] _ _
      refine CWalk.seq ?_
      refine CWalk.seq ?_
      refine CWalk.region ?_
      refine mv ?_
      refine wo (Spec.fieldAddrO fd25_1 (Has.cv (Has.s rfl) (Cv.isvP rfl))) ?_
      refine wo (Spec.loadF (i := 1) ty23 rfl (Has.s rfl) rfl (HasG.s rfl)) ?_
      refine wo (Spec.lenLo (Has.s rfl) Try.underlying23) ?_
      refine wo (Spec.lssI (Has.s rfl) (Has.s rfl)) ?_
      refine Walk.nil ?_
      refine Leaf.thenN ?_
      refine CWalk.cond rfl (fun hb => ?_) (fun hb => ?_)
      ·have hm := cond_t hb hm
       refine CWalk.skip ?_
       refine Leaf.thenN ?_
       refine CWalk.seq ?_
       refine CWalk.block ?_
       refine CWalk.seq ?_
       refine CWalk.region ?_
       refine wo (Spec.fieldAddrO fd25_1 (Has.cv (Has.s rfl) (Cv.isvP rfl))) ?_
       refine wo (Spec.loadF (i := 1) ty23 rfl (Has.s rfl) rfl (HasG.s rfl)) ?_
       refine mv ?_
       obtain ⟨x70, hx70, hm⟩ := bind_some hm
       refine wo (Spec.idxLo hx70 sl23 (Has.s rfl) (Has.s rfl)) ?_
       refine wo (Spec.fieldLo fd59_0 (loWrite_0 _) (Has.s rfl)) ?_
       refine ws (Step.storeL (T := [41, 42]) (Tx := []) (LL := [.fact 100089 (.at 89 (.lo [41, 42] x5.1.Wait))]) rfl ty3 (Has.s rfl) (Has.cv Has.int Cv.loF) (LooseL.loF rfl LooseL.nil)) ?_
       refine Walk.nil ?_
       refine Leaf.thenN ?_
       refine CWalk.seq ?_
       refine CWalk.region ?_
       refine wo (Spec.assign Has.int) ?_
       refine Walk.nil ?_
       refine Leaf.thenN ?_
       refine CWalk.block ?_
       obtain ⟨b77, hb77, hm⟩ := bind_some hm
       refine CWalk.loop (fun s : Int => [.fact 1 (.isv 87), .fact 4 (.rep [] (s68 : Int)), .fact 5 (.rep [] (s : Int)), .fact 902002 (.cst (u1 2) (Fact.rep [0] (a2 : List UInt8))), .fact 902003 (.cst (u1 3) (Fact.isv 10)), .fact 902007 (.cst (u1 7) (Fact.isv 19)), .fact 902008 (.cst (u1 8) (Fact.rep [] ((Str.mk a2) : Str))), .fact 902017 (.cst (u1 17) (Fact.isv 59)), .fact 902021 (.cst (u1 21) (Fact.isv 70)), .fact 902025 (.cst (u1 25) (Fact.rep [] ((((((((x11 && (x3.2 == x4.2)) && x12) && (x5.2 == x6.2)) && x13) && (x7.2 == x8.2)) && x14) && (x9.2 == x10.2)) : Bool))), .fact 100088 (.at 88 (.lo [39, 40] x5.1.Blocks)), .fact 100089 (.at 89 (.lo [41, 42] x5.1.Wait)), .fact 100090 (.at 90 (.rep [] x5.1.Dead)), .fact 100011 (.at 11 (.rep [0] a0.Blocks)), .fact 100012 (.at 12 (.rep [0] a0.Wait)), .fact 100013 (.at 13 (.rep [] a0.Dead)), .fact 100020 (.at 20 (.ow [15] [16] 28 (x2.Blocks : List (List UInt8)))), .fact 100021 (.at 21 (.ow [17] [18] 59 (x2.Wait : List Write))), .fact 100022 (.at 22 (.rep [] x2.Dead)), .fact 100060 (.at 60 (.ow [55] [56] 28 (x7.1.Blocks : List (List UInt8)))), .fact 100061 (.at 61 (.ow [57] [58] 59 (x7.1.Wait : List Write))), .fact 100062 (.at 62 (.rep [] x7.1.Dead)), .fact 100071 (.at 71 (.ow [69] [] 28 (x9.1.Blocks : List (List UInt8)))), .fact 100072 (.at 72 (.ow [69] [] 59 (x9.1.Wait : List Write))), .fact 100073 (.at 73 (.rep [] x9.1.Dead)), .fact 100087 (.obj 87 [(false, 1), (false, 1), (false, 1)]), .fact 100010 (.obj 10 [(false, 1), (false, 1), (false, 1)]), .fact 100019 (.obj 19 [(false, 1), (false, 1), (false, 1)]), .fact 100059 (.obj 59 [(false, 1), (false, 1), (false, 1)]), .fact 100070 (.obj 70 [(false, 1), (false, 1), (false, 1)])]) (fun b : Unit => (Exit.exit 6, [.fact 1 (.isv 87), .fact 4 (.rep [] (s68 : Int)), .fact 902002 (.cst (u1 2) (Fact.rep [0] (a2 : List UInt8))), .fact 902003 (.cst (u1 3) (Fact.isv 10)), .fact 902007 (.cst (u1 7) (Fact.isv 19)), .fact 902008 (.cst (u1 8) (Fact.rep [] ((Str.mk a2) : Str))), .fact 902017 (.cst (u1 17) (Fact.isv 59)), .fact 902021 (.cst (u1 21) (Fact.isv 70)), .fact 902025 (.cst (u1 25) (Fact.rep [] ((((((((x11 && (x3.2 == x4.2)) && x12) && (x5.2 == x6.2)) && x13) && (x7.2 == x8.2)) && x14) && (x9.2 == x10.2)) : Bool))), .fact 100088 (.at 88 (.lo [39, 40] x5.1.Blocks)), .fact 100089 (.at 89 (.lo [41, 42] x5.1.Wait)), .fact 100090 (.at 90 (.rep [] x5.1.Dead)), .fact 100011 (.at 11 (.rep [0] a0.Blocks)), .fact 100012 (.at 12 (.rep [0] a0.Wait)), .fact 100013 (.at 13 (.rep [] a0.Dead)), .fact 100020 (.at 20 (.ow [15] [16] 28 (x2.Blocks : List (List UInt8)))), .fact 100021 (.at 21 (.ow [17] [18] 59 (x2.Wait : List Write))), .fact 100022 (.at 22 (.rep [] x2.Dead)), .fact 100060 (.at 60 (.ow [55] [56] 28 (x7.1.Blocks : List (List UInt8)))), .fact 100061 (.at 61 (.ow [57] [58] 59 (x7.1.Wait : List Write))), .fact 100062 (.at 62 (.rep [] x7.1.Dead)), .fact 100071 (.at 71 (.ow [69] [] 28 (x9.1.Blocks : List (List UInt8)))), .fact 100072 (.at 72 (.ow [69] [] 59 (x9.1.Wait : List Write))), .fact 100073 (.at 73 (.rep [] x9.1.Dead)), .fact 100087 (.obj 87 [(false, 1), (false, 1), (false, 1)]), .fact 100010 (.obj 10 [(false, 1), (false, 1), (false, 1)]), .fact 100019 (.obj 19 [(false, 1), (false, 1), (false, 1)]), .fact 100059 (.obj 59 [(false, 1), (false, 1), (false, 1)]), .fact 100070 (.obj 70 [(false, 1), (false, 1), (false, 1)])])) hb77 (sn (st (st (Sub.cons (Has.cst (HasC.cv (HasC.s (s := 902002) rfl) (Cv.m rfl))) (sc (sc (Sub.cons (Has.cst (HasC.cv (HasC.s (s := 902008) rfl) Cv.fl)) (sc (sc (Sub.cons (Has.cst (HasC.cv (HasC.s (s := 902025) rfl) Cv.fl)) (sg (sg (sf (sm (sm (sf (Sub.cons (Has.at (HasG.cv (HasG.s rfl) (Cv.owM (T := [15]) (te := [16]) rfl rfl))) (Sub.cons (Has.at (HasG.cv (HasG.s rfl) (Cv.owM (T := [17]) (te := [18]) rfl rfl))) (sf (Sub.cons (Has.at (HasG.cv (HasG.s rfl) (Cv.owM (T := [55]) (te := [56]) rfl rfl))) (Sub.cons (Has.at (HasG.cv (HasG.s rfl) (Cv.owM (T := [57]) (te := [58]) rfl rfl))) (sf (Sub.cons (Has.at (HasG.cv (HasG.s rfl) (Cv.owM (T := [69]) (te := []) rfl rfl))) (Sub.cons (Has.at (HasG.cv (HasG.s rfl) (Cv.owM (T := [69]) (te := []) rfl rfl))) (sf (sn (sn (sn (sn (sn Sub.nil)))))))))))))))))))))))))))))) ?_ ?_
       ·rintro s71 c72 hm
        replace hm : law04_DiskTurns_L16 x5 s68 s71 = some c72 := hm
        unfold law04_DiskTurns_L16 at hm
        show CWalk _ [.fact 1 (.isv 87), .fact 4 (.rep [] (s68 : Int)), .fact 5 (.rep [] (s71 : Int)), .fact 902002 (.cst (u1 2) (Fact.rep [0] (a2 : List UInt8))), .fact 902003 (.cst (u1 3) (Fact.isv 10)), .fact 902007 (.cst (u1 7) (Fact.isv 19)), .fact 902008 (.cst (u1 8) (Fact.rep [] ((Str.mk a2) : Str))), .fact 902017 (.cst (u1 17) (Fact.isv 59)), .fact 902021 (.cst (u1 21) (Fact.isv 70)), .fact 902025 (.cst (u1 25) (Fact.rep [] ((((((((x11 && (x3.2 == x4.2)) && x12) && (x5.2 == x6.2)) && x13) && (x7.2 == x8.2)) && x14) && (x9.2 == x10.2)) : Bool))), .fact 100088 (.at 88 (.lo [39, 40] x5.1.Blocks)), .fact 100089 (.at 89 (.lo [41, 42] x5.1.Wait)), .fact 100090 (.at 90 (.rep [] x5.1.Dead)), .fact 100011 (.at 11 (.rep [0] a0.Blocks)), .fact 100012 (.at 12 (.rep [0] a0.Wait)), .fact 100013 (.at 13 (.rep [] a0.Dead)), .fact 100020 (.at 20 (.ow [15] [16] 28 (x2.Blocks : List (List UInt8)))), .fact 100021 (.at 21 (.ow [17] [18] 59 (x2.Wait : List Write))), .fact 100022 (.at 22 (.rep [] x2.Dead)), .fact 100060 (.at 60 (.ow [55] [56] 28 (x7.1.Blocks : List (List UInt8)))), .fact 100061 (.at 61 (.ow [57] [58] 59 (x7.1.Wait : List Write))), .fact 100062 (.at 62 (.rep [] x7.1.Dead)), .fact 100071 (.at 71 (.ow [69] [] 28 (x9.1.Blocks : List (List UInt8)))), .fact 100072 (.at 72 (.ow [69] [] 59 (x9.1.Wait : List Write))), .fact 100073 (.at 73 (.rep [] x9.1.Dead)), .fact 100087 (.obj 87 [(false, 1), (false, 1), (false, 1)]), .fact 100010 (.obj 10 [(false, 1), (false, 1), (false, 1)]), .fact 100019 (.obj 19 [(false, 1), (false, 1), (false, 1)]), .fact 100059 (.obj 59 [(false, 1), (false, 1), (false, 1)]), .fact 100070 (.obj 70 [(false, 1), (false, 1), (false, 1)])] _ _
        refine CWalk.seq ?_
        refine CWalk.seq ?_
        refine CWalk.region ?_
        refine mv ?_
        refine wo (Spec.fieldAddrO fd25_1 (Has.cv (Has.s rfl) (Cv.isvP rfl))) ?_
        refine wo (Spec.loadF (i := 1) ty23 rfl (Has.s rfl) rfl (HasG.s rfl)) ?_
        refine mv ?_
        obtain ⟨x73, hx73, hm⟩ := bind_some hm
        refine wo (Spec.idxLo hx73 sl23 (Has.s rfl) (Has.s rfl)) ?_
        refine wo (Spec.fieldLo fd59_1 (loWrite_1 _) (Has.s rfl)) ?_
        refine wo (Spec.loadLo ty28 (Has.s rfl)) ?_
        refine wo (Spec.lenLo (Has.s rfl) Try.underlying28) ?_
        refine wo (Spec.lssI (Has.s rfl) (Has.s rfl)) ?_
        refine Walk.nil ?_
        refine Leaf.thenN ?_
        refine CWalk.cond rfl (fun hb => ?_) (fun hb => ?_)
        ·have hm := cond_t hb hm
         refine CWalk.skip ?_
         refine Leaf.thenN ?_
         refine CWalk.seq ?_
         refine CWalk.block ?_
         refine CWalk.region ?_
         refine wo (Spec.fieldAddrO fd25_1 (Has.cv (Has.s rfl) (Cv.isvP rfl))) ?_
         refine wo (Spec.loadF (i := 1) ty23 rfl (Has.s rfl) rfl (HasG.s rfl)) ?_
         refine mv ?_
         obtain ⟨x74, hx74, hm⟩ := bind_some hm
         refine wo (Spec.idxLo hx74 sl23 (Has.s rfl) (Has.s rfl)) ?_
         refine wo (Spec.fieldLo fd59_1 (loWrite_1 _) (Has.s rfl)) ?_
         refine wo (Spec.loadLo ty28 (Has.s rfl)) ?_
         refine mv ?_
         obtain ⟨x75, hx75, hm⟩ := bind_some hm
         refine wo (Spec.idxLo hx75 sl28 (Has.s rfl) (Has.s rfl)) ?_
         refine wo (Spec.loadLo ty5 (Has.s rfl)) ?_
         refine wo (Spec.add8Lo (Has.s rfl) (Has.u8 1 rfl)) ?_
         obtain ⟨x76, hx76, hm⟩ := bind_some hm
         refine wo (Spec.idxLo hx76 sl28 (Has.s rfl) (Has.s rfl)) ?_
         refine ws (Step.storeL (T := [41, 42]) (LL := [.fact 100089 (.at 89 (.lo [41, 42] x5.1.Wait))]) rfl ty5 (Has.s rfl) (Has.s rfl) (LooseL.loF rfl LooseL.nil)) ?_
         refine Walk.nil ?_
         refine Leaf.blockN ?_
         refine Leaf.thenN ?_
         refine CWalk.region ?_
         refine mv ?_
         refine wo (Spec.addI (Has.s rfl) Has.int) ?_
         refine wo (Spec.assign (Has.s rfl)) ?_
         refine Walk.nil ?_
         exact Leaf.next hm (sn (st (st (Sub.cons (Has.cst (HasC.cv (HasC.s (s := 902002) rfl) (Cv.m rfl))) (sc (sc (Sub.cons (Has.cst (HasC.cv (HasC.s (s := 902008) rfl) Cv.fl)) (sc (sc (Sub.cons (Has.cst (HasC.cv (HasC.s (s := 902025) rfl) Cv.fl)) (sg (sg (sf (sm (sm (sf (Sub.cons (Has.at (HasG.cv (HasG.s rfl) (Cv.owM (T := [15]) (te := [16]) rfl rfl))) (Sub.cons (Has.at (HasG.cv (HasG.s rfl) (Cv.owM (T := [17]) (te := [18]) rfl rfl))) (sf (Sub.cons (Has.at (HasG.cv (HasG.s rfl) (Cv.owM (T := [55]) (te := [56]) rfl rfl))) (Sub.cons (Has.at (HasG.cv (HasG.s rfl) (Cv.owM (T := [57]) (te := [58]) rfl rfl))) (sf (Sub.cons (Has.at (HasG.cv (HasG.s rfl) (Cv.owM (T := [69]) (te := []) rfl rfl))) (Sub.cons (Has.at (HasG.cv (HasG.s rfl) (Cv.owM (T := [69]) (te := []) rfl rfl))) (sf (sn (sn (sn (sn (sn Sub.nil))))))))))))))))))))))))))))))
        ·have hm := cond_f hb hm
         refine CWalk.exit ?_
         refine Leaf.thenE ?_
         exact Leaf.brk hm (fun h => nomatch h) rfl (sn (st (Sub.cons (Has.cst (HasC.cv (HasC.s (s := 902002) rfl) (Cv.m rfl))) (sc (sc (Sub.cons (Has.cst (HasC.cv (HasC.s (s := 902008) rfl) Cv.fl)) (sc (sc (Sub.cons (Has.cst (HasC.cv (HasC.s (s := 902025) rfl) Cv.fl)) (sg (sg (sf (sm (sm (sf (Sub.cons (Has.at (HasG.cv (HasG.s rfl) (Cv.owM (T := [15]) (te := [16]) rfl rfl))) (Sub.cons (Has.at (HasG.cv (HasG.s rfl) (Cv.owM (T := [17]) (te := [18]) rfl rfl))) (sf (Sub.cons (Has.at (HasG.cv (HasG.s rfl) (Cv.owM (T := [55]) (te := [56]) rfl rfl))) (Sub.cons (Has.at (HasG.cv (HasG.s rfl) (Cv.owM (T := [57]) (te := [58]) rfl rfl))) (sf (Sub.cons (Has.at (HasG.cv (HasG.s rfl) (Cv.owM (T := [69]) (te := []) rfl rfl))) (Sub.cons (Has.at (HasG.cv (HasG.s rfl) (Cv.owM (T := [69]) (te := []) rfl rfl))) (sf (sn (sn (sn (sn (sn Sub.nil)))))))))))))))))))))))))))))
       ·intro _
        refine Leaf.blockE ?_
        refine Leaf.blockN ?_
        refine Leaf.thenN ?_
        refine CWalk.region ?_
        refine mv ?_
        refine wo (Spec.addI (Has.s rfl) Has.int) ?_
        refine wo (Spec.assign (Has.s rfl)) ?_
        refine Walk.nil ?_
        exact Leaf.next hm (sn (st (Sub.cons (Has.cst (HasC.cv (HasC.s (s := 902002) rfl) (Cv.m rfl))) (sc (sc (Sub.cons (Has.cst (HasC.cv (HasC.s (s := 902008) rfl) Cv.fl)) (sc (sc (Sub.cons (Has.cst (HasC.cv (HasC.s (s := 902025) rfl) Cv.fl)) (sg (sg (sf (sm (sm (sf (Sub.cons (Has.at (HasG.cv (HasG.s rfl) (Cv.owM (T := [15]) (te := [16]) rfl rfl))) (Sub.cons (Has.at (HasG.cv (HasG.s rfl) (Cv.owM (T := [17]) (te := [18]) rfl rfl))) (sf (Sub.cons (Has.at (HasG.cv (HasG.s rfl) (Cv.owM (T := [55]) (te := [56]) rfl rfl))) (Sub.cons (Has.at (HasG.cv (HasG.s rfl) (Cv.owM (T := [57]) (te := [58]) rfl rfl))) (sf (Sub.cons (Has.at (HasG.cv (HasG.s rfl) (Cv.owM (T := [69]) (te := []) rfl rfl))) (Sub.cons (Has.at (HasG.cv (HasG.s rfl) (Cv.owM (T := [69]) (te := []) rfl rfl))) (sf (sn (sn (sn (sn (sn Sub.nil)))))))))))))))))))))))))))))
      ·have hm := cond_f hb hm
       refine CWalk.exit ?_
       refine Leaf.thenE ?_
       exact Leaf.brk hm (fun h => nomatch h) rfl (Sub.cons (Has.cst (HasC.cv (HasC.s (s := 902002) rfl) (Cv.m rfl))) (sc (sc (Sub.cons (Has.cst (HasC.cv (HasC.s (s := 902008) rfl) Cv.fl)) (sc (sc (Sub.cons (Has.cst (HasC.cv (HasC.s (s := 902025) rfl) Cv.fl)) (sm (sm (sf (Sub.cons (Has.at (HasG.cv (HasG.s rfl) (Cv.owM (T := [15]) (te := [16]) rfl rfl))) (Sub.cons (Has.at (HasG.cv (HasG.s rfl) (Cv.owM (T := [17]) (te := [18]) rfl rfl))) (sf (Sub.cons (Has.at (HasG.cv (HasG.s rfl) (Cv.owM (T := [55]) (te := [56]) rfl rfl))) (Sub.cons (Has.at (HasG.cv (HasG.s rfl) (Cv.owM (T := [57]) (te := [58]) rfl rfl))) (sf (Sub.cons (Has.at (HasG.cv (HasG.s rfl) (Cv.owM (T := [69]) (te := []) rfl rfl))) (Sub.cons (Has.at (HasG.cv (HasG.s rfl) (Cv.owM (T := [69]) (te := []) rfl rfl))) (sf (sn (sn (sn (sn Sub.nil)))))))))))))))))))))))
     ·intro _
      refine Leaf.blockE ?_
      exact Leaf.inN (Leaf.in0 (f0 := Fact.top) () hm rfl rfl (fun _ _ => trivial) (Low.slot rfl (HasC.cv (HasC.s (s := 902002) rfl) (Cv.m rfl)) (ls 902003 (ls 902007 (Low.slot rfl (HasC.cv (HasC.s (s := 902008) rfl) Cv.fl) (ls 902017 (ls 902021 (Low.slot rfl (HasC.cv (HasC.s (s := 902025) rfl) Cv.fl) (Low.res (lm (lm (lf (Low.keepG (HasG.cv (HasG.s rfl) (Cv.owM (T := [15]) (te := [16]) rfl rfl)) (Low.keepG (HasG.cv (HasG.s rfl) (Cv.owM (T := [17]) (te := [18]) rfl rfl)) (lf (Low.keepG (HasG.cv (HasG.s rfl) (Cv.owM (T := [55]) (te := [56]) rfl rfl)) (Low.keepG (HasG.cv (HasG.s rfl) (Cv.owM (T := [57]) (te := [58]) rfl rfl)) (lf (Low.keepG (HasG.cv (HasG.s rfl) (Cv.owM (T := [69]) (te := []) rfl rfl)) (Low.keepG (HasG.cv (HasG.s rfl) (Cv.owM (T := [69]) (te := []) rfl rfl)) (lf (lo (lo (lo (lo Low.nil)))))))))))))))))))))))))
   ·rintro _ hm
    replace hm : law04_DiskTurns_J2 a0 a2 x2 x3 x4 x5 x6 x7 x8 x9 x10 x11 x12 x13 x14 = some r := hm
    unfold law04_DiskTurns_J2 at hm
    show Walk _ _ _ [.fact 2 (.rep [0] (a2 : List UInt8)), .fact 3 (.isv 10), .fact 7 (.isv 19), .fact 8 (.rep [] ((Str.mk a2) : Str)), .fact 17 (.isv 59), .fact 21 (.isv 70), .fact 25 (.rep [] ((((((((x11 && (x3.2 == x4.2)) && x12) && (x5.2 == x6.2)) && x13) && (x7.2 == x8.2)) && x14) && (x9.2 == x10.2)) : Bool)), .fact 126 (.top), .fact 100011 (.at 11 (.rep [0] a0.Blocks)), .fact 100012 (.at 12 (.rep [0] a0.Wait)), .fact 100013 (.at 13 (.rep [] a0.Dead)), .fact 100020 (.at 20 (.ow [15] [16] 28 (x2.Blocks : List (List UInt8)))), .fact 100021 (.at 21 (.ow [17] [18] 59 (x2.Wait : List Write))), .fact 100022 (.at 22 (.rep [] x2.Dead)), .fact 100060 (.at 60 (.ow [55] [56] 28 (x7.1.Blocks : List (List UInt8)))), .fact 100061 (.at 61 (.ow [57] [58] 59 (x7.1.Wait : List Write))), .fact 100062 (.at 62 (.rep [] x7.1.Dead)), .fact 100071 (.at 71 (.ow [69] [] 28 (x9.1.Blocks : List (List UInt8)))), .fact 100072 (.at 72 (.ow [69] [] 59 (x9.1.Wait : List Write))), .fact 100073 (.at 73 (.rep [] x9.1.Dead)), .fact 100010 (.obj 10 [(false, 1), (false, 1), (false, 1)]), .fact 100019 (.obj 19 [(false, 1), (false, 1), (false, 1)]), .fact 100059 (.obj 59 [(false, 1), (false, 1), (false, 1)]), .fact 100070 (.obj 70 [(false, 1), (false, 1), (false, 1)])] _
    refine Walk.nil ?_
    refine Leaf.thenN ?_
    refine CWalk.seq ?_
    refine CWalk.region ?_
    refine wo (Spec.loadObj (ls := [(false, 1, Fact.ow [55] [56] 28 (x7.1.Blocks : List (List UInt8))), (false, 1, Fact.ow [57] [58] 59 (x7.1.Wait : List Write)), (false, 1, Fact.rep [] x7.1.Dead)]) ty25 rfl rfl (Has.s rfl) rfl (HasGs.cons (HasG.s rfl) (HasGs.cons (HasG.s rfl) (HasGs.cons (HasG.s rfl) HasGs.nil)))) ?_
    refine Walk.inline (S := Unit) (fun p : Unit => [.fact 2 (.rep [0] (a2 : List UInt8)), .fact 3 (.isv 10), .fact 7 (.isv 19), .fact 8 (.rep [] ((Str.mk a2) : Str)), .fact 21 (.isv 70), .fact 25 (.rep [] ((((((((x11 && (x3.2 == x4.2)) && x12) && (x5.2 == x6.2)) && x13) && (x7.2 == x8.2)) && x14) && (x9.2 == x10.2)) : Bool)), .fact 128 (.top), .fact 100011 (.at 11 (.rep [0] a0.Blocks)), .fact 100012 (.at 12 (.rep [0] a0.Wait)), .fact 100013 (.at 13 (.rep [] a0.Dead)), .fact 100020 (.at 20 (.ow [15] [16] 28 (x2.Blocks : List (List UInt8)))), .fact 100021 (.at 21 (.ow [17] [18] 59 (x2.Wait : List Write))), .fact 100022 (.at 22 (.rep [] x2.Dead)), .fact 100071 (.at 71 (.ow [69] [] 28 (x9.1.Blocks : List (List UInt8)))), .fact 100072 (.at 72 (.ow [69] [] 59 (x9.1.Wait : List Write))), .fact 100073 (.at 73 (.rep [] x9.1.Dead)), .fact 100010 (.obj 10 [(false, 1), (false, 1), (false, 1)]), .fact 100019 (.obj 19 [(false, 1), (false, 1), (false, 1)]), .fact 100070 (.obj 70 [(false, 1), (false, 1), (false, 1)])]) (fun p : Unit => law04_DiskTurns_J3 a0 a2 x2 x3 x4 x5 x6 x7 x8 x9 x10 x11 x12 x13 x14 = some r) (fun u1 => [.fact 100011 (.at 11 (.rep [0] a0.Blocks)), .fact 100012 (.at 12 (.rep [0] a0.Wait)), .fact 100013 (.at 13 (.rep [] a0.Dead)), .fact 100020 (.at 20 (.ow [15] [16] 28 (x2.Blocks : List (List UInt8)))), .fact 100021 (.at 21 (.ow [17] [18] 59 (x2.Wait : List Write))), .fact 100022 (.at 22 (.rep [] x2.Dead)), .fact 100071 (.at 71 (.ow [69] [] 28 (x9.1.Blocks : List (List UInt8)))), .fact 100072 (.at 72 (.ow [69] [] 59 (x9.1.Wait : List Write))), .fact 100073 (.at 73 (.rep [] x9.1.Dead)), .fact 902002 (.cst (u1 2) (Fact.rep [0] (a2 : List UInt8))), .fact 902003 (.cst (u1 3) (Fact.isv 10)), .fact 902007 (.cst (u1 7) (Fact.isv 19)), .fact 902008 (.cst (u1 8) (Fact.rep [] ((Str.mk a2) : Str))), .fact 902021 (.cst (u1 21) (Fact.isv 70)), .fact 902025 (.cst (u1 25) (Fact.rep [] ((((((((x11 && (x3.2 == x4.2)) && x12) && (x5.2 == x6.2)) && x13) && (x7.2 == x8.2)) && x14) && (x9.2 == x10.2)) : Bool))), .fact 100010 (.obj 10 [(false, 1), (false, 1), (false, 1)]), .fact 100019 (.obj 19 [(false, 1), (false, 1), (false, 1)]), .fact 100070 (.obj 70 [(false, 1), (false, 1), (false, 1)])]) (FA := [Fact.flds [(false, 1, Fact.ow [55] [56] 28 (x7.1.Blocks : List (List UInt8))), (false, 1, Fact.ow [57] [58] 59 (x7.1.Wait : List Write)), (false, 1, Fact.rep [] x7.1.Dead)]]) rfl Try.func22 rfl rfl rfl (CallOk.fn en22 (HasF.cons (Has.s rfl) HasF.nil)) (fun u1 => (ck (ck (ck (ck (ck (ck (ck (ck (ck (cs 902000 2 (cs 902000 3 (cs 902000 7 (cs 902000 8 (cs 902000 21 (cs 902000 25 (ck (ck (ck Carry.nil))))))))))))))))))) (fun u1 => ?_) ?_
    ·refine CWalk.seq ?_
     refine CWalk.region ?_
     refine ws (Step.boxObj (ls := [(false, 1, Fact.ow [55] [56] 28 (x7.1.Blocks : List (List UInt8))), (false, 1, Fact.ow [57] [58] 59 (x7.1.Wait : List Write)), (false, 1, Fact.rep [] x7.1.Dead)]) 91 rfl rfl rfl rfl (HasL.flds (Has.s rfl))) ?_
     refine Walk.nil ?_
     refine Leaf.thenN ?_
     refine CWalk.seq ?_
     refine CWalk.seq ?_
     refine CWalk.region ?_
     refine wo (Spec.assign Has.int) ?_
     refine Walk.nil ?_
     refine Leaf.thenN ?_
     refine CWalk.block ?_
     obtain ⟨b46, hb46, hm⟩ := bind_some hm
     refine CWalk.loop (fun s : Int => [.fact 1 (.isv 91), .fact 2 (.rep [] (s : Int)), .fact 902002 (.cst (u1 2) (Fact.rep [0] (a2 : List UInt8))), .fact 902003 (.cst (u1 3) (Fact.isv 10)), .fact 902007 (.cst (u1 7) (Fact.isv 19)), .fact 902008 (.cst (u1 8) (Fact.rep [] ((Str.mk a2) : Str))), .fact 902021 (.cst (u1 21) (Fact.isv 70)), .fact 902025 (.cst (u1 25) (Fact.rep [] ((((((((x11 && (x3.2 == x4.2)) && x12) && (x5.2 == x6.2)) && x13) && (x7.2 == x8.2)) && x14) && (x9.2 == x10.2)) : Bool))), .fact 100092 (.at 92 (.lo [55, 56] x7.1.Blocks)), .fact 100093 (.at 93 (.ow [57] [58] 59 (x7.1.Wait : List Write))), .fact 100094 (.at 94 (.rep [] x7.1.Dead)), .fact 100011 (.at 11 (.rep [0] a0.Blocks)), .fact 100012 (.at 12 (.rep [0] a0.Wait)), .fact 100013 (.at 13 (.rep [] a0.Dead)), .fact 100020 (.at 20 (.ow [15] [16] 28 (x2.Blocks : List (List UInt8)))), .fact 100021 (.at 21 (.ow [17] [18] 59 (x2.Wait : List Write))), .fact 100022 (.at 22 (.rep [] x2.Dead)), .fact 100071 (.at 71 (.ow [69] [] 28 (x9.1.Blocks : List (List UInt8)))), .fact 100072 (.at 72 (.ow [69] [] 59 (x9.1.Wait : List Write))), .fact 100073 (.at 73 (.rep [] x9.1.Dead)), .fact 100091 (.obj 91 [(false, 1), (false, 1), (false, 1)]), .fact 100010 (.obj 10 [(false, 1), (false, 1), (false, 1)]), .fact 100019 (.obj 19 [(false, 1), (false, 1), (false, 1)]), .fact 100070 (.obj 70 [(false, 1), (false, 1), (false, 1)])]) (fun b : Unit => (Exit.exit 0, [.fact 1 (.isv 91), .fact 902002 (.cst (u1 2) (Fact.rep [0] (a2 : List UInt8))), .fact 902003 (.cst (u1 3) (Fact.isv 10)), .fact 902007 (.cst (u1 7) (Fact.isv 19)), .fact 902008 (.cst (u1 8) (Fact.rep [] ((Str.mk a2) : Str))), .fact 902021 (.cst (u1 21) (Fact.isv 70)), .fact 902025 (.cst (u1 25) (Fact.rep [] ((((((((x11 && (x3.2 == x4.2)) && x12) && (x5.2 == x6.2)) && x13) && (x7.2 == x8.2)) && x14) && (x9.2 == x10.2)) : Bool))), .fact 100092 (.at 92 (.lo [55, 56] x7.1.Blocks)), .fact 100093 (.at 93 (.ow [57] [58] 59 (x7.1.Wait : List Write))), .fact 100094 (.at 94 (.rep [] x7.1.Dead)), .fact 100011 (.at 11 (.rep [0] a0.Blocks)), .fact 100012 (.at 12 (.rep [0] a0.Wait)), .fact 100013 (.at 13 (.rep [] a0.Dead)), .fact 100020 (.at 20 (.ow [15] [16] 28 (x2.Blocks : List (List UInt8)))), .fact 100021 (.at 21 (.ow [17] [18] 59 (x2.Wait : List Write))), .fact 100022 (.at 22 (.rep [] x2.Dead)), .fact 100071 (.at 71 (.ow [69] [] 28 (x9.1.Blocks : List (List UInt8)))), .fact 100072 (.at 72 (.ow [69] [] 59 (x9.1.Wait : List Write))), .fact 100073 (.at 73 (.rep [] x9.1.Dead)), .fact 100091 (.obj 91 [(false, 1), (false, 1), (false, 1)]), .fact 100010 (.obj 10 [(false, 1), (false, 1), (false, 1)]), .fact 100019 (.obj 19 [(false, 1), (false, 1), (false, 1)]), .fact 100070 (.obj 70 [(false, 1), (false, 1), (false, 1)])])) hb46 (sn (st (Sub.cons (Has.cst (HasC.cv (HasC.s (s := 902002) rfl) (Cv.m rfl))) (sc (sc (Sub.cons (Has.cst (HasC.cv (HasC.s (s := 902008) rfl) Cv.fl)) (sc (Sub.cons (Has.cst (HasC.cv (HasC.s (s := 902025) rfl) Cv.fl)) (Sub.cons (Has.at (HasG.cv (HasG.s rfl) (Cv.trans (Cv.trans Cv.owSl (Cv.slRep (T' := [55, 56]) rfl rfl)) (Cv.lo rfl)))) (Sub.cons (Has.at (HasG.cv (HasG.s rfl) (Cv.owM (T := [57]) (te := [58]) rfl rfl))) (sf (sm (sm (sf (Sub.cons (Has.at (HasG.cv (HasG.s rfl) (Cv.owM (T := [15]) (te := [16]) rfl rfl))) (Sub.cons (Has.at (HasG.cv (HasG.s rfl) (Cv.owM (T := [17]) (te := [18]) rfl rfl))) (sf (Sub.cons (Has.at (HasG.cv (HasG.s rfl) (Cv.owM (T := [69]) (te := []) rfl rfl))) (Sub.cons (Has.at (HasG.cv (HasG.s rfl) (Cv.owM (T := [69]) (te := []) rfl rfl))) (sf (sn (sn (sn (sn Sub.nil)))))))))))))))))))))))) ?_ ?_
     ·rintro s37 c38 hm
      replace hm : law04_DiskTurns_L9 x7 s37 = some c38 := hm
      unfold law04_DiskTurns_L9 at hm
      show CWalk _ [.fact 1 (.isv 91), .fact 2 (.rep [] (s37 : Int)), .fact 902002 (.cst (u1 2) (Fact.rep [0] (a2 : List UInt8))), .fact 902003 (.cst (u1 3) (Fact.isv 10)), .fact 902007 (.cst (u1 7) (Fact.isv 19)), .fact 902008 (.cst (u1 8) (Fact.rep [] ((Str.mk a2) : Str))), .fact 902021 (.cst (u1 21) (Fact.isv 70)), .fact 902025 (.cst (u1 25) (Fact.rep [] ((((((((x11 && (x3.2 == x4.2)) && x12) && (x5.2 == x6.2)) && x13) && (x7.2 == x8.2)) && x14) && (x9.2 == x10.2)) : Bool))), .fact 100092 (.at 92 (.lo [55, 56] x7.1.Blocks)), .fact 100093 (.at 93 (.ow [57] [58] 59 (x7.1.Wait : List Write))), .fact 100094 (.at 94 (.rep [] x7.1.Dead)), .fact 100011 (.at 11 (.rep [0] a0.Blocks)), .fact 100012 (.at 12 (.rep [0] a0.Wait)), .fact 100013 (.at 13 (.rep [] a0.Dead)), .fact 100020 (.at 20 (.ow [15] [16] 28 (x2.Blocks : List (List UInt8)))), .fact 100021 (.at 21 (.ow [17] [18] 59 (x2.Wait : List Write))), .fact 100022 (.at 22 (.rep [] x2.Dead)), .fact 100071 (.at 71 (.ow [69] [] 28 (x9.1.Blocks : List (List UInt8)))), .fact 100072 (.at 72 (.ow [69] [] 59 (x9.1.Wait : List Write))), .fact 100073 (.at 73 (.rep [] x9.1.Dead)), .fact 100091 (.obj 91 [(false, 1), (false, 1), (false, 1)]), .fact 100010 (.obj 10 [(false, 1), (false, 1), (false, 1)]), .fact 100019 (.obj 19 [(false, 1), (false, 1), (false, 1)]), .fact 100070 (.obj 70 [(false, 1), (false, 1), (false, 1)])] _ _
      refine CWalk.seq ?_
      refine CWalk.seq ?_
      refine CWalk.region ?_
      refine mv ?_
      refine wo (Spec.fieldAddrO fd25_0 (Has.cv (Has.s rfl) (Cv.isvP rfl))) ?_
      refine wo (Spec.loadF (i := 0) ty22 rfl (Has.s rfl) rfl (HasG.s rfl)) ?_
      refine wo (Spec.lenLo (Has.s rfl) Try.underlying22) ?_
      refine wo (Spec.lssI (Has.s rfl) (Has.s rfl)) ?_
      refine Walk.nil ?_
      refine Leaf.thenN ?_
      refine CWalk.cond rfl (fun hb => ?_) (fun hb => ?_)
      ·have hm := cond_t hb hm
       refine CWalk.skip ?_
       refine Leaf.thenN ?_
       refine CWalk.seq ?_
       refine CWalk.block ?_
       refine CWalk.seq ?_
       refine CWalk.region ?_
       refine wo (Spec.assign Has.int) ?_
       refine Walk.nil ?_
       refine Leaf.thenN ?_
       refine CWalk.block ?_
       obtain ⟨b45, hb45, hm⟩ := bind_some hm
       refine CWalk.loop (fun s : Int => [.fact 1 (.isv 91), .fact 2 (.rep [] (s37 : Int)), .fact 3 (.rep [] (s : Int)), .fact 902002 (.cst (u1 2) (Fact.rep [0] (a2 : List UInt8))), .fact 902003 (.cst (u1 3) (Fact.isv 10)), .fact 902007 (.cst (u1 7) (Fact.isv 19)), .fact 902008 (.cst (u1 8) (Fact.rep [] ((Str.mk a2) : Str))), .fact 902021 (.cst (u1 21) (Fact.isv 70)), .fact 902025 (.cst (u1 25) (Fact.rep [] ((((((((x11 && (x3.2 == x4.2)) && x12) && (x5.2 == x6.2)) && x13) && (x7.2 == x8.2)) && x14) && (x9.2 == x10.2)) : Bool))), .fact 100092 (.at 92 (.lo [55, 56] x7.1.Blocks)), .fact 100093 (.at 93 (.ow [57] [58] 59 (x7.1.Wait : List Write))), .fact 100094 (.at 94 (.rep [] x7.1.Dead)), .fact 100011 (.at 11 (.rep [0] a0.Blocks)), .fact 100012 (.at 12 (.rep [0] a0.Wait)), .fact 100013 (.at 13 (.rep [] a0.Dead)), .fact 100020 (.at 20 (.ow [15] [16] 28 (x2.Blocks : List (List UInt8)))), .fact 100021 (.at 21 (.ow [17] [18] 59 (x2.Wait : List Write))), .fact 100022 (.at 22 (.rep [] x2.Dead)), .fact 100071 (.at 71 (.ow [69] [] 28 (x9.1.Blocks : List (List UInt8)))), .fact 100072 (.at 72 (.ow [69] [] 59 (x9.1.Wait : List Write))), .fact 100073 (.at 73 (.rep [] x9.1.Dead)), .fact 100091 (.obj 91 [(false, 1), (false, 1), (false, 1)]), .fact 100010 (.obj 10 [(false, 1), (false, 1), (false, 1)]), .fact 100019 (.obj 19 [(false, 1), (false, 1), (false, 1)]), .fact 100070 (.obj 70 [(false, 1), (false, 1), (false, 1)])]) (fun b : Unit => (Exit.exit 2, [.fact 1 (.isv 91), .fact 2 (.rep [] (s37 : Int)), .fact 902002 (.cst (u1 2) (Fact.rep [0] (a2 : List UInt8))), .fact 902003 (.cst (u1 3) (Fact.isv 10)), .fact 902007 (.cst (u1 7) (Fact.isv 19)), .fact 902008 (.cst (u1 8) (Fact.rep [] ((Str.mk a2) : Str))), .fact 902021 (.cst (u1 21) (Fact.isv 70)), .fact 902025 (.cst (u1 25) (Fact.rep [] ((((((((x11 && (x3.2 == x4.2)) && x12) && (x5.2 == x6.2)) && x13) && (x7.2 == x8.2)) && x14) && (x9.2 == x10.2)) : Bool))), .fact 100092 (.at 92 (.lo [55, 56] x7.1.Blocks)), .fact 100093 (.at 93 (.ow [57] [58] 59 (x7.1.Wait : List Write))), .fact 100094 (.at 94 (.rep [] x7.1.Dead)), .fact 100011 (.at 11 (.rep [0] a0.Blocks)), .fact 100012 (.at 12 (.rep [0] a0.Wait)), .fact 100013 (.at 13 (.rep [] a0.Dead)), .fact 100020 (.at 20 (.ow [15] [16] 28 (x2.Blocks : List (List UInt8)))), .fact 100021 (.at 21 (.ow [17] [18] 59 (x2.Wait : List Write))), .fact 100022 (.at 22 (.rep [] x2.Dead)), .fact 100071 (.at 71 (.ow [69] [] 28 (x9.1.Blocks : List (List UInt8)))), .fact 100072 (.at 72 (.ow [69] [] 59 (x9.1.Wait : List Write))), .fact 100073 (.at 73 (.rep [] x9.1.Dead)), .fact 100091 (.obj 91 [(false, 1), (false, 1), (false, 1)]), .fact 100010 (.obj 10 [(false, 1), (false, 1), (false, 1)]), .fact 100019 (.obj 19 [(false, 1), (false, 1), (false, 1)]), .fact 100070 (.obj 70 [(false, 1), (false, 1), (false, 1)])])) hb45 (sn (st (st (Sub.cons (Has.cst (HasC.cv (HasC.s (s := 902002) rfl) (Cv.m rfl))) (sc (sc (Sub.cons (Has.cst (HasC.cv (HasC.s (s := 902008) rfl) Cv.fl)) (sc (Sub.cons (Has.cst (HasC.cv (HasC.s (s := 902025) rfl) Cv.fl)) (sg (Sub.cons (Has.at (HasG.cv (HasG.s rfl) (Cv.owM (T := [57]) (te := [58]) rfl rfl))) (sf (sm (sm (sf (Sub.cons (Has.at (HasG.cv (HasG.s rfl) (Cv.owM (T := [15]) (te := [16]) rfl rfl))) (Sub.cons (Has.at (HasG.cv (HasG.s rfl) (Cv.owM (T := [17]) (te := [18]) rfl rfl))) (sf (Sub.cons (Has.at (HasG.cv (HasG.s rfl) (Cv.owM (T := [69]) (te := []) rfl rfl))) (Sub.cons (Has.at (HasG.cv (HasG.s rfl) (Cv.owM (T := [69]) (te := []) rfl rfl))) (sf (sn (sn (sn (sn Sub.nil))))))))))))))))))))))))) ?_ ?_
       ·rintro s39 c40 hm
        replace hm : law04_DiskTurns_L10 x7 s37 s39 = some c40 := hm
        unfold law04_DiskTurns_L10 at hm
        show CWalk _ [.fact 1 (.isv 91), .fact 2 (.rep [] (s37 : Int)), .fact 3 (.rep [] (s39 : Int)), .fact 902002 (.cst (u1 2) (Fact.rep [0] (a2 : List UInt8))), .fact 902003 (.cst (u1 3) (Fact.isv 10)), .fact 902007 (.cst (u1 7) (Fact.isv 19)), .fact 902008 (.cst (u1 8) (Fact.rep [] ((Str.mk a2) : Str))), .fact 902021 (.cst (u1 21) (Fact.isv 70)), .fact 902025 (.cst (u1 25) (Fact.rep [] ((((((((x11 && (x3.2 == x4.2)) && x12) && (x5.2 == x6.2)) && x13) && (x7.2 == x8.2)) && x14) && (x9.2 == x10.2)) : Bool))), .fact 100092 (.at 92 (.lo [55, 56] x7.1.Blocks)), .fact 100093 (.at 93 (.ow [57] [58] 59 (x7.1.Wait : List Write))), .fact 100094 (.at 94 (.rep [] x7.1.Dead)), .fact 100011 (.at 11 (.rep [0] a0.Blocks)), .fact 100012 (.at 12 (.rep [0] a0.Wait)), .fact 100013 (.at 13 (.rep [] a0.Dead)), .fact 100020 (.at 20 (.ow [15] [16] 28 (x2.Blocks : List (List UInt8)))), .fact 100021 (.at 21 (.ow [17] [18] 59 (x2.Wait : List Write))), .fact 100022 (.at 22 (.rep [] x2.Dead)), .fact 100071 (.at 71 (.ow [69] [] 28 (x9.1.Blocks : List (List UInt8)))), .fact 100072 (.at 72 (.ow [69] [] 59 (x9.1.Wait : List Write))), .fact 100073 (.at 73 (.rep [] x9.1.Dead)), .fact 100091 (.obj 91 [(false, 1), (false, 1), (false, 1)]), .fact 100010 (.obj 10 [(false, 1), (false, 1), (false, 1)]), .fact 100019 (.obj 19 [(false, 1), (false, 1), (false, 1)]), .fact 100070 (.obj 70 [(false, 1), (false, 1), (false, 1)])] _ _
        refine CWalk.seq ?_
        refine CWalk.seq ?_
        refine CWalk.region ?_
        refine mv ?_
        refine wo (Spec.fieldAddrO fd25_0 (Has.cv (Has.s rfl) (Cv.isvP rfl))) ?_
        refine wo (Spec.loadF (i := 0) ty22 rfl (Has.s rfl) rfl (HasG.s rfl)) ?_
        refine mv ?_
        obtain ⟨x41, hx41, hm⟩ := bind_some hm
        refine wo (Spec.idxLo hx41 sl22 (Has.s rfl) (Has.s rfl)) ?_
        refine wo (Spec.loadLo ty28 (Has.s rfl)) ?_
        refine wo (Spec.lenLo (Has.s rfl) Try.underlying28) ?_
        refine wo (Spec.lssI (Has.s rfl) (Has.s rfl)) ?_
        refine Walk.nil ?_
        refine Leaf.thenN ?_
        refine CWalk.cond rfl (fun hb => ?_) (fun hb => ?_)
        ·have hm := cond_t hb hm
         refine CWalk.skip ?_
         refine Leaf.thenN ?_
         refine CWalk.seq ?_
         refine CWalk.block ?_
         refine CWalk.region ?_
         refine wo (Spec.fieldAddrO fd25_0 (Has.cv (Has.s rfl) (Cv.isvP rfl))) ?_
         refine wo (Spec.loadF (i := 0) ty22 rfl (Has.s rfl) rfl (HasG.s rfl)) ?_
         refine mv ?_
         obtain ⟨x42, hx42, hm⟩ := bind_some hm
         refine wo (Spec.idxLo hx42 sl22 (Has.s rfl) (Has.s rfl)) ?_
         refine wo (Spec.loadLo ty28 (Has.s rfl)) ?_
         refine mv ?_
         obtain ⟨x43, hx43, hm⟩ := bind_some hm
         refine wo (Spec.idxLo hx43 sl28 (Has.s rfl) (Has.s rfl)) ?_
         refine wo (Spec.loadLo ty5 (Has.s rfl)) ?_
         refine wo (Spec.add8Lo (Has.s rfl) (Has.u8 1 rfl)) ?_
         obtain ⟨x44, hx44, hm⟩ := bind_some hm
         refine wo (Spec.idxLo hx44 sl28 (Has.s rfl) (Has.s rfl)) ?_
         refine ws (Step.storeL (T := [55, 56]) (LL := [.fact 100092 (.at 92 (.lo [55, 56] x7.1.Blocks))]) rfl ty5 (Has.s rfl) (Has.s rfl) (LooseL.loF rfl LooseL.nil)) ?_
         refine Walk.nil ?_
         refine Leaf.blockN ?_
         refine Leaf.thenN ?_
         refine CWalk.region ?_
         refine mv ?_
         refine wo (Spec.addI (Has.s rfl) Has.int) ?_
         refine wo (Spec.assign (Has.s rfl)) ?_
         refine Walk.nil ?_
         exact Leaf.next hm (sn (st (st (Sub.cons (Has.cst (HasC.cv (HasC.s (s := 902002) rfl) (Cv.m rfl))) (sc (sc (Sub.cons (Has.cst (HasC.cv (HasC.s (s := 902008) rfl) Cv.fl)) (sc (Sub.cons (Has.cst (HasC.cv (HasC.s (s := 902025) rfl) Cv.fl)) (sg (Sub.cons (Has.at (HasG.cv (HasG.s rfl) (Cv.owM (T := [57]) (te := [58]) rfl rfl))) (sf (sm (sm (sf (Sub.cons (Has.at (HasG.cv (HasG.s rfl) (Cv.owM (T := [15]) (te := [16]) rfl rfl))) (Sub.cons (Has.at (HasG.cv (HasG.s rfl) (Cv.owM (T := [17]) (te := [18]) rfl rfl))) (sf (Sub.cons (Has.at (HasG.cv (HasG.s rfl) (Cv.owM (T := [69]) (te := []) rfl rfl))) (Sub.cons (Has.at (HasG.cv (HasG.s rfl) (Cv.owM (T := [69]) (te := []) rfl rfl))) (sf (sn (sn (sn (sn Sub.nil)))))))))))))))))))))))))
        ·have hm := cond_f hb hm
         refine CWalk.exit ?_
         refine Leaf.thenE ?_
         exact Leaf.brk hm (fun h => nomatch h) rfl (sn (st (Sub.cons (Has.cst (HasC.cv (HasC.s (s := 902002) rfl) (Cv.m rfl))) (sc (sc (Sub.cons (Has.cst (HasC.cv (HasC.s (s := 902008) rfl) Cv.fl)) (sc (Sub.cons (Has.cst (HasC.cv (HasC.s (s := 902025) rfl) Cv.fl)) (sg (Sub.cons (Has.at (HasG.cv (HasG.s rfl) (Cv.owM (T := [57]) (te := [58]) rfl rfl))) (sf (sm (sm (sf (Sub.cons (Has.at (HasG.cv (HasG.s rfl) (Cv.owM (T := [15]) (te := [16]) rfl rfl))) (Sub.cons (Has.at (HasG.cv (HasG.s rfl) (Cv.owM (T := [17]) (te := [18]) rfl rfl))) (sf (Sub.cons (Has.at (HasG.cv (HasG.s rfl) (Cv.owM (T := [69]) (te := []) rfl rfl))) (Sub.cons (Has.at (HasG.cv (HasG.s rfl) (Cv.owM (T := [69]) (te := []) rfl rfl))) (sf (sn (sn (sn (sn Sub.nil))))))))))))))))))))))))
       ·intro _
        refine Leaf.blockE ?_
        refine Leaf.blockN ?_
        refine Leaf.thenN ?_
        refine CWalk.region ?_
        refine mv ?_
        refine wo (Spec.addI (Has.s rfl) Has.int) ?_
        refine wo (Spec.assign (Has.s rfl)) ?_
        refine Walk.nil ?_
        exact Leaf.next hm (sn (st (Sub.cons (Has.cst (HasC.cv (HasC.s (s := 902002) rfl) (Cv.m rfl))) (sc (sc (Sub.cons (Has.cst (HasC.cv (HasC.s (s := 902008) rfl) Cv.fl)) (sc (Sub.cons (Has.cst (HasC.cv (HasC.s (s := 902025) rfl) Cv.fl)) (sg (Sub.cons (Has.at (HasG.cv (HasG.s rfl) (Cv.owM (T := [57]) (te := [58]) rfl rfl))) (sf (sm (sm (sf (Sub.cons (Has.at (HasG.cv (HasG.s rfl) (Cv.owM (T := [15]) (te := [16]) rfl rfl))) (Sub.cons (Has.at (HasG.cv (HasG.s rfl) (Cv.owM (T := [17]) (te := [18]) rfl rfl))) (sf (Sub.cons (Has.at (HasG.cv (HasG.s rfl) (Cv.owM (T := [69]) (te := []) rfl rfl))) (Sub.cons (Has.at (HasG.cv (HasG.s rfl) (Cv.owM (T := [69]) (te := []) rfl rfl))) (sf (sn (sn (sn (sn Sub.nil))))))))))))))))))))))))
      ·have hm := cond_f hb hm
       refine CWalk.exit ?_
       refine Leaf.thenE ?_
       exact Leaf.brk hm (fun h => nomatch h) rfl (sn (Sub.cons (Has.cst (HasC.cv (HasC.s (s := 902002) rfl) (Cv.m rfl))) (sc (sc (Sub.cons (Has.cst (HasC.cv (HasC.s (s := 902008) rfl) Cv.fl)) (sc (Sub.cons (Has.cst (HasC.cv (HasC.s (s := 902025) rfl) Cv.fl)) (sg (Sub.cons (Has.at (HasG.cv (HasG.s rfl) (Cv.owM (T := [57]) (te := [58]) rfl rfl))) (sf (sm (sm (sf (Sub.cons (Has.at (HasG.cv (HasG.s rfl) (Cv.owM (T := [15]) (te := [16]) rfl rfl))) (Sub.cons (Has.at (HasG.cv (HasG.s rfl) (Cv.owM (T := [17]) (te := [18]) rfl rfl))) (sf (Sub.cons (Has.at (HasG.cv (HasG.s rfl) (Cv.owM (T := [69]) (te := []) rfl rfl))) (Sub.cons (Has.at (HasG.cv (HasG.s rfl) (Cv.owM (T := [69]) (te := []) rfl rfl))) (sf (sn (sn (sn (sn Sub.nil)))))))))))))))))))))))
     ·intro _
      refine Leaf.blockE ?_
      refine Leaf.thenN ?_
      refine CWalk.seq ?_
      refine CWalk.region ?_
      refine wo (Spec.assign Has.int) ?_
      refine Walk.nil ?_
      refine Leaf.thenN ?_
      refine CWalk.block ?_
      obtain ⟨b57, hb57, hm⟩ := bind_some hm
      refine CWalk.loop (fun s : Int => [.fact 1 (.isv 91), .fact 4 (.rep [] (s : Int)), .fact 902002 (.cst (u1 2) (Fact.rep [0] (a2 : List UInt8))), .fact 902003 (.cst (u1 3) (Fact.isv 10)), .fact 902007 (.cst (u1 7) (Fact.isv 19)), .fact 902008 (.cst (u1 8) (Fact.rep [] ((Str.mk a2) : Str))), .fact 902021 (.cst (u1 21) (Fact.isv 70)), .fact 902025 (.cst (u1 25) (Fact.rep [] ((((((((x11 && (x3.2 == x4.2)) && x12) && (x5.2 == x6.2)) && x13) && (x7.2 == x8.2)) && x14) && (x9.2 == x10.2)) : Bool))), .fact 100092 (.at 92 (.lo [55, 56] x7.1.Blocks)), .fact 100093 (.at 93 (.lo [57, 58] x7.1.Wait)), .fact 100094 (.at 94 (.rep [] x7.1.Dead)), .fact 100011 (.at 11 (.rep [0] a0.Blocks)), .fact 100012 (.at 12 (.rep [0] a0.Wait)), .fact 100013 (.at 13 (.rep [] a0.Dead)), .fact 100020 (.at 20 (.ow [15] [16] 28 (x2.Blocks : List (List UInt8)))), .fact 100021 (.at 21 (.ow [17] [18] 59 (x2.Wait : List Write))), .fact 100022 (.at 22 (.rep [] x2.Dead)), .fact 100071 (.at 71 (.ow [69] [] 28 (x9.1.Blocks : List (List UInt8)))), .fact 100072 (.at 72 (.ow [69] [] 59 (x9.1.Wait : List Write))), .fact 100073 (.at 73 (.rep [] x9.1.Dead)), .fact 100091 (.obj 91 [(false, 1), (false, 1), (false, 1)]), .fact 100010 (.obj 10 [(false, 1), (false, 1), (false, 1)]), .fact 100019 (.obj 19 [(false, 1), (false, 1), (false, 1)]), .fact 100070 (.obj 70 [(false, 1), (false, 1), (false, 1)])]) (fun b : Unit => (Exit.exit 4, [.fact 902002 (.cst (u1 2) (Fact.rep [0] (a2 : List UInt8))), .fact 902003 (.cst (u1 3) (Fact.isv 10)), .fact 902007 (.cst (u1 7) (Fact.isv 19)), .fact 902008 (.cst (u1 8) (Fact.rep [] ((Str.mk a2) : Str))), .fact 902021 (.cst (u1 21) (Fact.isv 70)), .fact 902025 (.cst (u1 25) (Fact.rep [] ((((((((x11 && (x3.2 == x4.2)) && x12) && (x5.2 == x6.2)) && x13) && (x7.2 == x8.2)) && x14) && (x9.2 == x10.2)) : Bool))), .fact 100011 (.at 11 (.rep [0] a0.Blocks)), .fact 100012 (.at 12 (.rep [0] a0.Wait)), .fact 100013 (.at 13 (.rep [] a0.Dead)), .fact 100020 (.at 20 (.ow [15] [16] 28 (x2.Blocks : List (List UInt8)))), .fact 100021 (.at 21 (.ow [17] [18] 59 (x2.Wait : List Write))), .fact 100022 (.at 22 (.rep [] x2.Dead)), .fact 100071 (.at 71 (.ow [69] [] 28 (x9.1.Blocks : List (List UInt8)))), .fact 100072 (.at 72 (.ow [69] [] 59 (x9.1.Wait : List Write))), .fact 100073 (.at 73 (.rep [] x9.1.Dead)), .fact 100010 (.obj 10 [(false, 1), (false, 1), (false, 1)]), .fact 100019 (.obj 19 [(false, 1), (false, 1), (false, 1)]), .fact 100070 (.obj 70 [(false, 1), (false, 1), (false, 1)])])) hb57 (sn (st (Sub.cons (Has.cst (HasC.cv (HasC.s (s := 902002) rfl) (Cv.m rfl))) (sc (sc (Sub.cons (Has.cst (HasC.cv (HasC.s (s := 902008) rfl) Cv.fl)) (sc (Sub.cons (Has.cst (HasC.cv (HasC.s (s := 902025) rfl) Cv.fl)) (sg (Sub.cons (Has.at (HasG.cv (HasG.s rfl) (Cv.trans (Cv.trans Cv.owSl (Cv.slRep (T' := [57, 58]) rfl rfl)) (Cv.lo rfl)))) (sf (sm (sm (sf (Sub.cons (Has.at (HasG.cv (HasG.s rfl) (Cv.owM (T := [15]) (te := [16]) rfl rfl))) (Sub.cons (Has.at (HasG.cv (HasG.s rfl) (Cv.owM (T := [17]) (te := [18]) rfl rfl))) (sf (Sub.cons (Has.at (HasG.cv (HasG.s rfl) (Cv.owM (T := [69]) (te := []) rfl rfl))) (Sub.cons (Has.at (HasG.cv (HasG.s rfl) (Cv.owM (T := [69]) (te := []) rfl rfl))) (sf (sn (sn (sn (sn Sub.nil)))))))))))))))))))))))) ?_ ?_
      ·rintro s47 c48 hm
       replace hm : law04_DiskTurns_L11 x7 s47 = some c48 := hm
       unfold law04_DiskTurns_L11 at hm
       show CWalk _ [.fact 1 (.isv 91), .fact 4 (.rep [] (s47 : Int)), .fact 902002 (.cst (u1 2) (Fact.rep [0] (a2 : List UInt8))), .fact 902003 (.cst (u1 3) (Fact.isv 10)), .fact 902007 (.cst (u1 7) (Fact.isv 19)), .fact 902008 (.cst (u1 8) (Fact.rep [] ((Str.mk a2) : Str))), .fact 902021 (.cst (u1 21) (Fact.isv 70)), .fact 902025 (.cst (u1 25) (Fact.rep [] ((((((((x11 && (x3.2 == x4.2)) && x12) && (x5.2 == x6.2)) && x13) && (x7.2 == x8.2)) && x14) && (x9.2 == x10.2)) : Bool))), .fact 100092 (.at 92 (.lo [55, 56] x7.1.Blocks)), .fact 100093 (.at 93 (.lo [57, 58] x7.1.Wait)), .fact 100094 (.at 94 (.rep [] x7.1.Dead)), .fact 100011 (.at 11 (.rep [0] a0.Blocks)), .fact 100012 (.at 12 (.rep [0] a0.Wait)), .fact 100013 (.at 13 (.rep [] a0.Dead)), .fact 100020 (.at 20 (.ow [15] [16] 28 (x2.Blocks : List (List UInt8)))), .fact 100021 (.at 21 (.ow [17] [18] 59 (x2.Wait : List Write))), .fact 100022 (.at 22 (.rep [] x2.Dead)), .fact 100071 (.at 71 (.ow [69] [] 28 (x9.1.Blocks : List (List UInt8)))), .fact 100072 (.at 72 (.ow [69] [] 59 (x9.1.Wait : List Write))), .fact 100073 (.at 73 (.rep [] x9.1.Dead)), .fact 100091 (.obj 91 [(false, 1), (false, 1), (false, 1)]), .fact 100010 (.obj 10 [(false, 1), (false, 1), (false, 1)]), .fact 100019 (.obj 19 [(false, 1), (false, 1), (false, 1)]), .fact 100070 (.obj 70 [(false, 1), (false, 1), (false, 1)])] _ _
       refine CWalk.seq ?_
       refine CWalk.seq ?_
       refine CWalk.region ?_
       refine mv ?_
       refine wo (Spec.fieldAddrO fd25_1 (Has.cv (Has.s rfl) (Cv.isvP rfl))) ?_
       refine wo (Spec.loadF (i := 1) ty23 rfl (Has.s rfl) rfl (HasG.s rfl)) ?_
       refine wo (Spec.lenLo (Has.s rfl) Try.underlying23) ?_
       refine wo (Spec.lssI (Has.s rfl) (Has.s rfl)) ?_
       refine Walk.nil ?_
       refine Leaf.thenN ?_
       refine CWalk.cond rfl (fun hb => ?_) (fun hb => ?_)
       ·have hm := cond_t hb hm
        refine CWalk.skip ?_
        refine Leaf.thenN ?_
        refine CWalk.seq ?_
        refine CWalk.block ?_
        refine CWalk.seq ?_
        refine CWalk.region ?_
        refine wo (Spec.fieldAddrO fd25_1 (Has.cv (Has.s rfl) (Cv.isvP rfl))) ?_
        refine wo (Spec.loadF (i := 1) ty23 rfl (Has.s rfl) rfl (HasG.s rfl)) ?_
        refine mv ?_
        obtain ⟨x49, hx49, hm⟩ := bind_some hm
        refine wo (Spec.idxLo hx49 sl23 (Has.s rfl) (Has.s rfl)) ?_
        refine wo (Spec.fieldLo fd59_0 (loWrite_0 _) (Has.s rfl)) ?_
        refine ws (Step.storeL (T := [57, 58]) (Tx := []) (LL := [.fact 100093 (.at 93 (.lo [57, 58] x7.1.Wait))]) rfl ty3 (Has.s rfl) (Has.cv Has.int Cv.loF) (LooseL.loF rfl LooseL.nil)) ?_
        refine Walk.nil ?_
        refine Leaf.thenN ?_
        refine CWalk.seq ?_
        refine CWalk.region ?_
        refine wo (Spec.assign Has.int) ?_
        refine Walk.nil ?_
        refine Leaf.thenN ?_
        refine CWalk.block ?_
        obtain ⟨b56, hb56, hm⟩ := bind_some hm
        refine CWalk.loop (fun s : Int => [.fact 1 (.isv 91), .fact 4 (.rep [] (s47 : Int)), .fact 5 (.rep [] (s : Int)), .fact 902002 (.cst (u1 2) (Fact.rep [0] (a2 : List UInt8))), .fact 902003 (.cst (u1 3) (Fact.isv 10)), .fact 902007 (.cst (u1 7) (Fact.isv 19)), .fact 902008 (.cst (u1 8) (Fact.rep [] ((Str.mk a2) : Str))), .fact 902021 (.cst (u1 21) (Fact.isv 70)), .fact 902025 (.cst (u1 25) (Fact.rep [] ((((((((x11 && (x3.2 == x4.2)) && x12) && (x5.2 == x6.2)) && x13) && (x7.2 == x8.2)) && x14) && (x9.2 == x10.2)) : Bool))), .fact 100092 (.at 92 (.lo [55, 56] x7.1.Blocks)), .fact 100093 (.at 93 (.lo [57, 58] x7.1.Wait)), .fact 100094 (.at 94 (.rep [] x7.1.Dead)), .fact 100011 (.at 11 (.rep [0] a0.Blocks)), .fact 100012 (.at 12 (.rep [0] a0.Wait)), .fact 100013 (.at 13 (.rep [] a0.Dead)), .fact 100020 (.at 20 (.ow [15] [16] 28 (x2.Blocks : List (List UInt8)))), .fact 100021 (.at 21 (.ow [17] [18] 59 (x2.Wait : List Write))), .fact 100022 (.at 22 (.rep [] x2.Dead)), .fact 100071 (.at 71 (.ow [69] [] 28 (x9.1.Blocks : List (List UInt8)))), .fact 100072 (.at 72 (.ow [69] [] 59 (x9.1.Wait : List Write))), .fact 100073 (.at 73 (.rep [] x9.1.Dead)), .fact 100091 (.obj 91 [(false, 1), (false, 1), (false, 1)]), .fact 100010 (.obj 10 [(false, 1), (false, 1), (false, 1)]), .fact 100019 (.obj 19 [(false, 1), (false, 1), (false, 1)]), .fact 100070 (.obj 70 [(false, 1), (false, 1), (false, 1)])]) (fun b : Unit => (Exit.exit 6, [.fact 1 (.isv 91), .fact 4 (.rep [] (s47 : Int)), .fact 902002 (.cst (u1 2) (Fact.rep [0] (a2 : List UInt8))), .fact 902003 (.cst (u1 3) (Fact.isv 10)), .fact 902007 (.cst (u1 7) (Fact.isv 19)), .fact 902008 (.cst (u1 8) (Fact.rep [] ((Str.mk a2) : Str))), .fact 902021 (.cst (u1 21) (Fact.isv 70)), .fact 902025 (.cst (u1 25) (Fact.rep [] ((((((((x11 && (x3.2 == x4.2)) && x12) && (x5.2 == x6.2)) && x13) && (x7.2 == x8.2)) && x14) && (x9.2 == x10.2)) : Bool))), .fact 100092 (.at 92 (.lo [55, 56] x7.1.Blocks)), .fact 100093 (.at 93 (.lo [57, 58] x7.1.Wait)), .fact 100094 (.at 94 (.rep [] x7.1.Dead)), .fact 100011 (.at 11 (.rep [0] a0.Blocks)), .fact 100012 (.at 12 (.rep [0] a0.Wait)), .fact 100013 (.at 13 (.rep [] a0.Dead)), .fact 100020 (.at 20 (.ow [15] [16] 28 (x2.Blocks : List (List UInt8)))), .fact 100021 (.at 21 (.ow [17] [18] 59 (x2.Wait : List Write))), .fact 100022 (.at 22 (.rep [] x2.Dead)), .fact 100071 (.at 71 (.ow [69] [] 28 (x9.1.Blocks : List (List UInt8)))), .fact 100072 (.at 72 (.ow [69] [] 59 (x9.1.Wait : List Write))), .fact 100073 (.at 73 (.rep [] x9.1.Dead)), .fact 100091 (.obj 91 [(false, 1), (false, 1), (false, 1)]), .fact 100010 (.obj 10 [(false, 1), (false, 1), (false, 1)]), .fact 100019 (.obj 19 [(false, 1), (false, 1), (false, 1)]), .fact 100070 (.obj 70 [(false, 1), (false, 1), (false, 1)])])) hb56 (sn (st (st (Sub.cons (Has.cst (HasC.cv (HasC.s (s := 902002) rfl) (Cv.m rfl))) (sc (sc (Sub.cons (Has.cst (HasC.cv (HasC.s (s := 902008) rfl) Cv.fl)) (sc (Sub.cons (Has.cst (HasC.cv (HasC.s (s := 902025) rfl) Cv.fl)) (sg (sg (sf (sm (sm (sf (Sub.cons (Has.at (HasG.cv (HasG.s rfl) (Cv.owM (T := [15]) (te := [16]) rfl rfl))) (Sub.cons (Has.at (HasG.cv (HasG.s rfl) (Cv.owM (T := [17]) (te := [18]) rfl rfl))) (sf (Sub.cons (Has.at (HasG.cv (HasG.s rfl) (Cv.owM (T := [69]) (te := []) rfl rfl))) (Sub.cons (Has.at (HasG.cv (HasG.s rfl) (Cv.owM (T := [69]) (te := []) rfl rfl))) (sf (sn (sn (sn (sn Sub.nil))))))))))))))))))))))))) ?_ ?_
        ·rintro s50 c51 hm
         replace hm : law04_DiskTurns_L12 x7 s47 s50 = some c51 := hm
         unfold law04_DiskTurns_L12 at hm
         show CWalk _ [.fact 1 (.isv 91), .fact 4 (.rep [] (s47 : Int)), .fact 5 (.rep [] (s50 : Int)), .fact 902002 (.cst (u1 2) (Fact.rep [0] (a2 : List UInt8))), .fact 902003 (.cst (u1 3) (Fact.isv 10)), .fact 902007 (.cst (u1 7) (Fact.isv 19)), .fact 902008 (.cst (u1 8) (Fact.rep [] ((Str.mk a2) : Str))), .fact 902021 (.cst (u1 21) (Fact.isv 70)), .fact 902025 (.cst (u1 25) (Fact.rep [] ((((((((x11 && (x3.2 == x4.2)) && x12) && (x5.2 == x6.2)) && x13) && (x7.2 == x8.2)) && x14) && (x9.2 == x10.2)) : Bool))), .fact 100092 (.at 92 (.lo [55, 56] x7.1.Blocks)), .fact 100093 (.at 93 (.lo [57, 58] x7.1.Wait)), .fact 100094 (.at 94 (.rep [] x7.1.Dead)), .fact 100011 (.at 11 (.rep [0] a0.Blocks)), .fact 100012 (.at 12 (.rep [0] a0.Wait)), .fact 100013 (.at 13 (.rep [] a0.Dead)), .fact 100020 (.at 20 (.ow [15] [16] 28 (x2.Blocks : List (List UInt8)))), .fact 100021 (.at 21 (.ow [17] [18] 59 (x2.Wait : List Write))), .fact 100022 (.at 22 (.rep [] x2.Dead)), .fact 100071 (.at 71 (.ow [69] [] 28 (x9.1.Blocks : List (List UInt8)))), .fact 100072 (.at 72 (.ow [69] [] 59 (x9.1.Wait : List Write))), .fact 100073 (.at 73 (.rep [] x9.1.Dead)), .fact 100091 (.obj 91 [(false, 1), (false, 1), (false, 1)]), .fact 100010 (.obj 10 [(false, 1), (false, 1), (false, 1)]), .fact 100019 (.obj 19 [(false, 1), (false, 1), (false, 1)]), .fact 100070 (.obj 70 [(false, 1), (false, 1), (false, 1)])] _ _
         refine CWalk.seq ?_
         refine CWalk.seq ?_
         refine CWalk.region ?_
         refine mv ?_
         refine wo (Spec.fieldAddrO fd25_1 (Has.cv (Has.s rfl) (Cv.isvP rfl))) ?_
         refine wo (Spec.loadF (i := 1) ty23 rfl (Has.s rfl) rfl (HasG.s rfl)) ?_
         refine mv ?_
         obtain ⟨x52, hx52, hm⟩ := bind_some hm
         refine wo (Spec.idxLo hx52 sl23 (Has.s rfl) (Has.s rfl)) ?_
         refine wo (Spec.fieldLo fd59_1 (loWrite_1 _) (Has.s rfl)) ?_
         refine wo (Spec.loadLo ty28 (Has.s rfl)) ?_
         refine wo (Spec.lenLo (Has.s rfl) Try.underlying28) ?_
         refine wo (Spec.lssI (Has.s rfl) (Has.s rfl)) ?_
         refine Walk.nil ?_
         refine Leaf.thenN ?_
         refine CWalk.cond rfl (fun hb => ?_) (fun hb => ?_)
         ·have hm := cond_t hb hm
          refine CWalk.skip ?_
          refine Leaf.thenN ?_
          refine CWalk.seq ?_
          refine CWalk.block ?_
          refine CWalk.region ?_
          refine wo (Spec.fieldAddrO fd25_1 (Has.cv (Has.s rfl) (Cv.isvP rfl))) ?_
          refine wo (Spec.loadF (i := 1) ty23 rfl (Has.s rfl) rfl (HasG.s rfl)) ?_
          refine mv ?_
          obtain ⟨x53, hx53, hm⟩ := bind_some hm
          refine wo (Spec.idxLo hx53 sl23 (Has.s rfl) (Has.s rfl)) ?_
          refine wo (Spec.fieldLo fd59_1 (loWrite_1 _) (Has.s rfl)) ?_
          refine wo (Spec.loadLo ty28 (Has.s rfl)) ?_
          refine mv ?_
          obtain ⟨x54, hx54, hm⟩ := bind_some hm
          refine wo (Spec.idxLo hx54 sl28 (Has.s rfl) (Has.s rfl)) ?_
          refine wo (Spec.loadLo ty5 (Has.s rfl)) ?_
          refine wo (Spec.add8Lo (Has.s rfl) (Has.u8 1 rfl)) ?_
          obtain ⟨x55, hx55, hm⟩ := bind_some hm
          refine wo (Spec.idxLo hx55 sl28 (Has.s rfl) (Has.s rfl)) ?_
          refine ws (Step.storeL (T := [57, 58]) (LL := [.fact 100093 (.at 93 (.lo [57, 58] x7.1.Wait))]) rfl ty5 (Has.s rfl) (Has.s rfl) (LooseL.loF rfl LooseL.nil)) ?_
          refine Walk.nil ?_
          refine Leaf.blockN ?_
          refine Leaf.thenN ?_
          refine CWalk.region ?_
          refine mv ?_
          refine wo (Spec.addI (Has.s rfl) Has.int) ?_
          refine wo (Spec.assign (Has.s rfl)) ?_
          refine Walk.nil ?_
          exact Leaf.next hm (sn (st (st (Sub.cons (Has.cst (HasC.cv (HasC.s (s := 902002) rfl) (Cv.m rfl))) (sc (sc (Sub.cons (Has.cst (HasC.cv (HasC.s (s := 902008) rfl) Cv.fl)) (sc (Sub.cons (Has.cst (HasC.cv (HasC.s (s := 902025) rfl) Cv.fl)) (sg (sg (sf (sm (sm (sf (Sub.cons (Has.at (HasG.cv (HasG.s rfl) (Cv.owM (T := [15]) (te := [16]) rfl rfl))) (Sub.cons (Has.at (HasG.cv (HasG.s rfl) (Cv.owM (T := [17]) (te := [18]) rfl rfl))) (sf (Sub.cons (Has.at (HasG.cv (HasG.s rfl) (Cv.owM (T := [69]) (te := []) rfl rfl))) (Sub.cons (Has.at (HasG.cv (HasG.s rfl) (Cv.owM (T := [69]) (te := []) rfl rfl))) (sf (sn (sn (sn (sn Sub.nil)))))))))))))))))))))))))
         ·have hm := cond_f hb hm
          refine CWalk.exit ?_
          refine Leaf.thenE ?_
          exact Leaf.brk hm (fun h => nomatch h) rfl (sn (st (Sub.cons (Has.cst (HasC.cv (HasC.s (s := 902002) rfl) (Cv.m rfl))) (sc (sc (Sub.cons (Has.cst (HasC.cv (HasC.s (s := 902008) rfl) Cv.fl)) (sc (Sub.cons (Has.cst (HasC.cv (HasC.s (s := 902025) rfl) Cv.fl)) (sg (sg (sf (sm (sm (sf (Sub.cons (Has.at (HasG.cv (HasG.s rfl) (Cv.owM (T := [15]) (te := [16]) rfl rfl))) (Sub.cons (Has.at (HasG.cv (HasG.s rfl) (Cv.owM (T := [17]) (te := [18]) rfl rfl))) (sf (Sub.cons (Has.at (HasG.cv (HasG.s rfl) (Cv.owM (T := [69]) (te := []) rfl rfl))) (Sub.cons (Has.at (HasG.cv (HasG.s rfl) (Cv.owM (T := [69]) (te := []) rfl rfl))) (sf (sn (sn (sn (sn Sub.nil))))))))))))))))))))))))
        ·intro _
         refine Leaf.blockE ?_
         refine Leaf.blockN ?_
         refine Leaf.thenN ?_
         refine CWalk.region ?_
         refine mv ?_
         refine wo (Spec.addI (Has.s rfl) Has.int) ?_
         refine wo (Spec.assign (Has.s rfl)) ?_
         refine Walk.nil ?_
         exact Leaf.next hm (sn (st (Sub.cons (Has.cst (HasC.cv (HasC.s (s := 902002) rfl) (Cv.m rfl))) (sc (sc (Sub.cons (Has.cst (HasC.cv (HasC.s (s := 902008) rfl) Cv.fl)) (sc (Sub.cons (Has.cst (HasC.cv (HasC.s (s := 902025) rfl) Cv.fl)) (sg (sg (sf (sm (sm (sf (Sub.cons (Has.at (HasG.cv (HasG.s rfl) (Cv.owM (T := [15]) (te := [16]) rfl rfl))) (Sub.cons (Has.at (HasG.cv (HasG.s rfl) (Cv.owM (T := [17]) (te := [18]) rfl rfl))) (sf (Sub.cons (Has.at (HasG.cv (HasG.s rfl) (Cv.owM (T := [69]) (te := []) rfl rfl))) (Sub.cons (Has.at (HasG.cv (HasG.s rfl) (Cv.owM (T := [69]) (te := []) rfl rfl))) (sf (sn (sn (sn (sn Sub.nil))))))))))))))))))))))))
       ·have hm := cond_f hb hm
        refine CWalk.exit ?_
        refine Leaf.thenE ?_
        exact Leaf.brk hm (fun h => nomatch h) rfl (Sub.cons (Has.cst (HasC.cv (HasC.s (s := 902002) rfl) (Cv.m rfl))) (sc (sc (Sub.cons (Has.cst (HasC.cv (HasC.s (s := 902008) rfl) Cv.fl)) (sc (Sub.cons (Has.cst (HasC.cv (HasC.s (s := 902025) rfl) Cv.fl)) (sm (sm (sf (Sub.cons (Has.at (HasG.cv (HasG.s rfl) (Cv.owM (T := [15]) (te := [16]) rfl rfl))) (Sub.cons (Has.at (HasG.cv (HasG.s rfl) (Cv.owM (T := [17]) (te := [18]) rfl rfl))) (sf (Sub.cons (Has.at (HasG.cv (HasG.s rfl) (Cv.owM (T := [69]) (te := []) rfl rfl))) (Sub.cons (Has.at (HasG.cv (HasG.s rfl) (Cv.owM (T := [69]) (te := []) rfl rfl))) (sf (sn (sn (sn Sub.nil))))))))))))))))))
      ·intro _
       refine Leaf.blockE ?_
       exact Leaf.inN (Leaf.in0 (f0 := Fact.top) () hm rfl rfl (fun _ _ => trivial) (Low.slot rfl (HasC.cv (HasC.s (s := 902002) rfl) (Cv.m rfl)) (ls 902003 (ls 902007 (Low.slot rfl (HasC.cv (HasC.s (s := 902008) rfl) Cv.fl) (ls 902021 (Low.slot rfl (HasC.cv (HasC.s (s := 902025) rfl) Cv.fl) (Low.res (lm (lm (lf (Low.keepG (HasG.cv (HasG.s rfl) (Cv.owM (T := [15]) (te := [16]) rfl rfl)) (Low.keepG (HasG.cv (HasG.s rfl) (Cv.owM (T := [17]) (te := [18]) rfl rfl)) (lf (Low.keepG (HasG.cv (HasG.s rfl) (Cv.owM (T := [69]) (te := []) rfl rfl)) (Low.keepG (HasG.cv (HasG.s rfl) (Cv.owM (T := [69]) (te := []) rfl rfl)) (lf (lo (lo (lo Low.nil))))))))))))))))))))
    ·rintro _ hm
     replace hm : law04_DiskTurns_J3 a0 a2 x2 x3 x4 x5 x6 x7 x8 x9 x10 x11 x12 x13 x14 = some r := hm
     unfold law04_DiskTurns_J3 at hm
     show Walk _ _ _ [.fact 2 (.rep [0] (a2 : List UInt8)), .fact 3 (.isv 10), .fact 7 (.isv 19), .fact 8 (.rep [] ((Str.mk a2) : Str)), .fact 21 (.isv 70), .fact 25 (.rep [] ((((((((x11 && (x3.2 == x4.2)) && x12) && (x5.2 == x6.2)) && x13) && (x7.2 == x8.2)) && x14) && (x9.2 == x10.2)) : Bool)), .fact 128 (.top), .fact 100011 (.at 11 (.rep [0] a0.Blocks)), .fact 100012 (.at 12 (.rep [0] a0.Wait)), .fact 100013 (.at 13 (.rep [] a0.Dead)), .fact 100020 (.at 20 (.ow [15] [16] 28 (x2.Blocks : List (List UInt8)))), .fact 100021 (.at 21 (.ow [17] [18] 59 (x2.Wait : List Write))), .fact 100022 (.at 22 (.rep [] x2.Dead)), .fact 100071 (.at 71 (.ow [69] [] 28 (x9.1.Blocks : List (List UInt8)))), .fact 100072 (.at 72 (.ow [69] [] 59 (x9.1.Wait : List Write))), .fact 100073 (.at 73 (.rep [] x9.1.Dead)), .fact 100010 (.obj 10 [(false, 1), (false, 1), (false, 1)]), .fact 100019 (.obj 19 [(false, 1), (false, 1), (false, 1)]), .fact 100070 (.obj 70 [(false, 1), (false, 1), (false, 1)])] _
     refine Walk.nil ?_
     refine Leaf.thenN ?_
     refine CWalk.seq ?_
     refine CWalk.region ?_
     refine wo (Spec.loadObj (ls := [(false, 1, Fact.ow [69] [] 28 (x9.1.Blocks : List (List UInt8))), (false, 1, Fact.ow [69] [] 59 (x9.1.Wait : List Write)), (false, 1, Fact.rep [] x9.1.Dead)]) ty25 rfl rfl (Has.s rfl) rfl (HasGs.cons (HasG.s rfl) (HasGs.cons (HasG.s rfl) (HasGs.cons (HasG.s rfl) HasGs.nil)))) ?_
     refine Walk.inline (S := Unit) (fun p : Unit => [.fact 2 (.rep [0] (a2 : List UInt8)), .fact 3 (.isv 10), .fact 7 (.isv 19), .fact 8 (.rep [] ((Str.mk a2) : Str)), .fact 25 (.rep [] ((((((((x11 && (x3.2 == x4.2)) && x12) && (x5.2 == x6.2)) && x13) && (x7.2 == x8.2)) && x14) && (x9.2 == x10.2)) : Bool)), .fact 130 (.top), .fact 100011 (.at 11 (.rep [0] a0.Blocks)), .fact 100012 (.at 12 (.rep [0] a0.Wait)), .fact 100013 (.at 13 (.rep [] a0.Dead)), .fact 100020 (.at 20 (.ow [15] [16] 28 (x2.Blocks : List (List UInt8)))), .fact 100021 (.at 21 (.ow [17] [18] 59 (x2.Wait : List Write))), .fact 100022 (.at 22 (.rep [] x2.Dead)), .fact 100010 (.obj 10 [(false, 1), (false, 1), (false, 1)]), .fact 100019 (.obj 19 [(false, 1), (false, 1), (false, 1)])]) (fun p : Unit => law04_DiskTurns_J4 a0 a2 x2 x3 x4 x5 x6 x7 x8 x9 x10 x11 x12 x13 x14 = some r) (fun u1 => [.fact 100011 (.at 11 (.rep [0] a0.Blocks)), .fact 100012 (.at 12 (.rep [0] a0.Wait)), .fact 100013 (.at 13 (.rep [] a0.Dead)), .fact 100020 (.at 20 (.ow [15] [16] 28 (x2.Blocks : List (List UInt8)))), .fact 100021 (.at 21 (.ow [17] [18] 59 (x2.Wait : List Write))), .fact 100022 (.at 22 (.rep [] x2.Dead)), .fact 902002 (.cst (u1 2) (Fact.rep [0] (a2 : List UInt8))), .fact 902003 (.cst (u1 3) (Fact.isv 10)), .fact 902007 (.cst (u1 7) (Fact.isv 19)), .fact 902008 (.cst (u1 8) (Fact.rep [] ((Str.mk a2) : Str))), .fact 902025 (.cst (u1 25) (Fact.rep [] ((((((((x11 && (x3.2 == x4.2)) && x12) && (x5.2 == x6.2)) && x13) && (x7.2 == x8.2)) && x14) && (x9.2 == x10.2)) : Bool))), .fact 100010 (.obj 10 [(false, 1), (false, 1), (false, 1)]), .fact 100019 (.obj 19 [(false, 1), (false, 1), (false, 1)])]) (FA := [Fact.flds [(false, 1, Fact.ow [69] [] 28 (x9.1.Blocks : List (List UInt8))), (false, 1, Fact.ow [69] [] 59 (x9.1.Wait : List Write)), (false, 1, Fact.rep [] x9.1.Dead)]]) rfl Try.func22 rfl rfl rfl (CallOk.fn en22 (HasF.cons (Has.s rfl) HasF.nil)) (fun u1 => (ck (ck (ck (ck (ck (ck (cs 902000 2 (cs 902000 3 (cs 902000 7 (cs 902000 8 (cs 902000 25 (ck (ck Carry.nil)))))))))))))) (fun u1 => ?_) ?_
     ·refine CWalk.seq ?_
      refine CWalk.region ?_
      refine ws (Step.boxObj (ls := [(false, 1, Fact.ow [69] [] 28 (x9.1.Blocks : List (List UInt8))), (false, 1, Fact.ow [69] [] 59 (x9.1.Wait : List Write)), (false, 1, Fact.rep [] x9.1.Dead)]) 95 rfl rfl rfl rfl (HasL.flds (Has.s rfl))) ?_
      refine Walk.nil ?_
      refine Leaf.thenN ?_
      refine CWalk.seq ?_
      refine CWalk.seq ?_
      refine CWalk.region ?_
      refine wo (Spec.assign Has.int) ?_
      refine Walk.nil ?_
      refine Leaf.thenN ?_
      refine CWalk.block ?_
      obtain ⟨b25, hb25, hm⟩ := bind_some hm
      refine CWalk.loop (fun s : Int => [.fact 1 (.isv 95), .fact 2 (.rep [] (s : Int)), .fact 902002 (.cst (u1 2) (Fact.rep [0] (a2 : List UInt8))), .fact 902003 (.cst (u1 3) (Fact.isv 10)), .fact 902007 (.cst (u1 7) (Fact.isv 19)), .fact 902008 (.cst (u1 8) (Fact.rep [] ((Str.mk a2) : Str))), .fact 902025 (.cst (u1 25) (Fact.rep [] ((((((((x11 && (x3.2 == x4.2)) && x12) && (x5.2 == x6.2)) && x13) && (x7.2 == x8.2)) && x14) && (x9.2 == x10.2)) : Bool))), .fact 100096 (.at 96 (.lo [69] x9.1.Blocks)), .fact 100097 (.at 97 (.lo [69] x9.1.Wait)), .fact 100098 (.at 98 (.rep [] x9.1.Dead)), .fact 100011 (.at 11 (.rep [0] a0.Blocks)), .fact 100012 (.at 12 (.rep [0] a0.Wait)), .fact 100013 (.at 13 (.rep [] a0.Dead)), .fact 100020 (.at 20 (.ow [15] [16] 28 (x2.Blocks : List (List UInt8)))), .fact 100021 (.at 21 (.ow [17] [18] 59 (x2.Wait : List Write))), .fact 100022 (.at 22 (.rep [] x2.Dead)), .fact 100095 (.obj 95 [(false, 1), (false, 1), (false, 1)]), .fact 100010 (.obj 10 [(false, 1), (false, 1), (false, 1)]), .fact 100019 (.obj 19 [(false, 1), (false, 1), (false, 1)])]) (fun b : Unit => (Exit.exit 0, [.fact 1 (.isv 95), .fact 902002 (.cst (u1 2) (Fact.rep [0] (a2 : List UInt8))), .fact 902003 (.cst (u1 3) (Fact.isv 10)), .fact 902007 (.cst (u1 7) (Fact.isv 19)), .fact 902008 (.cst (u1 8) (Fact.rep [] ((Str.mk a2) : Str))), .fact 902025 (.cst (u1 25) (Fact.rep [] ((((((((x11 && (x3.2 == x4.2)) && x12) && (x5.2 == x6.2)) && x13) && (x7.2 == x8.2)) && x14) && (x9.2 == x10.2)) : Bool))), .fact 100096 (.at 96 (.lo [69] x9.1.Blocks)), .fact 100097 (.at 97 (.lo [69] x9.1.Wait)), .fact 100098 (.at 98 (.rep [] x9.1.Dead)), .fact 100011 (.at 11 (.rep [0] a0.Blocks)), .fact 100012 (.at 12 (.rep [0] a0.Wait)), .fact 100013 (.at 13 (.rep [] a0.Dead)), .fact 100020 (.at 20 (.ow [15] [16] 28 (x2.Blocks : List (List UInt8)))), .fact 100021 (.at 21 (.ow [17] [18] 59 (x2.Wait : List Write))), .fact 100022 (.at 22 (.rep [] x2.Dead)), .fact 100095 (.obj 95 [(false, 1), (false, 1), (false, 1)]), .fact 100010 (.obj 10 [(false, 1), (false, 1), (false, 1)]), .fact 100019 (.obj 19 [(false, 1), (false, 1), (false, 1)])])) hb25 (sn (st (Sub.cons (Has.cst (HasC.cv (HasC.s (s := 902002) rfl) (Cv.m rfl))) (sc (sc (Sub.cons (Has.cst (HasC.cv (HasC.s (s := 902008) rfl) Cv.fl)) (Sub.cons (Has.cst (HasC.cv (HasC.s (s := 902025) rfl) Cv.fl)) (Sub.cons (Has.at (HasG.cv (HasG.s rfl) (Cv.trans (Cv.trans Cv.owSl (Cv.slRep (T' := [69]) rfl rfl)) (Cv.lo rfl)))) (Sub.cons (Has.at (HasG.cv (HasG.s rfl) (Cv.trans (Cv.trans Cv.owSl (Cv.slRep (T' := [69]) rfl rfl)) (Cv.lo rfl)))) (sf (sm (sm (sf (Sub.cons (Has.at (HasG.cv (HasG.s rfl) (Cv.owM (T := [15]) (te := [16]) rfl rfl))) (Sub.cons (Has.at (HasG.cv (HasG.s rfl) (Cv.owM (T := [17]) (te := [18]) rfl rfl))) (sf (sn (sn (sn Sub.nil))))))))))))))))))) ?_ ?_
      ·rintro s16 c17 hm
       replace hm : law04_DiskTurns_L5 x9 s16 = some c17 := hm
       unfold law04_DiskTurns_L5 at hm
       show CWalk _ [.fact 1 (.isv 95), .fact 2 (.rep [] (s16 : Int)), .fact 902002 (.cst (u1 2) (Fact.rep [0] (a2 : List UInt8))), .fact 902003 (.cst (u1 3) (Fact.isv 10)), .fact 902007 (.cst (u1 7) (Fact.isv 19)), .fact 902008 (.cst (u1 8) (Fact.rep [] ((Str.mk a2) : Str))), .fact 902025 (.cst (u1 25) (Fact.rep [] ((((((((x11 && (x3.2 == x4.2)) && x12) && (x5.2 == x6.2)) && x13) && (x7.2 == x8.2)) && x14) && (x9.2 == x10.2)) : Bool))), .fact 100096 (.at 96 (.lo [69] x9.1.Blocks)), .fact 100097 (.at 97 (.lo [69] x9.1.Wait)), .fact 100098 (.at 98 (.rep [] x9.1.Dead)), .fact 100011 (.at 11 (.rep [0] a0.Blocks)), .fact 100012 (.at 12 (.rep [0] a0.Wait)), .fact 100013 (.at 13 (.rep [] a0.Dead)), .fact 100020 (.at 20 (.ow [15] [16] 28 (x2.Blocks : List (List UInt8)))), .fact 100021 (.at 21 (.ow [17] [18] 59 (x2.Wait : List Write))), .fact 100022 (.at 22 (.rep [] x2.Dead)), .fact 100095 (.obj 95 [(false, 1), (false, 1), (false, 1)]), .fact 100010 (.obj 10 [(false, 1), (false, 1), (false, 1)]), .fact 100019 (.obj 19 [(false, 1), (false, 1), (false, 1)])] _ _
       refine CWalk.seq ?_
       refine CWalk.seq ?_
       refine CWalk.region ?_
       refine mv ?_
       refine wo (Spec.fieldAddrO fd25_0 (Has.cv (Has.s rfl) (Cv.isvP rfl))) ?_
       refine wo (Spec.loadF (i := 0) ty22 rfl (Has.s rfl) rfl (HasG.s rfl)) ?_
       refine wo (Spec.lenLo (Has.s rfl) Try.underlying22) ?_
       refine wo (Spec.lssI (Has.s rfl) (Has.s rfl)) ?_
       refine Walk.nil ?_
       refine Leaf.thenN ?_
       refine CWalk.cond rfl (fun hb => ?_) (fun hb => ?_)
       ·have hm := cond_t hb hm
        refine CWalk.skip ?_
        refine Leaf.thenN ?_
        refine CWalk.seq ?_
        refine CWalk.block ?_
        refine CWalk.seq ?_
        refine CWalk.region ?_
        refine wo (Spec.assign Has.int) ?_
        refine Walk.nil ?_
        refine Leaf.thenN ?_
        refine CWalk.block ?_
        obtain ⟨b24, hb24, hm⟩ := bind_some hm
        refine CWalk.loop (fun s : Int => [.fact 1 (.isv 95), .fact 2 (.rep [] (s16 : Int)), .fact 3 (.rep [] (s : Int)), .fact 902002 (.cst (u1 2) (Fact.rep [0] (a2 : List UInt8))), .fact 902003 (.cst (u1 3) (Fact.isv 10)), .fact 902007 (.cst (u1 7) (Fact.isv 19)), .fact 902008 (.cst (u1 8) (Fact.rep [] ((Str.mk a2) : Str))), .fact 902025 (.cst (u1 25) (Fact.rep [] ((((((((x11 && (x3.2 == x4.2)) && x12) && (x5.2 == x6.2)) && x13) && (x7.2 == x8.2)) && x14) && (x9.2 == x10.2)) : Bool))), .fact 100096 (.at 96 (.lo [69] x9.1.Blocks)), .fact 100097 (.at 97 (.lo [69] x9.1.Wait)), .fact 100098 (.at 98 (.rep [] x9.1.Dead)), .fact 100011 (.at 11 (.rep [0] a0.Blocks)), .fact 100012 (.at 12 (.rep [0] a0.Wait)), .fact 100013 (.at 13 (.rep [] a0.Dead)), .fact 100020 (.at 20 (.ow [15] [16] 28 (x2.Blocks : List (List UInt8)))), .fact 100021 (.at 21 (.ow [17] [18] 59 (x2.Wait : List Write))), .fact 100022 (.at 22 (.rep [] x2.Dead)), .fact 100095 (.obj 95 [(false, 1), (false, 1), (false, 1)]), .fact 100010 (.obj 10 [(false, 1), (false, 1), (false, 1)]), .fact 100019 (.obj 19 [(false, 1), (false, 1), (false, 1)])]) (fun b : Unit => (Exit.exit 2, [.fact 1 (.isv 95), .fact 2 (.rep [] (s16 : Int)), .fact 902002 (.cst (u1 2) (Fact.rep [0] (a2 : List UInt8))), .fact 902003 (.cst (u1 3) (Fact.isv 10)), .fact 902007 (.cst (u1 7) (Fact.isv 19)), .fact 902008 (.cst (u1 8) (Fact.rep [] ((Str.mk a2) : Str))), .fact 902025 (.cst (u1 25) (Fact.rep [] ((((((((x11 && (x3.2 == x4.2)) && x12) && (x5.2 == x6.2)) && x13) && (x7.2 == x8.2)) && x14) && (x9.2 == x10.2)) : Bool))), .fact 100096 (.at 96 (.lo [69] x9.1.Blocks)), .fact 100097 (.at 97 (.lo [69] x9.1.Wait)), .fact 100098 (.at 98 (.rep [] x9.1.Dead)), .fact 100011 (.at 11 (.rep [0] a0.Blocks)), .fact 100012 (.at 12 (.rep [0] a0.Wait)), .fact 100013 (.at 13 (.rep [] a0.Dead)), .fact 100020 (.at 20 (.ow [15] [16] 28 (x2.Blocks : List (List UInt8)))), .fact 100021 (.at 21 (.ow [17] [18] 59 (x2.Wait : List Write))), .fact 100022 (.at 22 (.rep [] x2.Dead)), .fact 100095 (.obj 95 [(false, 1), (false, 1), (false, 1)]), .fact 100010 (.obj 10 [(false, 1), (false, 1), (false, 1)]), .fact 100019 (.obj 19 [(false, 1), (false, 1), (false, 1)])])) hb24 (sn (st (st (Sub.cons (Has.cst (HasC.cv (HasC.s (s := 902002) rfl) (Cv.m rfl))) (sc (sc (Sub.cons (Has.cst (HasC.cv (HasC.s (s := 902008) rfl) Cv.fl)) (Sub.cons (Has.cst (HasC.cv (HasC.s (s := 902025) rfl) Cv.fl)) (sg (sg (sf (sm (sm (sf (Sub.cons (Has.at (HasG.cv (HasG.s rfl) (Cv.owM (T := [15]) (te := [16]) rfl rfl))) (Sub.cons (Has.at (HasG.cv (HasG.s rfl) (Cv.owM (T := [17]) (te := [18]) rfl rfl))) (sf (sn (sn (sn Sub.nil)))))))))))))))))))) ?_ ?_
        ·rintro s18 c19 hm
         replace hm : law04_DiskTurns_L6 x9 s16 s18 = some c19 := hm
         unfold law04_DiskTurns_L6 at hm
         show CWalk _ [.fact 1 (.isv 95), .fact 2 (.rep [] (s16 : Int)), .fact 3 (.rep [] (s18 : Int)), .fact 902002 (.cst (u1 2) (Fact.rep [0] (a2 : List UInt8))), .fact 902003 (.cst (u1 3) (Fact.isv 10)), .fact 902007 (.cst (u1 7) (Fact.isv 19)), .fact 902008 (.cst (u1 8) (Fact.rep [] ((Str.mk a2) : Str))), .fact 902025 (.cst (u1 25) (Fact.rep [] ((((((((x11 && (x3.2 == x4.2)) && x12) && (x5.2 == x6.2)) && x13) && (x7.2 == x8.2)) && x14) && (x9.2 == x10.2)) : Bool))), .fact 100096 (.at 96 (.lo [69] x9.1.Blocks)), .fact 100097 (.at 97 (.lo [69] x9.1.Wait)), .fact 100098 (.at 98 (.rep [] x9.1.Dead)), .fact 100011 (.at 11 (.rep [0] a0.Blocks)), .fact 100012 (.at 12 (.rep [0] a0.Wait)), .fact 100013 (.at 13 (.rep [] a0.Dead)), .fact 100020 (.at 20 (.ow [15] [16] 28 (x2.Blocks : List (List UInt8)))), .fact 100021 (.at 21 (.ow [17] [18] 59 (x2.Wait : List Write))), .fact 100022 (.at 22 (.rep [] x2.Dead)), .fact 100095 (.obj 95 [(false, 1), (false, 1), (false, 1)]), .fact 100010 (.obj 10 [(false, 1), (false, 1), (false, 1)]), .fact 100019 (.obj 19 [(false, 1), (false, 1), (false, 1)])] _ _
         refine CWalk.seq ?_
         refine CWalk.seq ?_
         refine CWalk.region ?_
         refine mv ?_
         refine wo (Spec.fieldAddrO fd25_0 (Has.cv (Has.s rfl) (Cv.isvP rfl))) ?_
         refine wo (Spec.loadF (i := 0) ty22 rfl (Has.s rfl) rfl (HasG.s rfl)) ?_
         refine mv ?_
         obtain ⟨x20, hx20, hm⟩ := bind_some hm
         refine wo (Spec.idxLo hx20 sl22 (Has.s rfl) (Has.s rfl)) ?_
         refine wo (Spec.loadLo ty28 (Has.s rfl)) ?_
         refine wo (Spec.lenLo (Has.s rfl) Try.underlying28) ?_
         refine wo (Spec.lssI (Has.s rfl) (Has.s rfl)) ?_
         refine Walk.nil ?_
         refine Leaf.thenN ?_
         refine CWalk.cond rfl (fun hb => ?_) (fun hb => ?_)
         ·have hm := cond_t hb hm
          refine CWalk.skip ?_
          refine Leaf.thenN ?_
          refine CWalk.seq ?_
          refine CWalk.block ?_
          refine CWalk.region ?_
          refine wo (Spec.fieldAddrO fd25_0 (Has.cv (Has.s rfl) (Cv.isvP rfl))) ?_
          refine wo (Spec.loadF (i := 0) ty22 rfl (Has.s rfl) rfl (HasG.s rfl)) ?_
          refine mv ?_
          obtain ⟨x21, hx21, hm⟩ := bind_some hm
          refine wo (Spec.idxLo hx21 sl22 (Has.s rfl) (Has.s rfl)) ?_
          refine wo (Spec.loadLo ty28 (Has.s rfl)) ?_
          refine mv ?_
          obtain ⟨x22, hx22, hm⟩ := bind_some hm
          refine wo (Spec.idxLo hx22 sl28 (Has.s rfl) (Has.s rfl)) ?_
          refine wo (Spec.loadLo ty5 (Has.s rfl)) ?_
          refine wo (Spec.add8Lo (Has.s rfl) (Has.u8 1 rfl)) ?_
          obtain ⟨x23, hx23, hm⟩ := bind_some hm
          refine wo (Spec.idxLo hx23 sl28 (Has.s rfl) (Has.s rfl)) ?_
          refine ws (Step.storeL (T := [69]) (LL := [.fact 100096 (.at 96 (.lo [69] x9.1.Blocks)), .fact 100097 (.at 97 (.lo [69] x9.1.Wait))]) rfl ty5 (Has.s rfl) (Has.s rfl) (LooseL.loF rfl (LooseL.loF rfl LooseL.nil))) ?_
          refine Walk.nil ?_
          refine Leaf.blockN ?_
          refine Leaf.thenN ?_
          refine CWalk.region ?_
          refine mv ?_
          refine wo (Spec.addI (Has.s rfl) Has.int) ?_
          refine wo (Spec.assign (Has.s rfl)) ?_
          refine Walk.nil ?_
          exact Leaf.next hm (sn (st (st (Sub.cons (Has.cst (HasC.cv (HasC.s (s := 902002) rfl) (Cv.m rfl))) (sc (sc (Sub.cons (Has.cst (HasC.cv (HasC.s (s := 902008) rfl) Cv.fl)) (Sub.cons (Has.cst (HasC.cv (HasC.s (s := 902025) rfl) Cv.fl)) (sg (sg (sf (sm (sm (sf (Sub.cons (Has.at (HasG.cv (HasG.s rfl) (Cv.owM (T := [15]) (te := [16]) rfl rfl))) (Sub.cons (Has.at (HasG.cv (HasG.s rfl) (Cv.owM (T := [17]) (te := [18]) rfl rfl))) (sf (sn (sn (sn Sub.nil))))))))))))))))))))
         ·have hm := cond_f hb hm
          refine CWalk.exit ?_
          refine Leaf.thenE ?_
          exact Leaf.brk hm (fun h => nomatch h) rfl (sn (st (Sub.cons (Has.cst (HasC.cv (HasC.s (s := 902002) rfl) (Cv.m rfl))) (sc (sc (Sub.cons (Has.cst (HasC.cv (HasC.s (s := 902008) rfl) Cv.fl)) (Sub.cons (Has.cst (HasC.cv (HasC.s (s := 902025) rfl) Cv.fl)) (sg (sg (sf (sm (sm (sf (Sub.cons (Has.at (HasG.cv (HasG.s rfl) (Cv.owM (T := [15]) (te := [16]) rfl rfl))) (Sub.cons (Has.at (HasG.cv (HasG.s rfl) (Cv.owM (T := [17]) (te := [18]) rfl rfl))) (sf (sn (sn (sn Sub.nil)))))))))))))))))))
        ·intro _
         refine Leaf.blockE ?_
         refine Leaf.blockN ?_
         refine Leaf.thenN ?_
         refine CWalk.region ?_
         refine mv ?_
         refine wo (Spec.addI (Has.s rfl) Has.int) ?_
         refine wo (Spec.assign (Has.s rfl)) ?_
         refine Walk.nil ?_
         exact Leaf.next hm (sn (st (Sub.cons (Has.cst (HasC.cv (HasC.s (s := 902002) rfl) (Cv.m rfl))) (sc (sc (Sub.cons (Has.cst (HasC.cv (HasC.s (s := 902008) rfl) Cv.fl)) (Sub.cons (Has.cst (HasC.cv (HasC.s (s := 902025) rfl) Cv.fl)) (sg (sg (sf (sm (sm (sf (Sub.cons (Has.at (HasG.cv (HasG.s rfl) (Cv.owM (T := [15]) (te := [16]) rfl rfl))) (Sub.cons (Has.at (HasG.cv (HasG.s rfl) (Cv.owM (T := [17]) (te := [18]) rfl rfl))) (sf (sn (sn (sn Sub.nil)))))))))))))))))))
       ·have hm := cond_f hb hm
        refine CWalk.exit ?_
        refine Leaf.thenE ?_
        exact Leaf.brk hm (fun h => nomatch h) rfl (sn (Sub.cons (Has.cst (HasC.cv (HasC.s (s := 902002) rfl) (Cv.m rfl))) (sc (sc (Sub.cons (Has.cst (HasC.cv (HasC.s (s := 902008) rfl) Cv.fl)) (Sub.cons (Has.cst (HasC.cv (HasC.s (s := 902025) rfl) Cv.fl)) (sg (sg (sf (sm (sm (sf (Sub.cons (Has.at (HasG.cv (HasG.s rfl) (Cv.owM (T := [15]) (te := [16]) rfl rfl))) (Sub.cons (Has.at (HasG.cv (HasG.s rfl) (Cv.owM (T := [17]) (te := [18]) rfl rfl))) (sf (sn (sn (sn Sub.nil))))))))))))))))))
      ·intro _
       refine Leaf.blockE ?_
       refine Leaf.thenN ?_
       refine CWalk.seq ?_
       refine CWalk.region ?_
       refine wo (Spec.assign Has.int) ?_
       refine Walk.nil ?_
       refine Leaf.thenN ?_
       refine CWalk.block ?_
       obtain ⟨b36, hb36, hm⟩ := bind_some hm
       refine CWalk.loop (fun s : Int => [.fact 1 (.isv 95), .fact 4 (.rep [] (s : Int)), .fact 902002 (.cst (u1 2) (Fact.rep [0] (a2 : List UInt8))), .fact 902003 (.cst (u1 3) (Fact.isv 10)), .fact 902007 (.cst (u1 7) (Fact.isv 19)), .fact 902008 (.cst (u1 8) (Fact.rep [] ((Str.mk a2) : Str))), .fact 902025 (.cst (u1 25) (Fact.rep [] ((((((((x11 && (x3.2 == x4.2)) && x12) && (x5.2 == x6.2)) && x13) && (x7.2 == x8.2)) && x14) && (x9.2 == x10.2)) : Bool))), .fact 100096 (.at 96 (.lo [69] x9.1.Blocks)), .fact 100097 (.at 97 (.lo [69] x9.1.Wait)), .fact 100098 (.at 98 (.rep [] x9.1.Dead)), .fact 100011 (.at 11 (.rep [0] a0.Blocks)), .fact 100012 (.at 12 (.rep [0] a0.Wait)), .fact 100013 (.at 13 (.rep [] a0.Dead)), .fact 100020 (.at 20 (.ow [15] [16] 28 (x2.Blocks : List (List UInt8)))), .fact 100021 (.at 21 (.ow [17] [18] 59 (x2.Wait : List Write))), .fact 100022 (.at 22 (.rep [] x2.Dead)), .fact 100095 (.obj 95 [(false, 1), (false, 1), (false, 1)]), .fact 100010 (.obj 10 [(false, 1), (false, 1), (false, 1)]), .fact 100019 (.obj 19 [(false, 1), (false, 1), (false, 1)])]) (fun b : Unit => (Exit.exit 4, [.fact 902002 (.cst (u1 2) (Fact.rep [0] (a2 : List UInt8))), .fact 902003 (.cst (u1 3) (Fact.isv 10)), .fact 902007 (.cst (u1 7) (Fact.isv 19)), .fact 902008 (.cst (u1 8) (Fact.rep [] ((Str.mk a2) : Str))), .fact 902025 (.cst (u1 25) (Fact.rep [] ((((((((x11 && (x3.2 == x4.2)) && x12) && (x5.2 == x6.2)) && x13) && (x7.2 == x8.2)) && x14) && (x9.2 == x10.2)) : Bool))), .fact 100011 (.at 11 (.rep [0] a0.Blocks)), .fact 100012 (.at 12 (.rep [0] a0.Wait)), .fact 100013 (.at 13 (.rep [] a0.Dead)), .fact 100020 (.at 20 (.ow [15] [16] 28 (x2.Blocks : List (List UInt8)))), .fact 100021 (.at 21 (.ow [17] [18] 59 (x2.Wait : List Write))), .fact 100022 (.at 22 (.rep [] x2.Dead)), .fact 100010 (.obj 10 [(false, 1), (false, 1), (false, 1)]), .fact 100019 (.obj 19 [(false, 1), (false, 1), (false, 1)])])) hb36 (sn (st (Sub.cons (Has.cst (HasC.cv (HasC.s (s := 902002) rfl) (Cv.m rfl))) (sc (sc (Sub.cons (Has.cst (HasC.cv (HasC.s (s := 902008) rfl) Cv.fl)) (Sub.cons (Has.cst (HasC.cv (HasC.s (s := 902025) rfl) Cv.fl)) (sg (sg (sf (sm (sm (sf (Sub.cons (Has.at (HasG.cv (HasG.s rfl) (Cv.owM (T := [15]) (te := [16]) rfl rfl))) (Sub.cons (Has.at (HasG.cv (HasG.s rfl) (Cv.owM (T := [17]) (te := [18]) rfl rfl))) (sf (sn (sn (sn Sub.nil))))))))))))))))))) ?_ ?_
       ·rintro s26 c27 hm
        replace hm : law04_DiskTurns_L7 x9 s26 = some c27 := hm
        unfold law04_DiskTurns_L7 at hm
        show CWalk _ [.fact 1 (.isv 95), .fact 4 (.rep [] (s26 : Int)), .fact 902002 (.cst (u1 2) (Fact.rep [0] (a2 : List UInt8))), .fact 902003 (.cst (u1 3) (Fact.isv 10)), .fact 902007 (.cst (u1 7) (Fact.isv 19)), .fact 902008 (.cst (u1 8) (Fact.rep [] ((Str.mk a2) : Str))), .fact 902025 (.cst (u1 25) (Fact.rep [] ((((((((x11 && (x3.2 == x4.2)) && x12) && (x5.2 == x6.2)) && x13) && (x7.2 == x8.2)) && x14) && (x9.2 == x10.2)) : Bool))), .fact 100096 (.at 96 (.lo [69] x9.1.Blocks)), .fact 100097 (.at 97 (.lo [69] x9.1.Wait)), .fact 100098 (.at 98 (.rep [] x9.1.Dead)), .fact 100011 (.at 11 (.rep [0] a0.Blocks)), .fact 100012 (.at 12 (.rep [0] a0.Wait)), .fact 100013 (.at 13 (.rep [] a0.Dead)), .fact 100020 (.at 20 (.ow [15] [16] 28 (x2.Blocks : List (List UInt8)))), .fact 100021 (.at 21 (.ow [17] [18] 59 (x2.Wait : List Write))), .fact 100022 (.at 22 (.rep [] x2.Dead)), .fact 100095 (.obj 95 [(false, 1), (false, 1), (false, 1)]), .fact 100010 (.obj 10 [(false, 1), (false, 1), (false, 1)]), .fact 100019 (.obj 19 [(false, 1), (false, 1), (false, 1)])] _ _
        refine CWalk.seq ?_
        refine CWalk.seq ?_
        refine CWalk.region ?_
        refine mv ?_
        refine wo (Spec.fieldAddrO fd25_1 (Has.cv (Has.s rfl) (Cv.isvP rfl))) ?_
        refine wo (Spec.loadF (i := 1) ty23 rfl (Has.s rfl) rfl (HasG.s rfl)) ?_
        refine wo (Spec.lenLo (Has.s rfl) Try.underlying23) ?_
        refine wo (Spec.lssI (Has.s rfl) (Has.s rfl)) ?_
        refine Walk.nil ?_
        refine Leaf.thenN ?_
        refine CWalk.cond rfl (fun hb => ?_) (fun hb => ?_)
        ·have hm := cond_t hb hm
         refine CWalk.skip ?_
         refine Leaf.thenN ?_
         refine CWalk.seq ?_
         refine CWalk.block ?_
         refine CWalk.seq ?_
         refine CWalk.region ?_
         refine wo (Spec.fieldAddrO fd25_1 (Has.cv (Has.s rfl) (Cv.isvP rfl))) ?_
         refine wo (Spec.loadF (i := 1) ty23 rfl (Has.s rfl) rfl (HasG.s rfl)) ?_
         refine mv ?_
         obtain ⟨x28, hx28, hm⟩ := bind_some hm
         refine wo (Spec.idxLo hx28 sl23 (Has.s rfl) (Has.s rfl)) ?_
         refine wo (Spec.fieldLo fd59_0 (loWrite_0 _) (Has.s rfl)) ?_
         refine ws (Step.storeL (T := [69]) (Tx := []) (LL := [.fact 100096 (.at 96 (.lo [69] x9.1.Blocks)), .fact 100097 (.at 97 (.lo [69] x9.1.Wait))]) rfl ty3 (Has.s rfl) (Has.cv Has.int Cv.loF) (LooseL.loF rfl (LooseL.loF rfl LooseL.nil))) ?_
         refine Walk.nil ?_
         refine Leaf.thenN ?_
         refine CWalk.seq ?_
         refine CWalk.region ?_
         refine wo (Spec.assign Has.int) ?_
         refine Walk.nil ?_
         refine Leaf.thenN ?_
         refine CWalk.block ?_
         obtain ⟨b35, hb35, hm⟩ := bind_some hm
         refine CWalk.loop (fun s : Int => [.fact 1 (.isv 95), .fact 4 (.rep [] (s26 : Int)), .fact 5 (.rep [] (s : Int)), .fact 902002 (.cst (u1 2) (Fact.rep [0] (a2 : List UInt8))), .fact 902003 (.cst (u1 3) (Fact.isv 10)), .fact 902007 (.cst (u1 7) (Fact.isv 19)), .fact 902008 (.cst (u1 8) (Fact.rep [] ((Str.mk a2) : Str))), .fact 902025 (.cst (u1 25) (Fact.rep [] ((((((((x11 && (x3.2 == x4.2)) && x12) && (x5.2 == x6.2)) && x13) && (x7.2 == x8.2)) && x14) && (x9.2 == x10.2)) : Bool))), .fact 100096 (.at 96 (.lo [69] x9.1.Blocks)), .fact 100097 (.at 97 (.lo [69] x9.1.Wait)), .fact 100098 (.at 98 (.rep [] x9.1.Dead)), .fact 100011 (.at 11 (.rep [0] a0.Blocks)), .fact 100012 (.at 12 (.rep [0] a0.Wait)), .fact 100013 (.at 13 (.rep [] a0.Dead)), .fact 100020 (.at 20 (.ow [15] [16] 28 (x2.Blocks : List (List UInt8)))), .fact 100021 (.at 21 (.ow [17] [18] 59 (x2.Wait : List Write))), .fact 100022 (.at 22 (.rep [] x2.Dead)), .fact 100095 (.obj 95 [(false, 1), (false, 1), (false, 1)]), .fact 100010 (.obj 10 [(false, 1), (false, 1), (false, 1)]), .fact 100019 (.obj 19 [(false, 1), (false, 1), (false, 1)])]) (fun b : Unit => (Exit.exit 6, [.fact 1 (.isv 95), .fact 4 (.rep [] (s26 : Int)), .fact 902002 (.cst (u1 2) (Fact.rep [0] (a2 : List UInt8))), .fact 902003 (.cst (u1 3) (Fact.isv 10)), .fact 902007 (.cst (u1 7) (Fact.isv 19)), .fact 902008 (.cst (u1 8) (Fact.rep [] ((Str.mk a2) : Str))), .fact 902025 (.cst (u1 25) (Fact.rep [] ((((((((x11 && (x3.2 == x4.2)) && x12) && (x5.2 == x6.2)) && x13) && (x7.2 == x8.2)) && x14) && (x9.2 == x10.2)) : Bool))), .fact 100096 (.at 96 (.lo [69] x9.1.Blocks)), .fact 100097 (.at 97 (.lo [69] x9.1.Wait)), .fact 100098 (.at 98 (.rep [] x9.1.Dead)), .fact 100011 (.at 11 (.rep [0] a0.Blocks)), .fact 100012 (.at 12 (.rep [0] a0.Wait)), .fact 100013 (.at 13 (.rep [] a0.Dead)), .fact 100020 (.at 20 (.ow [15] [16] 28 (x2.Blocks : List (List UInt8)))), .fact 100021 (.at 21 (.ow [17] [18] 59 (x2.Wait : List Write))), .fact 100022 (.at 22 (.rep [] x2.Dead)), .fact 100095 (.obj 95 [(false, 1), (false, 1), (false, 1)]), .fact 100010 (.obj 10 [(false, 1), (false, 1), (false, 1)]), .fact 100019 (.obj 19 [(false, 1), (false, 1), (false, 1)])])) hb35 (sn (st (st (Sub.cons (Has.cst (HasC.cv (HasC.s (s := 902002) rfl) (Cv.m rfl))) (sc (sc (Sub.cons (Has.cst (HasC.cv (HasC.s (s := 902008) rfl) Cv.fl)) (Sub.cons (Has.cst (HasC.cv (HasC.s (s := 902025) rfl) Cv.fl)) (sg (sg (sf (sm (sm (sf (Sub.cons (Has.at (HasG.cv (HasG.s rfl) (Cv.owM (T := [15]) (te := [16]) rfl rfl))) (Sub.cons (Has.at (HasG.cv (HasG.s rfl) (Cv.owM (T := [17]) (te := [18]) rfl rfl))) (sf (sn (sn (sn Sub.nil)))))))))))))))))))) ?_ ?_
         ·rintro s29 c30 hm
          replace hm : law04_DiskTurns_L8 x9 s26 s29 = some c30 := hm
          unfold law04_DiskTurns_L8 at hm
          show CWalk _ [.fact 1 (.isv 95), .fact 4 (.rep [] (s26 : Int)), .fact 5 (.rep [] (s29 : Int)), .fact 902002 (.cst (u1 2) (Fact.rep [0] (a2 : List UInt8))), .fact 902003 (.cst (u1 3) (Fact.isv 10)), .fact 902007 (.cst (u1 7) (Fact.isv 19)), .fact 902008 (.cst (u1 8) (Fact.rep [] ((Str.mk a2) : Str))), .fact 902025 (.cst (u1 25) (Fact.rep [] ((((((((x11 && (x3.2 == x4.2)) && x12) && (x5.2 == x6.2)) && x13) && (x7.2 == x8.2)) && x14) && (x9.2 == x10.2)) : Bool))), .fact 100096 (.at 96 (.lo [69] x9.1.Blocks)), .fact 100097 (.at 97 (.lo [69] x9.1.Wait)), .fact 100098 (.at 98 (.rep [] x9.1.Dead)), .fact 100011 (.at 11 (.rep [0] a0.Blocks)), .fact 100012 (.at 12 (.rep [0] a0.Wait)), .fact 100013 (.at 13 (.rep [] a0.Dead)), .fact 100020 (.at 20 (.ow [15] [16] 28 (x2.Blocks : List (List UInt8)))), .fact 100021 (.at 21 (.ow [17] [18] 59 (x2.Wait : List Write))), .fact 100022 (.at 22 (.rep [] x2.Dead)), .fact 100095 (.obj 95 [(false, 1), (false, 1), (false, 1)]), .fact 100010 (.obj 10 [(false, 1), (false, 1), (false, 1)]), .fact 100019 (.obj 19 [(false, 1), (false, 1), (false, 1)])] _ _
          refine CWalk.seq ?_
          refine CWalk.seq ?_
          refine CWalk.region ?_
          refine mv ?_
          refine wo (Spec.fieldAddrO fd25_1 (Has.cv (Has.s rfl) (Cv.isvP rfl))) ?_
          refine wo (Spec.loadF (i := 1) ty23 rfl (Has.s rfl) rfl (HasG.s rfl)) ?_
          refine mv ?_
          obtain ⟨x31, hx31, hm⟩ := bind_some hm
          refine wo (Spec.idxLo hx31 sl23 (Has.s rfl) (Has.s rfl)) ?_
          refine wo (Spec.fieldLo fd59_1 (loWrite_1 _) (Has.s rfl)) ?_
          refine wo (Spec.loadLo ty28 (Has.s rfl)) ?_
          refine wo (Spec.lenLo (Has.s rfl) Try.underlying28) ?_
          refine wo (Spec.lssI (Has.s rfl) (Has.s rfl)) ?_
          refine Walk.nil ?_
          refine Leaf.thenN ?_
          refine CWalk.cond rfl (fun hb => ?_) (fun hb => ?_)
          ·have hm := cond_t hb hm
           refine CWalk.skip ?_
           refine Leaf.thenN ?_
           refine CWalk.seq ?_
           refine CWalk.block ?_
           refine CWalk.region ?_
           refine wo (Spec.fieldAddrO fd25_1 (Has.cv (Has.s rfl) (Cv.isvP rfl))) ?_
           refine wo (Spec.loadF (i := 1) ty23 rfl (Has.s rfl) rfl (HasG.s rfl)) ?_
           refine mv ?_
           obtain ⟨x32, hx32, hm⟩ := bind_some hm
           refine wo (Spec.idxLo hx32 sl23 (Has.s rfl) (Has.s rfl)) ?_
           refine wo (Spec.fieldLo fd59_1 (loWrite_1 _) (Has.s rfl)) ?_
           refine wo (Spec.loadLo ty28 (Has.s rfl)) ?_
           refine mv ?_
           obtain ⟨x33, hx33, hm⟩ := bind_some hm
           refine wo (Spec.idxLo hx33 sl28 (Has.s rfl) (Has.s rfl)) ?_
           refine wo (Spec.loadLo ty5 (Has.s rfl)) ?_
           refine wo (Spec.add8Lo (Has.s rfl) (Has.u8 1 rfl)) ?_
           obtain ⟨x34, hx34, hm⟩ := bind_some hm
           refine wo (Spec.idxLo hx34 sl28 (Has.s rfl) (Has.s rfl)) ?_
           refine ws (Step.storeL (T := [69]) (LL := [.fact 100096 (.at 96 (.lo [69] x9.1.Blocks)), .fact 100097 (.at 97 (.lo [69] x9.1.Wait))]) rfl ty5 (Has.s rfl) (Has.s rfl) (LooseL.loF rfl (LooseL.loF rfl LooseL.nil))) ?_
           refine Walk.nil ?_
           refine Leaf.blockN ?_
           refine Leaf.thenN ?_
           refine CWalk.region ?_
           refine mv ?_
           refine wo (Spec.addI (Has.s rfl) Has.int) ?_
           refine wo (Spec.assign (Has.s rfl)) ?_
           refine Walk.nil ?_
           exact Leaf.next hm (sn (st (st (Sub.cons (Has.cst (HasC.cv (HasC.s (s := 902002) rfl) (Cv.m rfl))) (sc (sc (Sub.cons (Has.cst (HasC.cv (HasC.s (s := 902008) rfl) Cv.fl)) (Sub.cons (Has.cst (HasC.cv (HasC.s (s := 902025) rfl) Cv.fl)) (sg (sg (sf (sm (sm (sf (Sub.cons (Has.at (HasG.cv (HasG.s rfl) (Cv.owM (T := [15]) (te := [16]) rfl rfl))) (Sub.cons (Has.at (HasG.cv (HasG.s rfl) (Cv.owM (T := [17]) (te := [18]) rfl rfl))) (sf (sn (sn (sn Sub.nil))))))))))))))))))))
          ·have hm := cond_f hb hm
           refine CWalk.exit ?_
           refine Leaf.thenE ?_
           exact Leaf.brk hm (fun h => nomatch h) rfl (sn (st (Sub.cons (Has.cst (HasC.cv (HasC.s (s := 902002) rfl) (Cv.m rfl))) (sc (sc (Sub.cons (Has.cst (HasC.cv (HasC.s (s := 902008) rfl) Cv.fl)) (Sub.cons (Has.cst (HasC.cv (HasC.s (s := 902025) rfl) Cv.fl)) (sg (sg (sf (sm (sm (sf (Sub.cons (Has.at (HasG.cv (HasG.s rfl) (Cv.owM (T := [15]) (te := [16]) rfl rfl))) (Sub.cons (Has.at (HasG.cv (HasG.s rfl) (Cv.owM (T := [17]) (te := [18]) rfl rfl))) (sf (sn (sn (sn Sub.nil)))))))))))))))))))
         ·intro _
          refine Leaf.blockE ?_
          refine Leaf.blockN ?_
          refine Leaf.thenN ?_
          refine CWalk.region ?_
          refine mv ?_
          refine wo (Spec.addI (Has.s rfl) Has.int) ?_
          refine wo (Spec.assign (Has.s rfl)) ?_
          refine Walk.nil ?_
          exact Leaf.next hm (sn (st (Sub.cons (Has.cst (HasC.cv (HasC.s (s := 902002) rfl) (Cv.m rfl))) (sc (sc (Sub.cons (Has.cst (HasC.cv (HasC.s (s := 902008) rfl) Cv.fl)) (Sub.cons (Has.cst (HasC.cv (HasC.s (s := 902025) rfl) Cv.fl)) (sg (sg (sf (sm (sm (sf (Sub.cons (Has.at (HasG.cv (HasG.s rfl) (Cv.owM (T := [15]) (te := [16]) rfl rfl))) (Sub.cons (Has.at (HasG.cv (HasG.s rfl) (Cv.owM (T := [17]) (te := [18]) rfl rfl))) (sf (sn (sn (sn Sub.nil)))))))))))))))))))
        ·have hm := cond_f hb hm
         refine CWalk.exit ?_
         refine Leaf.thenE ?_
         exact Leaf.brk hm (fun h => nomatch h) rfl (Sub.cons (Has.cst (HasC.cv (HasC.s (s := 902002) rfl) (Cv.m rfl))) (sc (sc (Sub.cons (Has.cst (HasC.cv (HasC.s (s := 902008) rfl) Cv.fl)) (Sub.cons (Has.cst (HasC.cv (HasC.s (s := 902025) rfl) Cv.fl)) (sm (sm (sf (Sub.cons (Has.at (HasG.cv (HasG.s rfl) (Cv.owM (T := [15]) (te := [16]) rfl rfl))) (Sub.cons (Has.at (HasG.cv (HasG.s rfl) (Cv.owM (T := [17]) (te := [18]) rfl rfl))) (sf (sn (sn Sub.nil)))))))))))))
       ·intro _
        refine Leaf.blockE ?_
        exact Leaf.inN (Leaf.in0 (f0 := Fact.top) () hm rfl rfl (fun _ _ => trivial) (Low.slot rfl (HasC.cv (HasC.s (s := 902002) rfl) (Cv.m rfl)) (ls 902003 (ls 902007 (Low.slot rfl (HasC.cv (HasC.s (s := 902008) rfl) Cv.fl) (Low.slot rfl (HasC.cv (HasC.s (s := 902025) rfl) Cv.fl) (Low.res (lm (lm (lf (Low.keepG (HasG.cv (HasG.s rfl) (Cv.owM (T := [15]) (te := [16]) rfl rfl)) (Low.keepG (HasG.cv (HasG.s rfl) (Cv.owM (T := [17]) (te := [18]) rfl rfl)) (lf (lo (lo Low.nil)))))))))))))))
     ·rintro _ hm
      replace hm : law04_DiskTurns_J4 a0 a2 x2 x3 x4 x5 x6 x7 x8 x9 x10 x11 x12 x13 x14 = some r := hm
      unfold law04_DiskTurns_J4 at hm
      show Walk _ _ _ [.fact 2 (.rep [0] (a2 : List UInt8)), .fact 3 (.isv 10), .fact 7 (.isv 19), .fact 8 (.rep [] ((Str.mk a2) : Str)), .fact 25 (.rep [] ((((((((x11 && (x3.2 == x4.2)) && x12) && (x5.2 == x6.2)) && x13) && (x7.2 == x8.2)) && x14) && (x9.2 == x10.2)) : Bool)), .fact 130 (.top), .fact 100011 (.at 11 (.rep [0] a0.Blocks)), .fact 100012 (.at 12 (.rep [0] a0.Wait)), .fact 100013 (.at 13 (.rep [] a0.Dead)), .fact 100020 (.at 20 (.ow [15] [16] 28 (x2.Blocks : List (List UInt8)))), .fact 100021 (.at 21 (.ow [17] [18] 59 (x2.Wait : List Write))), .fact 100022 (.at 22 (.rep [] x2.Dead)), .fact 100010 (.obj 10 [(false, 1), (false, 1), (false, 1)]), .fact 100019 (.obj 19 [(false, 1), (false, 1), (false, 1)])] _
      refine Walk.nil ?_
      refine Leaf.thenN ?_
      refine CWalk.seq ?_
      refine CWalk.region ?_
      refine mv ?_
      refine mv ?_
      refine wg rfl rfl (fun hb => Spec.loadObj (ls := [(false, 1, Fact.ow [15] [16] 28 (x2.Blocks : List (List UInt8))), (false, 1, Fact.ow [17] [18] 59 (x2.Wait : List Write)), (false, 1, Fact.rep [] x2.Dead)]) ty25 rfl rfl (Has.s rfl) rfl (HasGs.cons (HasG.s rfl) (HasGs.cons (HasG.s rfl) (HasGs.cons (HasG.s rfl) HasGs.nil)))) ?_
      refine wg rfl rfl (fun hb => Spec.loadObj (ls := [(false, 1, Fact.rep [0] a0.Blocks), (false, 1, Fact.rep [0] a0.Wait), (false, 1, Fact.rep [] a0.Dead)]) ty25 rfl rfl (Has.s rfl) rfl (HasGs.cons (HasG.s rfl) (HasGs.cons (HasG.s rfl) (HasGs.cons (HasG.s rfl) HasGs.nil)))) ?_
      obtain ⟨x15, hx15, hm⟩ := bind_some hm
      refine wg (f := Fact.rep [] (x15 : Bool)) rfl rfl (fun hb => Spec.callE [0, 15, 16, 17, 18] 99 rfl en18 (ref04_Same_c x2 a0 (gO_t hx15 hb)) (HasAll.cons (Has.m (Has.cv (Has.u rfl hb) (Cv.trans (Cv.flds (CvL.cons (Cv.trans (Cv.trans Cv.owSl (Cv.slRep (T' := [15, 16]) rfl rfl)) (Cv.m rfl)) (CvL.cons (Cv.trans (Cv.trans Cv.owSl (Cv.slRep (T' := [17, 18]) rfl rfl)) (Cv.m rfl)) (CvL.cons Cv.fl CvL.nil)))) (Cv.close (T := [15, 16, 17, 18]) (chDisk x2)))) rfl) (HasAll.cons (Has.m (Has.cv (Has.u rfl hb) (Cv.trans (Cv.flds (CvL.cons (Cv.m rfl) (CvL.cons (Cv.m rfl) (CvL.cons Cv.fl CvL.nil)))) (Cv.close (T := [0]) (chDisk a0)))) rfl) HasAll.nil))) ?_
      refine wo (Spec.and (Has.s rfl) (fun h => Has.u rfl h)) ?_
      refine mv ?_
      refine wg rfl rfl (fun hb => Spec.move (Has.s rfl)) ?_
      refine wg rfl rfl (fun hb => Spec.toStr Try.underlying28 Try.underlying5 Try.underlying9 (Has.u rfl hb)) ?_
      refine wg rfl rfl (fun hb => Spec.move (Has.s rfl)) ?_
      refine wg rfl rfl (fun hb => Spec.eqlS (Has.u rfl hb) (Has.u rfl hb)) ?_
      refine wo (Spec.and (Has.s rfl) (fun h => Has.u rfl h)) ?_
      refine wo (Spec.assign (Has.s rfl)) ?_
      refine Walk.nil ?_
      refine Leaf.thenN ?_
      refine CWalk.ret ?_
      obtain rfl := Option.some.inj hm
      exact Leaf.retC1 rfl (HasR.cv (HasR.tmp (Has.s rfl)) Cv.fl)

end Go.Proofs.Ytdkmkalddgplmaa
