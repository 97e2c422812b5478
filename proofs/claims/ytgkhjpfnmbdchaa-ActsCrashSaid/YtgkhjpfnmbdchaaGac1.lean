/- Printed by a program of ours: models of functions, and that calls do what they say. -/
import Derived.Test.YtgkhjpfnmbdchaaProg
import Derived.Test.YtgkhjpfnmbdchaaCore43
import Derived.KernelRfl
namespace Go.Proofs.Ytgkhjpfnmbdchaa
open Go GL
set_option linter.unusedVariables false

structure Write where
  At : Int
  Data : List UInt8
  deriving Inhabited, DecidableEq
instance : Rp Write := Rp.via (inferInstance : Rp (Int × (List UInt8))) (fun x => (x.At, x.Data))
theorem chWrite (x : Write) : Ch x [⟨inferInstance, x.At⟩, ⟨inferInstance, x.Data⟩] := Ch.via (ChT.cons (ChT.one _))
instance : Lo Write := Lo.via (inferInstance : Rp (Int × (List UInt8))) inferInstance (fun x : Write => (x.At, x.Data))
theorem loWrite_0 (x : Write) : LoAt x 0 x.At := fun F cs w h => (LoAt.fst : LoAt ((x.At, x.Data)) 0 x.At) F cs w h
theorem loWrite_1 (x : Write) : LoAt x 1 x.Data := fun F cs w h => ((LoAt.snd LoAt.self) : LoAt ((x.At, x.Data)) 1 x.Data) F cs w h

structure Disk where
  Blocks : List (List UInt8)
  Wait : List Write
  Dead : Bool
  deriving Inhabited, DecidableEq
instance : Rp Disk := Rp.via (inferInstance : Rp ((List (List UInt8)) × (List Write) × Bool)) (fun x => (x.Blocks, x.Wait, x.Dead))
theorem chDisk (x : Disk) : Ch x [⟨inferInstance, x.Blocks⟩, ⟨inferInstance, x.Wait⟩, ⟨inferInstance, x.Dead⟩] := Ch.via (ChT.cons (ChT.cons (ChT.one _)))
instance : Lo Disk := Lo.via (inferInstance : Rp ((List (List UInt8)) × (List Write) × Bool)) inferInstance (fun x : Disk => (x.Blocks, x.Wait, x.Dead))
theorem loDisk_0 (x : Disk) : LoAt x 0 x.Blocks := fun F cs w h => (LoAt.fst : LoAt ((x.Blocks, x.Wait, x.Dead)) 0 x.Blocks) F cs w h
theorem loDisk_1 (x : Disk) : LoAt x 1 x.Wait := fun F cs w h => ((LoAt.snd LoAt.fst) : LoAt ((x.Blocks, x.Wait, x.Dead)) 1 x.Wait) F cs w h
theorem loDisk_2 (x : Disk) : LoAt x 2 x.Dead := fun F cs w h => ((LoAt.snd (LoAt.snd LoAt.self)) : LoAt ((x.Blocks, x.Wait, x.Dead)) 2 x.Dead) F cs w h

theorem sl22 : SlTy Try.prog 22 41 (Disk) := SlTy.of Try.underlying22 (by kernel_rfl) rfl
theorem ty41 : Ty Try.prog 41 (Disk) := Ty.of (by kernel_rfl)
theorem fd41_0 : FieldTy Try.prog 41 0 0 1 := FieldTy.of Try.underlying41 (by kernel_rfl) rfl
theorem ty38 : Ty Try.prog 38 (List (List UInt8)) := Ty.of (by kernel_rfl)
theorem sl38 : SlTy Try.prog 38 54 (List UInt8) := SlTy.of Try.underlying38 (by kernel_rfl) rfl
theorem ty54 : Ty Try.prog 54 (List UInt8) := Ty.of (by kernel_rfl)
theorem fd41_1 : FieldTy Try.prog 41 1 1 1 := FieldTy.of Try.underlying41 (by kernel_rfl) rfl
theorem ty39 : Ty Try.prog 39 (List Write) := Ty.of (by kernel_rfl)
theorem sl39 : SlTy Try.prog 39 58 (Write) := SlTy.of Try.underlying39 (by kernel_rfl) rfl
theorem fd58_1 : FieldTy Try.prog 58 1 1 1 := FieldTy.of Try.underlying58 (by kernel_rfl) rfl
theorem en33 : enters Try.prog 33 = true := by kernel_rfl
theorem en9 : enters Try.prog 9 = true := by kernel_rfl
theorem zl41 : ZeroLs Try.prog 41 [(false, 1, Fact.nilv), (false, 1, Fact.nilv), (false, 1, Fact.rep [] (false : Bool))] := ⟨⟨[.slice none 0 0, .slice none 0 0, .bool false], by kernel_rfl, fun g w => FldRel.zn (FldRel.zn (FldRel.zr (fun _ _ => rfl) (rfl)))⟩⟩
theorem fd41_2 : FieldTy Try.prog 41 2 2 1 := FieldTy.of Try.underlying41 (by kernel_rfl) rfl
theorem ty4 : Ty Try.prog 4 (Bool) := Ty.of (by kernel_rfl)
theorem bd41 : BuildTy Try.prog 41 [(0, 1), (1, 1), (2, 1)] [(false, 1, Fact.nilv), (false, 1, Fact.nilv), (false, 1, Fact.rep [] (false : Bool))] := ⟨⟨_, [.slice none 0 0, .slice none 0 0, .bool false], by kernel_rfl, Try.underlying41, (fun g w => FldRel.zn (FldRel.zn (FldRel.zr (fun _ _ => rfl) (rfl)))), by kernel_rfl⟩⟩
theorem ow54 : OwnTy Try.prog 54 5 (UInt8) := OwnTy.of Try.underlying54 (by kernel_rfl) rfl (by kernel_rfl)
theorem ow38 : OwnTy Try.prog 38 54 (List UInt8) := OwnTy.of Try.underlying38 (by kernel_rfl) rfl (by kernel_rfl)
theorem mixed : Try.prog.follows .mixedOrders = true := by kernel_rfl
theorem fd58_0 : FieldTy Try.prog 58 0 0 1 := FieldTy.of Try.underlying58 (by kernel_rfl) rfl
theorem ty3 : Ty Try.prog 3 (Int) := Ty.of (by kernel_rfl)
theorem bd58 : BuildTy Try.prog 58 [(0, 1), (1, 1)] [(false, 1, Fact.rep [] ((0 : Int) : Int)), (false, 1, Fact.nilv)] := ⟨⟨_, [.int .i64 0, .slice none 0 0], by kernel_rfl, Try.underlying58, (fun g w => FldRel.zr (fun _ _ => rfl) (FldRel.zn (rfl))), by kernel_rfl⟩⟩
theorem ow39 : OwnTy Try.prog 39 58 (Write) := OwnTy.of Try.underlying39 (by kernel_rfl) rfl (by kernel_rfl)
theorem en34 : enters Try.prog 34 = true := by kernel_rfl
theorem ow22 : OwnTy Try.prog 22 41 (Disk) := OwnTy.of Try.underlying22 (by kernel_rfl) rfl (by kernel_rfl)
theorem en10 : enters Try.prog 10 = true := by kernel_rfl
theorem en70 : enters Try.prog 70 = true := by kernel_rfl
theorem zl3 : ZeroLs Try.prog 3 [(false, 1, Fact.rep [] ((0 : Int) : Int))] := ⟨⟨[.int .i64 0], by kernel_rfl, fun g w => FldRel.zr (fun _ _ => rfl) (rfl)⟩⟩
theorem en77 : enters Try.prog 77 = true := by kernel_rfl
theorem en65 : enters Try.prog 65 = true := by kernel_rfl
theorem en64 : enters Try.prog 64 = true := by kernel_rfl
theorem ty58 : Ty Try.prog 58 (Write) := Ty.of (by kernel_rfl)
theorem en78 : enters Try.prog 78 = true := by kernel_rfl
theorem en67 : enters Try.prog 67 = true := by kernel_rfl
theorem en66 : enters Try.prog 66 = true := by kernel_rfl
theorem en68 : enters Try.prog 68 = true := by kernel_rfl
theorem en53 : enters Try.prog 53 = true := by kernel_rfl
theorem en57 : enters Try.prog 57 = true := by kernel_rfl
theorem en58 : enters Try.prog 58 = true := by kernel_rfl
theorem en40 : enters Try.prog 40 = true := by kernel_rfl
theorem en13 : enters Try.prog 13 = true := by kernel_rfl
theorem sl23 : SlTy Try.prog 23 4 (Bool) := SlTy.of Try.underlying23 (by kernel_rfl) rfl
theorem ow23 : OwnTy Try.prog 23 4 (Bool) := OwnTy.of Try.underlying23 (by kernel_rfl) rfl (by kernel_rfl)
theorem zt4 : ZeroTy Try.prog 4 false := ⟨.bool false, by kernel_rfl, fun _ => rfl⟩
theorem en35 : enters Try.prog 35 = true := by kernel_rfl
theorem en55 : enters Try.prog 55 = true := by kernel_rfl
theorem zl58 : ZeroLs Try.prog 58 [(false, 1, Fact.rep [] ((0 : Int) : Int)), (false, 1, Fact.nilv)] := ⟨⟨[.int .i64 0, .slice none 0 0], by kernel_rfl, fun g w => FldRel.zr (fun _ _ => rfl) (FldRel.zn (rfl))⟩⟩
theorem en36 : enters Try.prog 36 = true := by kernel_rfl
theorem en11 : enters Try.prog 11 = true := by kernel_rfl
theorem en63 : enters Try.prog 63 = true := by kernel_rfl
theorem en56 : enters Try.prog 56 = true := by kernel_rfl
theorem en37 : enters Try.prog 37 = true := by kernel_rfl
theorem en38 : enters Try.prog 38 = true := by kernel_rfl
theorem zt5 : ZeroTy Try.prog 5 (0 : UInt8) := ⟨.int .u8 0, by kernel_rfl, fun _ => rfl⟩
theorem en41 : enters Try.prog 41 = true := by kernel_rfl
theorem en39 : enters Try.prog 39 = true := by kernel_rfl
theorem en12 : enters Try.prog 12 = true := by kernel_rfl
theorem en14 : enters Try.prog 14 = true := by kernel_rfl
theorem en17 : enters Try.prog 17 = true := by kernel_rfl
theorem en15 : enters Try.prog 15 = true := by kernel_rfl
theorem en16 : enters Try.prog 16 = true := by kernel_rfl
theorem sl54 : SlTy Try.prog 54 5 (UInt8) := SlTy.of Try.underlying54 (by kernel_rfl) rfl
theorem ty5 : Ty Try.prog 5 (UInt8) := Ty.of (by kernel_rfl)
def hd41 : HdS Disk (List UInt8) ((List Write) × Bool) := HdS.via (fun x : Disk => (x.Blocks, x.Wait, x.Dead))
theorem hes41 (y : Disk) : ∀ F cs w, (inferInstance : Rp ((List Write) × Bool)).rel F (hd41.tl y) cs w ↔ EntsRel F [⟨inferInstance, y.Wait⟩, ⟨inferInstance, y.Dead⟩] cs w := fun F cs w => (ChT.cons (ChT.one _) : ChT (α := (List Write) × Bool) (y.Wait, y.Dead) [⟨inferInstance, y.Wait⟩, ⟨inferInstance, y.Dead⟩]).rel F cs w

def ref04_Great_L1 (a0 : Disk) (s1 : Int) (s2 : Int) : Option (Ctl (Int × Int) (Int)) :=
  (bif ((decide (s2 < ((a0.Blocks).length : Int))) && (decide (s2 < (400 : Int)))) then Option.bind (idx a0.Blocks s2) (fun x4 => some (Ctl.next ((wI (s1 + (wI ((8 : Int) + (min ((x4).length : Int) (100000 : Int)))))), (wI (s2 + (1 : Int)))))) else some (Ctl.brk s1))
def ref04_Great_L2 (a0 : Disk) (s6 : Int) (s7 : Int) : Option (Ctl (Int × Int) (Int)) :=
  (bif ((decide (s7 < ((a0.Wait).length : Int))) && (decide (s7 < (1200 : Int)))) then Option.bind (idx a0.Wait s7) (fun x9 => some (Ctl.next ((wI (s6 + (wI ((8 : Int) + (min ((x9.Data).length : Int) (100000 : Int)))))), (wI (s7 + (1 : Int)))))) else some (Ctl.brk s6))
/-- freeboard/freeboardref04.Great -/
def ref04_Great (a0 : Disk) : Option (Bool) :=
  Option.bind (loopM (fun s : Int × Int => ref04_Great_L1 a0 s.1 s.2) FUEL ((0 : Int), (0 : Int))) (fun b5 => Option.bind (loopM (fun s : Int × Int => ref04_Great_L2 a0 s.1 s.2) FUEL (b5, (0 : Int))) (fun b10 => some (((decide (((a0.Blocks).length : Int) > (300 : Int))) || (decide (((a0.Wait).length : Int) > (1100 : Int)))) || (decide (b10 > (60000 : Int))))))
set_option maxRecDepth 100000 in
set_option maxHeartbeats 2000000 in
theorem ref04_Great_c (a0 : Disk) {r : Bool} (hm : ref04_Great a0 = some r) : Ctr Try.prog 33 [.rep 0 a0] (.fl r) [] := by
 refine ctr_of_walk [[]] 63 Try.func33 rfl rfl rfl rfl (fun w0 om => ?_)
 unfold ref04_Great at hm
 refine CWalk.sub (G' := [.fact 0 (.rep [0] (a0 : Disk))]) (sn Sub.nil) ?_
 refine CWalk.seq ?_
 refine CWalk.region ?_
 refine ws (Step.boxObj (ls := [(false, 1, Fact.rep [0] a0.Blocks), (false, 1, Fact.rep [0] a0.Wait), (false, 1, Fact.rep [] a0.Dead)]) 10 rfl rfl rfl rfl (HasL.flds (Has.cv (Has.s rfl) (Cv.trans (Cv.opens (chDisk a0)) (Cv.flds (CvL.cons Cv.refl (CvL.cons Cv.refl (CvL.cons Cv.fl CvL.nil)))))))) ?_
 refine wo (Spec.assign Has.bool) ?_
 refine Walk.nil ?_
 refine Leaf.thenN ?_
 refine CWalk.seq ?_
 refine CWalk.region ?_
 refine wo (Spec.assign Has.int) ?_
 refine Walk.nil ?_
 refine Leaf.thenN ?_
 refine CWalk.seq ?_
 refine CWalk.seq ?_
 refine CWalk.region ?_
 refine wo (Spec.assign Has.int) ?_
 refine Walk.nil ?_
 refine Leaf.thenN ?_
 refine CWalk.block ?_
 obtain ⟨b5, hb5, hm⟩ := bind_some hm
 refine CWalk.loop (fun s : Int × Int => [.fact 1 (.isv 10), .fact 3 (.rep [] s.1), .fact 4 (.rep [] s.2), .fact 100011 (.at 11 (.rep [0] a0.Blocks)), .fact 100012 (.at 12 (.rep [0] a0.Wait)), .fact 100013 (.at 13 (.rep [] a0.Dead)), .fact 100010 (.obj 10 [(false, 1), (false, 1), (false, 1)])]) (fun b : Int => (Exit.exit 0, [.fact 1 (.isv 10), .fact 3 (.rep [] (b : Int)), .fact 100011 (.at 11 (.rep [0] a0.Blocks)), .fact 100012 (.at 12 (.rep [0] a0.Wait)), .fact 100013 (.at 13 (.rep [] a0.Dead)), .fact 100010 (.obj 10 [(false, 1), (false, 1), (false, 1)])])) hb5 (sn (st (st (sm (sm (sf (sn Sub.nil))))))) ?_ ?_
 ·rintro ⟨s1, s2⟩ c3 hm
  replace hm : ref04_Great_L1 a0 s1 s2 = some c3 := hm
  unfold ref04_Great_L1 at hm
  show CWalk _ [.fact 1 (.isv 10), .fact 3 (.rep [] (s1 : Int)), .fact 4 (.rep [] (s2 : Int)), .fact 100011 (.at 11 (.rep [0] a0.Blocks)), .fact 100012 (.at 12 (.rep [0] a0.Wait)), .fact 100013 (.at 13 (.rep [] a0.Dead)), .fact 100010 (.obj 10 [(false, 1), (false, 1), (false, 1)])] _ _
  refine CWalk.seq ?_
  refine CWalk.seq ?_
  refine CWalk.region ?_
  refine mv ?_
  refine wo (Spec.fieldAddrO fd41_0 (Has.cv (Has.s rfl) (Cv.isvP rfl))) ?_
  refine wo (Spec.loadF (i := 0) ty38 rfl (Has.s rfl) rfl (HasG.s rfl)) ?_
  refine wo (Spec.len (Has.s rfl) Try.underlying38) ?_
  refine wo (Spec.lssI (Has.s rfl) (Has.s rfl)) ?_
  refine mv ?_
  refine wg rfl rfl (fun hb => Spec.move (Has.s rfl)) ?_
  refine wg rfl rfl (fun hb => Spec.lssI (Has.u rfl hb) Has.int) ?_
  refine wo (Spec.and (Has.s rfl) (fun h => Has.u rfl h)) ?_
  refine Walk.nil ?_
  refine Leaf.thenN ?_
  refine CWalk.cond rfl (fun hb => ?_) (fun hb => ?_)
  ·have hm := cond_t hb hm
   refine CWalk.skip ?_
   refine Leaf.thenN ?_
   refine CWalk.seq ?_
   refine CWalk.block ?_
   refine CWalk.region ?_
   refine mv ?_
   refine wo (Spec.fieldAddrO fd41_0 (Has.cv (Has.s rfl) (Cv.isvP rfl))) ?_
   refine wo (Spec.loadF (i := 0) ty38 rfl (Has.s rfl) rfl (HasG.s rfl)) ?_
   refine mv ?_
   obtain ⟨x4, hx4, hm⟩ := bind_some hm
   refine wo (Spec.indexAddr hx4 sl38 (Has.s rfl) (Has.s rfl)) ?_
   refine wo (Spec.load ty54 (Has.s rfl)) ?_
   refine wo (Spec.len (Has.s rfl) Try.underlying54) ?_
   refine wo (Spec.minI (Has.s rfl) Has.int) ?_
   refine wo (Spec.addI Has.int (Has.s rfl)) ?_
   refine wo (Spec.addI (Has.s rfl) (Has.s rfl)) ?_
   refine wo (Spec.assign (Has.s rfl)) ?_
   refine Walk.nil ?_
   refine Leaf.blockN ?_
   refine Leaf.thenN ?_
   refine CWalk.region ?_
   refine mv ?_
   refine wo (Spec.addI (Has.s rfl) Has.int) ?_
   refine wo (Spec.assign (Has.s rfl)) ?_
   refine Walk.nil ?_
   exact Leaf.next hm (sn (st (st (sm (sm (sf (sn Sub.nil)))))))
  ·have hm := cond_f hb hm
   refine CWalk.exit ?_
   refine Leaf.thenE ?_
   exact Leaf.brk hm (fun h => nomatch h) rfl (sn (st (sm (sm (sf (sn Sub.nil))))))
 ·intro _
  refine Leaf.blockE ?_
  refine Leaf.thenN ?_
  refine CWalk.seq ?_
  refine CWalk.seq ?_
  refine CWalk.region ?_
  refine wo (Spec.assign Has.int) ?_
  refine Walk.nil ?_
  refine Leaf.thenN ?_
  refine CWalk.block ?_
  obtain ⟨b10, hb10, hm⟩ := bind_some hm
  refine CWalk.loop (fun s : Int × Int => [.fact 1 (.isv 10), .fact 3 (.rep [] s.1), .fact 5 (.rep [] s.2), .fact 100011 (.at 11 (.rep [0] a0.Blocks)), .fact 100012 (.at 12 (.rep [0] a0.Wait)), .fact 100013 (.at 13 (.rep [] a0.Dead)), .fact 100010 (.obj 10 [(false, 1), (false, 1), (false, 1)])]) (fun b : Int => (Exit.exit 2, [.fact 1 (.isv 10), .fact 3 (.rep [] (b : Int)), .fact 100011 (.at 11 (.rep [0] a0.Blocks)), .fact 100012 (.at 12 (.rep [0] a0.Wait)), .fact 100013 (.at 13 (.rep [] a0.Dead)), .fact 100010 (.obj 10 [(false, 1), (false, 1), (false, 1)])])) hb10 (sn (st (st (sm (sm (sf (sn Sub.nil))))))) ?_ ?_
  ·rintro ⟨s6, s7⟩ c8 hm
   replace hm : ref04_Great_L2 a0 s6 s7 = some c8 := hm
   unfold ref04_Great_L2 at hm
   show CWalk _ [.fact 1 (.isv 10), .fact 3 (.rep [] (s6 : Int)), .fact 5 (.rep [] (s7 : Int)), .fact 100011 (.at 11 (.rep [0] a0.Blocks)), .fact 100012 (.at 12 (.rep [0] a0.Wait)), .fact 100013 (.at 13 (.rep [] a0.Dead)), .fact 100010 (.obj 10 [(false, 1), (false, 1), (false, 1)])] _ _
   refine CWalk.seq ?_
   refine CWalk.seq ?_
   refine CWalk.region ?_
   refine mv ?_
   refine wo (Spec.fieldAddrO fd41_1 (Has.cv (Has.s rfl) (Cv.isvP rfl))) ?_
   refine wo (Spec.loadF (i := 1) ty39 rfl (Has.s rfl) rfl (HasG.s rfl)) ?_
   refine wo (Spec.len (Has.s rfl) Try.underlying39) ?_
   refine wo (Spec.lssI (Has.s rfl) (Has.s rfl)) ?_
   refine mv ?_
   refine wg rfl rfl (fun hb => Spec.move (Has.s rfl)) ?_
   refine wg rfl rfl (fun hb => Spec.lssI (Has.u rfl hb) Has.int) ?_
   refine wo (Spec.and (Has.s rfl) (fun h => Has.u rfl h)) ?_
   refine Walk.nil ?_
   refine Leaf.thenN ?_
   refine CWalk.cond rfl (fun hb => ?_) (fun hb => ?_)
   ·have hm := cond_t hb hm
    refine CWalk.skip ?_
    refine Leaf.thenN ?_
    refine CWalk.seq ?_
    refine CWalk.block ?_
    refine CWalk.region ?_
    refine mv ?_
    refine wo (Spec.fieldAddrO fd41_1 (Has.cv (Has.s rfl) (Cv.isvP rfl))) ?_
    refine wo (Spec.loadF (i := 1) ty39 rfl (Has.s rfl) rfl (HasG.s rfl)) ?_
    refine mv ?_
    obtain ⟨x9, hx9, hm⟩ := bind_some hm
    refine wo (Spec.indexAddr hx9 sl39 (Has.s rfl) (Has.s rfl)) ?_
    refine wo (Spec.fieldAddrP fd58_1 (chWrite x9) rfl (Has.s rfl)) ?_
    refine wo (Spec.load ty54 (Has.s rfl)) ?_
    refine wo (Spec.len (Has.s rfl) Try.underlying54) ?_
    refine wo (Spec.minI (Has.s rfl) Has.int) ?_
    refine wo (Spec.addI Has.int (Has.s rfl)) ?_
    refine wo (Spec.addI (Has.s rfl) (Has.s rfl)) ?_
    refine wo (Spec.assign (Has.s rfl)) ?_
    refine Walk.nil ?_
    refine Leaf.blockN ?_
    refine Leaf.thenN ?_
    refine CWalk.region ?_
    refine mv ?_
    refine wo (Spec.addI (Has.s rfl) Has.int) ?_
    refine wo (Spec.assign (Has.s rfl)) ?_
    refine Walk.nil ?_
    exact Leaf.next hm (sn (st (st (sm (sm (sf (sn Sub.nil)))))))
   ·have hm := cond_f hb hm
    refine CWalk.exit ?_
    refine Leaf.thenE ?_
    exact Leaf.brk hm (fun h => nomatch h) rfl (sn (st (sm (sm (sf (sn Sub.nil))))))
  ·intro _
   refine Leaf.blockE ?_
   refine Leaf.thenN ?_
   refine CWalk.seq ?_
   refine CWalk.region ?_
   refine wo (Spec.fieldAddrO fd41_0 (Has.cv (Has.s rfl) (Cv.isvP rfl))) ?_
   refine wo (Spec.loadF (i := 0) ty38 rfl (Has.s rfl) rfl (HasG.s rfl)) ?_
   refine wo (Spec.len (Has.s rfl) Try.underlying38) ?_
   refine wo (Spec.gtrI (Has.s rfl) Has.int) ?_
   refine mv ?_
   refine wg rfl rfl (fun hb => Spec.fieldAddrO fd41_1 (Has.cv (Has.s rfl) (Cv.isvP rfl))) ?_
   refine wg rfl rfl (fun hb => Spec.loadF (i := 1) ty39 rfl (Has.u rfl hb) rfl (HasG.s rfl)) ?_
   refine wg rfl rfl (fun hb => Spec.len (Has.u rfl hb) Try.underlying39) ?_
   refine wg rfl rfl (fun hb => Spec.gtrI (Has.u rfl hb) Has.int) ?_
   refine wo (Spec.or (Has.s rfl) (fun h => Has.u rfl h)) ?_
   refine mv ?_
   refine wg rfl rfl (fun hb => Spec.move (Has.s rfl)) ?_
   refine wg rfl rfl (fun hb => Spec.gtrI (Has.u rfl hb) Has.int) ?_
   refine wo (Spec.or (Has.s rfl) (fun h => Has.u rfl h)) ?_
   refine wo (Spec.assign (Has.s rfl)) ?_
   refine Walk.nil ?_
   refine Leaf.thenN ?_
   refine CWalk.ret ?_
   obtain rfl := Option.some.inj hm
   exact Leaf.retC1 rfl (HasR.cv (HasR.tmp (Has.s rfl)) Cv.fl)

def ref05_Great_L2 (a0 : List Disk) (s2 : Int) (s6 : Int) (s7 : Int) : Option (Ctl (Int × Int) (Int)) :=
  Option.bind (idx a0 s2) (fun x9 => (bif (decide (s7 < ((x9.Blocks).length : Int))) then Option.bind (idx a0 s2) (fun x10 => Option.bind (idx x10.Blocks s7) (fun x11 => some (Ctl.next ((wI (s6 + (wI ((8 : Int) + ((x11).length : Int))))), (wI (s7 + (1 : Int))))))) else some (Ctl.brk s6)))
def ref05_Great_L3 (a0 : List Disk) (s2 : Int) (s13 : Int) (s14 : Int) : Option (Ctl (Int × Int) (Int)) :=
  Option.bind (idx a0 s2) (fun x16 => (bif (decide (s14 < ((x16.Wait).length : Int))) then Option.bind (idx a0 s2) (fun x17 => Option.bind (idx x17.Wait s14) (fun x18 => some (Ctl.next ((wI (s13 + (wI ((8 : Int) + ((x18.Data).length : Int))))), (wI (s14 + (1 : Int))))))) else some (Ctl.brk s13)))
def ref05_Great_L1 (a0 : List Disk) (s1 : Int) (s2 : Int) : Option (Ctl (Int × Int) ((Unit) ⊕ (Unit))) :=
  (bif ((decide (s2 < ((a0).length : Int))) && (decide (s2 < (30 : Int)))) then Option.bind (idx a0 s2) (fun x4 => Option.bind (ref04_Great x4) (fun x5 => (bif x5 then some (Ctl.brk (Sum.inr ())) else Option.bind (loopM (fun s : Int × Int => ref05_Great_L2 a0 s2 s.1 s.2) FUEL (s1, (0 : Int))) (fun b12 => Option.bind (loopM (fun s : Int × Int => ref05_Great_L3 a0 s2 s.1 s.2) FUEL (b12, (0 : Int))) (fun b19 => (bif (decide (b19 > (60000 : Int))) then some (Ctl.brk (Sum.inr ())) else some (Ctl.next (b19, (wI (s2 + (1 : Int))))))))))) else some (Ctl.brk (Sum.inl ())))
/-- freeboard/freeboardref05.Great -/
def ref05_Great (a0 : List Disk) : Option (Bool) :=
  Option.bind (loopM (fun s : Int × Int => ref05_Great_L1 a0 s.1 s.2) FUEL ((0 : Int), (0 : Int))) (fun b20 => Sum.elim (fun b21 => some (decide (((a0).length : Int) > (30 : Int)))) (fun b22 => some true) b20)
set_option maxRecDepth 100000 in
set_option maxHeartbeats 2000000 in
theorem ref05_Great_c (a0 : List Disk) {r : Bool} (hm : ref05_Great a0 = some r) : Ctr Try.prog 9 [.rep 0 a0] (.fl r) [] := by
 refine ctr_of_walk [[]] 72 Try.func9 rfl rfl rfl rfl (fun w0 om => ?_)
 unfold ref05_Great at hm
 refine CWalk.sub (G' := [.fact 0 (.rep [0] (a0 : List Disk))]) (sn Sub.nil) ?_
 refine CWalk.seq ?_
 refine CWalk.region ?_
 refine wo (Spec.assign Has.bool) ?_
 refine Walk.nil ?_
 refine Leaf.thenN ?_
 refine CWalk.seq ?_
 refine CWalk.region ?_
 refine wo (Spec.assign Has.int) ?_
 refine Walk.nil ?_
 refine Leaf.thenN ?_
 refine CWalk.seq ?_
 refine CWalk.seq ?_
 refine CWalk.region ?_
 refine wo (Spec.assign Has.int) ?_
 refine Walk.nil ?_
 refine Leaf.thenN ?_
 refine CWalk.block ?_
 obtain ⟨b20, hb20, hm⟩ := bind_some hm
 refine CWalk.loop (fun s : Int × Int => [.fact 0 (.rep [0] (a0 : List Disk)), .fact 3 (.rep [] s.1), .fact 4 (.rep [] s.2)]) (fun b : (Unit) ⊕ (Unit) => Sum.elim (fun b => (Exit.exit 0, [.fact 0 (.rep [0] (a0 : List Disk))])) (fun b => (Exit.ret, [.fact 2 (.rep [] (true : Bool))])) b) hb20 (su (st (st Sub.nil))) ?_ ?_
 ·rintro ⟨s1, s2⟩ c3 hm
  replace hm : ref05_Great_L1 a0 s1 s2 = some c3 := hm
  unfold ref05_Great_L1 at hm
  show CWalk _ [.fact 0 (.rep [0] (a0 : List Disk)), .fact 3 (.rep [] (s1 : Int)), .fact 4 (.rep [] (s2 : Int))] _ _
  refine CWalk.seq ?_
  refine CWalk.seq ?_
  refine CWalk.region ?_
  refine mv ?_
  refine mv ?_
  refine wo (Spec.len (Has.s rfl) Try.underlying22) ?_
  refine wo (Spec.lssI (Has.s rfl) (Has.s rfl)) ?_
  refine mv ?_
  refine wg rfl rfl (fun hb => Spec.move (Has.s rfl)) ?_
  refine wg rfl rfl (fun hb => Spec.lssI (Has.u rfl hb) Has.int) ?_
  refine wo (Spec.and (Has.s rfl) (fun h => Has.u rfl h)) ?_
  refine Walk.nil ?_
  refine Leaf.thenN ?_
  refine CWalk.cond rfl (fun hb => ?_) (fun hb => ?_)
  ·have hm := cond_t hb hm
   refine CWalk.skip ?_
   refine Leaf.thenN ?_
   refine CWalk.seq ?_
   refine CWalk.block ?_
   refine CWalk.seq ?_
   refine CWalk.seq ?_
   refine CWalk.region ?_
   refine mv ?_
   refine mv ?_
   obtain ⟨x4, hx4, hm⟩ := bind_some hm
   refine wo (Spec.indexAddr hx4 sl22 (Has.s rfl) (Has.s rfl)) ?_
   refine wo (Spec.load ty41 (Has.s rfl)) ?_
   obtain ⟨x5, hx5, hm⟩ := bind_some hm
   refine wo (f := Fact.rep [] (x5 : Bool)) (Spec.callE [0] 10 rfl en33 (ref04_Great_c x4 hx5) (HasAll.cons (Has.m (Has.s rfl) rfl) HasAll.nil)) ?_
   refine Walk.nil ?_
   refine Leaf.thenN ?_
   refine CWalk.cond rfl (fun hb => ?_) (fun hb => ?_)
   ·have hm := cond_t hb hm
    refine CWalk.seq ?_
    refine CWalk.region ?_
    refine wo (Spec.assign Has.bool) ?_
    refine Walk.nil ?_
    refine Leaf.thenN ?_
    refine CWalk.ret ?_
    refine Leaf.thenR ?_
    refine Leaf.blockR ?_
    refine Leaf.thenR ?_
    exact Leaf.brk hm (fun h => nomatch h) rfl (st Sub.nil)
   ·have hm := cond_f hb hm
    refine CWalk.skip ?_
    refine Leaf.thenN ?_
    refine CWalk.seq ?_
    refine CWalk.seq ?_
    refine CWalk.region ?_
    refine wo (Spec.assign Has.int) ?_
    refine Walk.nil ?_
    refine Leaf.thenN ?_
    refine CWalk.block ?_
    obtain ⟨b12, hb12, hm⟩ := bind_some hm
    refine CWalk.loop (fun s : Int × Int => [.fact 0 (.rep [0] (a0 : List Disk)), .fact 3 (.rep [] s.1), .fact 4 (.rep [] (s2 : Int)), .fact 5 (.rep [] s.2)]) (fun b : Int => (Exit.exit 2, [.fact 0 (.rep [0] (a0 : List Disk)), .fact 3 (.rep [] (b : Int)), .fact 4 (.rep [] (s2 : Int))])) hb12 (su (st (st (st Sub.nil)))) ?_ ?_
    ·rintro ⟨s6, s7⟩ c8 hm
     replace hm : ref05_Great_L2 a0 s2 s6 s7 = some c8 := hm
     unfold ref05_Great_L2 at hm
     show CWalk _ [.fact 0 (.rep [0] (a0 : List Disk)), .fact 3 (.rep [] (s6 : Int)), .fact 4 (.rep [] (s2 : Int)), .fact 5 (.rep [] (s7 : Int))] _ _
     refine CWalk.seq ?_
     refine CWalk.seq ?_
     refine CWalk.region ?_
     refine mv ?_
     refine mv ?_
     refine mv ?_
     obtain ⟨x9, hx9, hm⟩ := bind_some hm
     refine wo (Spec.indexAddr hx9 sl22 (Has.s rfl) (Has.s rfl)) ?_
     refine wo (Spec.fieldAddrP fd41_0 (chDisk x9) rfl (Has.s rfl)) ?_
     refine wo (Spec.load ty38 (Has.s rfl)) ?_
     refine wo (Spec.len (Has.s rfl) Try.underlying38) ?_
     refine wo (Spec.lssI (Has.s rfl) (Has.s rfl)) ?_
     refine Walk.nil ?_
     refine Leaf.thenN ?_
     refine CWalk.cond rfl (fun hb => ?_) (fun hb => ?_)
     ·have hm := cond_t hb hm
      refine CWalk.skip ?_
      refine Leaf.thenN ?_
      refine CWalk.seq ?_
      refine CWalk.block ?_
      refine CWalk.region ?_
      refine mv ?_
      refine mv ?_
      refine mv ?_
      obtain ⟨x10, hx10, hm⟩ := bind_some hm
      refine wo (Spec.indexAddr hx10 sl22 (Has.s rfl) (Has.s rfl)) ?_
      refine wo (Spec.fieldAddrP fd41_0 (chDisk x10) rfl (Has.s rfl)) ?_
      refine wo (Spec.load ty38 (Has.s rfl)) ?_
      refine mv ?_
      obtain ⟨x11, hx11, hm⟩ := bind_some hm
      refine wo (Spec.indexAddr hx11 sl38 (Has.s rfl) (Has.s rfl)) ?_
      refine wo (Spec.load ty54 (Has.s rfl)) ?_
      refine wo (Spec.len (Has.s rfl) Try.underlying54) ?_
      refine wo (Spec.addI Has.int (Has.s rfl)) ?_
      refine wo (Spec.addI (Has.s rfl) (Has.s rfl)) ?_
      refine wo (Spec.assign (Has.s rfl)) ?_
      refine Walk.nil ?_
      refine Leaf.blockN ?_
      refine Leaf.thenN ?_
      refine CWalk.region ?_
      refine mv ?_
      refine wo (Spec.addI (Has.s rfl) Has.int) ?_
      refine wo (Spec.assign (Has.s rfl)) ?_
      refine Walk.nil ?_
      exact Leaf.next hm (su (st (st (st Sub.nil))))
     ·have hm := cond_f hb hm
      refine CWalk.exit ?_
      refine Leaf.thenE ?_
      exact Leaf.brk hm (fun h => nomatch h) rfl (su (st (st Sub.nil)))
    ·intro _
     refine Leaf.blockE ?_
     refine Leaf.thenN ?_
     refine CWalk.seq ?_
     refine CWalk.seq ?_
     refine CWalk.region ?_
     refine wo (Spec.assign Has.int) ?_
     refine Walk.nil ?_
     refine Leaf.thenN ?_
     refine CWalk.block ?_
     obtain ⟨b19, hb19, hm⟩ := bind_some hm
     refine CWalk.loop (fun s : Int × Int => [.fact 0 (.rep [0] (a0 : List Disk)), .fact 3 (.rep [] s.1), .fact 4 (.rep [] (s2 : Int)), .fact 6 (.rep [] s.2)]) (fun b : Int => (Exit.exit 4, [.fact 0 (.rep [0] (a0 : List Disk)), .fact 3 (.rep [] (b : Int)), .fact 4 (.rep [] (s2 : Int))])) hb19 (su (st (st (st Sub.nil)))) ?_ ?_
     ·rintro ⟨s13, s14⟩ c15 hm
      replace hm : ref05_Great_L3 a0 s2 s13 s14 = some c15 := hm
      unfold ref05_Great_L3 at hm
      show CWalk _ [.fact 0 (.rep [0] (a0 : List Disk)), .fact 3 (.rep [] (s13 : Int)), .fact 4 (.rep [] (s2 : Int)), .fact 6 (.rep [] (s14 : Int))] _ _
      refine CWalk.seq ?_
      refine CWalk.seq ?_
      refine CWalk.region ?_
      refine mv ?_
      refine mv ?_
      refine mv ?_
      obtain ⟨x16, hx16, hm⟩ := bind_some hm
      refine wo (Spec.indexAddr hx16 sl22 (Has.s rfl) (Has.s rfl)) ?_
      refine wo (Spec.fieldAddrP fd41_1 (chDisk x16) rfl (Has.s rfl)) ?_
      refine wo (Spec.load ty39 (Has.s rfl)) ?_
      refine wo (Spec.len (Has.s rfl) Try.underlying39) ?_
      refine wo (Spec.lssI (Has.s rfl) (Has.s rfl)) ?_
      refine Walk.nil ?_
      refine Leaf.thenN ?_
      refine CWalk.cond rfl (fun hb => ?_) (fun hb => ?_)
      ·have hm := cond_t hb hm
       refine CWalk.skip ?_
       refine Leaf.thenN ?_
       refine CWalk.seq ?_
       refine CWalk.block ?_
       refine CWalk.region ?_
       refine mv ?_
       refine mv ?_
       refine mv ?_
       obtain ⟨x17, hx17, hm⟩ := bind_some hm
       refine wo (Spec.indexAddr hx17 sl22 (Has.s rfl) (Has.s rfl)) ?_
       refine wo (Spec.fieldAddrP fd41_1 (chDisk x17) rfl (Has.s rfl)) ?_
       refine wo (Spec.load ty39 (Has.s rfl)) ?_
       refine mv ?_
       obtain ⟨x18, hx18, hm⟩ := bind_some hm
       refine wo (Spec.indexAddr hx18 sl39 (Has.s rfl) (Has.s rfl)) ?_
       refine wo (Spec.fieldAddrP fd58_1 (chWrite x18) rfl (Has.s rfl)) ?_
       refine wo (Spec.load ty54 (Has.s rfl)) ?_
       refine wo (Spec.len (Has.s rfl) Try.underlying54) ?_
       refine wo (Spec.addI Has.int (Has.s rfl)) ?_
       refine wo (Spec.addI (Has.s rfl) (Has.s rfl)) ?_
       refine wo (Spec.assign (Has.s rfl)) ?_
       refine Walk.nil ?_
       refine Leaf.blockN ?_
       refine Leaf.thenN ?_
       refine CWalk.region ?_
       refine mv ?_
       refine wo (Spec.addI (Has.s rfl) Has.int) ?_
       refine wo (Spec.assign (Has.s rfl)) ?_
       refine Walk.nil ?_
       exact Leaf.next hm (su (st (st (st Sub.nil))))
      ·have hm := cond_f hb hm
       refine CWalk.exit ?_
       refine Leaf.thenE ?_
       exact Leaf.brk hm (fun h => nomatch h) rfl (su (st (st Sub.nil)))
     ·intro _
      refine Leaf.blockE ?_
      refine Leaf.thenN ?_
      refine CWalk.seq ?_
      refine CWalk.region ?_
      refine mv ?_
      refine wo (Spec.gtrI (Has.s rfl) Has.int) ?_
      refine Walk.nil ?_
      refine Leaf.thenN ?_
      refine CWalk.cond rfl (fun hb => ?_) (fun hb => ?_)
      ·have hm := cond_t hb hm
       refine CWalk.seq ?_
       refine CWalk.region ?_
       refine wo (Spec.assign Has.bool) ?_
       refine Walk.nil ?_
       refine Leaf.thenN ?_
       refine CWalk.ret ?_
       refine Leaf.blockR ?_
       refine Leaf.thenR ?_
       exact Leaf.brk hm (fun h => nomatch h) rfl (st Sub.nil)
      ·have hm := cond_f hb hm
       refine CWalk.skip ?_
       refine Leaf.blockN ?_
       refine Leaf.thenN ?_
       refine CWalk.region ?_
       refine mv ?_
       refine wo (Spec.addI (Has.s rfl) Has.int) ?_
       refine wo (Spec.assign (Has.s rfl)) ?_
       refine Walk.nil ?_
       exact Leaf.next hm (su (st (st Sub.nil)))
  ·have hm := cond_f hb hm
   refine CWalk.exit ?_
   refine Leaf.thenE ?_
   exact Leaf.brk hm (fun h => nomatch h) rfl (su Sub.nil)
 ·intro _
  rcases b20 with b21 | b22
  ·have hm := selim_l hm
   refine Leaf.blockE ?_
   refine Leaf.thenN ?_
   refine CWalk.seq ?_
   refine CWalk.region ?_
   refine mv ?_
   refine wo (Spec.len (Has.s rfl) Try.underlying22) ?_
   refine wo (Spec.gtrI (Has.s rfl) Has.int) ?_
   refine wo (Spec.assign (Has.s rfl)) ?_
   refine Walk.nil ?_
   refine Leaf.thenN ?_
   refine CWalk.ret ?_
   obtain rfl := Option.some.inj hm
   exact Leaf.retC1 rfl (HasR.cv (HasR.tmp (Has.s rfl)) Cv.fl)
  ·have hm := selim_r hm
   refine Leaf.blockR ?_
   refine Leaf.thenR ?_
   obtain rfl := Option.some.inj hm
   exact Leaf.retC1 rfl (HasR.cv (HasR.tmp (Has.s rfl)) Cv.fl)

def ref04_Twin_L1 (a0 : Disk) (s1 : Int) (s2 : List (List UInt8)) : Option (Ctl (Int × (List (List UInt8))) ((List (List UInt8)))) :=
  (bif (decide (s1 < ((a0.Blocks).length : Int))) then Option.bind (idx a0.Blocks s1) (fun x4 => Option.bind (app ([] : List UInt8) x4) (fun x5 => Option.bind (app s2 ([x5])) (fun x6 => some (Ctl.next ((wI (s1 + (1 : Int))), x6))))) else some (Ctl.brk s2))
def ref04_Twin_L2 (a0 : Disk) (s8 : Int) (s9 : List Write) : Option (Ctl (Int × (List Write)) ((List Write))) :=
  (bif (decide (s8 < ((a0.Wait).length : Int))) then Option.bind (idx a0.Wait s8) (fun x11 => Option.bind (idx a0.Wait s8) (fun x12 => Option.bind (app ([] : List UInt8) x12.Data) (fun x13 => Option.bind (app s9 ([(Write.mk x11.At x13)])) (fun x14 => some (Ctl.next ((wI (s8 + (1 : Int))), x14)))))) else some (Ctl.brk s9))
/-- freeboard/freeboardref04.Twin -/
def ref04_Twin (a0 : Disk) : Option (Disk) :=
  Option.bind (loopM (fun s : Int × (List (List UInt8)) => ref04_Twin_L1 a0 s.1 s.2) FUEL ((0 : Int), ([] : List (List UInt8)))) (fun b7 => Option.bind (loopM (fun s : Int × (List Write) => ref04_Twin_L2 a0 s.1 s.2) FUEL ((0 : Int), ([] : List Write))) (fun b15 => some (Disk.mk b7 b15 a0.Dead)))
set_option maxRecDepth 100000 in
set_option maxHeartbeats 2000000 in
theorem ref04_Twin_c (a0 : Disk) {r : Disk} (hm : ref04_Twin a0 = some r) : Ctr Try.prog 34 [.rep 0 a0] (.flds [(false, 1, (.own 0 (some 1) 54 r.Blocks)), (false, 1, (.own 2 (some 3) 58 r.Wait)), (false, 1, (.fl r.Dead))]) [] := by
 refine ctr_of_walk [[24], [22, 23], [27], [25, 26]] 58 Try.func34 rfl rfl rfl rfl (fun w0 om => ?_)
 unfold ref04_Twin at hm
 refine CWalk.sub (G' := [.fact 0 (.rep [0] (a0 : Disk))]) (sn Sub.nil) ?_
 refine CWalk.seq ?_
 refine CWalk.region ?_
 refine ws (Step.boxObj (ls := [(false, 1, Fact.rep [0] a0.Blocks), (false, 1, Fact.rep [0] a0.Wait), (false, 1, Fact.rep [] a0.Dead)]) 10 rfl rfl rfl rfl (HasL.flds (Has.cv (Has.s rfl) (Cv.trans (Cv.opens (chDisk a0)) (Cv.flds (CvL.cons Cv.refl (CvL.cons Cv.refl (CvL.cons Cv.fl CvL.nil)))))))) ?_
 refine ws (Step.allocObj (ls := [(false, 1, Fact.nilv), (false, 1, Fact.nilv), (false, 1, Fact.rep [] (false : Bool))]) 14 rfl rfl rfl rfl zl41) ?_
 refine Walk.nil ?_
 refine Leaf.thenN ?_
 refine CWalk.seq ?_
 refine CWalk.region ?_
 refine wo (Spec.fieldAddrO fd41_2 (Has.cv (Has.s rfl) (Cv.isvP rfl))) ?_
 refine wo (Spec.loadF (i := 2) ty4 rfl (Has.s rfl) rfl (HasG.s rfl)) ?_
 refine wo (Spec.build (us := [(2, .tmp 9)]) (ls' := [(false, 1, Fact.nilv), (false, 1, Fact.nilv), (false, 1, Fact.rep [] a0.Dead)]) bd41 rfl (BP.cons rfl rfl (Has.s rfl) (Has.s rfl) BP.nil)) ?_
 refine ws (Step.allocObj (ls := [(false, 1, Fact.nilv), (false, 1, Fact.nilv), (false, 1, Fact.rep [] (false : Bool))]) 18 rfl rfl rfl rfl zl41) ?_
 refine ws (Step.storeObj (ls := [(false, 1, Fact.nilv), (false, 1, Fact.nilv), (false, 1, Fact.rep [] a0.Dead)]) rfl ty41 rfl rfl (Has.s rfl) rfl (HasL.flds (Has.s rfl)) rfl) ?_
 refine Walk.nil ?_
 refine Leaf.thenN ?_
 refine CWalk.seq ?_
 refine CWalk.seq ?_
 refine CWalk.region ?_
 refine wo (Spec.assign Has.int) ?_
 refine Walk.nil ?_
 refine Leaf.thenN ?_
 refine CWalk.block ?_
 obtain ⟨b7, hb7, hm⟩ := bind_some hm
 refine CWalk.loop (fun s : Int × (List (List UInt8)) => [.fact 1 (.isv 10), .fact 2 (.isv 14), .fact 3 (.isv 18), .fact 4 (.rep [] s.1), .fact 100011 (.at 11 (.rep [0] a0.Blocks)), .fact 100012 (.at 12 (.rep [0] a0.Wait)), .fact 100013 (.at 13 (.rep [] a0.Dead)), .fact 100015 (.at 15 (.nilv)), .fact 100016 (.at 16 (.nilv)), .fact 100017 (.at 17 (.rep [] (false : Bool))), .fact 100019 (.at 19 (.ow [24] [22, 23] 54 (s.2 : List (List UInt8)))), .fact 100020 (.at 20 (.nilv)), .fact 100021 (.at 21 (.rep [] a0.Dead)), .fact 100010 (.obj 10 [(false, 1), (false, 1), (false, 1)]), .fact 100014 (.obj 14 [(false, 1), (false, 1), (false, 1)]), .fact 100018 (.obj 18 [(false, 1), (false, 1), (false, 1)])]) (fun b : (List (List UInt8)) => (Exit.exit 0, [.fact 1 (.isv 10), .fact 2 (.isv 14), .fact 3 (.isv 18), .fact 100011 (.at 11 (.rep [0] a0.Blocks)), .fact 100012 (.at 12 (.rep [0] a0.Wait)), .fact 100013 (.at 13 (.rep [] a0.Dead)), .fact 100015 (.at 15 (.nilv)), .fact 100016 (.at 16 (.nilv)), .fact 100017 (.at 17 (.rep [] (false : Bool))), .fact 100019 (.at 19 (.ow [24] [22, 23] 54 (b : List (List UInt8)))), .fact 100020 (.at 20 (.nilv)), .fact 100021 (.at 21 (.rep [] a0.Dead)), .fact 100010 (.obj 10 [(false, 1), (false, 1), (false, 1)]), .fact 100014 (.obj 14 [(false, 1), (false, 1), (false, 1)]), .fact 100018 (.obj 18 [(false, 1), (false, 1), (false, 1)])])) hb7 (sn (sn (sn (st (sm (sm (sf (sg (sg (sf (Sub.cons (Has.at (HasG.cv (HasG.s rfl) (Cv.trans Cv.nilOw (Cv.owM (T := []) (te := []) rfl rfl)))) (sg (sf (sn (sn (sn Sub.nil)))))))))))))))) ?_ ?_
 ·rintro ⟨s1, s2⟩ c3 hm
  replace hm : ref04_Twin_L1 a0 s1 s2 = some c3 := hm
  unfold ref04_Twin_L1 at hm
  show CWalk _ [.fact 1 (.isv 10), .fact 2 (.isv 14), .fact 3 (.isv 18), .fact 4 (.rep [] (s1 : Int)), .fact 100011 (.at 11 (.rep [0] a0.Blocks)), .fact 100012 (.at 12 (.rep [0] a0.Wait)), .fact 100013 (.at 13 (.rep [] a0.Dead)), .fact 100015 (.at 15 (.nilv)), .fact 100016 (.at 16 (.nilv)), .fact 100017 (.at 17 (.rep [] (false : Bool))), .fact 100019 (.at 19 (.ow [24] [22, 23] 54 (s2 : List (List UInt8)))), .fact 100020 (.at 20 (.nilv)), .fact 100021 (.at 21 (.rep [] a0.Dead)), .fact 100010 (.obj 10 [(false, 1), (false, 1), (false, 1)]), .fact 100014 (.obj 14 [(false, 1), (false, 1), (false, 1)]), .fact 100018 (.obj 18 [(false, 1), (false, 1), (false, 1)])] _ _
  refine CWalk.seq ?_
  refine CWalk.seq ?_
  refine CWalk.region ?_
  refine mv ?_
  refine wo (Spec.fieldAddrO fd41_0 (Has.cv (Has.s rfl) (Cv.isvP rfl))) ?_
  refine wo (Spec.loadF (i := 0) ty38 rfl (Has.s rfl) rfl (HasG.s rfl)) ?_
  refine wo (Spec.len (Has.s rfl) Try.underlying38) ?_
  refine wo (Spec.lssI (Has.s rfl) (Has.s rfl)) ?_
  refine Walk.nil ?_
  refine Leaf.thenN ?_
  refine CWalk.cond rfl (fun hb => ?_) (fun hb => ?_)
  ·have hm := cond_t hb hm
   refine CWalk.skip ?_
   refine Leaf.thenN ?_
   refine CWalk.seq ?_
   refine CWalk.block ?_
   refine CWalk.seq ?_
   refine CWalk.region ?_
   refine wo (Spec.assign Has.nilv) ?_
   refine Walk.nil ?_
   refine Leaf.thenN ?_
   obtain ⟨x4, hx4, hm⟩ := bind_some hm
   obtain ⟨x5, hx5, hm⟩ := bind_some hm
   obtain ⟨x6, hx6, hm⟩ := bind_some hm
   refine CWalk.drawM [[], [0], [], [], [3], [], [3, 4, 5], [3, 4, 5, 6], [2, 3, 4, 5, 6, 7], [2, 3, 4, 5, 6, 7, 8], [0, 1, 2, 3, 4, 5, 6, 7, 8, 9], [0, 1, 2, 3, 4, 5, 6, 7, 8, 9, 10], [0, 1, 2, 3, 4, 5, 6, 7, 8, 9, 10, 11]] [[.fact 18 (.pto 18 0)], [.fact 19 (.ow [24] [22, 23] 54 (s2 : List (List UInt8)))], [.fact 20 (.nilv)], [.fact 21 (.pto 10 0)], [.fact 22 (.rep [0] a0.Blocks)], [.fact 23 (.rep [] (s1 : Int))], [.fact 24 (.ptr [0] (x4 : List UInt8))], [.fact 25 (.rep [0] (x4 : List UInt8))], [.fact 26 (.ow [22] [] 5 (x5 : List UInt8))], [.fact 27 (.rep [23, 22] ([x5] : List (List UInt8)))], [.fact 28 (.ow [24] [22, 23] 54 (x6 : List (List UInt8))), .kill 24], [.fact 29 (.pto 18 0)], [.fact 100019 (.at 19 (.ow [24] [22, 23] 54 (x6 : List (List UInt8)))), .fact 100018 (.obj 18 [(false, 1), (false, 1), (false, 1)]), .kill 18, .killId 19]] mixed (by kernel_rfl) (ao (so (Spec.fieldAddrO fd41_0 (Has.cv (Has.s rfl) (Cv.isvP rfl)))) (ao (so (Spec.loadF (i := 0) ty38 rfl (Has.s rfl) rfl (HasG.s rfl))) (ao (so (Spec.move (Has.s rfl))) (ao (so (Spec.fieldAddrO fd41_0 (Has.cv (Has.s rfl) (Cv.isvP rfl)))) (ao (so (Spec.loadF (i := 0) ty38 rfl (Has.s rfl) rfl (HasG.s rfl))) (ao (so (Spec.move (Has.s rfl))) (ao (so (Spec.indexAddr hx4 sl38 (Has.s rfl) (Has.s rfl))) (ao (so (Spec.load ty54 (Has.s rfl))) (ao (so (Spec.appNilO (te' := []) 22 hx5 rfl ow54 (Has.s rfl) (Has.s rfl) ElKeep.flat)) (ao (so (Spec.lit (xs := [.tmp 26]) (T := [22]) 23 rfl ow38 rfl rfl rfl rfl (HasEach.cons (Has.m (Has.cv (Has.s rfl) (Cv.trans Cv.owSl (Cv.slRep (T' := [22]) rfl rfl))) rfl) HasEach.nil))) (ao (StepG.stE (Step.appendOw (T := [24]) (te' := [22, 23]) hx6 rfl rfl rfl ow38 (Has.s rfl) (Has.s rfl) (ElKeeps.tags rfl rfl) (ElKeeps.tags rfl rfl))) (ao (so (Spec.fieldAddrO fd41_0 (Has.cv (Has.s rfl) (Cv.isvP rfl)))) (ao (StepG.stE (Step.storeF (i := 0) (f := Fact.ow [24] [22, 23] 54 (x6 : List (List UInt8))) rfl ty38 rfl (Has.s rfl) rfl (Has.cv (Has.s rfl) (Cv.trans Cv.owSl (Cv.slRep (T' := [22, 23, 24]) rfl rfl))) (Has.s rfl) rfl)) AllM.nil))))))))))))) ?_
   refine Leaf.blockN ?_
   refine Leaf.thenN ?_
   refine CWalk.region ?_
   refine mv ?_
   refine wo (Spec.addI (Has.s rfl) Has.int) ?_
   refine wo (Spec.assign (Has.s rfl)) ?_
   refine Walk.nil ?_
   exact Leaf.next hm (sn (sn (sn (st (sm (sm (sf (sg (sg (sf (Sub.cons (Has.at (HasG.cv (HasG.s rfl) (Cv.owM (T := [24]) (te := [22, 23]) rfl rfl))) (sg (sf (sn (sn (sn Sub.nil))))))))))))))))
  ·have hm := cond_f hb hm
   refine CWalk.exit ?_
   refine Leaf.thenE ?_
   exact Leaf.brk hm (fun h => nomatch h) rfl (sn (sn (sn (sm (sm (sf (sg (sg (sf (Sub.cons (Has.at (HasG.cv (HasG.s rfl) (Cv.owM (T := [24]) (te := [22, 23]) rfl rfl))) (sg (sf (sn (sn (sn Sub.nil)))))))))))))))
 ·intro _
  refine Leaf.blockE ?_
  refine Leaf.thenN ?_
  refine CWalk.seq ?_
  refine CWalk.seq ?_
  refine CWalk.region ?_
  refine wo (Spec.assign Has.int) ?_
  refine Walk.nil ?_
  refine Leaf.thenN ?_
  refine CWalk.block ?_
  obtain ⟨b15, hb15, hm⟩ := bind_some hm
  refine CWalk.loop (fun s : Int × (List Write) => [.fact 1 (.isv 10), .fact 2 (.isv 14), .fact 3 (.isv 18), .fact 6 (.rep [] s.1), .fact 100011 (.at 11 (.rep [0] a0.Blocks)), .fact 100012 (.at 12 (.rep [0] a0.Wait)), .fact 100013 (.at 13 (.rep [] a0.Dead)), .fact 100015 (.at 15 (.nilv)), .fact 100016 (.at 16 (.nilv)), .fact 100017 (.at 17 (.rep [] (false : Bool))), .fact 100019 (.at 19 (.ow [24] [22, 23] 54 (b7 : List (List UInt8)))), .fact 100020 (.at 20 (.ow [27] [25, 26] 58 (s.2 : List Write))), .fact 100021 (.at 21 (.rep [] a0.Dead)), .fact 100010 (.obj 10 [(false, 1), (false, 1), (false, 1)]), .fact 100014 (.obj 14 [(false, 1), (false, 1), (false, 1)]), .fact 100018 (.obj 18 [(false, 1), (false, 1), (false, 1)])]) (fun b : (List Write) => (Exit.exit 2, [.fact 2 (.isv 14), .fact 3 (.isv 18), .fact 100015 (.at 15 (.nilv)), .fact 100016 (.at 16 (.nilv)), .fact 100017 (.at 17 (.rep [] (false : Bool))), .fact 100019 (.at 19 (.ow [24] [22, 23] 54 (b7 : List (List UInt8)))), .fact 100020 (.at 20 (.ow [27] [25, 26] 58 (b : List Write))), .fact 100021 (.at 21 (.rep [] a0.Dead)), .fact 100014 (.obj 14 [(false, 1), (false, 1), (false, 1)]), .fact 100018 (.obj 18 [(false, 1), (false, 1), (false, 1)])])) hb15 (sn (sn (sn (st (sm (sm (sf (sg (sg (sf (Sub.cons (Has.at (HasG.cv (HasG.s rfl) (Cv.owM (T := [24]) (te := [22, 23]) rfl rfl))) (Sub.cons (Has.at (HasG.cv (HasG.s rfl) (Cv.trans Cv.nilOw (Cv.owM (T := []) (te := []) rfl rfl)))) (sf (sn (sn (sn Sub.nil)))))))))))))))) ?_ ?_
  ·rintro ⟨s8, s9⟩ c10 hm
   replace hm : ref04_Twin_L2 a0 s8 s9 = some c10 := hm
   unfold ref04_Twin_L2 at hm
   show CWalk _ [.fact 1 (.isv 10), .fact 2 (.isv 14), .fact 3 (.isv 18), .fact 6 (.rep [] (s8 : Int)), .fact 100011 (.at 11 (.rep [0] a0.Blocks)), .fact 100012 (.at 12 (.rep [0] a0.Wait)), .fact 100013 (.at 13 (.rep [] a0.Dead)), .fact 100015 (.at 15 (.nilv)), .fact 100016 (.at 16 (.nilv)), .fact 100017 (.at 17 (.rep [] (false : Bool))), .fact 100019 (.at 19 (.ow [24] [22, 23] 54 (b7 : List (List UInt8)))), .fact 100020 (.at 20 (.ow [27] [25, 26] 58 (s9 : List Write))), .fact 100021 (.at 21 (.rep [] a0.Dead)), .fact 100010 (.obj 10 [(false, 1), (false, 1), (false, 1)]), .fact 100014 (.obj 14 [(false, 1), (false, 1), (false, 1)]), .fact 100018 (.obj 18 [(false, 1), (false, 1), (false, 1)])] _ _
   refine CWalk.seq ?_
   refine CWalk.seq ?_
   refine CWalk.region ?_
   refine mv ?_
   refine wo (Spec.fieldAddrO fd41_1 (Has.cv (Has.s rfl) (Cv.isvP rfl))) ?_
   refine wo (Spec.loadF (i := 1) ty39 rfl (Has.s rfl) rfl (HasG.s rfl)) ?_
   refine wo (Spec.len (Has.s rfl) Try.underlying39) ?_
   refine wo (Spec.lssI (Has.s rfl) (Has.s rfl)) ?_
   refine Walk.nil ?_
   refine Leaf.thenN ?_
   refine CWalk.cond rfl (fun hb => ?_) (fun hb => ?_)
   ·have hm := cond_t hb hm
    refine CWalk.skip ?_
    refine Leaf.thenN ?_
    refine CWalk.seq ?_
    refine CWalk.block ?_
    refine CWalk.seq ?_
    refine CWalk.region ?_
    refine wo (Spec.assign Has.nilv) ?_
    refine Walk.nil ?_
    refine Leaf.thenN ?_
    obtain ⟨x11, hx11, hm⟩ := bind_some hm
    obtain ⟨x12, hx12, hm⟩ := bind_some hm
    obtain ⟨x13, hx13, hm⟩ := bind_some hm
    obtain ⟨x14, hx14, hm⟩ := bind_some hm
    refine CWalk.drawM [[], [0], [], [2], [], [2, 3, 4], [2, 3, 4, 5], [2, 3, 4, 5, 6], [], [], [9], [], [9, 10, 11], [9, 10, 11, 12], [9, 10, 11, 12, 13], [8, 9, 10, 11, 12, 13, 14], [2, 3, 4, 5, 6, 7, 8, 9, 10, 11, 12, 13, 14, 15], [2, 3, 4, 5, 6, 7, 8, 9, 10, 11, 12, 13, 14, 15, 16], [0, 1, 2, 3, 4, 5, 6, 7, 8, 9, 10, 11, 12, 13, 14, 15, 16, 17], [0, 1, 2, 3, 4, 5, 6, 7, 8, 9, 10, 11, 12, 13, 14, 15, 16, 17, 18], [0, 1, 2, 3, 4, 5, 6, 7, 8, 9, 10, 11, 12, 13, 14, 15, 16, 17, 18, 19]] [[.fact 37 (.pto 18 1)], [.fact 38 (.ow [27] [25, 26] 58 (s9 : List Write))], [.fact 39 (.pto 10 1)], [.fact 40 (.rep [0] a0.Wait)], [.fact 41 (.rep [] (s8 : Int))], [.fact 42 (.ptr [0] (x11 : Write))], [.fact 43 (.ptr [0] (x11.At : Int))], [.fact 44 (.rep [] x11.At)], [.fact 45 (.nilv)], [.fact 46 (.pto 10 1)], [.fact 47 (.rep [0] a0.Wait)], [.fact 48 (.rep [] (s8 : Int))], [.fact 49 (.ptr [0] (x12 : Write))], [.fact 50 (.ptr [0] (x12.Data : List UInt8))], [.fact 51 (.rep [0] x12.Data)], [.fact 52 (.ow [25] [] 5 (x13 : List UInt8))], [.fact 53 (.flds [(false, 1, Fact.rep [] x11.At), (false, 1, Fact.ow [25] [] 5 (x13 : List UInt8))])], [.fact 54 (.rep [26, 25] ([(Write.mk x11.At x13)] : List Write))], [.fact 55 (.ow [27] [25, 26] 58 (x14 : List Write)), .kill 27], [.fact 56 (.pto 18 1)], [.fact 100020 (.at 20 (.ow [27] [25, 26] 58 (x14 : List Write))), .fact 100018 (.obj 18 [(false, 1), (false, 1), (false, 1)]), .kill 18, .killId 20]] mixed (by kernel_rfl) (ao (so (Spec.fieldAddrO fd41_1 (Has.cv (Has.s rfl) (Cv.isvP rfl)))) (ao (so (Spec.loadF (i := 1) ty39 rfl (Has.s rfl) rfl (HasG.s rfl))) (ao (so (Spec.fieldAddrO fd41_1 (Has.cv (Has.s rfl) (Cv.isvP rfl)))) (ao (so (Spec.loadF (i := 1) ty39 rfl (Has.s rfl) rfl (HasG.s rfl))) (ao (so (Spec.move (Has.s rfl))) (ao (so (Spec.indexAddr hx11 sl39 (Has.s rfl) (Has.s rfl))) (ao (so (Spec.fieldAddrP fd58_0 (chWrite x11) rfl (Has.s rfl))) (ao (so ((Spec.load ty3 (Has.s rfl)).flat (T' := []))) (ao (so (Spec.move (Has.s rfl))) (ao (so (Spec.fieldAddrO fd41_1 (Has.cv (Has.s rfl) (Cv.isvP rfl)))) (ao (so (Spec.loadF (i := 1) ty39 rfl (Has.s rfl) rfl (HasG.s rfl))) (ao (so (Spec.move (Has.s rfl))) (ao (so (Spec.indexAddr hx12 sl39 (Has.s rfl) (Has.s rfl))) (ao (so (Spec.fieldAddrP fd58_1 (chWrite x12) rfl (Has.s rfl))) (ao (so (Spec.load ty54 (Has.s rfl))) (ao (so (Spec.appNilO (te' := []) 25 hx13 rfl ow54 (Has.s rfl) (Has.s rfl) ElKeep.flat)) (ao (so (Spec.build (us := [(0, .tmp 44), (1, .tmp 52)]) (ls' := [(false, 1, Fact.rep [] x11.At), (false, 1, Fact.ow [25] [] 5 (x13 : List UInt8))]) bd58 rfl (BP.cons rfl rfl (Has.s rfl) (Has.s rfl) (BP.cons rfl rfl (Has.cv (Has.s rfl) (Cv.trans Cv.owSl (Cv.slRep (T' := [25]) rfl rfl))) (Has.s rfl) BP.nil)))) (ao (so (Spec.lit (xs := [.tmp 53]) (T := [25]) 26 rfl ow39 rfl rfl rfl rfl (HasEach.cons (Has.m (Has.cv (Has.s rfl) (Cv.trans (Cv.flds (CvL.cons Cv.fl (CvL.cons (Cv.trans (Cv.trans Cv.owSl (Cv.slRep (T' := [25]) rfl rfl)) (Cv.m rfl)) CvL.nil))) (Cv.close (T := [25]) (chWrite (Write.mk x11.At x13))))) rfl) HasEach.nil))) (ao (StepG.stE (Step.appendOw (T := [27]) (te' := [25, 26]) hx14 rfl rfl rfl ow39 (Has.s rfl) (Has.s rfl) (ElKeeps.tags rfl rfl) (ElKeeps.tags rfl rfl))) (ao (so (Spec.fieldAddrO fd41_1 (Has.cv (Has.s rfl) (Cv.isvP rfl)))) (ao (StepG.stE (Step.storeF (i := 1) (f := Fact.ow [27] [25, 26] 58 (x14 : List Write)) rfl ty39 rfl (Has.s rfl) rfl (Has.cv (Has.s rfl) (Cv.trans Cv.owSl (Cv.slRep (T' := [25, 26, 27]) rfl rfl))) (Has.s rfl) rfl)) AllM.nil))))))))))))))))))))) ?_
    refine Leaf.blockN ?_
    refine Leaf.thenN ?_
    refine CWalk.region ?_
    refine mv ?_
    refine wo (Spec.addI (Has.s rfl) Has.int) ?_
    refine wo (Spec.assign (Has.s rfl)) ?_
    refine Walk.nil ?_
    exact Leaf.next hm (sn (sn (sn (st (sm (sm (sf (sg (sg (sf (Sub.cons (Has.at (HasG.cv (HasG.s rfl) (Cv.owM (T := [24]) (te := [22, 23]) rfl rfl))) (Sub.cons (Has.at (HasG.cv (HasG.s rfl) (Cv.owM (T := [27]) (te := [25, 26]) rfl rfl))) (sf (sn (sn (sn Sub.nil))))))))))))))))
   ·have hm := cond_f hb hm
    refine CWalk.exit ?_
    refine Leaf.thenE ?_
    exact Leaf.brk hm (fun h => nomatch h) rfl (sn (sn (sg (sg (sf (Sub.cons (Has.at (HasG.cv (HasG.s rfl) (Cv.owM (T := [24]) (te := [22, 23]) rfl rfl))) (Sub.cons (Has.at (HasG.cv (HasG.s rfl) (Cv.owM (T := [27]) (te := [25, 26]) rfl rfl))) (sf (sn (sn Sub.nil))))))))))
  ·intro _
   refine Leaf.blockE ?_
   refine Leaf.thenN ?_
   refine CWalk.seq ?_
   refine CWalk.region ?_
   refine wo (Spec.loadObj (ls := [(false, 1, Fact.ow [24] [22, 23] 54 (b7 : List (List UInt8))), (false, 1, Fact.ow [27] [25, 26] 58 (b15 : List Write)), (false, 1, Fact.rep [] a0.Dead)]) ty41 rfl rfl (Has.s rfl) rfl (HasGs.cons (HasG.s rfl) (HasGs.cons (HasG.s rfl) (HasGs.cons (HasG.s rfl) HasGs.nil)))) ?_
   refine ws (Step.storeObj (ls := [(false, 1, Fact.ow [24] [22, 23] 54 (b7 : List (List UInt8))), (false, 1, Fact.ow [27] [25, 26] 58 (b15 : List Write)), (false, 1, Fact.rep [] a0.Dead)]) rfl ty41 rfl rfl (Has.s rfl) rfl (HasL.flds (Has.s rfl)) rfl) ?_
   refine Walk.nil ?_
   refine Leaf.thenN ?_
   refine CWalk.ret ?_
   obtain rfl := Option.some.inj hm
   exact Leaf.retC1 rfl (HasR.cv (HasR.obj (ls := [(false, 1, Fact.ow [24] [22, 23] 54 (b7 : List (List UInt8))), (false, 1, Fact.ow [27] [25, 26] 58 (b15 : List Write)), (false, 1, Fact.rep [] a0.Dead)]) ty41 rfl rfl (Has.s rfl) rfl (HasGs.cons (HasG.s rfl) (HasGs.cons (HasG.s rfl) (HasGs.cons (HasG.s rfl) HasGs.nil)))) (Cv.flds (CvL.cons (Cv.owM (T := [24]) (te := [22, 23]) rfl rfl) (CvL.cons (Cv.owM (T := [27]) (te := [25, 26]) rfl rfl) (CvL.cons Cv.fl CvL.nil)))))

def ref05_Twin_L1 (a0 : List Disk) (s1 : List Disk) (s2 : Int) : Option (Ctl ((List Disk) × Int) ((List Disk))) :=
  (bif (decide (s2 < ((a0).length : Int))) then Option.bind (idx a0 s2) (fun x4 => Option.bind (ref04_Twin x4) (fun x5 => Option.bind (app s1 ([x5])) (fun x6 => some (Ctl.next (x6, (wI (s2 + (1 : Int)))))))) else some (Ctl.brk s1))
/-- freeboard/freeboardref05.Twin -/
def ref05_Twin (a0 : List Disk) : Option ((List Disk)) :=
  Option.bind (loopM (fun s : (List Disk) × Int => ref05_Twin_L1 a0 s.1 s.2) FUEL (([] : List Disk), (0 : Int))) (fun b7 => some b7)
set_option maxRecDepth 100000 in
set_option maxHeartbeats 2000000 in
theorem ref05_Twin_c (a0 : List Disk) {r : (List Disk)} (hm : ref05_Twin a0 = some r) : Ctr Try.prog 10 [.rep 0 a0] (.own 0 (some 1) 41 r) [] := by
 refine ctr_of_walk [[15], [10, 11, 12, 13, 14]] 20 Try.func10 rfl rfl rfl rfl (fun w0 om => ?_)
 unfold ref05_Twin at hm
 refine CWalk.sub (G' := [.fact 0 (.rep [0] (a0 : List Disk))]) (sn Sub.nil) ?_
 refine CWalk.seq ?_
 refine CWalk.region ?_
 refine wo (Spec.assign Has.nilv) ?_
 refine Walk.nil ?_
 refine Leaf.thenN ?_
 refine CWalk.seq ?_
 refine CWalk.region ?_
 refine wo (Spec.assign Has.nilv) ?_
 refine Walk.nil ?_
 refine Leaf.thenN ?_
 refine CWalk.seq ?_
 refine CWalk.seq ?_
 refine CWalk.region ?_
 refine wo (Spec.assign Has.int) ?_
 refine Walk.nil ?_
 refine Leaf.thenN ?_
 refine CWalk.block ?_
 obtain ⟨b7, hb7, hm⟩ := bind_some hm
 refine CWalk.loop (fun s : (List Disk) × Int => [.fact 0 (.rep [0] (a0 : List Disk)), .fact 3 (.ow [15] [10, 11, 12, 13, 14] 41 (s.1 : List Disk)), .fact 4 (.rep [] s.2)]) (fun b : (List Disk) => (Exit.exit 0, [.fact 3 (.ow [15] [10, 11, 12, 13, 14] 41 (b : List Disk))])) hb7 (su (Sub.cons (Has.cv (Has.s rfl) (Cv.trans Cv.nilOw (Cv.owM (T := []) (te := []) rfl rfl))) (st Sub.nil))) ?_ ?_
 ·rintro ⟨s1, s2⟩ c3 hm
  replace hm : ref05_Twin_L1 a0 s1 s2 = some c3 := hm
  unfold ref05_Twin_L1 at hm
  show CWalk _ [.fact 0 (.rep [0] (a0 : List Disk)), .fact 3 (.ow [15] [10, 11, 12, 13, 14] 41 (s1 : List Disk)), .fact 4 (.rep [] (s2 : Int))] _ _
  refine CWalk.seq ?_
  refine CWalk.seq ?_
  refine CWalk.region ?_
  refine mv ?_
  refine mv ?_
  refine wo (Spec.len (Has.s rfl) Try.underlying22) ?_
  refine wo (Spec.lssI (Has.s rfl) (Has.s rfl)) ?_
  refine Walk.nil ?_
  refine Leaf.thenN ?_
  refine CWalk.cond rfl (fun hb => ?_) (fun hb => ?_)
  ·have hm := cond_t hb hm
   refine CWalk.skip ?_
   refine Leaf.thenN ?_
   refine CWalk.seq ?_
   refine CWalk.block ?_
   refine CWalk.region ?_
   refine mv ?_
   refine mv ?_
   refine mv ?_
   obtain ⟨x4, hx4, hm⟩ := bind_some hm
   refine wo (Spec.indexAddr hx4 sl22 (Has.s rfl) (Has.s rfl)) ?_
   refine wo (Spec.load ty41 (Has.s rfl)) ?_
   obtain ⟨x5, hx5, hm⟩ := bind_some hm
   refine wo (f := Fact.flds [(false, 1, Fact.ow [10] [11] 54 (x5.Blocks : List (List UInt8))), (false, 1, Fact.ow [12] [13] 58 (x5.Wait : List Write)), (false, 1, Fact.rep [] x5.Dead)]) (Spec.callE [0] 10 rfl en34 (ref04_Twin_c x4 hx5) (HasAll.cons (Has.m (Has.s rfl) rfl) HasAll.nil)) ?_
   refine wo (Spec.lit (xs := [.tmp 16]) (T := [10, 11, 12, 13]) 14 rfl ow22 rfl rfl rfl rfl (HasEach.cons (Has.m (Has.cv (Has.s rfl) (Cv.trans (Cv.flds (CvL.cons (Cv.trans (Cv.trans Cv.owSl (Cv.slRep (T' := [10, 11]) rfl rfl)) (Cv.m rfl)) (CvL.cons (Cv.trans (Cv.trans Cv.owSl (Cv.slRep (T' := [12, 13]) rfl rfl)) (Cv.m rfl)) (CvL.cons Cv.fl CvL.nil)))) (Cv.close (T := [10, 11, 12, 13]) (chDisk x5)))) rfl) HasEach.nil)) ?_
   obtain ⟨x6, hx6, hm⟩ := bind_some hm
   refine ws (Step.appendOw (T := [15]) (te' := [10, 11, 12, 13, 14]) hx6 rfl rfl rfl ow22 (Has.s rfl) (Has.s rfl) (ElKeeps.tags rfl rfl) (ElKeeps.tags rfl rfl)) ?_
   refine wo (Spec.assign (Has.s rfl)) ?_
   refine Walk.nil ?_
   refine Leaf.blockN ?_
   refine Leaf.thenN ?_
   refine CWalk.region ?_
   refine mv ?_
   refine wo (Spec.addI (Has.s rfl) Has.int) ?_
   refine wo (Spec.assign (Has.s rfl)) ?_
   refine Walk.nil ?_
   exact Leaf.next hm (su (Sub.cons (Has.cv (Has.s rfl) (Cv.owM (T := [15]) (te := [10, 11, 12, 13, 14]) rfl rfl)) (st Sub.nil)))
  ·have hm := cond_f hb hm
   refine CWalk.exit ?_
   refine Leaf.thenE ?_
   exact Leaf.brk hm (fun h => nomatch h) rfl (Sub.cons (Has.cv (Has.s rfl) (Cv.owM (T := [15]) (te := [10, 11, 12, 13, 14]) rfl rfl)) Sub.nil)
 ·intro _
  refine Leaf.blockE ?_
  refine Leaf.thenN ?_
  refine CWalk.seq ?_
  refine CWalk.region ?_
  refine mv ?_
  refine wo (Spec.assign (Has.s rfl)) ?_
  refine Walk.nil ?_
  refine Leaf.thenN ?_
  refine CWalk.ret ?_
  obtain rfl := Option.some.inj hm
  exact Leaf.retC1 rfl (HasR.cv (HasR.tmp (Has.s rfl)) (Cv.owM (T := [15]) (te := [10, 11, 12, 13, 14]) rfl rfl))

def slices_IndexFunc_api_Disk_api_Disk_L1 (a0 : List Disk) (a1 : Disk → Option Bool) (s1 : Int) : Option (Ctl (Int) ((Unit) ⊕ (Int))) :=
  (bif (decide (s1 < ((a0).length : Int))) then Option.bind (idx a0 s1) (fun x3 => Option.bind (a1 x3) (fun x4 => (bif x4 then some (Ctl.brk (Sum.inr s1)) else some (Ctl.next (wI (s1 + (1 : Int))))))) else some (Ctl.brk (Sum.inl ())))
/-- slices.IndexFunc[[]freeboard/api.Disk,freeboard/api.Disk] -/
def slices_IndexFunc_api_Disk_api_Disk (a0 : List Disk) (a1 : Disk → Option Bool) : Option (Int) :=
  Option.bind (loopM (fun s : Int => slices_IndexFunc_api_Disk_api_Disk_L1 a0 a1 s) FUEL (0 : Int)) (fun b5 => Sum.elim (fun b6 => some (-1 : Int)) (fun b7 => some b7) b5)
set_option maxRecDepth 100000 in
set_option maxHeartbeats 2000000 in
theorem slices_IndexFunc_api_Disk_api_Disk_c (a0 : List Disk) (a1 : Disk → Option Bool) {r : Int} (hm : slices_IndexFunc_api_Disk_api_Disk a0 a1 = some r) : Ctr Try.prog 70 [.rep 0 a0, .fn Try.prog pre1 0 a1] (.fl r) [] := by
 refine ctr_of_walk [[]] 19 Try.func70 rfl rfl rfl rfl (fun w0 om => ?_)
 unfold slices_IndexFunc_api_Disk_api_Disk at hm
 refine CWalk.sub (G' := [.fact 0 (.rep [0] (a0 : List Disk)), .fact 1 (.fn Try.prog pre1 [0] (a1))]) (sn (sn Sub.nil)) ?_
 refine CWalk.seq ?_
 refine CWalk.region ?_
 refine wo (Spec.assign Has.int) ?_
 refine Walk.nil ?_
 refine Leaf.thenN ?_
 refine CWalk.seq ?_
 refine CWalk.seq ?_
 refine CWalk.region ?_
 refine mv ?_
 refine wo (Spec.len (Has.s rfl) Try.underlying22) ?_
 refine wo (Spec.move Has.int) ?_
 refine Walk.nil ?_
 refine Leaf.thenN ?_
 refine CWalk.block ?_
 obtain ⟨b5, hb5, hm⟩ := bind_some hm
 refine CWalk.loop (fun s : Int => [.fact 0 (.rep [0] (a0 : List Disk)), .fact 1 (.fn Try.prog pre1 [0] (a1)), .fact 7 (.rep [] (((a0).length : Int) : Int)), .fact 8 (.rep [] (s : Int))]) (fun b : (Unit) ⊕ (Int) => Sum.elim (fun b => (Exit.exit 0, [])) (fun b => (Exit.ret, [.fact 4 (.rep [] (b : Int))])) b) hb5 (su (sn (st (st Sub.nil)))) ?_ ?_
 ·rintro s1 c2 hm
  replace hm : slices_IndexFunc_api_Disk_api_Disk_L1 a0 a1 s1 = some c2 := hm
  unfold slices_IndexFunc_api_Disk_api_Disk_L1 at hm
  show CWalk _ [.fact 0 (.rep [0] (a0 : List Disk)), .fact 1 (.fn Try.prog pre1 [0] (a1)), .fact 7 (.rep [] (((a0).length : Int) : Int)), .fact 8 (.rep [] (s1 : Int))] _ _
  refine CWalk.seq ?_
  refine CWalk.region ?_
  refine wo (Spec.lssI (Has.s rfl) (Has.s rfl)) ?_
  refine Walk.nil ?_
  refine Leaf.thenN ?_
  refine CWalk.seq ?_
  refine CWalk.cond rfl (fun hb => ?_) (fun hb => ?_)
  ·have hm := cond_t hb hm
   refine CWalk.skip ?_
   refine Leaf.thenN ?_
   refine CWalk.seq ?_
   refine CWalk.block ?_
   refine CWalk.seq ?_
   refine CWalk.region ?_
   refine mv ?_
   refine wo (Spec.assign (Has.s rfl)) ?_
   refine Walk.nil ?_
   refine Leaf.thenN ?_
   refine CWalk.seq ?_
   refine CWalk.region ?_
   refine mv ?_
   refine mv ?_
   refine mv ?_
   obtain ⟨x3, hx3, hm⟩ := bind_some hm
   refine wo (Spec.indexAddr hx3 sl22 (Has.s rfl) (Has.s rfl)) ?_
   refine wo (Spec.load ty41 (Has.s rfl)) ?_
   obtain ⟨x4, hx4, hm⟩ := bind_some hm
   refine wo (Spec.callFn (xs := [.tmp 15]) (x := x3) [0] 10 rfl hx4 (Has.s rfl) (HasAll.cons (Has.m (Has.s rfl) rfl) HasAll.nil)) ?_
   refine Walk.nil ?_
   refine Leaf.thenN ?_
   refine CWalk.cond rfl (fun hb => ?_) (fun hb => ?_)
   ·have hm := cond_t hb hm
    refine CWalk.seq ?_
    refine CWalk.region ?_
    refine mv ?_
    refine wo (Spec.assign (Has.s rfl)) ?_
    refine Walk.nil ?_
    refine Leaf.thenN ?_
    refine CWalk.ret ?_
    refine Leaf.blockR ?_
    refine Leaf.thenR ?_
    exact Leaf.brk hm (fun h => nomatch h) rfl (st Sub.nil)
   ·have hm := cond_f hb hm
    refine CWalk.skip ?_
    refine Leaf.blockN ?_
    refine Leaf.thenN ?_
    refine CWalk.region ?_
    refine wo (Spec.addI (Has.s rfl) Has.int) ?_
    refine mv ?_
    refine Walk.nil ?_
    exact Leaf.next hm (su (sn (st (st Sub.nil))))
  ·have hm := cond_f hb hm
   refine CWalk.exit ?_
   refine Leaf.thenE ?_
   exact Leaf.brk hm (fun h => nomatch h) rfl (Sub.nil)
 ·intro _
  rcases b5 with b6 | b7
  ·have hm := selim_l hm
   refine Leaf.blockE ?_
   refine Leaf.thenN ?_
   refine CWalk.seq ?_
   refine CWalk.region ?_
   refine wo (Spec.assign Has.int) ?_
   refine Walk.nil ?_
   refine Leaf.thenN ?_
   refine CWalk.ret ?_
   obtain rfl := Option.some.inj hm
   exact Leaf.retC1 rfl (HasR.cv (HasR.tmp (Has.s rfl)) Cv.fl)
  ·have hm := selim_r hm
   refine Leaf.blockR ?_
   refine Leaf.thenR ?_
   obtain rfl := Option.some.inj hm
   exact Leaf.retC1 rfl (HasR.cv (HasR.tmp (Has.s rfl)) Cv.fl)

/-- slices.ContainsFunc[[]freeboard/api.Disk,freeboard/api.Disk] -/
def slices_ContainsFunc_api_Disk_api_Disk (a0 : List Disk) (a1 : Disk → Option Bool) : Option (Bool) :=
  Option.bind (slices_IndexFunc_api_Disk_api_Disk a0 a1) (fun x1 => some (decide (x1 ≥ (0 : Int))))
set_option maxRecDepth 100000 in
set_option maxHeartbeats 2000000 in
theorem slices_ContainsFunc_api_Disk_api_Disk_c (a0 : List Disk) (a1 : Disk → Option Bool) {r : Bool} (hm : slices_ContainsFunc_api_Disk_api_Disk a0 a1 = some r) : Ctr Try.prog 58 [.rep 0 a0, .fn Try.prog pre1 0 a1] (.fl r) [] := by
 refine ctr_of_walk [[]] 9 Try.func58 rfl rfl rfl rfl (fun w0 om => ?_)
 unfold slices_ContainsFunc_api_Disk_api_Disk at hm
 refine CWalk.sub (G' := [.fact 0 (.rep [0] (a0 : List Disk)), .fact 1 (.fn Try.prog pre1 [0] (a1))]) (sn (sn Sub.nil)) ?_
 refine CWalk.seq ?_
 refine CWalk.region ?_
 refine wo (Spec.assign Has.bool) ?_
 refine Walk.nil ?_
 refine Leaf.thenN ?_
 refine CWalk.seq ?_
 refine CWalk.region ?_
 refine mv ?_
 refine mv ?_
 obtain ⟨x1, hx1, hm⟩ := bind_some hm
 refine wo (f := Fact.rep [] (x1 : Int)) (Spec.callE [0] 10 rfl en70 (slices_IndexFunc_api_Disk_api_Disk_c a0 a1 hx1) (HasAll.cons (Has.m (Has.s rfl) rfl) (HasAll.cons (Has.cv (Has.s rfl) (Cv.fnM rfl)) HasAll.nil))) ?_
 refine wo (Spec.geqI (Has.s rfl) Has.int) ?_
 refine wo (Spec.assign (Has.s rfl)) ?_
 refine Walk.nil ?_
 refine Leaf.thenN ?_
 refine CWalk.ret ?_
 obtain rfl := Option.some.inj hm
 exact Leaf.retC1 rfl (HasR.cv (HasR.tmp (Has.s rfl)) Cv.fl)

def slices_IndexFunc_byte_byte_L1 (a0 : List (List UInt8)) (a1 : (List UInt8) → Option Bool) (s1 : Int) : Option (Ctl (Int) ((Unit) ⊕ (Int))) :=
  (bif (decide (s1 < ((a0).length : Int))) then Option.bind (idx a0 s1) (fun x3 => Option.bind (a1 x3) (fun x4 => (bif x4 then some (Ctl.brk (Sum.inr s1)) else some (Ctl.next (wI (s1 + (1 : Int))))))) else some (Ctl.brk (Sum.inl ())))
/-- slices.IndexFunc[[][]byte,[]byte] -/
def slices_IndexFunc_byte_byte (a0 : List (List UInt8)) (a1 : (List UInt8) → Option Bool) : Option (Int) :=
  Option.bind (loopM (fun s : Int => slices_IndexFunc_byte_byte_L1 a0 a1 s) FUEL (0 : Int)) (fun b5 => Sum.elim (fun b6 => some (-1 : Int)) (fun b7 => some b7) b5)
set_option maxRecDepth 100000 in
set_option maxHeartbeats 2000000 in
theorem slices_IndexFunc_byte_byte_c (a0 : List (List UInt8)) (a1 : (List UInt8) → Option Bool) {r : Int} (hm : slices_IndexFunc_byte_byte a0 a1 = some r) : Ctr Try.prog 77 [.rep 0 a0, .fn Try.prog pre1 0 a1] (.fl r) [] := by
 refine ctr_of_walk [[]] 19 Try.func77 rfl rfl rfl rfl (fun w0 om => ?_)
 unfold slices_IndexFunc_byte_byte at hm
 refine CWalk.sub (G' := [.fact 0 (.rep [0] (a0 : List (List UInt8))), .fact 1 (.fn Try.prog pre1 [0] (a1))]) (sn (sn Sub.nil)) ?_
 refine CWalk.seq ?_
 refine CWalk.region ?_
 refine wo (Spec.assign Has.int) ?_
 refine Walk.nil ?_
 refine Leaf.thenN ?_
 refine CWalk.seq ?_
 refine CWalk.seq ?_
 refine CWalk.region ?_
 refine mv ?_
 refine wo (Spec.len (Has.s rfl) Try.underlying38) ?_
 refine wo (Spec.move Has.int) ?_
 refine Walk.nil ?_
 refine Leaf.thenN ?_
 refine CWalk.block ?_
 obtain ⟨b5, hb5, hm⟩ := bind_some hm
 refine CWalk.loop (fun s : Int => [.fact 0 (.rep [0] (a0 : List (List UInt8))), .fact 1 (.fn Try.prog pre1 [0] (a1)), .fact 7 (.rep [] (((a0).length : Int) : Int)), .fact 8 (.rep [] (s : Int))]) (fun b : (Unit) ⊕ (Int) => Sum.elim (fun b => (Exit.exit 0, [])) (fun b => (Exit.ret, [.fact 4 (.rep [] (b : Int))])) b) hb5 (su (sn (st (st Sub.nil)))) ?_ ?_
 ·rintro s1 c2 hm
  replace hm : slices_IndexFunc_byte_byte_L1 a0 a1 s1 = some c2 := hm
  unfold slices_IndexFunc_byte_byte_L1 at hm
  show CWalk _ [.fact 0 (.rep [0] (a0 : List (List UInt8))), .fact 1 (.fn Try.prog pre1 [0] (a1)), .fact 7 (.rep [] (((a0).length : Int) : Int)), .fact 8 (.rep [] (s1 : Int))] _ _
  refine CWalk.seq ?_
  refine CWalk.region ?_
  refine wo (Spec.lssI (Has.s rfl) (Has.s rfl)) ?_
  refine Walk.nil ?_
  refine Leaf.thenN ?_
  refine CWalk.seq ?_
  refine CWalk.cond rfl (fun hb => ?_) (fun hb => ?_)
  ·have hm := cond_t hb hm
   refine CWalk.skip ?_
   refine Leaf.thenN ?_
   refine CWalk.seq ?_
   refine CWalk.block ?_
   refine CWalk.seq ?_
   refine CWalk.region ?_
   refine mv ?_
   refine wo (Spec.assign (Has.s rfl)) ?_
   refine Walk.nil ?_
   refine Leaf.thenN ?_
   refine CWalk.seq ?_
   refine CWalk.region ?_
   refine mv ?_
   refine mv ?_
   refine mv ?_
   obtain ⟨x3, hx3, hm⟩ := bind_some hm
   refine wo (Spec.indexAddr hx3 sl38 (Has.s rfl) (Has.s rfl)) ?_
   refine wo (Spec.load ty54 (Has.s rfl)) ?_
   obtain ⟨x4, hx4, hm⟩ := bind_some hm
   refine wo (Spec.callFn (xs := [.tmp 15]) (x := x3) [0] 10 rfl hx4 (Has.s rfl) (HasAll.cons (Has.m (Has.s rfl) rfl) HasAll.nil)) ?_
   refine Walk.nil ?_
   refine Leaf.thenN ?_
   refine CWalk.cond rfl (fun hb => ?_) (fun hb => ?_)
   ·have hm := cond_t hb hm
    refine CWalk.seq ?_
    refine CWalk.region ?_
    refine mv ?_
    refine wo (Spec.assign (Has.s rfl)) ?_
    refine Walk.nil ?_
    refine Leaf.thenN ?_
    refine CWalk.ret ?_
    refine Leaf.blockR ?_
    refine Leaf.thenR ?_
    exact Leaf.brk hm (fun h => nomatch h) rfl (st Sub.nil)
   ·have hm := cond_f hb hm
    refine CWalk.skip ?_
    refine Leaf.blockN ?_
    refine Leaf.thenN ?_
    refine CWalk.region ?_
    refine wo (Spec.addI (Has.s rfl) Has.int) ?_
    refine mv ?_
    refine Walk.nil ?_
    exact Leaf.next hm (su (sn (st (st Sub.nil))))
  ·have hm := cond_f hb hm
   refine CWalk.exit ?_
   refine Leaf.thenE ?_
   exact Leaf.brk hm (fun h => nomatch h) rfl (Sub.nil)
 ·intro _
  rcases b5 with b6 | b7
  ·have hm := selim_l hm
   refine Leaf.blockE ?_
   refine Leaf.thenN ?_
   refine CWalk.seq ?_
   refine CWalk.region ?_
   refine wo (Spec.assign Has.int) ?_
   refine Walk.nil ?_
   refine Leaf.thenN ?_
   refine CWalk.ret ?_
   obtain rfl := Option.some.inj hm
   exact Leaf.retC1 rfl (HasR.cv (HasR.tmp (Has.s rfl)) Cv.fl)
  ·have hm := selim_r hm
   refine Leaf.blockR ?_
   refine Leaf.thenR ?_
   obtain rfl := Option.some.inj hm
   exact Leaf.retC1 rfl (HasR.cv (HasR.tmp (Has.s rfl)) Cv.fl)

/-- slices.ContainsFunc[[][]byte,[]byte] -/
def slices_ContainsFunc_byte_byte (a0 : List (List UInt8)) (a1 : (List UInt8) → Option Bool) : Option (Bool) :=
  Option.bind (slices_IndexFunc_byte_byte a0 a1) (fun x1 => some (decide (x1 ≥ (0 : Int))))
set_option maxRecDepth 100000 in
set_option maxHeartbeats 2000000 in
theorem slices_ContainsFunc_byte_byte_c (a0 : List (List UInt8)) (a1 : (List UInt8) → Option Bool) {r : Bool} (hm : slices_ContainsFunc_byte_byte a0 a1 = some r) : Ctr Try.prog 64 [.rep 0 a0, .fn Try.prog pre1 0 a1] (.fl r) [] := by
 refine ctr_of_walk [[]] 9 Try.func64 rfl rfl rfl rfl (fun w0 om => ?_)
 unfold slices_ContainsFunc_byte_byte at hm
 refine CWalk.sub (G' := [.fact 0 (.rep [0] (a0 : List (List UInt8))), .fact 1 (.fn Try.prog pre1 [0] (a1))]) (sn (sn Sub.nil)) ?_
 refine CWalk.seq ?_
 refine CWalk.region ?_
 refine wo (Spec.assign Has.bool) ?_
 refine Walk.nil ?_
 refine Leaf.thenN ?_
 refine CWalk.seq ?_
 refine CWalk.region ?_
 refine mv ?_
 refine mv ?_
 obtain ⟨x1, hx1, hm⟩ := bind_some hm
 refine wo (f := Fact.rep [] (x1 : Int)) (Spec.callE [0] 10 rfl en77 (slices_IndexFunc_byte_byte_c a0 a1 hx1) (HasAll.cons (Has.m (Has.s rfl) rfl) (HasAll.cons (Has.cv (Has.s rfl) (Cv.fnM rfl)) HasAll.nil))) ?_
 refine wo (Spec.geqI (Has.s rfl) Has.int) ?_
 refine wo (Spec.assign (Has.s rfl)) ?_
 refine Walk.nil ?_
 refine Leaf.thenN ?_
 refine CWalk.ret ?_
 obtain rfl := Option.some.inj hm
 exact Leaf.retC1 rfl (HasR.cv (HasR.tmp (Has.s rfl)) Cv.fl)

/-- freeboard/disk.odd -/
def disk_odd (a0 : List UInt8) : Option (Bool) :=
  some ((((a0).length : Int) != (0 : Int)) && (((a0).length : Int) != (128 : Int)))
set_option maxRecDepth 100000 in
set_option maxHeartbeats 2000000 in
theorem disk_odd_c (a0 : List UInt8) {r : Bool} (hm : disk_odd a0 = some r) : Ctr Try.prog 65 [.rep 0 a0] (.fl r) [] := by
 refine ctr_of_walk [[]] 11 Try.func65 rfl rfl rfl rfl (fun w0 om => ?_)
 unfold disk_odd at hm
 refine CWalk.sub (G' := [.fact 0 (.rep [0] (a0 : List UInt8))]) (sn Sub.nil) ?_
 refine CWalk.seq ?_
 refine CWalk.region ?_
 refine wo (Spec.assign Has.bool) ?_
 refine Walk.nil ?_
 refine Leaf.thenN ?_
 refine CWalk.seq ?_
 refine CWalk.region ?_
 refine mv ?_
 refine wo (Spec.len (Has.s rfl) Try.underlying54) ?_
 refine wo (Spec.neqI (Has.s rfl) Has.int) ?_
 refine mv ?_
 refine wg rfl rfl (fun hb => Spec.move (Has.s rfl)) ?_
 refine wg rfl rfl (fun hb => Spec.len (Has.u rfl hb) Try.underlying54) ?_
 refine wg rfl rfl (fun hb => Spec.neqI (Has.u rfl hb) Has.int) ?_
 refine wo (Spec.and (Has.s rfl) (fun h => Has.u rfl h)) ?_
 refine wo (Spec.assign (Has.s rfl)) ?_
 refine Walk.nil ?_
 refine Leaf.thenN ?_
 refine CWalk.ret ?_
 obtain rfl := Option.some.inj hm
 exact Leaf.retC1 rfl (HasR.cv (HasR.tmp (Has.s rfl)) Cv.fl)

def slices_IndexFunc_api_Write_api_Write_L1 (a0 : List Write) (a1 : Write → Option Bool) (s1 : Int) : Option (Ctl (Int) ((Unit) ⊕ (Int))) :=
  (bif (decide (s1 < ((a0).length : Int))) then Option.bind (idx a0 s1) (fun x3 => Option.bind (a1 x3) (fun x4 => (bif x4 then some (Ctl.brk (Sum.inr s1)) else some (Ctl.next (wI (s1 + (1 : Int))))))) else some (Ctl.brk (Sum.inl ())))
/-- slices.IndexFunc[[]freeboard/api.Write,freeboard/api.Write] -/
def slices_IndexFunc_api_Write_api_Write (a0 : List Write) (a1 : Write → Option Bool) : Option (Int) :=
  Option.bind (loopM (fun s : Int => slices_IndexFunc_api_Write_api_Write_L1 a0 a1 s) FUEL (0 : Int)) (fun b5 => Sum.elim (fun b6 => some (-1 : Int)) (fun b7 => some b7) b5)
set_option maxRecDepth 100000 in
set_option maxHeartbeats 2000000 in
theorem slices_IndexFunc_api_Write_api_Write_c (a0 : List Write) (a1 : Write → Option Bool) {r : Int} (hm : slices_IndexFunc_api_Write_api_Write a0 a1 = some r) : Ctr Try.prog 78 [.rep 0 a0, .fn Try.prog pre1 0 a1] (.fl r) [] := by
 refine ctr_of_walk [[]] 19 Try.func78 rfl rfl rfl rfl (fun w0 om => ?_)
 unfold slices_IndexFunc_api_Write_api_Write at hm
 refine CWalk.sub (G' := [.fact 0 (.rep [0] (a0 : List Write)), .fact 1 (.fn Try.prog pre1 [0] (a1))]) (sn (sn Sub.nil)) ?_
 refine CWalk.seq ?_
 refine CWalk.region ?_
 refine wo (Spec.assign Has.int) ?_
 refine Walk.nil ?_
 refine Leaf.thenN ?_
 refine CWalk.seq ?_
 refine CWalk.seq ?_
 refine CWalk.region ?_
 refine mv ?_
 refine wo (Spec.len (Has.s rfl) Try.underlying39) ?_
 refine wo (Spec.move Has.int) ?_
 refine Walk.nil ?_
 refine Leaf.thenN ?_
 refine CWalk.block ?_
 obtain ⟨b5, hb5, hm⟩ := bind_some hm
 refine CWalk.loop (fun s : Int => [.fact 0 (.rep [0] (a0 : List Write)), .fact 1 (.fn Try.prog pre1 [0] (a1)), .fact 7 (.rep [] (((a0).length : Int) : Int)), .fact 8 (.rep [] (s : Int))]) (fun b : (Unit) ⊕ (Int) => Sum.elim (fun b => (Exit.exit 0, [])) (fun b => (Exit.ret, [.fact 4 (.rep [] (b : Int))])) b) hb5 (su (sn (st (st Sub.nil)))) ?_ ?_
 ·rintro s1 c2 hm
  replace hm : slices_IndexFunc_api_Write_api_Write_L1 a0 a1 s1 = some c2 := hm
  unfold slices_IndexFunc_api_Write_api_Write_L1 at hm
  show CWalk _ [.fact 0 (.rep [0] (a0 : List Write)), .fact 1 (.fn Try.prog pre1 [0] (a1)), .fact 7 (.rep [] (((a0).length : Int) : Int)), .fact 8 (.rep [] (s1 : Int))] _ _
  refine CWalk.seq ?_
  refine CWalk.region ?_
  refine wo (Spec.lssI (Has.s rfl) (Has.s rfl)) ?_
  refine Walk.nil ?_
  refine Leaf.thenN ?_
  refine CWalk.seq ?_
  refine CWalk.cond rfl (fun hb => ?_) (fun hb => ?_)
  ·have hm := cond_t hb hm
   refine CWalk.skip ?_
   refine Leaf.thenN ?_
   refine CWalk.seq ?_
   refine CWalk.block ?_
   refine CWalk.seq ?_
   refine CWalk.region ?_
   refine mv ?_
   refine wo (Spec.assign (Has.s rfl)) ?_
   refine Walk.nil ?_
   refine Leaf.thenN ?_
   refine CWalk.seq ?_
   refine CWalk.region ?_
   refine mv ?_
   refine mv ?_
   refine mv ?_
   obtain ⟨x3, hx3, hm⟩ := bind_some hm
   refine wo (Spec.indexAddr hx3 sl39 (Has.s rfl) (Has.s rfl)) ?_
   refine wo (Spec.load ty58 (Has.s rfl)) ?_
   obtain ⟨x4, hx4, hm⟩ := bind_some hm
   refine wo (Spec.callFn (xs := [.tmp 15]) (x := x3) [0] 10 rfl hx4 (Has.s rfl) (HasAll.cons (Has.m (Has.s rfl) rfl) HasAll.nil)) ?_
   refine Walk.nil ?_
   refine Leaf.thenN ?_
   refine CWalk.cond rfl (fun hb => ?_) (fun hb => ?_)
   ·have hm := cond_t hb hm
    refine CWalk.seq ?_
    refine CWalk.region ?_
    refine mv ?_
    refine wo (Spec.assign (Has.s rfl)) ?_
    refine Walk.nil ?_
    refine Leaf.thenN ?_
    refine CWalk.ret ?_
    refine Leaf.blockR ?_
    refine Leaf.thenR ?_
    exact Leaf.brk hm (fun h => nomatch h) rfl (st Sub.nil)
   ·have hm := cond_f hb hm
    refine CWalk.skip ?_
    refine Leaf.blockN ?_
    refine Leaf.thenN ?_
    refine CWalk.region ?_
    refine wo (Spec.addI (Has.s rfl) Has.int) ?_
    refine mv ?_
    refine Walk.nil ?_
    exact Leaf.next hm (su (sn (st (st Sub.nil))))
  ·have hm := cond_f hb hm
   refine CWalk.exit ?_
   refine Leaf.thenE ?_
   exact Leaf.brk hm (fun h => nomatch h) rfl (Sub.nil)
 ·intro _
  rcases b5 with b6 | b7
  ·have hm := selim_l hm
   refine Leaf.blockE ?_
   refine Leaf.thenN ?_
   refine CWalk.seq ?_
   refine CWalk.region ?_
   refine wo (Spec.assign Has.int) ?_
   refine Walk.nil ?_
   refine Leaf.thenN ?_
   refine CWalk.ret ?_
   obtain rfl := Option.some.inj hm
   exact Leaf.retC1 rfl (HasR.cv (HasR.tmp (Has.s rfl)) Cv.fl)
  ·have hm := selim_r hm
   refine Leaf.blockR ?_
   refine Leaf.thenR ?_
   obtain rfl := Option.some.inj hm
   exact Leaf.retC1 rfl (HasR.cv (HasR.tmp (Has.s rfl)) Cv.fl)

/-- slices.ContainsFunc[[]freeboard/api.Write,freeboard/api.Write] -/
def slices_ContainsFunc_api_Write_api_Write (a0 : List Write) (a1 : Write → Option Bool) : Option (Bool) :=
  Option.bind (slices_IndexFunc_api_Write_api_Write a0 a1) (fun x1 => some (decide (x1 ≥ (0 : Int))))
set_option maxRecDepth 100000 in
set_option maxHeartbeats 2000000 in
theorem slices_ContainsFunc_api_Write_api_Write_c (a0 : List Write) (a1 : Write → Option Bool) {r : Bool} (hm : slices_ContainsFunc_api_Write_api_Write a0 a1 = some r) : Ctr Try.prog 66 [.rep 0 a0, .fn Try.prog pre1 0 a1] (.fl r) [] := by
 refine ctr_of_walk [[]] 9 Try.func66 rfl rfl rfl rfl (fun w0 om => ?_)
 unfold slices_ContainsFunc_api_Write_api_Write at hm
 refine CWalk.sub (G' := [.fact 0 (.rep [0] (a0 : List Write)), .fact 1 (.fn Try.prog pre1 [0] (a1))]) (sn (sn Sub.nil)) ?_
 refine CWalk.seq ?_
 refine CWalk.region ?_
 refine wo (Spec.assign Has.bool) ?_
 refine Walk.nil ?_
 refine Leaf.thenN ?_
 refine CWalk.seq ?_
 refine CWalk.region ?_
 refine mv ?_
 refine mv ?_
 obtain ⟨x1, hx1, hm⟩ := bind_some hm
 refine wo (f := Fact.rep [] (x1 : Int)) (Spec.callE [0] 10 rfl en78 (slices_IndexFunc_api_Write_api_Write_c a0 a1 hx1) (HasAll.cons (Has.m (Has.s rfl) rfl) (HasAll.cons (Has.cv (Has.s rfl) (Cv.fnM rfl)) HasAll.nil))) ?_
 refine wo (Spec.geqI (Has.s rfl) Has.int) ?_
 refine wo (Spec.assign (Has.s rfl)) ?_
 refine Walk.nil ?_
 refine Leaf.thenN ?_
 refine CWalk.ret ?_
 obtain rfl := Option.some.inj hm
 exact Leaf.retC1 rfl (HasR.cv (HasR.tmp (Has.s rfl)) Cv.fl)

/-- freeboard/disk.Check$1 -/
def disk_Check_1 (a0 : Write) (a1 : Int) : Option (Bool) :=
  Option.bind (gO (!((decide (a0.At < (0 : Int))) || (decide (a0.At ≥ a1)))) (disk_odd a0.Data)) (fun x1 => some (((decide (a0.At < (0 : Int))) || (decide (a0.At ≥ a1))) || x1))
set_option maxRecDepth 100000 in
set_option maxHeartbeats 2000000 in
theorem disk_Check_1_c (a0 : Write) (a1 : Int) {r : Bool} (hm : disk_Check_1 a0 a1 = some r) : Ctr Try.prog 67 [.rep 0 a0, .ptr 0 a1] (.fl r) [] := by
 refine ctr_of_walk [[]] 18 Try.func67 rfl rfl rfl rfl (fun w0 om => ?_)
 unfold disk_Check_1 at hm
 refine CWalk.sub (G' := [.fact 0 (.rep [0] (a0 : Write)), .fact 1 (.ptr [0] (a1 : Int))]) (sn (sn Sub.nil)) ?_
 refine CWalk.seq ?_
 refine CWalk.region ?_
 refine ws (Step.boxObj (ls := [(false, 1, Fact.rep [] a0.At), (false, 1, Fact.rep [0] a0.Data)]) 10 rfl rfl rfl rfl (HasL.flds (Has.cv (Has.s rfl) (Cv.trans (Cv.opens (chWrite a0)) (Cv.flds (CvL.cons Cv.fl (CvL.cons Cv.refl CvL.nil))))))) ?_
 refine wo (Spec.assign Has.bool) ?_
 refine Walk.nil ?_
 refine Leaf.thenN ?_
 refine CWalk.seq ?_
 refine CWalk.region ?_
 refine wo (Spec.fieldAddrO fd58_0 (Has.cv (Has.s rfl) (Cv.isvP rfl))) ?_
 refine wo (Spec.loadF (i := 0) ty3 rfl (Has.s rfl) rfl (HasG.s rfl)) ?_
 refine wo (Spec.lssI (Has.s rfl) Has.int) ?_
 refine mv ?_
 refine wg rfl rfl (fun hb => Spec.fieldAddrO fd58_0 (Has.cv (Has.s rfl) (Cv.isvP rfl))) ?_
 refine wg rfl rfl (fun hb => Spec.loadF (i := 0) ty3 rfl (Has.u rfl hb) rfl (HasG.s rfl)) ?_
 refine wg rfl rfl (fun hb => (Spec.load ty3 (Has.s rfl)).flat (T' := [])) ?_
 refine wg rfl rfl (fun hb => Spec.geqI (Has.u rfl hb) (Has.u rfl hb)) ?_
 refine wo (Spec.or (Has.s rfl) (fun h => Has.u rfl h)) ?_
 refine mv ?_
 refine wg rfl rfl (fun hb => Spec.fieldAddrO fd58_1 (Has.cv (Has.s rfl) (Cv.isvP rfl))) ?_
 refine wg rfl rfl (fun hb => Spec.loadF (i := 1) ty54 rfl (Has.u rfl hb) rfl (HasG.s rfl)) ?_
 obtain ⟨x1, hx1, hm⟩ := bind_some hm
 refine wg (f := Fact.rep [] (x1 : Bool)) rfl rfl (fun hb => Spec.callE [0] 13 rfl en65 (disk_odd_c a0.Data (gO_t hx1 (not_t hb))) (HasAll.cons (Has.m (Has.u rfl hb) rfl) HasAll.nil)) ?_
 refine wo (Spec.or (Has.s rfl) (fun h => Has.u rfl h)) ?_
 refine wo (Spec.assign (Has.s rfl)) ?_
 refine Walk.nil ?_
 refine Leaf.thenN ?_
 refine CWalk.ret ?_
 obtain rfl := Option.some.inj hm
 exact Leaf.retC1 rfl (HasR.cv (HasR.tmp (Has.s rfl)) Cv.fl)

/-- freeboard/disk.Check$2 -/
def disk_Check_2 (a0 : List UInt8) : Option (Bool) :=
  some (decide (((a0).length : Int) > (0 : Int)))
set_option maxRecDepth 100000 in
set_option maxHeartbeats 2000000 in
theorem disk_Check_2_c (a0 : List UInt8) {r : Bool} (hm : disk_Check_2 a0 = some r) : Ctr Try.prog 68 [.rep 0 a0] (.fl r) [] := by
 refine ctr_of_walk [[]] 6 Try.func68 rfl rfl rfl rfl (fun w0 om => ?_)
 unfold disk_Check_2 at hm
 refine CWalk.sub (G' := [.fact 0 (.rep [0] (a0 : List UInt8))]) (sn Sub.nil) ?_
 refine CWalk.seq ?_
 refine CWalk.region ?_
 refine wo (Spec.assign Has.bool) ?_
 refine Walk.nil ?_
 refine Leaf.thenN ?_
 refine CWalk.seq ?_
 refine CWalk.region ?_
 refine mv ?_
 refine wo (Spec.len (Has.s rfl) Try.underlying54) ?_
 refine wo (Spec.gtrI (Has.s rfl) Has.int) ?_
 refine wo (Spec.assign (Has.s rfl)) ?_
 refine Walk.nil ?_
 refine Leaf.thenN ?_
 refine CWalk.ret ?_
 obtain rfl := Option.some.inj hm
 exact Leaf.retC1 rfl (HasR.cv (HasR.tmp (Has.s rfl)) Cv.fl)

/-- freeboard/disk.Check -/
def disk_Check (a0 : Disk) : Option (Int) :=
  Option.bind (gO (!(((decide (((a0.Blocks).length : Int) < (1 : Int))) || (decide (((a0.Blocks).length : Int) > (256 : Int)))) || (decide (((a0.Wait).length : Int) > (1024 : Int))))) (slices_ContainsFunc_byte_byte a0.Blocks (fun y => disk_odd y))) (fun x1 => (bif ((((decide (((a0.Blocks).length : Int) < (1 : Int))) || (decide (((a0.Blocks).length : Int) > (256 : Int)))) || (decide (((a0.Wait).length : Int) > (1024 : Int)))) || x1) then some (8 : Int) else Option.bind (slices_ContainsFunc_api_Write_api_Write a0.Wait (fun y => disk_Check_1 y ((a0.Blocks).length : Int))) (fun x2 => (bif x2 then some (8 : Int) else Option.bind (gO ((a0.Dead) && (!(decide (((a0.Wait).length : Int) > (0 : Int))))) (slices_ContainsFunc_byte_byte a0.Blocks (fun y => disk_Check_2 y))) (fun x3 => (bif (a0.Dead && ((decide (((a0.Wait).length : Int) > (0 : Int))) || x3)) then some (8 : Int) else some (0 : Int)))))))
set_option maxRecDepth 100000 in
set_option maxHeartbeats 2000000 in
theorem disk_Check_c (a0 : Disk) {r : Int} (hm : disk_Check a0 = some r) : Ctr Try.prog 53 [.rep 0 a0] (.fl r) [] := by
 refine ctr_of_walk [[]] 41 Try.func53 rfl rfl rfl rfl (fun w0 om => ?_)
 unfold disk_Check at hm
 refine CWalk.sub (G' := [.fact 0 (.rep [0] (a0 : Disk))]) (sn Sub.nil) ?_
 refine CWalk.seq ?_
 refine CWalk.region ?_
 refine ws (Step.boxObj (ls := [(false, 1, Fact.rep [0] a0.Blocks), (false, 1, Fact.rep [0] a0.Wait), (false, 1, Fact.rep [] a0.Dead)]) 10 rfl rfl rfl rfl (HasL.flds (Has.cv (Has.s rfl) (Cv.trans (Cv.opens (chDisk a0)) (Cv.flds (CvL.cons Cv.refl (CvL.cons Cv.refl (CvL.cons Cv.fl CvL.nil)))))))) ?_
 refine wo (Spec.assign Has.int) ?_
 refine Walk.nil ?_
 refine Leaf.thenN ?_
 refine CWalk.seq ?_
 refine CWalk.region ?_
 refine wo (Spec.fieldAddrO fd41_0 (Has.cv (Has.s rfl) (Cv.isvP rfl))) ?_
 refine wo (Spec.loadF (i := 0) ty38 rfl (Has.s rfl) rfl (HasG.s rfl)) ?_
 refine wo (Spec.len (Has.s rfl) Try.underlying38) ?_
 refine ws (Step.allocObj (ls := [(false, 1, Fact.rep [] ((0 : Int) : Int))]) 14 rfl rfl rfl rfl zl3) ?_
 refine ws (Step.storeF (i := 0) (f := Fact.rep [] (((a0.Blocks).length : Int) : Int)) rfl ty3 rfl (Has.cv (Has.s rfl) (Cv.isvP rfl)) rfl (Has.s rfl) (Has.s rfl) rfl) ?_
 refine Walk.nil ?_
 refine Leaf.thenN ?_
 refine CWalk.seq ?_
 refine CWalk.seq ?_
 refine CWalk.region ?_
 refine wo (Spec.loadF (i := 0) ty3 rfl (Has.cv (Has.s rfl) (Cv.isvP rfl)) rfl (HasG.s rfl)) ?_
 refine wo (Spec.lssI (Has.s rfl) Has.int) ?_
 refine mv ?_
 refine wg rfl rfl (fun hb => Spec.loadF (i := 0) ty3 rfl (Has.cv (Has.s rfl) (Cv.isvP rfl)) rfl (HasG.s rfl)) ?_
 refine wg rfl rfl (fun hb => Spec.gtrI (Has.u rfl hb) Has.int) ?_
 refine wo (Spec.or (Has.s rfl) (fun h => Has.u rfl h)) ?_
 refine mv ?_
 refine wg rfl rfl (fun hb => Spec.fieldAddrO fd41_1 (Has.cv (Has.s rfl) (Cv.isvP rfl))) ?_
 refine wg rfl rfl (fun hb => Spec.loadF (i := 1) ty39 rfl (Has.u rfl hb) rfl (HasG.s rfl)) ?_
 refine wg rfl rfl (fun hb => Spec.len (Has.u rfl hb) Try.underlying39) ?_
 refine wg rfl rfl (fun hb => Spec.gtrI (Has.u rfl hb) Has.int) ?_
 refine wo (Spec.or (Has.s rfl) (fun h => Has.u rfl h)) ?_
 refine mv ?_
 refine wg rfl rfl (fun hb => Spec.fieldAddrO fd41_0 (Has.cv (Has.s rfl) (Cv.isvP rfl))) ?_
 refine wg rfl rfl (fun hb => Spec.loadF (i := 0) ty38 rfl (Has.u rfl hb) rfl (HasG.s rfl)) ?_
 obtain ⟨x1, hx1, hm⟩ := bind_some hm
 refine wg (f := Fact.rep [] (x1 : Bool)) rfl rfl (fun hb => Spec.callE [0] 16 rfl en64 (slices_ContainsFunc_byte_byte_c a0.Blocks (fun y => disk_odd y) (gO_t hx1 (not_t hb))) (HasAll.cons (Has.m (Has.u rfl hb) rfl) (HasAll.cons (Has.cv Has.func (Cv.fn (pu := []) (pc := []) (shc := []) en65 CvF.nil CvF.nil (fun y r h => disk_odd_c y h))) HasAll.nil))) ?_
 refine wo (Spec.or (Has.s rfl) (fun h => Has.u rfl h)) ?_
 refine Walk.nil ?_
 refine Leaf.thenN ?_
 refine CWalk.cond rfl (fun hb => ?_) (fun hb => ?_)
 ·have hm := cond_t hb hm
  refine CWalk.seq ?_
  refine CWalk.region ?_
  refine wo (Spec.assign Has.int) ?_
  refine Walk.nil ?_
  refine Leaf.thenN ?_
  refine CWalk.ret ?_
  refine Leaf.thenR ?_
  obtain rfl := Option.some.inj hm
  exact Leaf.retC1 rfl (HasR.cv (HasR.tmp (Has.s rfl)) Cv.fl)
 ·have hm := cond_f hb hm
  refine CWalk.skip ?_
  refine Leaf.thenN ?_
  refine CWalk.seq ?_
  refine CWalk.seq ?_
  refine CWalk.region ?_
  refine wo (Spec.fieldAddrO fd41_1 (Has.cv (Has.s rfl) (Cv.isvP rfl))) ?_
  refine wo (Spec.loadF (i := 1) ty39 rfl (Has.s rfl) rfl (HasG.s rfl)) ?_
  refine wo (Spec.makeFunc (xs := []) (ys := [.tmp 3]) rfl rfl HasF.nil (HasF.cons (Has.s rfl) HasF.nil) (fun _ _ _ => rfl)) ?_
  obtain ⟨x2, hx2, hm⟩ := bind_some hm
  refine wo (f := Fact.rep [] (x2 : Bool)) (Spec.callE [0, 14] 17 rfl en66 (slices_ContainsFunc_api_Write_api_Write_c a0.Wait (fun y => disk_Check_1 y ((a0.Blocks).length : Int)) hx2) (HasAll.cons (Has.m (Has.s rfl) rfl) (HasAll.cons (Has.cv (Has.s rfl) (Cv.fn (pu := []) (pc := [.ptr 0 ((a0.Blocks).length : Int)]) (shc := []) en67 CvF.nil (CvF.cons (Cv.trans (Cv.objPtr1 (f := Fact.rep [] (((a0.Blocks).length : Int) : Int)) rfl rfl (HasG.s rfl) (Cv.fl (T' := []))) (Cv.ptrM rfl)) CvF.nil) (fun y r h => disk_Check_1_c y ((a0.Blocks).length : Int) h))) HasAll.nil))) ?_
  refine Walk.nil ?_
  refine Leaf.thenN ?_
  refine CWalk.cond rfl (fun hb => ?_) (fun hb => ?_)
  ·have hm := cond_t hb hm
   refine CWalk.seq ?_
   refine CWalk.region ?_
   refine wo (Spec.assign Has.int) ?_
   refine Walk.nil ?_
   refine Leaf.thenN ?_
   refine CWalk.ret ?_
   refine Leaf.thenR ?_
   obtain rfl := Option.some.inj hm
   exact Leaf.retC1 rfl (HasR.cv (HasR.tmp (Has.s rfl)) Cv.fl)
  ·have hm := cond_f hb hm
   refine CWalk.skip ?_
   refine Leaf.thenN ?_
   refine CWalk.seq ?_
   refine CWalk.seq ?_
   refine CWalk.region ?_
   refine wo (Spec.fieldAddrO fd41_2 (Has.cv (Has.s rfl) (Cv.isvP rfl))) ?_
   refine wo (Spec.loadF (i := 2) ty4 rfl (Has.s rfl) rfl (HasG.s rfl)) ?_
   refine mv ?_
   refine wg rfl rfl (fun hb => Spec.fieldAddrO fd41_1 (Has.cv (Has.s rfl) (Cv.isvP rfl))) ?_
   refine wg rfl rfl (fun hb => Spec.loadF (i := 1) ty39 rfl (Has.u rfl hb) rfl (HasG.s rfl)) ?_
   refine wg rfl rfl (fun hb => Spec.len (Has.u rfl hb) Try.underlying39) ?_
   refine wg rfl rfl (fun hb => Spec.gtrI (Has.u rfl hb) Has.int) ?_
   refine wg rfl rfl (fun hb => Spec.move (Has.u rfl hb)) ?_
   refine Walk.opgu rfl rfl rfl (fun hb => Spec.fieldAddrO fd41_0 (Has.cv (Has.s rfl) (Cv.isvP rfl))) ?_
   refine Walk.opgu rfl rfl rfl (fun hb => Spec.loadF (i := 0) ty38 rfl (Has.u rfl hb) rfl (HasG.s rfl)) ?_
   obtain ⟨x3, hx3, hm⟩ := bind_some hm
   refine Walk.opgu (f := Fact.rep [] (x3 : Bool)) rfl rfl rfl (fun hb => Spec.callE [0] 18 rfl en64 (slices_ContainsFunc_byte_byte_c a0.Blocks (fun y => disk_Check_2 y) (gO_t hx3 (and_t hb.1 (not_t hb.2)))) (HasAll.cons (Has.m (Has.u rfl hb) rfl) (HasAll.cons (Has.cv Has.func (Cv.fn (pu := []) (pc := []) (shc := []) en68 CvF.nil CvF.nil (fun y r h => disk_Check_2_c y h))) HasAll.nil))) ?_
   refine wg rfl rfl (fun hb => Spec.or (Has.u rfl hb) (fun h => Has.u rfl ⟨hb, h⟩)) ?_
   refine wo (Spec.and (Has.s rfl) (fun h => Has.u rfl h)) ?_
   refine Walk.nil ?_
   refine Leaf.thenN ?_
   refine CWalk.cond rfl (fun hb => ?_) (fun hb => ?_)
   ·have hm := cond_t hb hm
    refine CWalk.seq ?_
    refine CWalk.region ?_
    refine wo (Spec.assign Has.int) ?_
    refine Walk.nil ?_
    refine Leaf.thenN ?_
    refine CWalk.ret ?_
    refine Leaf.thenR ?_
    obtain rfl := Option.some.inj hm
    exact Leaf.retC1 rfl (HasR.cv (HasR.tmp (Has.s rfl)) Cv.fl)
   ·have hm := cond_f hb hm
    refine CWalk.skip ?_
    refine Leaf.thenN ?_
    refine CWalk.seq ?_
    refine CWalk.region ?_
    refine wo (Spec.assign Has.int) ?_
    refine Walk.nil ?_
    refine Leaf.thenN ?_
    refine CWalk.ret ?_
    obtain rfl := Option.some.inj hm
    exact Leaf.retC1 rfl (HasR.cv (HasR.tmp (Has.s rfl)) Cv.fl)

/-- freeboard/acts.devices$1 -/
def acts_devices_1 (a0 : Disk) : Option (Bool) :=
  Option.bind (disk_Check a0) (fun x1 => some (x1 != (0 : Int)))
set_option maxRecDepth 100000 in
set_option maxHeartbeats 2000000 in
theorem acts_devices_1_c (a0 : Disk) {r : Bool} (hm : acts_devices_1 a0 = some r) : Ctr Try.prog 57 [.rep 0 a0] (.fl r) [] := by
 refine ctr_of_walk [[]] 6 Try.func57 rfl rfl rfl rfl (fun w0 om => ?_)
 unfold acts_devices_1 at hm
 refine CWalk.sub (G' := [.fact 0 (.rep [0] (a0 : Disk))]) (sn Sub.nil) ?_
 refine CWalk.seq ?_
 refine CWalk.region ?_
 refine ws (Step.boxObj (ls := [(false, 1, Fact.rep [0] a0.Blocks), (false, 1, Fact.rep [0] a0.Wait), (false, 1, Fact.rep [] a0.Dead)]) 10 rfl rfl rfl rfl (HasL.flds (Has.cv (Has.s rfl) (Cv.trans (Cv.opens (chDisk a0)) (Cv.flds (CvL.cons Cv.refl (CvL.cons Cv.refl (CvL.cons Cv.fl CvL.nil)))))))) ?_
 refine wo (Spec.assign Has.bool) ?_
 refine Walk.nil ?_
 refine Leaf.thenN ?_
 refine CWalk.seq ?_
 refine CWalk.region ?_
 refine wo (Spec.loadObj (ls := [(false, 1, Fact.rep [0] a0.Blocks), (false, 1, Fact.rep [0] a0.Wait), (false, 1, Fact.rep [] a0.Dead)]) ty41 rfl rfl (Has.s rfl) rfl (HasGs.cons (HasG.s rfl) (HasGs.cons (HasG.s rfl) (HasGs.cons (HasG.s rfl) HasGs.nil)))) ?_
 obtain ⟨x1, hx1, hm⟩ := bind_some hm
 refine wo (f := Fact.rep [] (x1 : Int)) (Spec.callE [0] 14 rfl en53 (disk_Check_c a0 hx1) (HasAll.cons (Has.m (Has.cv (Has.s rfl) (Cv.trans (Cv.flds (CvL.cons (Cv.m rfl) (CvL.cons (Cv.m rfl) (CvL.cons Cv.fl CvL.nil)))) (Cv.close (T := [0]) (chDisk a0)))) rfl) HasAll.nil)) ?_
 refine wo (Spec.neqI (Has.s rfl) Has.int) ?_
 refine wo (Spec.assign (Has.s rfl)) ?_
 refine Walk.nil ?_
 refine Leaf.thenN ?_
 refine CWalk.ret ?_
 obtain rfl := Option.some.inj hm
 exact Leaf.retC1 rfl (HasR.cv (HasR.tmp (Has.s rfl)) Cv.fl)

/-- freeboard/acts.devices -/
def acts_devices (a0 : List Disk) : Option (Int) :=
  Option.bind (gO (!((decide (((a0).length : Int) < (1 : Int))) || (decide (((a0).length : Int) > (17 : Int))))) (slices_ContainsFunc_api_Disk_api_Disk a0 (fun y => acts_devices_1 y))) (fun x1 => (bif (((decide (((a0).length : Int) < (1 : Int))) || (decide (((a0).length : Int) > (17 : Int)))) || x1) then some (8 : Int) else some (0 : Int)))
set_option maxRecDepth 100000 in
set_option maxHeartbeats 2000000 in
theorem acts_devices_c (a0 : List Disk) {r : Int} (hm : acts_devices a0 = some r) : Ctr Try.prog 40 [.rep 0 a0] (.fl r) [] := by
 refine ctr_of_walk [[]] 17 Try.func40 rfl rfl rfl rfl (fun w0 om => ?_)
 unfold acts_devices at hm
 refine CWalk.sub (G' := [.fact 0 (.rep [0] (a0 : List Disk))]) (sn Sub.nil) ?_
 refine CWalk.seq ?_
 refine CWalk.region ?_
 refine wo (Spec.assign Has.int) ?_
 refine Walk.nil ?_
 refine Leaf.thenN ?_
 refine CWalk.seq ?_
 refine CWalk.region ?_
 refine wo (Spec.assign Has.func) ?_
 refine Walk.nil ?_
 refine Leaf.thenN ?_
 refine CWalk.seq ?_
 refine CWalk.seq ?_
 refine CWalk.region ?_
 refine mv ?_
 refine wo (Spec.len (Has.s rfl) Try.underlying22) ?_
 refine wo (Spec.lssI (Has.s rfl) Has.int) ?_
 refine mv ?_
 refine wg rfl rfl (fun hb => Spec.move (Has.s rfl)) ?_
 refine wg rfl rfl (fun hb => Spec.len (Has.u rfl hb) Try.underlying22) ?_
 refine wg rfl rfl (fun hb => Spec.gtrI (Has.u rfl hb) Has.int) ?_
 refine wo (Spec.or (Has.s rfl) (fun h => Has.u rfl h)) ?_
 refine mv ?_
 refine wg rfl rfl (fun hb => Spec.move (Has.s rfl)) ?_
 refine wg rfl rfl (fun hb => Spec.move (Has.s rfl)) ?_
 obtain ⟨x1, hx1, hm⟩ := bind_some hm
 refine wg (f := Fact.rep [] (x1 : Bool)) rfl rfl (fun hb => Spec.callE [0] 10 rfl en58 (slices_ContainsFunc_api_Disk_api_Disk_c a0 (fun y => acts_devices_1 y) (gO_t hx1 (not_t hb))) (HasAll.cons (Has.m (Has.u rfl hb) rfl) (HasAll.cons (Has.cv (Has.u rfl hb) (Cv.fn (pu := []) (pc := []) (shc := []) en57 CvF.nil CvF.nil (fun y r h => acts_devices_1_c y h))) HasAll.nil))) ?_
 refine wo (Spec.or (Has.s rfl) (fun h => Has.u rfl h)) ?_
 refine Walk.nil ?_
 refine Leaf.thenN ?_
 refine CWalk.cond rfl (fun hb => ?_) (fun hb => ?_)
 ·have hm := cond_t hb hm
  refine CWalk.seq ?_
  refine CWalk.region ?_
  refine wo (Spec.assign Has.int) ?_
  refine Walk.nil ?_
  refine Leaf.thenN ?_
  refine CWalk.ret ?_
  refine Leaf.thenR ?_
  obtain rfl := Option.some.inj hm
  exact Leaf.retC1 rfl (HasR.cv (HasR.tmp (Has.s rfl)) Cv.fl)
 ·have hm := cond_f hb hm
  refine CWalk.skip ?_
  refine Leaf.thenN ?_
  refine CWalk.seq ?_
  refine CWalk.region ?_
  refine wo (Spec.assign Has.int) ?_
  refine Walk.nil ?_
  refine Leaf.thenN ?_
  refine CWalk.ret ?_
  obtain rfl := Option.some.inj hm
  exact Leaf.retC1 rfl (HasR.cv (HasR.tmp (Has.s rfl)) Cv.fl)

def acts_Waits_L1 (a0 : List Disk) (s2 : Int) (s3 : Int) : Option (Ctl (Int × Int) (Int)) :=
  (bif (decide (s3 < ((a0).length : Int))) then Option.bind (idx a0 s3) (fun x5 => some (Ctl.next ((wI (s2 + ((x5.Wait).length : Int))), (wI (s3 + (1 : Int)))))) else some (Ctl.brk s2))
/-- freeboard/acts.Waits -/
def acts_Waits (a0 : List Disk) : Option (Int × Int) :=
  Option.bind (acts_devices a0) (fun x1 => (bif (x1 != (0 : Int)) then some ((0 : Int), x1) else Option.bind (loopM (fun s : Int × Int => acts_Waits_L1 a0 s.1 s.2) FUEL ((0 : Int), (0 : Int))) (fun b6 => some (b6, (0 : Int)))))
set_option maxRecDepth 100000 in
set_option maxHeartbeats 2000000 in
theorem acts_Waits_c (a0 : List Disk) {r : Int × Int} (hm : acts_Waits a0 = some r) : Ctr Try.prog 13 [.rep 0 a0] (.tup2 (.fl r.1) (.fl r.2)) [] := by
 refine ctr_of_walk [[]] 26 Try.func13 rfl rfl rfl rfl (fun w0 om => ?_)
 unfold acts_Waits at hm
 refine CWalk.sub (G' := [.fact 0 (.rep [0] (a0 : List Disk))]) (sn Sub.nil) ?_
 refine CWalk.seq ?_
 refine CWalk.region ?_
 refine wo (Spec.assign Has.int) ?_
 refine wo (Spec.assign Has.int) ?_
 refine Walk.nil ?_
 refine Leaf.thenN ?_
 refine CWalk.seq ?_
 refine CWalk.seq ?_
 refine CWalk.region ?_
 refine mv ?_
 obtain ⟨x1, hx1, hm⟩ := bind_some hm
 refine wo (f := Fact.rep [] (x1 : Int)) (Spec.callE [0] 10 rfl en40 (acts_devices_c a0 hx1) (HasAll.cons (Has.m (Has.s rfl) rfl) HasAll.nil)) ?_
 refine wo (Spec.assign (Has.s rfl)) ?_
 refine Walk.nil ?_
 refine Leaf.thenN ?_
 refine CWalk.seq ?_
 refine CWalk.region ?_
 refine mv ?_
 refine wo (Spec.neqI (Has.s rfl) Has.int) ?_
 refine Walk.nil ?_
 refine Leaf.thenN ?_
 refine CWalk.cond rfl (fun hb => ?_) (fun hb => ?_)
 ·have hm := cond_t hb hm
  refine CWalk.seq ?_
  refine CWalk.region ?_
  refine mv ?_
  refine wo (Spec.assign Has.int) ?_
  refine wo (Spec.assign (Has.s rfl)) ?_
  refine Walk.nil ?_
  refine Leaf.thenN ?_
  refine CWalk.ret ?_
  refine Leaf.thenR ?_
  obtain rfl := Option.some.inj hm
  exact Leaf.retC2 rfl (HasR.cv (HasR.tmp (Has.s rfl)) Cv.fl) (HasR.cv (HasR.tmp (Has.s rfl)) Cv.fl)
 ·have hm := cond_f hb hm
  refine CWalk.skip ?_
  refine Leaf.thenN ?_
  refine CWalk.seq ?_
  refine CWalk.region ?_
  refine wo (Spec.assign Has.int) ?_
  refine Walk.nil ?_
  refine Leaf.thenN ?_
  refine CWalk.seq ?_
  refine CWalk.seq ?_
  refine CWalk.region ?_
  refine mv ?_
  refine wo (Spec.len (Has.s rfl) Try.underlying22) ?_
  refine wo (Spec.move Has.int) ?_
  refine Walk.nil ?_
  refine Leaf.thenN ?_
  refine CWalk.block ?_
  obtain ⟨b6, hb6, hm⟩ := bind_some hm
  refine CWalk.loop (fun s : Int × Int => [.fact 5 (.rep [] s.1), .fact 13 (.rep [0] (a0 : List Disk)), .fact 14 (.rep [] (((a0).length : Int) : Int)), .fact 15 (.rep [] s.2)]) (fun b : Int => (Exit.exit 0, [.fact 5 (.rep [] (b : Int))])) hb6 (st (su (st (st Sub.nil)))) ?_ ?_
  ·rintro ⟨s2, s3⟩ c4 hm
   replace hm : acts_Waits_L1 a0 s2 s3 = some c4 := hm
   unfold acts_Waits_L1 at hm
   show CWalk _ [.fact 5 (.rep [] (s2 : Int)), .fact 13 (.rep [0] (a0 : List Disk)), .fact 14 (.rep [] (((a0).length : Int) : Int)), .fact 15 (.rep [] (s3 : Int))] _ _
   refine CWalk.seq ?_
   refine CWalk.region ?_
   refine wo (Spec.lssI (Has.s rfl) (Has.s rfl)) ?_
   refine Walk.nil ?_
   refine Leaf.thenN ?_
   refine CWalk.seq ?_
   refine CWalk.cond rfl (fun hb => ?_) (fun hb => ?_)
   ·have hm := cond_t hb hm
    refine CWalk.skip ?_
    refine Leaf.thenN ?_
    refine CWalk.seq ?_
    refine CWalk.block ?_
    refine CWalk.seq ?_
    refine CWalk.region ?_
    obtain ⟨x5, hx5, hm⟩ := bind_some hm
    refine wo (Spec.indexAddr hx5 sl22 (Has.s rfl) (Has.s rfl)) ?_
    refine wo (Spec.load ty41 (Has.s rfl)) ?_
    refine ws (Step.allocObj (ls := [(false, 1, Fact.nilv), (false, 1, Fact.nilv), (false, 1, Fact.rep [] (false : Bool))]) 11 rfl rfl rfl rfl zl41) ?_
    refine ws (Step.storeObj (ls := [(false, 1, Fact.rep [0] x5.Blocks), (false, 1, Fact.rep [0] x5.Wait), (false, 1, Fact.rep [] x5.Dead)]) rfl ty41 rfl rfl (Has.s rfl) rfl (HasL.flds (Has.cv (Has.s rfl) (Cv.trans (Cv.opens (chDisk x5)) (Cv.flds (CvL.cons Cv.refl (CvL.cons Cv.refl (CvL.cons Cv.fl CvL.nil))))))) rfl) ?_
    refine Walk.nil ?_
    refine Leaf.thenN ?_
    refine CWalk.region ?_
    refine mv ?_
    refine wo (Spec.fieldAddrO fd41_1 (Has.cv (Has.s rfl) (Cv.isvP rfl))) ?_
    refine wo (Spec.loadF (i := 1) ty39 rfl (Has.s rfl) rfl (HasG.s rfl)) ?_
    refine wo (Spec.len (Has.s rfl) Try.underlying39) ?_
    refine wo (Spec.addI (Has.s rfl) (Has.s rfl)) ?_
    refine wo (Spec.assign (Has.s rfl)) ?_
    refine Walk.nil ?_
    refine Leaf.blockN ?_
    refine Leaf.thenN ?_
    refine CWalk.region ?_
    refine wo (Spec.addI (Has.s rfl) Has.int) ?_
    refine mv ?_
    refine Walk.nil ?_
    exact Leaf.next hm (st (su (st (st Sub.nil))))
   ·have hm := cond_f hb hm
    refine CWalk.exit ?_
    refine Leaf.thenE ?_
    exact Leaf.brk hm (fun h => nomatch h) rfl (st Sub.nil)
  ·intro _
   refine Leaf.blockE ?_
   refine Leaf.thenN ?_
   refine CWalk.seq ?_
   refine CWalk.region ?_
   refine mv ?_
   refine wo (Spec.assign (Has.s rfl)) ?_
   refine wo (Spec.assign Has.int) ?_
   refine Walk.nil ?_
   refine Leaf.thenN ?_
   refine CWalk.ret ?_
   obtain rfl := Option.some.inj hm
   exact Leaf.retC2 rfl (HasR.cv (HasR.tmp (Has.s rfl)) Cv.fl) (HasR.cv (HasR.tmp (Has.s rfl)) Cv.fl)

/-- slices.Clone[[]byte,byte] -/
def slices_Clone_byte_byte (a0 : List UInt8) : Option ((List UInt8)) :=
  Option.bind (app ([] : List UInt8) a0) (fun x1 => some x1)
set_option maxRecDepth 100000 in
set_option maxHeartbeats 2000000 in
theorem slices_Clone_byte_byte_c (a0 : List UInt8) {r : (List UInt8)} (hm : slices_Clone_byte_byte a0 = some r) : Ctr Try.prog 55 [.rep 0 a0] (.own 0 none 5 r) [] := by
 refine ctr_of_walk [[10]] 8 Try.func55 rfl rfl rfl rfl (fun w0 om => ?_)
 unfold slices_Clone_byte_byte at hm
 refine CWalk.sub (G' := [.fact 0 (.rep [0] (a0 : List UInt8))]) (sn Sub.nil) ?_
 refine CWalk.seq ?_
 refine CWalk.region ?_
 refine wo (Spec.assign Has.nilv) ?_
 refine Walk.nil ?_
 refine Leaf.thenN ?_
 refine CWalk.seq ?_
 refine CWalk.seq ?_
 refine CWalk.region ?_
 refine mv ?_
 refine wo (Spec.eqlNil Try.underlying54 (Has.s rfl)) ?_
 refine Walk.nil ?_
 refine Leaf.thenN ?_
 refine CWalk.condNil rfl (fun hb => ?_) ?_
 ·have hm : some ([] : List UInt8) = some r := by first | simpa [app, hb] using hm | simpa [hb] using hm
  refine CWalk.seq ?_
  refine CWalk.region ?_
  refine wo (Spec.assign Has.nilv) ?_
  refine Walk.nil ?_
  refine Leaf.thenN ?_
  refine CWalk.ret ?_
  refine Leaf.thenR ?_
  obtain rfl := Option.some.inj hm
  exact Leaf.retC1 rfl (HasR.cv (HasR.tmp (Has.s rfl)) (Cv.trans Cv.nilOw (Cv.owF (T := []) (te := []) rfl)))
 ·skip
  refine CWalk.skip ?_
  refine Leaf.thenN ?_
  refine CWalk.seq ?_
  refine CWalk.region ?_
  refine ws (Step.lit0 (α := UInt8) 10 rfl rfl ow54) ?_
  refine mv ?_
  obtain ⟨x1, hx1, hm⟩ := bind_some hm
  refine ws (Step.append (te' := []) 10 hx1 rfl rfl ow54 (Has.s rfl) rfl (Has.s rfl) ElKeep.flat ElKeep.flat) ?_
  refine wo (Spec.assign (Has.s rfl)) ?_
  refine Walk.nil ?_
  refine Leaf.thenN ?_
  refine CWalk.ret ?_
  obtain rfl := Option.some.inj hm
  exact Leaf.retC1 rfl (HasR.cv (HasR.tmp (Has.s rfl)) (Cv.trans (Cv.isvOw rfl) (Cv.owF (T := [10]) (te := []) rfl)))

def disk_Twin_L1 (a0 : Disk) (s1 : Int) (s2 : List (List UInt8)) : Option (Ctl (Int × (List (List UInt8))) ((List (List UInt8)))) :=
  (bif (decide (s1 < ((a0.Blocks).length : Int))) then Option.bind (idx a0.Blocks s1) (fun x4 => Option.bind (slices_Clone_byte_byte x4) (fun x5 => Option.bind (app s2 ([x5])) (fun x6 => some (Ctl.next ((wI (s1 + (1 : Int))), x6))))) else some (Ctl.brk s2))
def disk_Twin_L2 (a0 : Disk) (s8 : Int) (s9 : List Write) : Option (Ctl (Int × (List Write)) ((List Write))) :=
  (bif (decide (s8 < ((a0.Wait).length : Int))) then Option.bind (idx a0.Wait s8) (fun x11 => Option.bind (slices_Clone_byte_byte x11.Data) (fun x12 => Option.bind (app s9 ([(Write.mk x11.At x12)])) (fun x13 => some (Ctl.next ((wI (s8 + (1 : Int))), x13))))) else some (Ctl.brk s9))
/-- freeboard/disk.Twin -/
def disk_Twin (a0 : Disk) : Option (Disk) :=
  Option.bind (loopM (fun s : Int × (List (List UInt8)) => disk_Twin_L1 a0 s.1 s.2) FUEL ((0 : Int), ([] : List (List UInt8)))) (fun b7 => Option.bind (loopM (fun s : Int × (List Write) => disk_Twin_L2 a0 s.1 s.2) FUEL ((0 : Int), ([] : List Write))) (fun b14 => some (Disk.mk b7 b14 a0.Dead)))
set_option maxRecDepth 100000 in
set_option maxHeartbeats 2000000 in
theorem disk_Twin_c (a0 : Disk) {r : Disk} (hm : disk_Twin a0 = some r) : Ctr Try.prog 36 [.rep 0 a0] (.flds [(false, 1, (.own 0 (some 1) 54 r.Blocks)), (false, 1, (.own 2 (some 3) 58 r.Wait)), (false, 1, (.fl r.Dead))]) [] := by
 refine ctr_of_walk [[24], [22, 23], [30], [28, 29]] 46 Try.func36 rfl rfl rfl rfl (fun w0 om => ?_)
 unfold disk_Twin at hm
 refine CWalk.sub (G' := [.fact 0 (.rep [0] (a0 : Disk))]) (sn Sub.nil) ?_
 refine CWalk.seq ?_
 refine CWalk.region ?_
 refine ws (Step.boxObj (ls := [(false, 1, Fact.rep [0] a0.Blocks), (false, 1, Fact.rep [0] a0.Wait), (false, 1, Fact.rep [] a0.Dead)]) 10 rfl rfl rfl rfl (HasL.flds (Has.cv (Has.s rfl) (Cv.trans (Cv.opens (chDisk a0)) (Cv.flds (CvL.cons Cv.refl (CvL.cons Cv.refl (CvL.cons Cv.fl CvL.nil)))))))) ?_
 refine ws (Step.allocObj (ls := [(false, 1, Fact.nilv), (false, 1, Fact.nilv), (false, 1, Fact.rep [] (false : Bool))]) 14 rfl rfl rfl rfl zl41) ?_
 refine Walk.nil ?_
 refine Leaf.thenN ?_
 refine CWalk.seq ?_
 refine CWalk.region ?_
 refine wo (Spec.fieldAddrO fd41_2 (Has.cv (Has.s rfl) (Cv.isvP rfl))) ?_
 refine wo (Spec.loadF (i := 2) ty4 rfl (Has.s rfl) rfl (HasG.s rfl)) ?_
 refine wo (Spec.build (us := [(2, .tmp 9)]) (ls' := [(false, 1, Fact.nilv), (false, 1, Fact.nilv), (false, 1, Fact.rep [] a0.Dead)]) bd41 rfl (BP.cons rfl rfl (Has.s rfl) (Has.s rfl) BP.nil)) ?_
 refine ws (Step.allocObj (ls := [(false, 1, Fact.nilv), (false, 1, Fact.nilv), (false, 1, Fact.rep [] (false : Bool))]) 18 rfl rfl rfl rfl zl41) ?_
 refine ws (Step.storeObj (ls := [(false, 1, Fact.nilv), (false, 1, Fact.nilv), (false, 1, Fact.rep [] a0.Dead)]) rfl ty41 rfl rfl (Has.s rfl) rfl (HasL.flds (Has.s rfl)) rfl) ?_
 refine Walk.nil ?_
 refine Leaf.thenN ?_
 refine CWalk.seq ?_
 refine CWalk.seq ?_
 refine CWalk.region ?_
 refine wo (Spec.fieldAddrO fd41_0 (Has.cv (Has.s rfl) (Cv.isvP rfl))) ?_
 refine wo (Spec.loadF (i := 0) ty38 rfl (Has.s rfl) rfl (HasG.s rfl)) ?_
 refine wo (Spec.len (Has.s rfl) Try.underlying38) ?_
 refine wo (Spec.move Has.int) ?_
 refine Walk.nil ?_
 refine Leaf.thenN ?_
 refine CWalk.block ?_
 obtain ⟨b7, hb7, hm⟩ := bind_some hm
 refine CWalk.loop (fun s : Int × (List (List UInt8)) => [.fact 1 (.isv 10), .fact 2 (.isv 14), .fact 3 (.isv 18), .fact 12 (.rep [0] a0.Blocks), .fact 13 (.rep [] (((a0.Blocks).length : Int) : Int)), .fact 14 (.rep [] s.1), .fact 100011 (.at 11 (.rep [0] a0.Blocks)), .fact 100012 (.at 12 (.rep [0] a0.Wait)), .fact 100013 (.at 13 (.rep [] a0.Dead)), .fact 100015 (.at 15 (.nilv)), .fact 100016 (.at 16 (.nilv)), .fact 100017 (.at 17 (.rep [] (false : Bool))), .fact 100019 (.at 19 (.ow [24] [22, 23] 54 (s.2 : List (List UInt8)))), .fact 100020 (.at 20 (.nilv)), .fact 100021 (.at 21 (.rep [] a0.Dead)), .fact 100010 (.obj 10 [(false, 1), (false, 1), (false, 1)]), .fact 100014 (.obj 14 [(false, 1), (false, 1), (false, 1)]), .fact 100018 (.obj 18 [(false, 1), (false, 1), (false, 1)])]) (fun b : (List (List UInt8)) => (Exit.exit 0, [.fact 1 (.isv 10), .fact 2 (.isv 14), .fact 3 (.isv 18), .fact 100011 (.at 11 (.rep [0] a0.Blocks)), .fact 100012 (.at 12 (.rep [0] a0.Wait)), .fact 100013 (.at 13 (.rep [] a0.Dead)), .fact 100015 (.at 15 (.nilv)), .fact 100016 (.at 16 (.nilv)), .fact 100017 (.at 17 (.rep [] (false : Bool))), .fact 100019 (.at 19 (.ow [24] [22, 23] 54 (b : List (List UInt8)))), .fact 100020 (.at 20 (.nilv)), .fact 100021 (.at 21 (.rep [] a0.Dead)), .fact 100010 (.obj 10 [(false, 1), (false, 1), (false, 1)]), .fact 100014 (.obj 14 [(false, 1), (false, 1), (false, 1)]), .fact 100018 (.obj 18 [(false, 1), (false, 1), (false, 1)])])) hb7 (sn (sn (sn (su (st (st (sm (sm (sf (sg (sg (sf (Sub.cons (Has.at (HasG.cv (HasG.s rfl) (Cv.trans Cv.nilOw (Cv.owM (T := []) (te := []) rfl rfl)))) (sg (sf (sn (sn (sn Sub.nil)))))))))))))))))) ?_ ?_
 ·rintro ⟨s1, s2⟩ c3 hm
  replace hm : disk_Twin_L1 a0 s1 s2 = some c3 := hm
  unfold disk_Twin_L1 at hm
  show CWalk _ [.fact 1 (.isv 10), .fact 2 (.isv 14), .fact 3 (.isv 18), .fact 12 (.rep [0] a0.Blocks), .fact 13 (.rep [] (((a0.Blocks).length : Int) : Int)), .fact 14 (.rep [] (s1 : Int)), .fact 100011 (.at 11 (.rep [0] a0.Blocks)), .fact 100012 (.at 12 (.rep [0] a0.Wait)), .fact 100013 (.at 13 (.rep [] a0.Dead)), .fact 100015 (.at 15 (.nilv)), .fact 100016 (.at 16 (.nilv)), .fact 100017 (.at 17 (.rep [] (false : Bool))), .fact 100019 (.at 19 (.ow [24] [22, 23] 54 (s2 : List (List UInt8)))), .fact 100020 (.at 20 (.nilv)), .fact 100021 (.at 21 (.rep [] a0.Dead)), .fact 100010 (.obj 10 [(false, 1), (false, 1), (false, 1)]), .fact 100014 (.obj 14 [(false, 1), (false, 1), (false, 1)]), .fact 100018 (.obj 18 [(false, 1), (false, 1), (false, 1)])] _ _
  refine CWalk.seq ?_
  refine CWalk.region ?_
  refine wo (Spec.lssI (Has.s rfl) (Has.s rfl)) ?_
  refine Walk.nil ?_
  refine Leaf.thenN ?_
  refine CWalk.seq ?_
  refine CWalk.cond rfl (fun hb => ?_) (fun hb => ?_)
  ·have hm := cond_t hb hm
   refine CWalk.skip ?_
   refine Leaf.thenN ?_
   refine CWalk.seq ?_
   refine CWalk.block ?_
   refine CWalk.seq ?_
   refine CWalk.region ?_
   obtain ⟨x4, hx4, hm⟩ := bind_some hm
   refine wo (Spec.indexAddr hx4 sl38 (Has.s rfl) (Has.s rfl)) ?_
   refine wo (Spec.load ty54 (Has.s rfl)) ?_
   refine wo (Spec.assign (Has.s rfl)) ?_
   refine Walk.nil ?_
   refine Leaf.thenN ?_
   obtain ⟨x5, hx5, hm⟩ := bind_some hm
   obtain ⟨x6, hx6, hm⟩ := bind_some hm
   refine CWalk.drawM [[], [0], [], [2], [2, 3], [0, 1, 2, 3, 4], [0, 1, 2, 3, 4, 5], [0, 1, 2, 3, 4, 5, 6]] [[.fact 18 (.pto 18 0)], [.fact 19 (.ow [24] [22, 23] 54 (s2 : List (List UInt8)))], [.fact 20 (.rep [0] (x4 : List UInt8))], [.fact 21 (.ow [22] [] 5 (x5 : List UInt8))], [.fact 22 (.rep [23, 22] ([x5] : List (List UInt8)))], [.fact 23 (.ow [24] [22, 23] 54 (x6 : List (List UInt8))), .kill 24], [.fact 24 (.pto 18 0)], [.fact 100019 (.at 19 (.ow [24] [22, 23] 54 (x6 : List (List UInt8)))), .fact 100018 (.obj 18 [(false, 1), (false, 1), (false, 1)]), .kill 18, .killId 19]] mixed (by kernel_rfl) (ao (so (Spec.fieldAddrO fd41_0 (Has.cv (Has.s rfl) (Cv.isvP rfl)))) (ao (so (Spec.loadF (i := 0) ty38 rfl (Has.s rfl) rfl (HasG.s rfl))) (ao (so (Spec.move (Has.s rfl))) (ao (so (Spec.callE [0] 22 rfl en55 (slices_Clone_byte_byte_c x4 hx5) (HasAll.cons (Has.m (Has.s rfl) rfl) HasAll.nil))) (ao (so (Spec.lit (xs := [.tmp 21]) (T := [22]) 23 rfl ow38 rfl rfl rfl rfl (HasEach.cons (Has.m (Has.cv (Has.s rfl) (Cv.trans Cv.owSl (Cv.slRep (T' := [22]) rfl rfl))) rfl) HasEach.nil))) (ao (StepG.stE (Step.appendOw (T := [24]) (te' := [22, 23]) hx6 rfl rfl rfl ow38 (Has.s rfl) (Has.s rfl) (ElKeeps.tags rfl rfl) (ElKeeps.tags rfl rfl))) (ao (so (Spec.fieldAddrO fd41_0 (Has.cv (Has.s rfl) (Cv.isvP rfl)))) (ao (StepG.stE (Step.storeF (i := 0) (f := Fact.ow [24] [22, 23] 54 (x6 : List (List UInt8))) rfl ty38 rfl (Has.s rfl) rfl (Has.cv (Has.s rfl) (Cv.trans Cv.owSl (Cv.slRep (T' := [22, 23, 24]) rfl rfl))) (Has.s rfl) rfl)) AllM.nil)))))))) ?_
   refine Leaf.blockN ?_
   refine Leaf.thenN ?_
   refine CWalk.region ?_
   refine wo (Spec.addI (Has.s rfl) Has.int) ?_
   refine mv ?_
   refine Walk.nil ?_
   exact Leaf.next hm (sn (sn (sn (su (st (st (sm (sm (sf (sg (sg (sf (Sub.cons (Has.at (HasG.cv (HasG.s rfl) (Cv.owM (T := [24]) (te := [22, 23]) rfl rfl))) (sg (sf (sn (sn (sn Sub.nil))))))))))))))))))
  ·have hm := cond_f hb hm
   refine CWalk.exit ?_
   refine Leaf.thenE ?_
   exact Leaf.brk hm (fun h => nomatch h) rfl (sn (sn (sn (sm (sm (sf (sg (sg (sf (Sub.cons (Has.at (HasG.cv (HasG.s rfl) (Cv.owM (T := [24]) (te := [22, 23]) rfl rfl))) (sg (sf (sn (sn (sn Sub.nil)))))))))))))))
 ·intro _
  refine Leaf.blockE ?_
  refine Leaf.thenN ?_
  refine CWalk.seq ?_
  refine CWalk.seq ?_
  refine CWalk.region ?_
  refine wo (Spec.fieldAddrO fd41_1 (Has.cv (Has.s rfl) (Cv.isvP rfl))) ?_
  refine wo (Spec.loadF (i := 1) ty39 rfl (Has.s rfl) rfl (HasG.s rfl)) ?_
  refine wo (Spec.len (Has.s rfl) Try.underlying39) ?_
  refine wo (Spec.move Has.int) ?_
  refine Walk.nil ?_
  refine Leaf.thenN ?_
  refine CWalk.block ?_
  obtain ⟨b14, hb14, hm⟩ := bind_some hm
  refine CWalk.loop (fun s : Int × (List Write) => [.fact 2 (.isv 14), .fact 3 (.isv 18), .fact 27 (.rep [0] a0.Wait), .fact 28 (.rep [] (((a0.Wait).length : Int) : Int)), .fact 29 (.rep [] s.1), .fact 100015 (.at 15 (.nilv)), .fact 100016 (.at 16 (.nilv)), .fact 100017 (.at 17 (.rep [] (false : Bool))), .fact 100019 (.at 19 (.ow [24] [22, 23] 54 (b7 : List (List UInt8)))), .fact 100020 (.at 20 (.ow [30] [28, 29] 58 (s.2 : List Write))), .fact 100021 (.at 21 (.rep [] a0.Dead)), .fact 100014 (.obj 14 [(false, 1), (false, 1), (false, 1)]), .fact 100018 (.obj 18 [(false, 1), (false, 1), (false, 1)])]) (fun b : (List Write) => (Exit.exit 2, [.fact 2 (.isv 14), .fact 3 (.isv 18), .fact 100015 (.at 15 (.nilv)), .fact 100016 (.at 16 (.nilv)), .fact 100017 (.at 17 (.rep [] (false : Bool))), .fact 100019 (.at 19 (.ow [24] [22, 23] 54 (b7 : List (List UInt8)))), .fact 100020 (.at 20 (.ow [30] [28, 29] 58 (b : List Write))), .fact 100021 (.at 21 (.rep [] a0.Dead)), .fact 100014 (.obj 14 [(false, 1), (false, 1), (false, 1)]), .fact 100018 (.obj 18 [(false, 1), (false, 1), (false, 1)])])) hb14 (sn (sn (su (st (st (sg (sg (sf (Sub.cons (Has.at (HasG.cv (HasG.s rfl) (Cv.owM (T := [24]) (te := [22, 23]) rfl rfl))) (Sub.cons (Has.at (HasG.cv (HasG.s rfl) (Cv.trans Cv.nilOw (Cv.owM (T := []) (te := []) rfl rfl)))) (sf (sn (sn Sub.nil))))))))))))) ?_ ?_
  ·rintro ⟨s8, s9⟩ c10 hm
   replace hm : disk_Twin_L2 a0 s8 s9 = some c10 := hm
   unfold disk_Twin_L2 at hm
   show CWalk _ [.fact 2 (.isv 14), .fact 3 (.isv 18), .fact 27 (.rep [0] a0.Wait), .fact 28 (.rep [] (((a0.Wait).length : Int) : Int)), .fact 29 (.rep [] (s8 : Int)), .fact 100015 (.at 15 (.nilv)), .fact 100016 (.at 16 (.nilv)), .fact 100017 (.at 17 (.rep [] (false : Bool))), .fact 100019 (.at 19 (.ow [24] [22, 23] 54 (b7 : List (List UInt8)))), .fact 100020 (.at 20 (.ow [30] [28, 29] 58 (s9 : List Write))), .fact 100021 (.at 21 (.rep [] a0.Dead)), .fact 100014 (.obj 14 [(false, 1), (false, 1), (false, 1)]), .fact 100018 (.obj 18 [(false, 1), (false, 1), (false, 1)])] _ _
   refine CWalk.seq ?_
   refine CWalk.region ?_
   refine wo (Spec.lssI (Has.s rfl) (Has.s rfl)) ?_
   refine Walk.nil ?_
   refine Leaf.thenN ?_
   refine CWalk.seq ?_
   refine CWalk.cond rfl (fun hb => ?_) (fun hb => ?_)
   ·have hm := cond_t hb hm
    refine CWalk.skip ?_
    refine Leaf.thenN ?_
    refine CWalk.seq ?_
    refine CWalk.block ?_
    refine CWalk.seq ?_
    refine CWalk.region ?_
    obtain ⟨x11, hx11, hm⟩ := bind_some hm
    refine wo (Spec.indexAddr hx11 sl39 (Has.s rfl) (Has.s rfl)) ?_
    refine wo (Spec.load ty58 (Has.s rfl)) ?_
    refine ws (Step.allocObj (ls := [(false, 1, Fact.rep [] ((0 : Int) : Int)), (false, 1, Fact.nilv)]) 25 rfl rfl rfl rfl zl58) ?_
    refine ws (Step.storeObj (ls := [(false, 1, Fact.rep [] x11.At), (false, 1, Fact.rep [0] x11.Data)]) rfl ty58 rfl rfl (Has.s rfl) rfl (HasL.flds (Has.cv (Has.s rfl) (Cv.trans (Cv.opens (chWrite x11)) (Cv.flds (CvL.cons Cv.fl (CvL.cons Cv.refl CvL.nil)))))) rfl) ?_
    refine Walk.nil ?_
    refine Leaf.thenN ?_
    obtain ⟨x12, hx12, hm⟩ := bind_some hm
    obtain ⟨x13, hx13, hm⟩ := bind_some hm
    refine CWalk.drawM [[], [0], [], [2], [], [4], [4, 5], [2, 3, 4, 5, 6], [2, 3, 4, 5, 6, 7], [0, 1, 2, 3, 4, 5, 6, 7, 8], [0, 1, 2, 3, 4, 5, 6, 7, 8, 9], [0, 1, 2, 3, 4, 5, 6, 7, 8, 9, 10]] [[.fact 33 (.pto 18 1)], [.fact 34 (.ow [30] [28, 29] 58 (s9 : List Write))], [.fact 35 (.pto 25 0)], [.fact 36 (.rep [] x11.At)], [.fact 37 (.pto 25 1)], [.fact 38 (.rep [0] x11.Data)], [.fact 39 (.ow [28] [] 5 (x12 : List UInt8))], [.fact 40 (.flds [(false, 1, Fact.rep [] x11.At), (false, 1, Fact.ow [28] [] 5 (x12 : List UInt8))])], [.fact 41 (.rep [29, 28] ([(Write.mk x11.At x12)] : List Write))], [.fact 42 (.ow [30] [28, 29] 58 (x13 : List Write)), .kill 30], [.fact 43 (.pto 18 1)], [.fact 100020 (.at 20 (.ow [30] [28, 29] 58 (x13 : List Write))), .fact 100018 (.obj 18 [(false, 1), (false, 1), (false, 1)]), .kill 18, .killId 20]] mixed (by kernel_rfl) (ao (so (Spec.fieldAddrO fd41_1 (Has.cv (Has.s rfl) (Cv.isvP rfl)))) (ao (so (Spec.loadF (i := 1) ty39 rfl (Has.s rfl) rfl (HasG.s rfl))) (ao (so (Spec.fieldAddrO fd58_0 (Has.cv (Has.s rfl) (Cv.isvP rfl)))) (ao (so (Spec.loadF (i := 0) ty3 rfl (Has.s rfl) rfl (HasG.s rfl))) (ao (so (Spec.fieldAddrO fd58_1 (Has.cv (Has.s rfl) (Cv.isvP rfl)))) (ao (so (Spec.loadF (i := 1) ty54 rfl (Has.s rfl) rfl (HasG.s rfl))) (ao (so (Spec.callE [0] 28 rfl en55 (slices_Clone_byte_byte_c x11.Data hx12) (HasAll.cons (Has.m (Has.s rfl) rfl) HasAll.nil))) (ao (so (Spec.build (us := [(0, .tmp 36), (1, .tmp 39)]) (ls' := [(false, 1, Fact.rep [] x11.At), (false, 1, Fact.ow [28] [] 5 (x12 : List UInt8))]) bd58 rfl (BP.cons rfl rfl (Has.s rfl) (Has.s rfl) (BP.cons rfl rfl (Has.cv (Has.s rfl) (Cv.trans Cv.owSl (Cv.slRep (T' := [28]) rfl rfl))) (Has.s rfl) BP.nil)))) (ao (so (Spec.lit (xs := [.tmp 40]) (T := [28]) 29 rfl ow39 rfl rfl rfl rfl (HasEach.cons (Has.m (Has.cv (Has.s rfl) (Cv.trans (Cv.flds (CvL.cons Cv.fl (CvL.cons (Cv.trans (Cv.trans Cv.owSl (Cv.slRep (T' := [28]) rfl rfl)) (Cv.m rfl)) CvL.nil))) (Cv.close (T := [28]) (chWrite (Write.mk x11.At x12))))) rfl) HasEach.nil))) (ao (StepG.stE (Step.appendOw (T := [30]) (te' := [28, 29]) hx13 rfl rfl rfl ow39 (Has.s rfl) (Has.s rfl) (ElKeeps.tags rfl rfl) (ElKeeps.tags rfl rfl))) (ao (so (Spec.fieldAddrO fd41_1 (Has.cv (Has.s rfl) (Cv.isvP rfl)))) (ao (StepG.stE (Step.storeF (i := 1) (f := Fact.ow [30] [28, 29] 58 (x13 : List Write)) rfl ty39 rfl (Has.s rfl) rfl (Has.cv (Has.s rfl) (Cv.trans Cv.owSl (Cv.slRep (T' := [28, 29, 30]) rfl rfl))) (Has.s rfl) rfl)) AllM.nil)))))))))))) ?_
    refine Leaf.blockN ?_
    refine Leaf.thenN ?_
    refine CWalk.region ?_
    refine wo (Spec.addI (Has.s rfl) Has.int) ?_
    refine mv ?_
    refine Walk.nil ?_
    exact Leaf.next hm (sn (sn (su (st (st (sg (sg (sf (Sub.cons (Has.at (HasG.cv (HasG.s rfl) (Cv.owM (T := [24]) (te := [22, 23]) rfl rfl))) (Sub.cons (Has.at (HasG.cv (HasG.s rfl) (Cv.owM (T := [30]) (te := [28, 29]) rfl rfl))) (sf (sn (sn Sub.nil)))))))))))))
   ·have hm := cond_f hb hm
    refine CWalk.exit ?_
    refine Leaf.thenE ?_
    exact Leaf.brk hm (fun h => nomatch h) rfl (sn (sn (sg (sg (sf (Sub.cons (Has.at (HasG.cv (HasG.s rfl) (Cv.owM (T := [24]) (te := [22, 23]) rfl rfl))) (Sub.cons (Has.at (HasG.cv (HasG.s rfl) (Cv.owM (T := [30]) (te := [28, 29]) rfl rfl))) (sf (sn (sn Sub.nil))))))))))
  ·intro _
   refine Leaf.blockE ?_
   refine Leaf.thenN ?_
   refine CWalk.seq ?_
   refine CWalk.region ?_
   refine wo (Spec.loadObj (ls := [(false, 1, Fact.ow [24] [22, 23] 54 (b7 : List (List UInt8))), (false, 1, Fact.ow [30] [28, 29] 58 (b14 : List Write)), (false, 1, Fact.rep [] a0.Dead)]) ty41 rfl rfl (Has.s rfl) rfl (HasGs.cons (HasG.s rfl) (HasGs.cons (HasG.s rfl) (HasGs.cons (HasG.s rfl) HasGs.nil)))) ?_
   refine ws (Step.storeObj (ls := [(false, 1, Fact.ow [24] [22, 23] 54 (b7 : List (List UInt8))), (false, 1, Fact.ow [30] [28, 29] 58 (b14 : List Write)), (false, 1, Fact.rep [] a0.Dead)]) rfl ty41 rfl rfl (Has.s rfl) rfl (HasL.flds (Has.s rfl)) rfl) ?_
   refine Walk.nil ?_
   refine Leaf.thenN ?_
   refine CWalk.ret ?_
   obtain rfl := Option.some.inj hm
   exact Leaf.retC1 rfl (HasR.cv (HasR.obj (ls := [(false, 1, Fact.ow [24] [22, 23] 54 (b7 : List (List UInt8))), (false, 1, Fact.ow [30] [28, 29] 58 (b14 : List Write)), (false, 1, Fact.rep [] a0.Dead)]) ty41 rfl rfl (Has.s rfl) rfl (HasGs.cons (HasG.s rfl) (HasGs.cons (HasG.s rfl) (HasGs.cons (HasG.s rfl) HasGs.nil)))) (Cv.flds (CvL.cons (Cv.owM (T := [24]) (te := [22, 23]) rfl rfl) (CvL.cons (Cv.owM (T := [30]) (te := [28, 29]) rfl rfl) (CvL.cons Cv.fl CvL.nil)))))

def acts_Crash_J4 (s11 : Int) (j14 : List (List UInt8)) : Option (Ctl (Int × (List (List UInt8))) ((List (List UInt8)))) :=
  some (Ctl.next ((wI (s11 + (1 : Int))), j14))
def acts_Crash_L3 (s5 : List Bool) (x10 : Disk) (s11 : Int) (s12 : List (List UInt8)) : Option (Ctl (Int × (List (List UInt8))) ((List (List UInt8)))) :=
  (bif (decide (s11 < ((x10.Wait).length : Int))) then Option.bind (idx x10.Wait s11) (fun x15 => Option.bind (idx s5 s11) (fun x16 => (bif x16 then Option.bind (bnd (s12).length x15.At) (fun x17 => (acts_Crash_J4 s11 ((s12).set x17 x15.Data))) else (acts_Crash_J4 s11 s12)))) else some (Ctl.brk s12))
def acts_Crash_L2 (j4 : List Disk) (s5 : List Bool) (s6 : List Disk) (s7 : Int) : Option (Ctl ((List Bool) × (List Disk) × Int) ((List Disk))) :=
  (bif (decide (s7 < ((j4).length : Int))) then Option.bind (bnd (s6).length s7) (fun x9 => Option.bind ((s6)[x9]?) (fun x10 => Option.bind (loopM (fun s : Int × (List (List UInt8)) => acts_Crash_L3 s5 x10 s.1 s.2) FUEL ((0 : Int), x10.Blocks)) (fun b18 => Option.bind (slc s5 ((x10.Wait).length : Int) ((s5).length)) (fun x19 => Option.bind (disk_Twin (Disk.mk b18 ([] : List Write) x10.Dead)) (fun x20 => some (Ctl.next (x19, (s6).set x9 x20, (wI (s7 + (1 : Int)))))))))) else some (Ctl.brk s6))
def acts_Crash_J1 (x3 : List Bool) (j4 : List Disk) : Option ((List Disk) × Int) :=
  Option.bind (loopM (fun s : (List Bool) × (List Disk) × Int => acts_Crash_L2 j4 s.1 s.2.1 s.2.2) FUEL (x3, j4, (0 : Int))) (fun b21 => some (b21, (0 : Int)))
def acts_Crash_L5 (a0 : List Disk) (s22 : List Disk) (s23 : Int) : Option (Ctl ((List Disk) × Int) ((List Disk))) :=
  (bif (decide (s23 < ((a0).length : Int))) then Option.bind (idx a0 s23) (fun x25 => Option.bind (disk_Twin x25) (fun x26 => Option.bind (app s22 ([x26])) (fun x27 => some (Ctl.next (x27, (wI (s23 + (1 : Int)))))))) else some (Ctl.brk s22))
/-- freeboard/acts.Crash -/
def acts_Crash (a0 : List Disk) (a1 : List Bool) : Option ((List Disk) × Int) :=
  Option.bind (acts_Waits a0) (fun x1 => (bif (x1.2 != (0 : Int)) then some (([] : List Disk), x1.2) else (bif (decide (((a1).length : Int) > x1.1)) then some (([] : List Disk), (2 : Int)) else Option.bind (slc a1 0 ((a1).length : Int)) (fun x2 => Option.bind (appZ false x2 (wI (x1.1 - ((a1).length : Int)))) (fun x3 => Option.bind (loopM (fun s : (List Disk) × Int => acts_Crash_L5 a0 s.1 s.2) FUEL (([] : List Disk), (0 : Int))) (fun b28 => (acts_Crash_J1 x3 b28)))))))
set_option maxRecDepth 100000 in
set_option maxHeartbeats 2000000 in
theorem acts_Crash_c (a0 : List Disk) (a1 : List Bool) {r : (List Disk) × Int} (hm : acts_Crash a0 a1 = some r) : Ctr Try.prog 11 [.rep 0 a0, .rep 0 a1] (.tup2 (.own 0 (some 1) 41 r.1) (.fl r.2)) [] := by
 refine ctr_of_walk [[21, 23], [17, 18, 19, 22, 34, 35, 36]] 90 Try.func11 rfl rfl rfl rfl (fun w0 om => ?_)
 unfold acts_Crash at hm
 refine CWalk.sub (G' := [.fact 0 (.rep [0] (a0 : List Disk)), .fact 1 (.rep [0] (a1 : List Bool))]) (sn (sn Sub.nil)) ?_
 refine CWalk.seq ?_
 refine CWalk.region ?_
 refine wo (Spec.assign Has.nilv) ?_
 refine wo (Spec.assign Has.int) ?_
 refine Walk.nil ?_
 refine Leaf.thenN ?_
 refine CWalk.seq ?_
 refine CWalk.region ?_
 refine mv ?_
 obtain ⟨x1, hx1, hm⟩ := bind_some hm
 refine wo (f := Fact.tup2 (Fact.rep [] x1.1) (Fact.rep [] x1.2)) (Spec.callE [0] 10 rfl en13 (acts_Waits_c a0 hx1) (HasAll.cons (Has.m (Has.s rfl) rfl) HasAll.nil)) ?_
 refine mv ?_
 refine wo (Spec.ext0 (Has.s rfl)) ?_
 refine wo (Spec.ext1 (Has.s rfl)) ?_
 refine wo (Spec.assign (Has.s rfl)) ?_
 refine wo (Spec.assign (Has.s rfl)) ?_
 refine Walk.nil ?_
 refine Leaf.thenN ?_
 refine CWalk.seq ?_
 refine CWalk.seq ?_
 refine CWalk.region ?_
 refine mv ?_
 refine wo (Spec.neqI (Has.s rfl) Has.int) ?_
 refine Walk.nil ?_
 refine Leaf.thenN ?_
 refine CWalk.cond rfl (fun hb => ?_) (fun hb => ?_)
 ·have hm := cond_t hb hm
  refine CWalk.seq ?_
  refine CWalk.region ?_
  refine mv ?_
  refine wo (Spec.assign Has.nilv) ?_
  refine wo (Spec.assign (Has.s rfl)) ?_
  refine Walk.nil ?_
  refine Leaf.thenN ?_
  refine CWalk.ret ?_
  refine Leaf.thenR ?_
  obtain rfl := Option.some.inj hm
  exact Leaf.retC2 rfl (HasR.cv (HasR.tmp (Has.s rfl)) (Cv.trans Cv.nilOw (Cv.owM (T := []) (te := []) rfl rfl))) (HasR.cv (HasR.tmp (Has.s rfl)) Cv.fl)
 ·have hm := cond_f hb hm
  refine CWalk.skip ?_
  refine Leaf.thenN ?_
  refine CWalk.seq ?_
  refine CWalk.seq ?_
  refine CWalk.region ?_
  refine mv ?_
  refine wo (Spec.len (Has.s rfl) Try.underlying23) ?_
  refine mv ?_
  refine wo (Spec.gtrI (Has.s rfl) (Has.s rfl)) ?_
  refine Walk.nil ?_
  refine Leaf.thenN ?_
  refine CWalk.cond rfl (fun hb => ?_) (fun hb => ?_)
  ·have hm := cond_t hb hm
   refine CWalk.seq ?_
   refine CWalk.region ?_
   refine wo (Spec.assign Has.nilv) ?_
   refine wo (Spec.assign Has.int) ?_
   refine Walk.nil ?_
   refine Leaf.thenN ?_
   refine CWalk.ret ?_
   refine Leaf.thenR ?_
   obtain rfl := Option.some.inj hm
   exact Leaf.retC2 rfl (HasR.cv (HasR.tmp (Has.s rfl)) (Cv.trans Cv.nilOw (Cv.owM (T := []) (te := []) rfl rfl))) (HasR.cv (HasR.tmp (Has.s rfl)) Cv.fl)
  ·have hm := cond_f hb hm
   refine CWalk.skip ?_
   refine Leaf.thenN ?_
   refine CWalk.seq ?_
   refine CWalk.region ?_
   refine mv ?_
   refine mv ?_
   refine wo (Spec.len (Has.s rfl) Try.underlying23) ?_
   refine mv ?_
   refine wo (Spec.len (Has.s rfl) Try.underlying23) ?_
   obtain ⟨x2, hx2, hm⟩ := bind_some hm
   refine wo (Spec.slc3 hx2 sl23 (Has.s rfl) (Has.s rfl) (Has.s rfl)) ?_
   refine mv ?_
   refine mv ?_
   refine wo (Spec.len (Has.s rfl) Try.underlying23) ?_
   refine wo (Spec.subI (Has.s rfl) (Has.s rfl)) ?_
   obtain ⟨x3, hx3, hm⟩ := bind_some hm
   refine wo (Spec.appZ 11 hx3 rfl ow23 zt4 Try.underlying3 (Has.s rfl) (Has.s rfl)) ?_
   refine wo (Spec.assign (Has.s rfl)) ?_
   refine Walk.nil ?_
   refine Leaf.thenN ?_
   refine CWalk.seq ?_
   refine CWalk.region ?_
   refine mv ?_
   refine Walk.inline (S := (List Disk)) (fun p : (List Disk) => [.fact 8 (.rep [0, 11] (x3 : List Bool)), .fact 38 (.ow2 hd41 [21] [22] [17, 18, 19] 41 54 (p : List Disk))]) (fun p : (List Disk) => acts_Crash_J1 x3 p = some r) (fun u1 => [.fact 902008 (.cst (u1 8) (Fact.rep [11, 0] (x3 : List Bool)))]) (FA := [Fact.rep [0] (a0 : List Disk)]) rfl Try.func35 rfl rfl rfl (CallOk.fn en35 (HasF.cons (Has.s rfl) HasF.nil)) (fun u1 => (cs 902000 8 Carry.nil)) (fun u1 => ?_) ?_
   ·refine CWalk.seq ?_
    refine CWalk.region ?_
    refine wo (Spec.assign Has.nilv) ?_
    refine Walk.nil ?_
    refine Leaf.thenN ?_
    refine CWalk.seq ?_
    refine CWalk.region ?_
    refine wo (Spec.assign Has.nilv) ?_
    refine Walk.nil ?_
    refine Leaf.thenN ?_
    refine CWalk.seq ?_
    refine CWalk.seq ?_
    refine CWalk.region ?_
    refine mv ?_
    refine wo (Spec.len (Has.s rfl) Try.underlying22) ?_
    refine wo (Spec.move Has.int) ?_
    refine Walk.nil ?_
    refine Leaf.thenN ?_
    refine CWalk.block ?_
    obtain ⟨b28, hb28, hm⟩ := bind_some hm
    refine CWalk.loop (fun s : (List Disk) × Int => [.fact 3 (.ow2 hd41 [21] [22] [17, 18, 19] 41 54 (s.1 : List Disk)), .fact 6 (.rep [0] (a0 : List Disk)), .fact 7 (.rep [] (((a0).length : Int) : Int)), .fact 8 (.rep [] s.2), .fact 902008 (.cst (u1 8) (Fact.rep [0, 11] (x3 : List Bool)))]) (fun b : (List Disk) => (Exit.exit 0, [.fact 3 (.ow2 hd41 [21] [22] [17, 18, 19] 41 54 (b : List Disk)), .fact 902008 (.cst (u1 8) (Fact.rep [0, 11] (x3 : List Bool)))])) hb28 (Sub.cons (Has.cv (Has.s rfl) Cv.nilOw2) (su (st (st (Sub.cons (Has.cst (HasC.cv (HasC.s (s := 902008) rfl) (Cv.m rfl))) Sub.nil))))) ?_ ?_
    ·rintro ⟨s22, s23⟩ c24 hm
     replace hm : acts_Crash_L5 a0 s22 s23 = some c24 := hm
     unfold acts_Crash_L5 at hm
     show CWalk _ [.fact 3 (.ow2 hd41 [21] [22] [17, 18, 19] 41 54 (s22 : List Disk)), .fact 6 (.rep [0] (a0 : List Disk)), .fact 7 (.rep [] (((a0).length : Int) : Int)), .fact 8 (.rep [] (s23 : Int)), .fact 902008 (.cst (u1 8) (Fact.rep [0, 11] (x3 : List Bool)))] _ _
     refine CWalk.seq ?_
     refine CWalk.region ?_
     refine wo (Spec.lssI (Has.s rfl) (Has.s rfl)) ?_
     refine Walk.nil ?_
     refine Leaf.thenN ?_
     refine CWalk.seq ?_
     refine CWalk.cond rfl (fun hb => ?_) (fun hb => ?_)
     ·have hm := cond_t hb hm
      refine CWalk.skip ?_
      refine Leaf.thenN ?_
      refine CWalk.seq ?_
      refine CWalk.block ?_
      refine CWalk.seq ?_
      refine CWalk.region ?_
      obtain ⟨x25, hx25, hm⟩ := bind_some hm
      refine wo (Spec.indexAddr hx25 sl22 (Has.s rfl) (Has.s rfl)) ?_
      refine wo (Spec.load ty41 (Has.s rfl)) ?_
      refine ws (Step.allocObj (ls := [(false, 1, Fact.nilv), (false, 1, Fact.nilv), (false, 1, Fact.rep [] (false : Bool))]) 12 rfl rfl rfl rfl zl41) ?_
      refine ws (Step.storeObj (ls := [(false, 1, Fact.rep [0] x25.Blocks), (false, 1, Fact.rep [0] x25.Wait), (false, 1, Fact.rep [] x25.Dead)]) rfl ty41 rfl rfl (Has.s rfl) rfl (HasL.flds (Has.cv (Has.s rfl) (Cv.trans (Cv.opens (chDisk x25)) (Cv.flds (CvL.cons Cv.refl (CvL.cons Cv.refl (CvL.cons Cv.fl CvL.nil))))))) rfl) ?_
      refine Walk.nil ?_
      refine Leaf.thenN ?_
      refine CWalk.region ?_
      refine mv ?_
      refine wo (Spec.loadObj (ls := [(false, 1, Fact.rep [0] x25.Blocks), (false, 1, Fact.rep [0] x25.Wait), (false, 1, Fact.rep [] x25.Dead)]) ty41 rfl rfl (Has.s rfl) rfl (HasGs.cons (HasG.s rfl) (HasGs.cons (HasG.s rfl) (HasGs.cons (HasG.s rfl) HasGs.nil)))) ?_
      obtain ⟨x26, hx26, hm⟩ := bind_some hm
      refine wo (f := Fact.flds [(false, 1, Fact.ow [16] [17] 54 (x26.Blocks : List (List UInt8))), (false, 1, Fact.ow [18] [19] 58 (x26.Wait : List Write)), (false, 1, Fact.rep [] x26.Dead)]) (Spec.callE [0] 16 rfl en36 (disk_Twin_c x25 hx26) (HasAll.cons (Has.m (Has.cv (Has.s rfl) (Cv.trans (Cv.flds (CvL.cons (Cv.m rfl) (CvL.cons (Cv.m rfl) (CvL.cons Cv.fl CvL.nil)))) (Cv.close (T := [0]) (chDisk x25)))) rfl) HasAll.nil)) ?_
      refine wo (Spec.lit2 (y := x26) (es := [(⟨inferInstance, (x26.Wait : List Write)⟩ : Ent), (⟨inferInstance, (x26.Dead : Bool)⟩ : Ent)]) (T := [16]) (te := [17, 18, 19]) hd41 20 rfl ow22 rfl rfl rfl (hes41 x26) (Has.cv (Has.s rfl) (Cv.flds (CvL.cons (Cv.owM (T := [16]) (te := [17]) rfl rfl) (CvL.cons (Cv.trans (Cv.trans Cv.owSl (Cv.slRep (T' := [18, 19]) rfl rfl)) (Cv.m rfl)) (CvL.cons Cv.fl CvL.nil)))))) ?_
      obtain ⟨x27, hx27, hm⟩ := bind_some hm
      refine ws (Step.append2 (H := hd41) (T := [21]) (Tr := [22]) (te := [17, 18, 19]) (K := [16]) (te' := [17, 18, 19]) (teO := [17, 18, 19]) 22 hx27 rfl rfl rfl rfl rfl rfl ow22 rfl rfl rfl rfl (Has.s rfl) (Has.s rfl)) ?_
      refine wo (Spec.assign (Has.s rfl)) ?_
      refine Walk.nil ?_
      refine Leaf.blockN ?_
      refine Leaf.thenN ?_
      refine CWalk.region ?_
      refine wo (Spec.addI (Has.s rfl) Has.int) ?_
      refine mv ?_
      refine Walk.nil ?_
      exact Leaf.next hm (Sub.cons (Has.cv (Has.s rfl) (Cv.ow2M (T := [21]) (Tr := [22]) (te := [17, 18, 19]) rfl rfl rfl)) (su (st (st (Sub.cons (Has.cst (HasC.cv (HasC.s (s := 902008) rfl) (Cv.m rfl))) Sub.nil)))))
     ·have hm := cond_f hb hm
      refine CWalk.exit ?_
      refine Leaf.thenE ?_
      exact Leaf.brk hm (fun h => nomatch h) rfl (Sub.cons (Has.cv (Has.s rfl) (Cv.ow2M (T := [21]) (Tr := [22]) (te := [17, 18, 19]) rfl rfl rfl)) (Sub.cons (Has.cst (HasC.cv (HasC.s (s := 902008) rfl) (Cv.m rfl))) Sub.nil))
    ·intro _
     refine Leaf.blockE ?_
     refine Leaf.thenN ?_
     refine CWalk.seq ?_
     refine CWalk.region ?_
     refine mv ?_
     refine wo (Spec.assign (Has.s rfl)) ?_
     refine Walk.nil ?_
     refine Leaf.thenN ?_
     refine CWalk.ret ?_
     exact Leaf.in1 b28 hm rfl rfl (HasR.cv (HasR.tmp (Has.s rfl)) (Cv.ow2M (T := [21]) (Tr := [22]) (te := [17, 18, 19]) rfl rfl rfl)) (Low.slot rfl (HasC.cv (HasC.s (s := 902008) rfl) (Cv.m rfl)) (Low.res Low.nil))
   ·rintro j4 hm
    replace hm : acts_Crash_J1 x3 j4 = some r := hm
    unfold acts_Crash_J1 at hm
    show Walk _ _ _ [.fact 8 (.rep [0, 11] (x3 : List Bool)), .fact 38 (.ow2 hd41 [21] [22] [17, 18, 19] 41 54 (j4 : List Disk))] _
    refine wo (Spec.assign (Has.s rfl)) ?_
    refine Walk.nil ?_
    refine Leaf.thenN ?_
    refine CWalk.seq ?_
    refine CWalk.seq ?_
    refine CWalk.region ?_
    refine mv ?_
    refine wo (Spec.len (Has.cv (Has.s rfl) (Cv.trans Cv.ow2Ow (Cv.trans Cv.owSl (Cv.slRep (T' := [17, 18, 19, 21, 22]) rfl rfl)))) Try.underlying22) ?_
    refine wo (Spec.move Has.int) ?_
    refine Walk.nil ?_
    refine Leaf.thenN ?_
    refine CWalk.block ?_
    obtain ⟨b21, hb21, hm⟩ := bind_some hm
    refine CWalk.loop (fun s : (List Bool) × (List Disk) × Int => [.fact 8 (.rep [0, 11] s.1), .fact 9 (.ow2 hd41 [21, 23] [22] [17, 18, 19, 34, 35, 36] 41 54 (s.2.1 : List Disk)), .fact 40 (.rep [] (((j4).length : Int) : Int)), .fact 41 (.rep [] s.2.2)]) (fun b : (List Disk) => (Exit.exit 0, [.fact 9 (.ow2 hd41 [21, 23] [22] [17, 18, 19, 34, 35, 36] 41 54 (b : List Disk))])) hb21 (su (Sub.cons (Has.cv (Has.s rfl) (Cv.ow2M (T := [21]) (Tr := [22]) (te := [17, 18, 19]) rfl rfl rfl)) (st (st Sub.nil)))) ?_ ?_
    ·rintro ⟨s5, s6, s7⟩ c8 hm
     replace hm : acts_Crash_L2 j4 s5 s6 s7 = some c8 := hm
     unfold acts_Crash_L2 at hm
     show CWalk _ [.fact 8 (.rep [0, 11] (s5 : List Bool)), .fact 9 (.ow2 hd41 [21, 23] [22] [17, 18, 19, 34, 35, 36] 41 54 (s6 : List Disk)), .fact 40 (.rep [] (((j4).length : Int) : Int)), .fact 41 (.rep [] (s7 : Int))] _ _
     refine CWalk.seq ?_
     refine CWalk.region ?_
     refine wo (Spec.lssI (Has.s rfl) (Has.s rfl)) ?_
     refine Walk.nil ?_
     refine Leaf.thenN ?_
     refine CWalk.seq ?_
     refine CWalk.cond rfl (fun hb => ?_) (fun hb => ?_)
     ·have hm := cond_t hb hm
      refine CWalk.skip ?_
      refine Leaf.thenN ?_
      refine CWalk.seq ?_
      refine CWalk.block ?_
      refine CWalk.seq ?_
      refine CWalk.region ?_
      refine mv ?_
      refine wo (Spec.assign (Has.s rfl)) ?_
      refine Walk.nil ?_
      refine Leaf.thenN ?_
      refine CWalk.seq ?_
      refine CWalk.ad (Ad.ow2 (H := hd41) (s := 9) (T := [21, 23]) (Tr := [22]) (te := [17, 18, 19, 34, 35, 36]) 23 rfl rfl rfl rfl Cv.refl) ?_
      refine CWalk.region ?_
      refine mv ?_
      refine mv ?_
      obtain ⟨x9, hx9, hm⟩ := bind_some hm
      obtain ⟨x10, hx10, hm⟩ := bind_some hm
      refine Walk.ad (Ad.lend (ps := [(false, 1), (false, 1), (false, 1)]) (es := [(⟨inferInstance, (x10.Wait : List Write)⟩ : Ent), (⟨inferInstance, (x10.Dead : Bool)⟩ : Ent)]) hd41 23 24 28 rfl hx10 rfl (hes41 x10) rfl rfl rfl rfl rfl rfl) ?_
      refine wo (Spec.idxLent hx9 ow22 (Has.s rfl) rfl (Has.s rfl)) ?_
      refine wo (Spec.assign (Has.s rfl)) ?_
      refine Walk.nil ?_
      refine Leaf.thenN ?_
      refine CWalk.seq ?_
      refine CWalk.seq ?_
      refine CWalk.region ?_
      refine mv ?_
      refine wo (Spec.nilCheckO (Has.s rfl)) ?_
      refine wo (Spec.fieldAddrO fd41_1 (Has.s rfl)) ?_
      refine wo (Spec.loadFL (t := 23) (i := 1) hd41 ty39 rfl (Has.s rfl) rfl rfl (HasG.s rfl)) ?_
      refine wo (Spec.len (Has.s rfl) Try.underlying39) ?_
      refine wo (Spec.move Has.int) ?_
      refine Walk.nil ?_
      refine Leaf.thenN ?_
      refine CWalk.block ?_
      obtain ⟨b18, hb18, hm⟩ := bind_some hm
      refine CWalk.loop (fun s : Int × (List (List UInt8)) => [.fact 8 (.rep [0, 11] (s5 : List Bool)), .fact 9 (.isv 23), .fact 10 (.rep [] (s7 : Int)), .fact 11 (.pto 24 (x9 * Rp.n Disk)), .fact 40 (.rep [] (((j4).length : Int) : Int)), .fact 41 (.rep [] (s7 : Int)), .fact 50 (.rep [17, 18, 19, 34, 35, 36] x10.Wait), .fact 51 (.rep [] (((x10.Wait).length : Int) : Int)), .fact 52 (.rep [] s.1), .fact 100025 (.at 25 (.ow [28, 32] [17, 18, 19, 34, 35, 36] 54 (s.2 : List (List UInt8)))), .fact 100026 (.at 26 (.rep [17, 18, 19, 34, 35, 36] x10.Wait)), .fact 100027 (.at 27 (.rep [17, 18, 19, 34, 35, 36] x10.Dead)), .fact 100023 (.lent hd41 23 24 [22] [17, 18, 19, 34, 35, 36] 41 54 x9 (s6 : List Disk) [(false, 1), (false, 1), (false, 1)])]) (fun b : (List (List UInt8)) => (Exit.exit 2, [.fact 8 (.rep [0, 11] (s5 : List Bool)), .fact 9 (.isv 23), .fact 10 (.rep [] (s7 : Int)), .fact 11 (.pto 24 (x9 * Rp.n Disk)), .fact 40 (.rep [] (((j4).length : Int) : Int)), .fact 41 (.rep [] (s7 : Int)), .fact 100025 (.at 25 (.ow [28, 32] [17, 18, 19, 34, 35, 36] 54 (b : List (List UInt8)))), .fact 100026 (.at 26 (.rep [17, 18, 19, 34, 35, 36] x10.Wait)), .fact 100027 (.at 27 (.rep [17, 18, 19, 34, 35, 36] x10.Dead)), .fact 100023 (.lent hd41 23 24 [22] [17, 18, 19, 34, 35, 36] 41 54 x9 (s6 : List Disk) [(false, 1), (false, 1), (false, 1)])])) hb18 (su (sn (st (sn (st (st (su (st (st (Sub.cons (Has.at (HasG.cv (HasG.s rfl) (Cv.owM (T := [28]) (te := [17, 18, 19, 34, 35, 36]) rfl rfl))) (sm (sf (sn Sub.nil))))))))))))) ?_ ?_
      ·rintro ⟨s11, s12⟩ c13 hm
       replace hm : acts_Crash_L3 s5 x10 s11 s12 = some c13 := hm
       unfold acts_Crash_L3 at hm
       show CWalk _ [.fact 8 (.rep [0, 11] (s5 : List Bool)), .fact 9 (.isv 23), .fact 10 (.rep [] (s7 : Int)), .fact 11 (.pto 24 (x9 * Rp.n Disk)), .fact 40 (.rep [] (((j4).length : Int) : Int)), .fact 41 (.rep [] (s7 : Int)), .fact 50 (.rep [17, 18, 19, 34, 35, 36] x10.Wait), .fact 51 (.rep [] (((x10.Wait).length : Int) : Int)), .fact 52 (.rep [] (s11 : Int)), .fact 100025 (.at 25 (.ow [28, 32] [17, 18, 19, 34, 35, 36] 54 (s12 : List (List UInt8)))), .fact 100026 (.at 26 (.rep [17, 18, 19, 34, 35, 36] x10.Wait)), .fact 100027 (.at 27 (.rep [17, 18, 19, 34, 35, 36] x10.Dead)), .fact 100023 (.lent hd41 23 24 [22] [17, 18, 19, 34, 35, 36] 41 54 x9 (s6 : List Disk) [(false, 1), (false, 1), (false, 1)])] _ _
       refine CWalk.seq ?_
       refine CWalk.region ?_
       refine wo (Spec.lssI (Has.s rfl) (Has.s rfl)) ?_
       refine Walk.nil ?_
       refine Leaf.thenN ?_
       refine CWalk.seq ?_
       refine CWalk.cond rfl (fun hb => ?_) (fun hb => ?_)
       ·have hm := cond_t hb hm
        refine CWalk.skip ?_
        refine Leaf.thenN ?_
        refine CWalk.seqJ (fun p : (List (List UInt8)) => [.fact 8 (.rep [0, 11] (s5 : List Bool)), .fact 9 (.isv 23), .fact 10 (.rep [] (s7 : Int)), .fact 11 (.pto 24 (x9 * Rp.n Disk)), .fact 40 (.rep [] (((j4).length : Int) : Int)), .fact 41 (.rep [] (s7 : Int)), .fact 50 (.rep [17, 18, 19, 34, 35, 36] x10.Wait), .fact 51 (.rep [] (((x10.Wait).length : Int) : Int)), .fact 52 (.rep [] (s11 : Int)), .fact 100025 (.at 25 (.ow [28, 32] [17, 18, 19, 34, 35, 36] 54 (p : List (List UInt8)))), .fact 100026 (.at 26 (.rep [17, 18, 19, 34, 35, 36] x10.Wait)), .fact 100027 (.at 27 (.rep [17, 18, 19, 34, 35, 36] x10.Dead)), .fact 100023 (.lent hd41 23 24 [22] [17, 18, 19, 34, 35, 36] 41 54 x9 (s6 : List Disk) [(false, 1), (false, 1), (false, 1)])]) (fun p : (List (List UInt8)) => acts_Crash_J4 s11 p = some c13) ?_ ?_
        ·rintro j14 hm
         replace hm : acts_Crash_J4 s11 j14 = some c13 := hm
         unfold acts_Crash_J4 at hm
         show CWalk _ [.fact 8 (.rep [0, 11] (s5 : List Bool)), .fact 9 (.isv 23), .fact 10 (.rep [] (s7 : Int)), .fact 11 (.pto 24 (x9 * Rp.n Disk)), .fact 40 (.rep [] (((j4).length : Int) : Int)), .fact 41 (.rep [] (s7 : Int)), .fact 50 (.rep [17, 18, 19, 34, 35, 36] x10.Wait), .fact 51 (.rep [] (((x10.Wait).length : Int) : Int)), .fact 52 (.rep [] (s11 : Int)), .fact 100025 (.at 25 (.ow [28, 32] [17, 18, 19, 34, 35, 36] 54 (j14 : List (List UInt8)))), .fact 100026 (.at 26 (.rep [17, 18, 19, 34, 35, 36] x10.Wait)), .fact 100027 (.at 27 (.rep [17, 18, 19, 34, 35, 36] x10.Dead)), .fact 100023 (.lent hd41 23 24 [22] [17, 18, 19, 34, 35, 36] 41 54 x9 (s6 : List Disk) [(false, 1), (false, 1), (false, 1)])] _ _
         refine CWalk.region ?_
         refine wo (Spec.addI (Has.s rfl) Has.int) ?_
         refine mv ?_
         refine Walk.nil ?_
         exact Leaf.next hm (su (sn (st (sn (st (st (su (st (st (Sub.cons (Has.at (HasG.cv (HasG.s rfl) (Cv.owM (T := [28, 32]) (te := [17, 18, 19, 34, 35, 36]) rfl rfl))) (sm (sf (sn Sub.nil)))))))))))))
        ·refine CWalk.block ?_
         refine CWalk.seq ?_
         refine CWalk.region ?_
         refine mv ?_
         obtain ⟨x15, hx15, hm⟩ := bind_some hm
         refine wo (Spec.indexAddr hx15 sl39 (Has.s rfl) (Has.s rfl)) ?_
         refine wo (Spec.load ty58 (Has.s rfl)) ?_
         refine ws (Step.allocObj (ls := [(false, 1, Fact.rep [] ((0 : Int) : Int)), (false, 1, Fact.nilv)]) 29 rfl rfl rfl rfl zl58) ?_
         refine wo (Spec.assign (Has.s rfl)) ?_
         refine ws (Step.storeObj (ls := [(false, 1, Fact.rep [] x15.At), (false, 1, Fact.rep [17, 18, 19, 34, 35, 36] x15.Data)]) rfl ty58 rfl rfl (Has.s rfl) rfl (HasL.flds (Has.cv (Has.s rfl) (Cv.trans (Cv.opens (chWrite x15)) (Cv.flds (CvL.cons Cv.fl (CvL.cons Cv.refl CvL.nil)))))) rfl) ?_
         refine Walk.nil ?_
         refine Leaf.thenN ?_
         refine CWalk.seq ?_
         refine CWalk.region ?_
         refine mv ?_
         refine mv ?_
         obtain ⟨x16, hx16, hm⟩ := bind_some hm
         refine wo (Spec.indexAddr hx16 sl23 (Has.s rfl) (Has.s rfl)) ?_
         refine wo ((Spec.load ty4 (Has.s rfl)).flat (T' := [])) ?_
         refine Walk.nil ?_
         refine Leaf.thenN ?_
         refine CWalk.cond rfl (fun hb => ?_) (fun hb => ?_)
         ·have hm := cond_t hb hm
          refine CWalk.ad (Ad.owF (i := 25) 32 rfl rfl rfl (ElT.tags rfl) rfl (Cv.owM (T := [28, 32]) (te := [17, 18, 19, 34, 35, 36]) (T' := [28, 32]) (te' := [17, 18, 19, 34, 35, 36]) rfl rfl)) ?_
          obtain ⟨x17, hx17, hm⟩ := bind_some hm
          refine CWalk.drawM [[], [0], [0, 1], [0, 1, 2], [], [4], [], [6], [0, 1, 2, 3, 4, 5, 6, 7], [0, 1, 2, 3, 4, 5, 6, 7, 8]] [[.fact 61 (.pto 24 (x9 * Rp.n Disk))], [.fact 62 (.pto 24 (x9 * Rp.n Disk))], [.fact 63 (.pto 24 (x9 * Rp.n Disk))], [.fact 64 (.isv 32)], [.fact 65 (.pto 29 0)], [.fact 66 (.rep [] x15.At)], [.fact 67 (.pto 29 1)], [.fact 68 (.rep [17, 18, 19, 34, 35, 36] x15.Data)], [.fact 69 (.pto 32 (x17 * Rp.n (List UInt8)))], [.fact 100032 (.own 32 [17, 18, 19, 34, 35, 36] 54 ((s12).set x17 x15.Data : List (List UInt8))), .kill 32]] mixed (by kernel_rfl) (ao (so (Spec.move (Has.s rfl))) (ao (so (Spec.nilCheckO (Has.s rfl))) (ao (so (Spec.fieldAddrO fd41_0 (Has.s rfl))) (ao (so (Spec.loadFL (t := 23) (i := 0) hd41 ty38 rfl (Has.s rfl) rfl rfl (HasG.s rfl))) (ao (so (Spec.fieldAddrO fd58_0 (Has.cv (Has.s rfl) (Cv.isvP rfl)))) (ao (so (Spec.loadF (i := 0) ty3 rfl (Has.s rfl) rfl (HasG.s rfl))) (ao (so (Spec.fieldAddrO fd58_1 (Has.cv (Has.s rfl) (Cv.isvP rfl)))) (ao (so (Spec.loadF (i := 1) ty54 rfl (Has.s rfl) rfl (HasG.s rfl))) (ao (so (Spec.idxOwn hx17 ow38 (Has.s rfl) rfl (Has.s rfl))) (ao (StepG.stE (Step.storeOwn (te' := [17, 18, 19, 34, 35, 36]) rfl (bnd_lt hx17 rfl) ty54 (Has.s rfl) rfl (Has.s rfl) (ElKeep.tags rfl rfl) (ElKeep.tags rfl rfl))) AllM.nil)))))))))) ?_
          refine Leaf.blockN ?_
          exact Leaf.join ((s12).set x17 x15.Data) hm (su (sn (st (sn (st (st (su (st (st (Sub.cons (Has.at (HasG.cv (HasG.s rfl) (Cv.trans (Cv.isvOw rfl) (Cv.owM (T := [32]) (te := [17, 18, 19, 34, 35, 36]) rfl rfl)))) (sm (sf (sn Sub.nil)))))))))))))
         ·have hm := cond_f hb hm
          refine CWalk.skip ?_
          refine Leaf.blockN ?_
          exact Leaf.join s12 hm (su (sn (st (sn (st (st (su (st (st (Sub.cons (Has.at (HasG.cv (HasG.s rfl) (Cv.owM (T := [28, 32]) (te := [17, 18, 19, 34, 35, 36]) rfl rfl))) (sm (sf (sn Sub.nil)))))))))))))
       ·have hm := cond_f hb hm
        refine CWalk.exit ?_
        refine Leaf.thenE ?_
        exact Leaf.brk hm (fun h => nomatch h) rfl (su (sn (st (sn (st (st (Sub.cons (Has.at (HasG.cv (HasG.s rfl) (Cv.owM (T := [28, 32]) (te := [17, 18, 19, 34, 35, 36]) rfl rfl))) (sm (sf (sn Sub.nil))))))))))
      ·intro _
       refine Leaf.blockE ?_
       refine Leaf.thenN ?_
       refine CWalk.seq ?_
       refine CWalk.region ?_
       refine mv ?_
       refine mv ?_
       refine wo (Spec.nilCheckO (Has.s rfl)) ?_
       refine wo (Spec.fieldAddrO fd41_1 (Has.s rfl)) ?_
       refine wo (Spec.loadFL (t := 23) (i := 1) hd41 ty39 rfl (Has.s rfl) rfl rfl (HasG.s rfl)) ?_
       refine wo (Spec.len (Has.s rfl) Try.underlying39) ?_
       obtain ⟨x19, hx19, hm⟩ := bind_some hm
       refine wo (Spec.slcLo hx19 sl23 (Has.s rfl) (Has.s rfl)) ?_
       refine wo (Spec.assign (Has.s rfl)) ?_
       refine Walk.nil ?_
       refine Leaf.thenN ?_
       refine CWalk.seq ?_
       refine CWalk.region ?_
       refine mv ?_
       refine wo (Spec.nilCheckO (Has.s rfl)) ?_
       refine wo (Spec.fieldAddrO fd41_1 (Has.s rfl)) ?_
       refine ws (Step.storeFL (t := 23) (i := 1) (f := Fact.nilv) hd41 rfl ty39 rfl (Has.s rfl) rfl rfl (Has.cv Has.nilv (Cv.nil (T := []))) Has.nilv rfl rfl rfl) ?_
       refine Walk.nil ?_
       refine Leaf.thenN ?_
       refine CWalk.region ?_
       refine mv ?_
       refine mv ?_
       refine mv ?_
       refine wo (Spec.nilCheckO (Has.s rfl)) ?_
       refine wo (Spec.loadPartsL (t := 23) (ls := [(false, 1, Fact.ow [28, 32] [17, 18, 19, 34, 35, 36] 54 (b18 : List (List UInt8))), (false, 1, Fact.nilv), (false, 1, Fact.rep [17, 18, 19, 34, 35, 36] x10.Dead)]) hd41 ty41 rfl (Has.s rfl) rfl (HasGs.cons (HasG.s rfl) (HasGs.cons (HasG.s rfl) (HasGs.cons (HasG.s rfl) HasGs.nil)))) ?_
       obtain ⟨x20, hx20, hm⟩ := bind_some hm
       refine wo (f := Fact.flds [(false, 1, Fact.ow [33] [34] 54 (x20.Blocks : List (List UInt8))), (false, 1, Fact.ow [35] [36] 58 (x20.Wait : List Write)), (false, 1, Fact.rep [] x20.Dead)]) (Spec.callE [17, 18, 19, 28, 32, 34, 35, 36] 33 rfl en36 (disk_Twin_c (Disk.mk b18 ([] : List Write) x10.Dead) hx20) (HasAll.cons (Has.m (Has.cv (Has.s rfl) (Cv.trans (Cv.flds (CvL.cons (Cv.trans (Cv.trans Cv.owSl (Cv.slRep (T' := [17, 18, 19, 28, 32, 34, 35, 36]) rfl rfl)) (Cv.m rfl)) (CvL.cons (Cv.trans (Cv.nil (T := [])) (Cv.m rfl)) (CvL.cons Cv.fl CvL.nil)))) (Cv.close (T := [17, 18, 19, 28, 32, 34, 35, 36]) (chDisk (Disk.mk b18 ([] : List Write) x10.Dead))))) rfl) HasAll.nil)) ?_
       refine wo (Spec.idxLent hx9 ow22 (Has.s rfl) rfl (Has.s rfl)) ?_
       refine ws (Step.storeBack (t := 23) (y := x20) (es := [(⟨inferInstance, (x20.Wait : List Write)⟩ : Ent), (⟨inferInstance, (x20.Dead : Bool)⟩ : Ent)]) (T0 := [33]) (te' := [17, 18, 19, 34, 35, 36]) (l' := (s6).set x9 x20) hd41 22 ty41 (Has.s rfl) rfl (Has.cv (Has.s rfl) (Cv.flds (CvL.cons (Cv.owM (T := [33]) (te := [34]) rfl rfl) (CvL.cons (Cv.trans (Cv.trans Cv.owSl (Cv.slRep (T' := [35, 36]) rfl rfl)) (Cv.m rfl)) (CvL.cons Cv.fl CvL.nil))))) rfl (hes41 x20) rfl rfl rfl rfl rfl rfl rfl) ?_
       refine Walk.nil ?_
       refine Leaf.blockN ?_
       refine Leaf.thenN ?_
       refine CWalk.region ?_
       refine wo (Spec.addI (Has.s rfl) Has.int) ?_
       refine mv ?_
       refine Walk.nil ?_
       exact Leaf.next hm (su (Sub.cons (Has.cv (Has.s rfl) (Cv.trans (Cv.isvOw2 rfl) (Cv.ow2M (T := [23]) (Tr := [22]) (te := [17, 18, 19, 34, 35, 36]) rfl rfl rfl))) (st (st Sub.nil))))
     ·have hm := cond_f hb hm
      refine CWalk.exit ?_
      refine Leaf.thenE ?_
      exact Leaf.brk hm (fun h => nomatch h) rfl (Sub.cons (Has.cv (Has.s rfl) (Cv.ow2M (T := [21, 23]) (Tr := [22]) (te := [17, 18, 19, 34, 35, 36]) rfl rfl rfl)) Sub.nil)
    ·intro _
     refine Leaf.blockE ?_
     refine Leaf.thenN ?_
     refine CWalk.seq ?_
     refine CWalk.region ?_
     refine mv ?_
     refine wo (Spec.assign (Has.s rfl)) ?_
     refine wo (Spec.assign Has.int) ?_
     refine Walk.nil ?_
     refine Leaf.thenN ?_
     refine CWalk.ret ?_
     obtain rfl := Option.some.inj hm
     exact Leaf.retC2 rfl (HasR.cv (HasR.tmp (Has.s rfl)) (Cv.trans Cv.ow2Ow (Cv.owM (T := [21, 23]) (te := [22, 17, 18, 19, 34, 35, 36]) rfl rfl))) (HasR.cv (HasR.tmp (Has.s rfl)) Cv.fl)

/-- freeboard/freeboardref04.Sized -/
def ref04_Sized (a0 : List UInt8) : Option (Bool) :=
  some ((((a0).length : Int) == (0 : Int)) || (((a0).length : Int) == (128 : Int)))
set_option maxRecDepth 100000 in
set_option maxHeartbeats 2000000 in
theorem ref04_Sized_c (a0 : List UInt8) {r : Bool} (hm : ref04_Sized a0 = some r) : Ctr Try.prog 63 [.rep 0 a0] (.fl r) [] := by
 refine ctr_of_walk [[]] 11 Try.func63 rfl rfl rfl rfl (fun w0 om => ?_)
 unfold ref04_Sized at hm
 refine CWalk.sub (G' := [.fact 0 (.rep [0] (a0 : List UInt8))]) (sn Sub.nil) ?_
 refine CWalk.seq ?_
 refine CWalk.region ?_
 refine wo (Spec.assign Has.bool) ?_
 refine Walk.nil ?_
 refine Leaf.thenN ?_
 refine CWalk.seq ?_
 refine CWalk.region ?_
 refine mv ?_
 refine wo (Spec.len (Has.s rfl) Try.underlying54) ?_
 refine wo (Spec.eqlI (Has.s rfl) Has.int) ?_
 refine mv ?_
 refine wg rfl rfl (fun hb => Spec.move (Has.s rfl)) ?_
 refine wg rfl rfl (fun hb => Spec.len (Has.u rfl hb) Try.underlying54) ?_
 refine wg rfl rfl (fun hb => Spec.eqlI (Has.u rfl hb) Has.int) ?_
 refine wo (Spec.or (Has.s rfl) (fun h => Has.u rfl h)) ?_
 refine wo (Spec.assign (Has.s rfl)) ?_
 refine Walk.nil ?_
 refine Leaf.thenN ?_
 refine CWalk.ret ?_
 obtain rfl := Option.some.inj hm
 exact Leaf.retC1 rfl (HasR.cv (HasR.tmp (Has.s rfl)) Cv.fl)

def ref04_May_L1 (a0 : Disk) (s1 : Int) : Option (Ctl (Int) ((Unit) ⊕ (Unit))) :=
  (bif (decide (s1 < ((a0.Blocks).length : Int))) then Option.bind (idx a0.Blocks s1) (fun x3 => Option.bind (ref04_Sized x3) (fun x4 => Option.bind (gO ((!(!x4)) && (a0.Dead)) (idx a0.Blocks s1)) (fun x5 => (bif ((!x4) || (a0.Dead && (decide (((x5).length : Int) > (0 : Int))))) then some (Ctl.brk (Sum.inr ())) else some (Ctl.next (wI (s1 + (1 : Int)))))))) else some (Ctl.brk (Sum.inl ())))
def ref04_May_L2 (a0 : Disk) (s8 : Int) : Option (Ctl (Int) ((Unit) ⊕ (Unit))) :=
  (bif (decide (s8 < ((a0.Wait).length : Int))) then Option.bind (idx a0.Wait s8) (fun x10 => Option.bind (gO (!(decide (x10.At < (0 : Int)))) (idx a0.Wait s8)) (fun x11 => Option.bind (gO (!((decide (x10.At < (0 : Int))) || (decide (x11.At ≥ ((a0.Blocks).length : Int))))) (idx a0.Wait s8)) (fun x12 => Option.bind (gO (!((decide (x10.At < (0 : Int))) || (decide (x11.At ≥ ((a0.Blocks).length : Int))))) (ref04_Sized x12.Data)) (fun x13 => (bif (((decide (x10.At < (0 : Int))) || (decide (x11.At ≥ ((a0.Blocks).length : Int)))) || (!x13)) then some (Ctl.brk (Sum.inr ())) else some (Ctl.next (wI (s8 + (1 : Int))))))))) else some (Ctl.brk (Sum.inl ())))
/-- freeboard/freeboardref04.May -/
def ref04_May (a0 : Disk) : Option (Bool) :=
  (bif ((((decide (((a0.Blocks).length : Int) < (1 : Int))) || (decide (((a0.Blocks).length : Int) > (256 : Int)))) || (decide (((a0.Wait).length : Int) > (1024 : Int)))) || (a0.Dead && (decide (((a0.Wait).length : Int) > (0 : Int))))) then some false else Option.bind (loopM (fun s : Int => ref04_May_L1 a0 s) FUEL (0 : Int)) (fun b6 => Sum.elim (fun b7 => Option.bind (loopM (fun s : Int => ref04_May_L2 a0 s) FUEL (0 : Int)) (fun b14 => Sum.elim (fun b15 => some true) (fun b16 => some false) b14)) (fun b17 => some false) b6))
set_option maxRecDepth 100000 in
set_option maxHeartbeats 2000000 in
theorem ref04_May_c (a0 : Disk) {r : Bool} (hm : ref04_May a0 = some r) : Ctr Try.prog 56 [.rep 0 a0] (.fl r) [] := by
 refine ctr_of_walk [[]] 94 Try.func56 rfl rfl rfl rfl (fun w0 om => ?_)
 unfold ref04_May at hm
 refine CWalk.sub (G' := [.fact 0 (.rep [0] (a0 : Disk))]) (sn Sub.nil) ?_
 refine CWalk.seq ?_
 refine CWalk.region ?_
 refine ws (Step.boxObj (ls := [(false, 1, Fact.rep [0] a0.Blocks), (false, 1, Fact.rep [0] a0.Wait), (false, 1, Fact.rep [] a0.Dead)]) 10 rfl rfl rfl rfl (HasL.flds (Has.cv (Has.s rfl) (Cv.trans (Cv.opens (chDisk a0)) (Cv.flds (CvL.cons Cv.refl (CvL.cons Cv.refl (CvL.cons Cv.fl CvL.nil)))))))) ?_
 refine wo (Spec.assign Has.bool) ?_
 refine Walk.nil ?_
 refine Leaf.thenN ?_
 refine CWalk.seq ?_
 refine CWalk.seq ?_
 refine CWalk.region ?_
 refine wo (Spec.fieldAddrO fd41_0 (Has.cv (Has.s rfl) (Cv.isvP rfl))) ?_
 refine wo (Spec.loadF (i := 0) ty38 rfl (Has.s rfl) rfl (HasG.s rfl)) ?_
 refine wo (Spec.len (Has.s rfl) Try.underlying38) ?_
 refine wo (Spec.lssI (Has.s rfl) Has.int) ?_
 refine mv ?_
 refine wg rfl rfl (fun hb => Spec.fieldAddrO fd41_0 (Has.cv (Has.s rfl) (Cv.isvP rfl))) ?_
 refine wg rfl rfl (fun hb => Spec.loadF (i := 0) ty38 rfl (Has.u rfl hb) rfl (HasG.s rfl)) ?_
 refine wg rfl rfl (fun hb => Spec.len (Has.u rfl hb) Try.underlying38) ?_
 refine wg rfl rfl (fun hb => Spec.gtrI (Has.u rfl hb) Has.int) ?_
 refine wo (Spec.or (Has.s rfl) (fun h => Has.u rfl h)) ?_
 refine mv ?_
 refine wg rfl rfl (fun hb => Spec.fieldAddrO fd41_1 (Has.cv (Has.s rfl) (Cv.isvP rfl))) ?_
 refine wg rfl rfl (fun hb => Spec.loadF (i := 1) ty39 rfl (Has.u rfl hb) rfl (HasG.s rfl)) ?_
 refine wg rfl rfl (fun hb => Spec.len (Has.u rfl hb) Try.underlying39) ?_
 refine wg rfl rfl (fun hb => Spec.gtrI (Has.u rfl hb) Has.int) ?_
 refine wo (Spec.or (Has.s rfl) (fun h => Has.u rfl h)) ?_
 refine mv ?_
 refine wg rfl rfl (fun hb => Spec.fieldAddrO fd41_2 (Has.cv (Has.s rfl) (Cv.isvP rfl))) ?_
 refine wg rfl rfl (fun hb => Spec.loadF (i := 2) ty4 rfl (Has.u rfl hb) rfl (HasG.s rfl)) ?_
 refine wg rfl rfl (fun hb => Spec.move (Has.u rfl hb)) ?_
 refine Walk.opgu rfl rfl rfl (fun hb => Spec.fieldAddrO fd41_1 (Has.cv (Has.s rfl) (Cv.isvP rfl))) ?_
 refine Walk.opgu rfl rfl rfl (fun hb => Spec.loadF (i := 1) ty39 rfl (Has.u rfl hb) rfl (HasG.s rfl)) ?_
 refine Walk.opgu rfl rfl rfl (fun hb => Spec.len (Has.u rfl hb) Try.underlying39) ?_
 refine Walk.opgu rfl rfl rfl (fun hb => Spec.gtrI (Has.u rfl hb) Has.int) ?_
 refine wg rfl rfl (fun hb => Spec.and (Has.u rfl hb) (fun h => Has.u rfl ⟨hb, h⟩)) ?_
 refine wo (Spec.or (Has.s rfl) (fun h => Has.u rfl h)) ?_
 refine Walk.nil ?_
 refine Leaf.thenN ?_
 refine CWalk.cond rfl (fun hb => ?_) (fun hb => ?_)
 ·have hm := cond_t hb hm
  refine CWalk.seq ?_
  refine CWalk.region ?_
  refine wo (Spec.assign Has.bool) ?_
  refine Walk.nil ?_
  refine Leaf.thenN ?_
  refine CWalk.ret ?_
  refine Leaf.thenR ?_
  obtain rfl := Option.some.inj hm
  exact Leaf.retC1 rfl (HasR.cv (HasR.tmp (Has.s rfl)) Cv.fl)
 ·have hm := cond_f hb hm
  refine CWalk.skip ?_
  refine Leaf.thenN ?_
  refine CWalk.seq ?_
  refine CWalk.seq ?_
  refine CWalk.region ?_
  refine wo (Spec.assign Has.int) ?_
  refine Walk.nil ?_
  refine Leaf.thenN ?_
  refine CWalk.block ?_
  obtain ⟨b6, hb6, hm⟩ := bind_some hm
  refine CWalk.loop (fun s : Int => [.fact 1 (.isv 10), .fact 3 (.rep [] (s : Int)), .fact 100011 (.at 11 (.rep [0] a0.Blocks)), .fact 100012 (.at 12 (.rep [0] a0.Wait)), .fact 100013 (.at 13 (.rep [] a0.Dead)), .fact 100010 (.obj 10 [(false, 1), (false, 1), (false, 1)])]) (fun b : (Unit) ⊕ (Unit) => Sum.elim (fun b => (Exit.exit 0, [.fact 1 (.isv 10), .fact 100011 (.at 11 (.rep [0] a0.Blocks)), .fact 100012 (.at 12 (.rep [0] a0.Wait)), .fact 100013 (.at 13 (.rep [] a0.Dead)), .fact 100010 (.obj 10 [(false, 1), (false, 1), (false, 1)])])) (fun b => (Exit.ret, [.fact 2 (.rep [] (false : Bool))])) b) hb6 (sn (st (sm (sm (sf (sn Sub.nil)))))) ?_ ?_
  ·rintro s1 c2 hm
   replace hm : ref04_May_L1 a0 s1 = some c2 := hm
   unfold ref04_May_L1 at hm
   show CWalk _ [.fact 1 (.isv 10), .fact 3 (.rep [] (s1 : Int)), .fact 100011 (.at 11 (.rep [0] a0.Blocks)), .fact 100012 (.at 12 (.rep [0] a0.Wait)), .fact 100013 (.at 13 (.rep [] a0.Dead)), .fact 100010 (.obj 10 [(false, 1), (false, 1), (false, 1)])] _ _
   refine CWalk.seq ?_
   refine CWalk.seq ?_
   refine CWalk.region ?_
   refine mv ?_
   refine wo (Spec.fieldAddrO fd41_0 (Has.cv (Has.s rfl) (Cv.isvP rfl))) ?_
   refine wo (Spec.loadF (i := 0) ty38 rfl (Has.s rfl) rfl (HasG.s rfl)) ?_
   refine wo (Spec.len (Has.s rfl) Try.underlying38) ?_
   refine wo (Spec.lssI (Has.s rfl) (Has.s rfl)) ?_
   refine Walk.nil ?_
   refine Leaf.thenN ?_
   refine CWalk.cond rfl (fun hb => ?_) (fun hb => ?_)
   ·have hm := cond_t hb hm
    refine CWalk.skip ?_
    refine Leaf.thenN ?_
    refine CWalk.seq ?_
    refine CWalk.block ?_
    refine CWalk.seq ?_
    refine CWalk.region ?_
    refine wo (Spec.fieldAddrO fd41_0 (Has.cv (Has.s rfl) (Cv.isvP rfl))) ?_
    refine wo (Spec.loadF (i := 0) ty38 rfl (Has.s rfl) rfl (HasG.s rfl)) ?_
    refine mv ?_
    obtain ⟨x3, hx3, hm⟩ := bind_some hm
    refine wo (Spec.indexAddr hx3 sl38 (Has.s rfl) (Has.s rfl)) ?_
    refine wo (Spec.load ty54 (Has.s rfl)) ?_
    obtain ⟨x4, hx4, hm⟩ := bind_some hm
    refine wo (f := Fact.rep [] (x4 : Bool)) (Spec.callE [0] 14 rfl en63 (ref04_Sized_c x3 hx4) (HasAll.cons (Has.m (Has.s rfl) rfl) HasAll.nil)) ?_
    refine wo (Spec.not (Has.s rfl)) ?_
    refine mv ?_
    refine wg rfl rfl (fun hb => Spec.fieldAddrO fd41_2 (Has.cv (Has.s rfl) (Cv.isvP rfl))) ?_
    refine wg rfl rfl (fun hb => Spec.loadF (i := 2) ty4 rfl (Has.u rfl hb) rfl (HasG.s rfl)) ?_
    refine wg rfl rfl (fun hb => Spec.move (Has.u rfl hb)) ?_
    refine Walk.opgu rfl rfl rfl (fun hb => Spec.fieldAddrO fd41_0 (Has.cv (Has.s rfl) (Cv.isvP rfl))) ?_
    refine Walk.opgu rfl rfl rfl (fun hb => Spec.loadF (i := 0) ty38 rfl (Has.u rfl hb) rfl (HasG.s rfl)) ?_
    refine Walk.opgu rfl rfl rfl (fun hb => Spec.move (Has.s rfl)) ?_
    obtain ⟨x5, hx5, hm⟩ := bind_some hm
    refine Walk.opgu rfl rfl rfl (fun hb => Spec.indexAddr (gO_t hx5 (and_t (not_t hb.1) hb.2)) sl38 (Has.u rfl hb) (Has.u rfl hb)) ?_
    refine Walk.opgu rfl rfl rfl (fun hb => Spec.load ty54 (Has.u rfl hb)) ?_
    refine Walk.opgu rfl rfl rfl (fun hb => Spec.len (Has.u rfl hb) Try.underlying54) ?_
    refine Walk.opgu rfl rfl rfl (fun hb => Spec.gtrI (Has.u rfl hb) Has.int) ?_
    refine wg rfl rfl (fun hb => Spec.and (Has.u rfl hb) (fun h => Has.u rfl ⟨hb, h⟩)) ?_
    refine wo (Spec.or (Has.s rfl) (fun h => Has.u rfl h)) ?_
    refine Walk.nil ?_
    refine Leaf.thenN ?_
    refine CWalk.cond rfl (fun hb => ?_) (fun hb => ?_)
    ·have hm := cond_t hb hm
     refine CWalk.seq ?_
     refine CWalk.region ?_
     refine wo (Spec.assign Has.bool) ?_
     refine Walk.nil ?_
     refine Leaf.thenN ?_
     refine CWalk.ret ?_
     refine Leaf.blockR ?_
     refine Leaf.thenR ?_
     exact Leaf.brk hm (fun h => nomatch h) rfl (st Sub.nil)
    ·have hm := cond_f hb hm
     refine CWalk.skip ?_
     refine Leaf.blockN ?_
     refine Leaf.thenN ?_
     refine CWalk.region ?_
     refine mv ?_
     refine wo (Spec.addI (Has.s rfl) Has.int) ?_
     refine wo (Spec.assign (Has.s rfl)) ?_
     refine Walk.nil ?_
     exact Leaf.next hm (sn (st (sm (sm (sf (sn Sub.nil))))))
   ·have hm := cond_f hb hm
    refine CWalk.exit ?_
    refine Leaf.thenE ?_
    exact Leaf.brk hm (fun h => nomatch h) rfl (sn (sm (sm (sf (sn Sub.nil)))))
  ·intro _
   rcases b6 with b7 | b17
   ·have hm := selim_l hm
    refine Leaf.blockE ?_
    refine Leaf.thenN ?_
    refine CWalk.seq ?_
    refine CWalk.seq ?_
    refine CWalk.region ?_
    refine wo (Spec.assign Has.int) ?_
    refine Walk.nil ?_
    refine Leaf.thenN ?_
    refine CWalk.block ?_
    obtain ⟨b14, hb14, hm⟩ := bind_some hm
    refine CWalk.loop (fun s : Int => [.fact 1 (.isv 10), .fact 4 (.rep [] (s : Int)), .fact 100011 (.at 11 (.rep [0] a0.Blocks)), .fact 100012 (.at 12 (.rep [0] a0.Wait)), .fact 100013 (.at 13 (.rep [] a0.Dead)), .fact 100010 (.obj 10 [(false, 1), (false, 1), (false, 1)])]) (fun b : (Unit) ⊕ (Unit) => Sum.elim (fun b => (Exit.exit 2, [])) (fun b => (Exit.ret, [.fact 2 (.rep [] (false : Bool))])) b) hb14 (sn (st (sm (sm (sf (sn Sub.nil)))))) ?_ ?_
    ·rintro s8 c9 hm
     replace hm : ref04_May_L2 a0 s8 = some c9 := hm
     unfold ref04_May_L2 at hm
     show CWalk _ [.fact 1 (.isv 10), .fact 4 (.rep [] (s8 : Int)), .fact 100011 (.at 11 (.rep [0] a0.Blocks)), .fact 100012 (.at 12 (.rep [0] a0.Wait)), .fact 100013 (.at 13 (.rep [] a0.Dead)), .fact 100010 (.obj 10 [(false, 1), (false, 1), (false, 1)])] _ _
     refine CWalk.seq ?_
     refine CWalk.seq ?_
     refine CWalk.region ?_
     refine mv ?_
     refine wo (Spec.fieldAddrO fd41_1 (Has.cv (Has.s rfl) (Cv.isvP rfl))) ?_
     refine wo (Spec.loadF (i := 1) ty39 rfl (Has.s rfl) rfl (HasG.s rfl)) ?_
     refine wo (Spec.len (Has.s rfl) Try.underlying39) ?_
     refine wo (Spec.lssI (Has.s rfl) (Has.s rfl)) ?_
     refine Walk.nil ?_
     refine Leaf.thenN ?_
     refine CWalk.cond rfl (fun hb => ?_) (fun hb => ?_)
     ·have hm := cond_t hb hm
      refine CWalk.skip ?_
      refine Leaf.thenN ?_
      refine CWalk.seq ?_
      refine CWalk.block ?_
      refine CWalk.seq ?_
      obtain ⟨x10, hx10, hm⟩ := bind_some hm
      obtain ⟨x11, hx11, hm⟩ := bind_some hm
      obtain ⟨x12, hx12, hm⟩ := bind_some hm
      obtain ⟨x13, hx13, hm⟩ := bind_some hm
      refine CWalk.drawM [[], [0], [], [0, 1, 2], [0, 1, 2, 3], [0, 1, 2, 3, 4], [0, 1, 2, 3, 4, 5], [0, 1, 2, 3, 4, 5, 6], [0, 1, 2, 3, 4, 5, 6, 7], [0, 1, 2, 3, 4, 5, 6, 7, 8], [0, 1, 2, 3, 4, 5, 6, 7], [0, 1, 2, 3, 4, 5, 6, 7, 8, 9, 10], [0, 1, 2, 3, 4, 5, 6, 7, 8, 9, 10, 11], [0, 1, 2, 3, 4, 5, 6, 7, 8, 9, 10, 11, 12], [0, 1, 2, 3, 4, 5, 6, 7], [0, 1, 2, 3, 4, 5, 6, 7, 14], [0, 1, 2, 3, 4, 5, 6, 7, 14, 15], [0, 1, 2, 3, 4, 5, 6, 7, 8, 9, 10, 11, 12, 13, 14, 15, 16], [0, 1, 2, 3, 4, 5, 6, 7, 8, 9, 10, 11, 12, 13, 14, 15, 16, 17], [0, 1, 2, 3, 4, 5, 6, 7, 8, 9, 10, 11, 12, 13, 14, 15, 16, 17, 18], [0, 1, 2, 3, 4, 5, 6, 7, 8, 9, 10, 11, 12, 13, 14, 15, 16, 17, 18, 19], [0, 1, 2, 3, 4, 5, 6, 7, 8, 9, 10, 11, 12, 13, 14, 15, 16, 17, 18, 19, 20], [0, 1, 2, 3, 4, 5, 6, 7, 8, 9, 10, 11, 12, 13, 14, 15, 16, 17, 18, 19], [0, 1, 2, 3, 4, 5, 6, 7, 8, 9, 10, 11, 12, 13, 14, 15, 16, 17, 18, 19, 20, 21, 22], [0, 1, 2, 3, 4, 5, 6, 7, 8, 9, 10, 11, 12, 13, 14, 15, 16, 17, 18, 19, 20, 21, 22, 23], [0, 1, 2, 3, 4, 5, 6, 7, 8, 9, 10, 11, 12, 13, 14, 15, 16, 17, 18, 19, 20, 21, 22, 23, 24], [0, 1, 2, 3, 4, 5, 6, 7, 8, 9, 10, 11, 12, 13, 14, 15, 16, 17, 18, 19, 20, 21, 22, 23, 24, 25], [0, 1, 2, 3, 4, 5, 6, 7, 8, 9, 10, 11, 12, 13, 14, 15, 16, 17, 18, 19, 20, 21, 22, 23, 24, 25, 26], [0, 1, 2, 3, 4, 5, 6, 7, 8, 9, 10, 11, 12, 13, 14, 15, 16, 17, 18, 19, 20, 21, 22, 23, 24, 25, 26, 27]] [[.fact 65 (.pto 10 1)], [.fact 66 (.rep [0] a0.Wait)], [.fact 67 (.rep [] (s8 : Int))], [.fact 68 (.ptr [0] (x10 : Write))], [.fact 69 (.ptr [0] (x10.At : Int))], [.fact 70 (.rep [] x10.At)], [.fact 71 (.rep [] ((decide (x10.At < (0 : Int))) : Bool))], [.fact 72 (.rep [] ((decide (x10.At < (0 : Int))) : Bool))], [.fact 73 (.under ((decide (x10.At < (0 : Int))) = false) (.pto 10 1))], [.fact 74 (.under ((decide (x10.At < (0 : Int))) = false) (.rep [0] a0.Wait))], [.fact 75 (.under ((decide (x10.At < (0 : Int))) = false) (.rep [] (s8 : Int)))], [.fact 76 (.under ((decide (x10.At < (0 : Int))) = false) (.ptr [0] (x11 : Write)))], [.fact 77 (.under ((decide (x10.At < (0 : Int))) = false) (.ptr [0] (x11.At : Int)))], [.fact 78 (.under ((decide (x10.At < (0 : Int))) = false) (.rep [] x11.At))], [.fact 79 (.under ((decide (x10.At < (0 : Int))) = false) (.pto 10 0))], [.fact 80 (.under ((decide (x10.At < (0 : Int))) = false) (.rep [0] a0.Blocks))], [.fact 81 (.under ((decide (x10.At < (0 : Int))) = false) (.rep [] (((a0.Blocks).length : Int) : Int)))], [.fact 82 (.under ((decide (x10.At < (0 : Int))) = false) (.rep [] ((decide (x11.At ≥ ((a0.Blocks).length : Int))) : Bool)))], [.fact 83 (.rep [] (((decide (x10.At < (0 : Int))) || (decide (x11.At ≥ ((a0.Blocks).length : Int)))) : Bool))], [.fact 84 (.rep [] (((decide (x10.At < (0 : Int))) || (decide (x11.At ≥ ((a0.Blocks).length : Int)))) : Bool))], [.fact 85 (.under (((decide (x10.At < (0 : Int))) || (decide (x11.At ≥ ((a0.Blocks).length : Int)))) = false) (.pto 10 1))], [.fact 86 (.under (((decide (x10.At < (0 : Int))) || (decide (x11.At ≥ ((a0.Blocks).length : Int)))) = false) (.rep [0] a0.Wait))], [.fact 87 (.under (((decide (x10.At < (0 : Int))) || (decide (x11.At ≥ ((a0.Blocks).length : Int)))) = false) (.rep [] (s8 : Int)))], [.fact 88 (.under (((decide (x10.At < (0 : Int))) || (decide (x11.At ≥ ((a0.Blocks).length : Int)))) = false) (.ptr [0] (x12 : Write)))], [.fact 89 (.under (((decide (x10.At < (0 : Int))) || (decide (x11.At ≥ ((a0.Blocks).length : Int)))) = false) (.ptr [0] (x12.Data : List UInt8)))], [.fact 90 (.under (((decide (x10.At < (0 : Int))) || (decide (x11.At ≥ ((a0.Blocks).length : Int)))) = false) (.rep [0] x12.Data))], [.fact 91 (.under (((decide (x10.At < (0 : Int))) || (decide (x11.At ≥ ((a0.Blocks).length : Int)))) = false) (.rep [] (x13 : Bool)))], [.fact 92 (.under (((decide (x10.At < (0 : Int))) || (decide (x11.At ≥ ((a0.Blocks).length : Int)))) = false) (.rep [] ((!x13) : Bool)))], [.fact 93 (.rep [] ((((decide (x10.At < (0 : Int))) || (decide (x11.At ≥ ((a0.Blocks).length : Int)))) || (!x13)) : Bool))]] mixed (by kernel_rfl) (ao (so (Spec.fieldAddrO fd41_1 (Has.cv (Has.s rfl) (Cv.isvP rfl)))) (ao (so (Spec.loadF (i := 1) ty39 rfl (Has.s rfl) rfl (HasG.s rfl))) (ao (so (Spec.move (Has.s rfl))) (ao (so (Spec.indexAddr hx10 sl39 (Has.s rfl) (Has.s rfl))) (ao (so (Spec.fieldAddrP fd58_0 (chWrite x10) rfl (Has.s rfl))) (ao (so ((Spec.load ty3 (Has.s rfl)).flat (T' := []))) (ao (so (Spec.lssI (Has.s rfl) Has.int)) (ao (so (Spec.move (Has.s rfl))) (ao (StepG.opg rfl rfl rfl (fun hb => Spec.fieldAddrO fd41_1 (Has.cv (Has.s rfl) (Cv.isvP rfl)))) (ao (StepG.opg rfl rfl rfl (fun hb => Spec.loadF (i := 1) ty39 rfl (Has.u rfl hb) rfl (HasG.s rfl))) (ao (StepG.opg rfl rfl rfl (fun hb => Spec.move (Has.s rfl))) (ao (StepG.opg rfl rfl rfl (fun hb => Spec.indexAddr (gO_t hx11 (not_t hb)) sl39 (Has.u rfl hb) (Has.u rfl hb))) (ao (StepG.opg rfl rfl rfl (fun hb => Spec.fieldAddrP fd58_0 (chWrite x11) rfl (Has.u rfl hb))) (ao (StepG.opg rfl rfl rfl (fun hb => (Spec.load ty3 (Has.u rfl hb)).flat (T' := []))) (ao (StepG.opg rfl rfl rfl (fun hb => Spec.fieldAddrO fd41_0 (Has.cv (Has.s rfl) (Cv.isvP rfl)))) (ao (StepG.opg rfl rfl rfl (fun hb => Spec.loadF (i := 0) ty38 rfl (Has.u rfl hb) rfl (HasG.s rfl))) (ao (StepG.opg rfl rfl rfl (fun hb => Spec.len (Has.u rfl hb) Try.underlying38)) (ao (StepG.opg rfl rfl rfl (fun hb => Spec.geqI (Has.u rfl hb) (Has.u rfl hb))) (ao (so (Spec.or (Has.s rfl) (fun h => Has.u rfl h))) (ao (so (Spec.move (Has.s rfl))) (ao (StepG.opg rfl rfl rfl (fun hb => Spec.fieldAddrO fd41_1 (Has.cv (Has.s rfl) (Cv.isvP rfl)))) (ao (StepG.opg rfl rfl rfl (fun hb => Spec.loadF (i := 1) ty39 rfl (Has.u rfl hb) rfl (HasG.s rfl))) (ao (StepG.opg rfl rfl rfl (fun hb => Spec.move (Has.s rfl))) (ao (StepG.opg rfl rfl rfl (fun hb => Spec.indexAddr (gO_t hx12 (not_t hb)) sl39 (Has.u rfl hb) (Has.u rfl hb))) (ao (StepG.opg rfl rfl rfl (fun hb => Spec.fieldAddrP fd58_1 (chWrite x12) rfl (Has.u rfl hb))) (ao (StepG.opg rfl rfl rfl (fun hb => Spec.load ty54 (Has.u rfl hb))) (ao (StepG.opg rfl rfl rfl (fun hb => Spec.callE [0] 15 rfl en63 (ref04_Sized_c x12.Data (gO_t hx13 (not_t hb))) (HasAll.cons (Has.m (Has.u rfl hb) rfl) HasAll.nil))) (ao (StepG.opg rfl rfl rfl (fun hb => Spec.not (Has.u rfl hb))) (ao (so (Spec.or (Has.s rfl) (fun h => Has.u rfl h))) AllM.nil))))))))))))))))))))))))))))) ?_
      refine Leaf.thenN ?_
      refine CWalk.cond rfl (fun hb => ?_) (fun hb => ?_)
      ·have hm := cond_t hb hm
       refine CWalk.seq ?_
       refine CWalk.region ?_
       refine wo (Spec.assign Has.bool) ?_
       refine Walk.nil ?_
       refine Leaf.thenN ?_
       refine CWalk.ret ?_
       refine Leaf.blockR ?_
       refine Leaf.thenR ?_
       exact Leaf.brk hm (fun h => nomatch h) rfl (st Sub.nil)
      ·have hm := cond_f hb hm
       refine CWalk.skip ?_
       refine Leaf.blockN ?_
       refine Leaf.thenN ?_
       refine CWalk.region ?_
       refine mv ?_
       refine wo (Spec.addI (Has.s rfl) Has.int) ?_
       refine wo (Spec.assign (Has.s rfl)) ?_
       refine Walk.nil ?_
       exact Leaf.next hm (sn (st (sm (sm (sf (sn Sub.nil))))))
     ·have hm := cond_f hb hm
      refine CWalk.exit ?_
      refine Leaf.thenE ?_
      exact Leaf.brk hm (fun h => nomatch h) rfl (Sub.nil)
    ·intro _
     rcases b14 with b15 | b16
     ·have hm := selim_l hm
      refine Leaf.blockE ?_
      refine Leaf.thenN ?_
      refine CWalk.seq ?_
      refine CWalk.region ?_
      refine wo (Spec.assign Has.bool) ?_
      refine Walk.nil ?_
      refine Leaf.thenN ?_
      refine CWalk.ret ?_
      obtain rfl := Option.some.inj hm
      exact Leaf.retC1 rfl (HasR.cv (HasR.tmp (Has.s rfl)) Cv.fl)
     ·have hm := selim_r hm
      refine Leaf.blockR ?_
      refine Leaf.thenR ?_
      obtain rfl := Option.some.inj hm
      exact Leaf.retC1 rfl (HasR.cv (HasR.tmp (Has.s rfl)) Cv.fl)
   ·have hm := selim_r hm
    refine Leaf.blockR ?_
    refine Leaf.thenR ?_
    obtain rfl := Option.some.inj hm
    exact Leaf.retC1 rfl (HasR.cv (HasR.tmp (Has.s rfl)) Cv.fl)

def ref05_May_L1 (a0 : List Disk) (s1 : Int) : Option (Ctl (Int) ((Unit) ⊕ (Unit))) :=
  (bif (decide (s1 < ((a0).length : Int))) then Option.bind (idx a0 s1) (fun x3 => Option.bind (ref04_May x3) (fun x4 => (bif (!x4) then some (Ctl.brk (Sum.inr ())) else some (Ctl.next (wI (s1 + (1 : Int))))))) else some (Ctl.brk (Sum.inl ())))
/-- freeboard/freeboardref05.May -/
def ref05_May (a0 : List Disk) : Option (Bool) :=
  Option.bind (loopM (fun s : Int => ref05_May_L1 a0 s) FUEL (0 : Int)) (fun b5 => Sum.elim (fun b6 => some ((decide (((a0).length : Int) ≥ (1 : Int))) && (decide (((a0).length : Int) ≤ (17 : Int))))) (fun b7 => some false) b5)
set_option maxRecDepth 100000 in
set_option maxHeartbeats 2000000 in
theorem ref05_May_c (a0 : List Disk) {r : Bool} (hm : ref05_May a0 = some r) : Ctr Try.prog 37 [.rep 0 a0] (.fl r) [] := by
 refine ctr_of_walk [[]] 24 Try.func37 rfl rfl rfl rfl (fun w0 om => ?_)
 unfold ref05_May at hm
 refine CWalk.sub (G' := [.fact 0 (.rep [0] (a0 : List Disk))]) (sn Sub.nil) ?_
 refine CWalk.seq ?_
 refine CWalk.region ?_
 refine wo (Spec.assign Has.bool) ?_
 refine Walk.nil ?_
 refine Leaf.thenN ?_
 refine CWalk.seq ?_
 refine CWalk.seq ?_
 refine CWalk.region ?_
 refine wo (Spec.assign Has.int) ?_
 refine Walk.nil ?_
 refine Leaf.thenN ?_
 refine CWalk.block ?_
 obtain ⟨b5, hb5, hm⟩ := bind_some hm
 refine CWalk.loop (fun s : Int => [.fact 0 (.rep [0] (a0 : List Disk)), .fact 3 (.rep [] (s : Int))]) (fun b : (Unit) ⊕ (Unit) => Sum.elim (fun b => (Exit.exit 0, [.fact 0 (.rep [0] (a0 : List Disk))])) (fun b => (Exit.ret, [.fact 2 (.rep [] (false : Bool))])) b) hb5 (su (st Sub.nil)) ?_ ?_
 ·rintro s1 c2 hm
  replace hm : ref05_May_L1 a0 s1 = some c2 := hm
  unfold ref05_May_L1 at hm
  show CWalk _ [.fact 0 (.rep [0] (a0 : List Disk)), .fact 3 (.rep [] (s1 : Int))] _ _
  refine CWalk.seq ?_
  refine CWalk.seq ?_
  refine CWalk.region ?_
  refine mv ?_
  refine mv ?_
  refine wo (Spec.len (Has.s rfl) Try.underlying22) ?_
  refine wo (Spec.lssI (Has.s rfl) (Has.s rfl)) ?_
  refine Walk.nil ?_
  refine Leaf.thenN ?_
  refine CWalk.cond rfl (fun hb => ?_) (fun hb => ?_)
  ·have hm := cond_t hb hm
   refine CWalk.skip ?_
   refine Leaf.thenN ?_
   refine CWalk.seq ?_
   refine CWalk.block ?_
   refine CWalk.seq ?_
   refine CWalk.region ?_
   refine mv ?_
   refine mv ?_
   obtain ⟨x3, hx3, hm⟩ := bind_some hm
   refine wo (Spec.indexAddr hx3 sl22 (Has.s rfl) (Has.s rfl)) ?_
   refine wo (Spec.load ty41 (Has.s rfl)) ?_
   obtain ⟨x4, hx4, hm⟩ := bind_some hm
   refine wo (f := Fact.rep [] (x4 : Bool)) (Spec.callE [0] 10 rfl en56 (ref04_May_c x3 hx4) (HasAll.cons (Has.m (Has.s rfl) rfl) HasAll.nil)) ?_
   refine wo (Spec.not (Has.s rfl)) ?_
   refine Walk.nil ?_
   refine Leaf.thenN ?_
   refine CWalk.cond rfl (fun hb => ?_) (fun hb => ?_)
   ·have hm := cond_t hb hm
    refine CWalk.seq ?_
    refine CWalk.region ?_
    refine wo (Spec.assign Has.bool) ?_
    refine Walk.nil ?_
    refine Leaf.thenN ?_
    refine CWalk.ret ?_
    refine Leaf.blockR ?_
    refine Leaf.thenR ?_
    exact Leaf.brk hm (fun h => nomatch h) rfl (st Sub.nil)
   ·have hm := cond_f hb hm
    refine CWalk.skip ?_
    refine Leaf.blockN ?_
    refine Leaf.thenN ?_
    refine CWalk.region ?_
    refine mv ?_
    refine wo (Spec.addI (Has.s rfl) Has.int) ?_
    refine wo (Spec.assign (Has.s rfl)) ?_
    refine Walk.nil ?_
    exact Leaf.next hm (su (st Sub.nil))
  ·have hm := cond_f hb hm
   refine CWalk.exit ?_
   refine Leaf.thenE ?_
   exact Leaf.brk hm (fun h => nomatch h) rfl (su Sub.nil)
 ·intro _
  rcases b5 with b6 | b7
  ·have hm := selim_l hm
   refine Leaf.blockE ?_
   refine Leaf.thenN ?_
   refine CWalk.seq ?_
   refine CWalk.region ?_
   refine mv ?_
   refine wo (Spec.len (Has.s rfl) Try.underlying22) ?_
   refine wo (Spec.geqI (Has.s rfl) Has.int) ?_
   refine mv ?_
   refine wg rfl rfl (fun hb => Spec.move (Has.s rfl)) ?_
   refine wg rfl rfl (fun hb => Spec.len (Has.u rfl hb) Try.underlying22) ?_
   refine wg rfl rfl (fun hb => Spec.leqI (Has.u rfl hb) Has.int) ?_
   refine wo (Spec.and (Has.s rfl) (fun h => Has.u rfl h)) ?_
   refine wo (Spec.assign (Has.s rfl)) ?_
   refine Walk.nil ?_
   refine Leaf.thenN ?_
   refine CWalk.ret ?_
   obtain rfl := Option.some.inj hm
   exact Leaf.retC1 rfl (HasR.cv (HasR.tmp (Has.s rfl)) Cv.fl)
  ·have hm := selim_r hm
   refine Leaf.blockR ?_
   refine Leaf.thenR ?_
   obtain rfl := Option.some.inj hm
   exact Leaf.retC1 rfl (HasR.cv (HasR.tmp (Has.s rfl)) Cv.fl)

def ref05_Many_L1 (a0 : List Disk) (s1 : Int) (s2 : Int) : Option (Ctl (Int × Int) (Int)) :=
  (bif (decide (s2 < ((a0).length : Int))) then Option.bind (idx a0 s2) (fun x4 => some (Ctl.next ((wI (s1 + ((x4.Wait).length : Int))), (wI (s2 + (1 : Int)))))) else some (Ctl.brk s1))
/-- freeboard/freeboardref05.Many -/
def ref05_Many (a0 : List Disk) : Option (Int) :=
  Option.bind (loopM (fun s : Int × Int => ref05_Many_L1 a0 s.1 s.2) FUEL ((0 : Int), (0 : Int))) (fun b5 => some b5)
set_option maxRecDepth 100000 in
set_option maxHeartbeats 2000000 in
theorem ref05_Many_c (a0 : List Disk) {r : Int} (hm : ref05_Many a0 = some r) : Ctr Try.prog 38 [.rep 0 a0] (.fl r) [] := by
 refine ctr_of_walk [[]] 20 Try.func38 rfl rfl rfl rfl (fun w0 om => ?_)
 unfold ref05_Many at hm
 refine CWalk.sub (G' := [.fact 0 (.rep [0] (a0 : List Disk))]) (sn Sub.nil) ?_
 refine CWalk.seq ?_
 refine CWalk.region ?_
 refine wo (Spec.assign Has.int) ?_
 refine Walk.nil ?_
 refine Leaf.thenN ?_
 refine CWalk.seq ?_
 refine CWalk.region ?_
 refine wo (Spec.assign Has.int) ?_
 refine Walk.nil ?_
 refine Leaf.thenN ?_
 refine CWalk.seq ?_
 refine CWalk.seq ?_
 refine CWalk.region ?_
 refine wo (Spec.assign Has.int) ?_
 refine Walk.nil ?_
 refine Leaf.thenN ?_
 refine CWalk.block ?_
 obtain ⟨b5, hb5, hm⟩ := bind_some hm
 refine CWalk.loop (fun s : Int × Int => [.fact 0 (.rep [0] (a0 : List Disk)), .fact 3 (.rep [] s.1), .fact 4 (.rep [] s.2)]) (fun b : Int => (Exit.exit 0, [.fact 3 (.rep [] (b : Int))])) hb5 (su (st (st Sub.nil))) ?_ ?_
 ·rintro ⟨s1, s2⟩ c3 hm
  replace hm : ref05_Many_L1 a0 s1 s2 = some c3 := hm
  unfold ref05_Many_L1 at hm
  show CWalk _ [.fact 0 (.rep [0] (a0 : List Disk)), .fact 3 (.rep [] (s1 : Int)), .fact 4 (.rep [] (s2 : Int))] _ _
  refine CWalk.seq ?_
  refine CWalk.seq ?_
  refine CWalk.region ?_
  refine mv ?_
  refine mv ?_
  refine wo (Spec.len (Has.s rfl) Try.underlying22) ?_
  refine wo (Spec.lssI (Has.s rfl) (Has.s rfl)) ?_
  refine Walk.nil ?_
  refine Leaf.thenN ?_
  refine CWalk.cond rfl (fun hb => ?_) (fun hb => ?_)
  ·have hm := cond_t hb hm
   refine CWalk.skip ?_
   refine Leaf.thenN ?_
   refine CWalk.seq ?_
   refine CWalk.block ?_
   refine CWalk.region ?_
   refine mv ?_
   refine mv ?_
   refine mv ?_
   obtain ⟨x4, hx4, hm⟩ := bind_some hm
   refine wo (Spec.indexAddr hx4 sl22 (Has.s rfl) (Has.s rfl)) ?_
   refine wo (Spec.fieldAddrP fd41_1 (chDisk x4) rfl (Has.s rfl)) ?_
   refine wo (Spec.load ty39 (Has.s rfl)) ?_
   refine wo (Spec.len (Has.s rfl) Try.underlying39) ?_
   refine wo (Spec.addI (Has.s rfl) (Has.s rfl)) ?_
   refine wo (Spec.assign (Has.s rfl)) ?_
   refine Walk.nil ?_
   refine Leaf.blockN ?_
   refine Leaf.thenN ?_
   refine CWalk.region ?_
   refine mv ?_
   refine wo (Spec.addI (Has.s rfl) Has.int) ?_
   refine wo (Spec.assign (Has.s rfl)) ?_
   refine Walk.nil ?_
   exact Leaf.next hm (su (st (st Sub.nil)))
  ·have hm := cond_f hb hm
   refine CWalk.exit ?_
   refine Leaf.thenE ?_
   exact Leaf.brk hm (fun h => nomatch h) rfl (st Sub.nil)
 ·intro _
  refine Leaf.blockE ?_
  refine Leaf.thenN ?_
  refine CWalk.seq ?_
  refine CWalk.region ?_
  refine mv ?_
  refine wo (Spec.assign (Has.s rfl)) ?_
  refine Walk.nil ?_
  refine Leaf.thenN ?_
  refine CWalk.ret ?_
  obtain rfl := Option.some.inj hm
  exact Leaf.retC1 rfl (HasR.cv (HasR.tmp (Has.s rfl)) Cv.fl)

/-- freeboard/freeboardref04.Full -/
def ref04_Full (a0 : List UInt8) : Option ((List UInt8)) :=
  (bif (((a0).length : Int) == (0 : Int)) then Option.bind (makeL (0 : UInt8) (128 : Int)) (fun x1 => some x1) else Option.bind (app ([] : List UInt8) a0) (fun x2 => some x2))
set_option maxRecDepth 100000 in
set_option maxHeartbeats 2000000 in
theorem ref04_Full_c (a0 : List UInt8) {r : (List UInt8)} (hm : ref04_Full a0 = some r) : Ctr Try.prog 41 [.rep 0 a0] (.own 0 none 5 r) [] := by
 refine ctr_of_walk [[10, 11]] 11 Try.func41 rfl rfl rfl rfl (fun w0 om => ?_)
 unfold ref04_Full at hm
 refine CWalk.sub (G' := [.fact 0 (.rep [0] (a0 : List UInt8))]) (sn Sub.nil) ?_
 refine CWalk.seq ?_
 refine CWalk.region ?_
 refine wo (Spec.assign Has.nilv) ?_
 refine Walk.nil ?_
 refine Leaf.thenN ?_
 refine CWalk.seq ?_
 refine CWalk.seq ?_
 refine CWalk.region ?_
 refine mv ?_
 refine wo (Spec.len (Has.s rfl) Try.underlying54) ?_
 refine wo (Spec.eqlI (Has.s rfl) Has.int) ?_
 refine Walk.nil ?_
 refine Leaf.thenN ?_
 refine CWalk.cond rfl (fun hb => ?_) (fun hb => ?_)
 ·have hm := cond_t hb hm
  refine CWalk.seq ?_
  refine CWalk.region ?_
  obtain ⟨x1, hx1, hm⟩ := bind_some hm
  refine ws (Step.makeOwn 10 hx1 rfl rfl ow54 zt5 Has.int) ?_
  refine wo (Spec.assign (Has.s rfl)) ?_
  refine Walk.nil ?_
  refine Leaf.thenN ?_
  refine CWalk.ret ?_
  refine Leaf.thenR ?_
  obtain rfl := Option.some.inj hm
  exact Leaf.retC1 rfl (HasR.cv (HasR.tmp (Has.s rfl)) (Cv.trans (Cv.isvOw rfl) (Cv.owF (T := [10]) (te := []) rfl)))
 ·have hm := cond_f hb hm
  refine CWalk.skip ?_
  refine Leaf.thenN ?_
  refine CWalk.seq ?_
  refine CWalk.region ?_
  refine wo (Spec.assign Has.nilv) ?_
  refine Walk.nil ?_
  refine Leaf.thenN ?_
  refine CWalk.seq ?_
  refine CWalk.region ?_
  refine mv ?_
  refine mv ?_
  obtain ⟨x2, hx2, hm⟩ := bind_some hm
  refine wo (Spec.appNilO (te' := []) 11 hx2 rfl ow54 (Has.s rfl) (Has.s rfl) ElKeep.flat) ?_
  refine wo (Spec.assign (Has.s rfl)) ?_
  refine Walk.nil ?_
  refine Leaf.thenN ?_
  refine CWalk.ret ?_
  obtain rfl := Option.some.inj hm
  exact Leaf.retC1 rfl (HasR.cv (HasR.tmp (Has.s rfl)) (Cv.owF (T := [11]) (te := []) rfl))

def ref05_Cut_J3 (s8 : Int) (s9 : Int) (j13 : List (List UInt8)) : Option (Ctl (Int × Int × (List (List UInt8))) (Int × (List (List UInt8)))) :=
  some (Ctl.next ((wI (s8 + (1 : Int))), (wI (s9 + (1 : Int))), j13))
def ref05_Cut_L2 (a0 : List Disk) (a1 : List Bool) (s3 : Int) (s8 : Int) (s9 : Int) (s10 : List (List UInt8)) : Option (Ctl (Int × Int × (List (List UInt8))) (Int × (List (List UInt8)))) :=
  Option.bind (idx a0 s3) (fun x12 => (bif (decide (s9 < ((x12.Wait).length : Int))) then Option.bind (gO ((decide (s8 < ((a1).length : Int)))) (idx a1 s8)) (fun x14 => (bif ((decide (s8 < ((a1).length : Int))) && x14) then Option.bind (idx a0 s3) (fun x15 => Option.bind (idx x15.Wait s9) (fun x16 => Option.bind (idx a0 s3) (fun x17 => Option.bind (idx x17.Wait s9) (fun x18 => Option.bind (ref04_Full x18.Data) (fun x19 => Option.bind (bnd (s10).length x16.At) (fun x20 => (ref05_Cut_J3 s8 s9 ((s10).set x20 x19)))))))) else (ref05_Cut_J3 s8 s9 s10))) else some (Ctl.brk (s8, s10))))
def ref05_Cut_L1 (a0 : List Disk) (a1 : List Bool) (s1 : List Disk) (s2 : Int) (s3 : Int) : Option (Ctl ((List Disk) × Int × Int) ((List Disk))) :=
  (bif (decide (s3 < ((a0).length : Int))) then Option.bind (idx a0 s3) (fun x5 => Option.bind (idx a0 s3) (fun x6 => Option.bind (app ([] : List (List UInt8)) x6.Blocks) (fun x7 => Option.bind (loopM (fun s : Int × Int × (List (List UInt8)) => ref05_Cut_L2 a0 a1 s3 s.1 s.2.1 s.2.2) FUEL (s2, (0 : Int), x7)) (fun b21 => Option.bind (app s1 ([(Disk.mk b21.2 ([] : List Write) x5.Dead)])) (fun x22 => some (Ctl.next (x22, b21.1, (wI (s3 + (1 : Int)))))))))) else some (Ctl.brk s1))
/-- freeboard/freeboardref05.Cut -/
def ref05_Cut (a0 : List Disk) (a1 : List Bool) : Option ((List Disk)) :=
  Option.bind (loopM (fun s : (List Disk) × Int × Int => ref05_Cut_L1 a0 a1 s.1 s.2.1 s.2.2) FUEL (([] : List Disk), (0 : Int), (0 : Int))) (fun b23 => some b23)
set_option maxRecDepth 100000 in
set_option maxHeartbeats 2000000 in
theorem ref05_Cut_c (a0 : List Disk) (a1 : List Bool) {r : (List Disk)} (hm : ref05_Cut a0 a1 = some r) : Ctr Try.prog 39 [.rep 0 a0, .rep 0 a1] (.own 0 (some 1) 41 r) [1] := by
 refine ctr_of_walk [[18], [0, 16, 19]] 80 Try.func39 rfl rfl rfl rfl (fun w0 om => ?_)
 unfold ref05_Cut at hm
 refine CWalk.sub (G' := [.fact 0 (.rep [0] (a0 : List Disk)), .fact 1 (.rep [0] (a1 : List Bool))]) (sn (sn Sub.nil)) ?_
 refine CWalk.seq ?_
 refine CWalk.region ?_
 refine wo (Spec.assign Has.nilv) ?_
 refine Walk.nil ?_
 refine Leaf.thenN ?_
 refine CWalk.seq ?_
 refine CWalk.region ?_
 refine wo (Spec.assign Has.nilv) ?_
 refine Walk.nil ?_
 refine Leaf.thenN ?_
 refine CWalk.seq ?_
 refine CWalk.region ?_
 refine wo (Spec.assign Has.int) ?_
 refine Walk.nil ?_
 refine Leaf.thenN ?_
 refine CWalk.seq ?_
 refine CWalk.seq ?_
 refine CWalk.region ?_
 refine wo (Spec.assign Has.int) ?_
 refine Walk.nil ?_
 refine Leaf.thenN ?_
 refine CWalk.block ?_
 obtain ⟨b23, hb23, hm⟩ := bind_some hm
 refine CWalk.loop (fun s : (List Disk) × Int × Int => [.fact 0 (.rep [0] (a0 : List Disk)), .fact 1 (.rep [0] (a1 : List Bool)), .fact 5 (.ow2 hd41 [18] [19] [0, 16] 41 54 (s.1 : List Disk)), .fact 6 (.rep [] s.2.1), .fact 7 (.rep [] s.2.2)]) (fun b : (List Disk) => (Exit.exit 0, [.fact 5 (.ow2 hd41 [18] [19] [0, 16] 41 54 (b : List Disk))])) hb23 (su (su (Sub.cons (Has.cv (Has.s rfl) Cv.nilOw2) (st (st Sub.nil))))) ?_ ?_
 ·rintro ⟨s1, s2, s3⟩ c4 hm
  replace hm : ref05_Cut_L1 a0 a1 s1 s2 s3 = some c4 := hm
  unfold ref05_Cut_L1 at hm
  show CWalk _ [.fact 0 (.rep [0] (a0 : List Disk)), .fact 1 (.rep [0] (a1 : List Bool)), .fact 5 (.ow2 hd41 [18] [19] [0, 16] 41 54 (s1 : List Disk)), .fact 6 (.rep [] (s2 : Int)), .fact 7 (.rep [] (s3 : Int))] _ _
  refine CWalk.seq ?_
  refine CWalk.seq ?_
  refine CWalk.region ?_
  refine mv ?_
  refine mv ?_
  refine wo (Spec.len (Has.s rfl) Try.underlying22) ?_
  refine wo (Spec.lssI (Has.s rfl) (Has.s rfl)) ?_
  refine Walk.nil ?_
  refine Leaf.thenN ?_
  refine CWalk.cond rfl (fun hb => ?_) (fun hb => ?_)
  ·have hm := cond_t hb hm
   refine CWalk.skip ?_
   refine Leaf.thenN ?_
   refine CWalk.seq ?_
   refine CWalk.block ?_
   refine CWalk.seq ?_
   refine CWalk.region ?_
   refine mv ?_
   refine mv ?_
   obtain ⟨x5, hx5, hm⟩ := bind_some hm
   refine wo (Spec.indexAddr hx5 sl22 (Has.s rfl) (Has.s rfl)) ?_
   refine wo (Spec.fieldAddrP fd41_2 (chDisk x5) rfl (Has.s rfl)) ?_
   refine wo ((Spec.load ty4 (Has.s rfl)).flat (T' := [])) ?_
   refine wo (Spec.build (us := [(2, .tmp 20)]) (ls' := [(false, 1, Fact.nilv), (false, 1, Fact.nilv), (false, 1, Fact.rep [] x5.Dead)]) bd41 rfl (BP.cons rfl rfl (Has.s rfl) (Has.s rfl) BP.nil)) ?_
   refine ws (Step.allocObj (ls := [(false, 1, Fact.nilv), (false, 1, Fact.nilv), (false, 1, Fact.rep [] (false : Bool))]) 10 rfl rfl rfl rfl zl41) ?_
   refine ws (Step.storeObj (ls := [(false, 1, Fact.nilv), (false, 1, Fact.nilv), (false, 1, Fact.rep [] x5.Dead)]) rfl ty41 rfl rfl (Has.s rfl) rfl (HasL.flds (Has.s rfl)) rfl) ?_
   refine Walk.nil ?_
   refine Leaf.thenN ?_
   refine CWalk.seq ?_
   obtain ⟨x6, hx6, hm⟩ := bind_some hm
   obtain ⟨x7, hx7, hm⟩ := bind_some hm
   refine CWalk.drawM [[], [0], [], [], [2, 3], [2, 3, 4], [2, 3, 4, 5], [0, 1, 2, 3, 4, 5, 6], [0, 1, 2, 3, 4, 5, 6, 7], [0, 1, 2, 3, 4, 5, 6, 7, 8]] [[.fact 22 (.pto 10 0)], [.fact 23 (.nilv)], [.fact 24 (.rep [0] (a0 : List Disk))], [.fact 25 (.rep [] (s3 : Int))], [.fact 26 (.ptr [0] (x6 : Disk))], [.fact 27 (.ptr [0] (x6.Blocks : List (List UInt8)))], [.fact 28 (.rep [0] x6.Blocks)], [.fact 29 (.ow [14] [0] 54 (x7 : List (List UInt8)))], [.fact 30 (.pto 10 0)], [.fact 100011 (.at 11 (.ow [14] [0] 54 (x7 : List (List UInt8)))), .fact 100010 (.obj 10 [(false, 1), (false, 1), (false, 1)]), .kill 10, .killId 11]] mixed (by kernel_rfl) (ao (so (Spec.fieldAddrO fd41_0 (Has.cv (Has.s rfl) (Cv.isvP rfl)))) (ao (so (Spec.loadF (i := 0) ty38 rfl (Has.s rfl) rfl (HasG.s rfl))) (ao (so (Spec.move (Has.s rfl))) (ao (so (Spec.move (Has.s rfl))) (ao (so (Spec.indexAddr hx6 sl22 (Has.s rfl) (Has.s rfl))) (ao (so (Spec.fieldAddrP fd41_0 (chDisk x6) rfl (Has.s rfl))) (ao (so (Spec.load ty38 (Has.s rfl))) (ao (so (Spec.appNilO (te' := [0]) 14 hx7 rfl ow38 (Has.s rfl) (Has.s rfl) (ElKeep.tags rfl rfl))) (ao (so (Spec.fieldAddrO fd41_0 (Has.cv (Has.s rfl) (Cv.isvP rfl)))) (ao (StepG.stE (Step.storeF (i := 0) (f := Fact.ow [14] [0] 54 (x7 : List (List UInt8))) rfl ty38 rfl (Has.s rfl) rfl (Has.cv (Has.s rfl) (Cv.trans Cv.owSl (Cv.slRep (T' := [0, 14]) rfl rfl))) (Has.s rfl) rfl)) AllM.nil)))))))))) ?_
   refine Leaf.thenN ?_
   refine CWalk.seq ?_
   refine CWalk.seq ?_
   refine CWalk.region ?_
   refine wo (Spec.assign Has.int) ?_
   refine Walk.nil ?_
   refine Leaf.thenN ?_
   refine CWalk.block ?_
   obtain ⟨b21, hb21, hm⟩ := bind_some hm
   refine CWalk.loop (fun s : Int × Int × (List (List UInt8)) => [.fact 0 (.rep [0] (a0 : List Disk)), .fact 1 (.rep [0] (a1 : List Bool)), .fact 5 (.ow2 hd41 [18] [19] [0, 16] 41 54 (s1 : List Disk)), .fact 6 (.rep [] s.1), .fact 7 (.rep [] (s3 : Int)), .fact 8 (.isv 10), .fact 9 (.rep [] s.2.1), .fact 100011 (.at 11 (.ow [14, 15] [0, 16] 54 (s.2.2 : List (List UInt8)))), .fact 100012 (.at 12 (.nilv)), .fact 100013 (.at 13 (.rep [] x5.Dead)), .fact 100010 (.obj 10 [(false, 1), (false, 1), (false, 1)])]) (fun b : Int × (List (List UInt8)) => (Exit.exit 2, [.fact 0 (.rep [0] (a0 : List Disk)), .fact 1 (.rep [0] (a1 : List Bool)), .fact 5 (.ow2 hd41 [18] [19] [0, 16] 41 54 (s1 : List Disk)), .fact 6 (.rep [] b.1), .fact 7 (.rep [] (s3 : Int)), .fact 8 (.isv 10), .fact 100011 (.at 11 (.ow [14, 15] [0, 16] 54 (b.2 : List (List UInt8)))), .fact 100012 (.at 12 (.nilv)), .fact 100013 (.at 13 (.rep [] x5.Dead)), .fact 100010 (.obj 10 [(false, 1), (false, 1), (false, 1)])])) hb21 (su (su (Sub.cons (Has.cv (Has.s rfl) (Cv.ow2M (T := [18]) (Tr := [19]) (te := [0, 16]) rfl rfl rfl)) (st (st (sn (st (Sub.cons (Has.at (HasG.cv (HasG.s rfl) (Cv.owM (T := [14]) (te := [0]) rfl rfl))) (sg (sf (sn Sub.nil))))))))))) ?_ ?_
   ·rintro ⟨s8, s9, s10⟩ c11 hm
    replace hm : ref05_Cut_L2 a0 a1 s3 s8 s9 s10 = some c11 := hm
    unfold ref05_Cut_L2 at hm
    show CWalk _ [.fact 0 (.rep [0] (a0 : List Disk)), .fact 1 (.rep [0] (a1 : List Bool)), .fact 5 (.ow2 hd41 [18] [19] [0, 16] 41 54 (s1 : List Disk)), .fact 6 (.rep [] (s8 : Int)), .fact 7 (.rep [] (s3 : Int)), .fact 8 (.isv 10), .fact 9 (.rep [] (s9 : Int)), .fact 100011 (.at 11 (.ow [14, 15] [0, 16] 54 (s10 : List (List UInt8)))), .fact 100012 (.at 12 (.nilv)), .fact 100013 (.at 13 (.rep [] x5.Dead)), .fact 100010 (.obj 10 [(false, 1), (false, 1), (false, 1)])] _ _
    refine CWalk.seq ?_
    refine CWalk.seq ?_
    refine CWalk.region ?_
    refine mv ?_
    refine mv ?_
    refine mv ?_
    obtain ⟨x12, hx12, hm⟩ := bind_some hm
    refine wo (Spec.indexAddr hx12 sl22 (Has.s rfl) (Has.s rfl)) ?_
    refine wo (Spec.fieldAddrP fd41_1 (chDisk x12) rfl (Has.s rfl)) ?_
    refine wo (Spec.load ty39 (Has.s rfl)) ?_
    refine wo (Spec.len (Has.s rfl) Try.underlying39) ?_
    refine wo (Spec.lssI (Has.s rfl) (Has.s rfl)) ?_
    refine Walk.nil ?_
    refine Leaf.thenN ?_
    refine CWalk.cond rfl (fun hb => ?_) (fun hb => ?_)
    ·have hm := cond_t hb hm
     refine CWalk.skip ?_
     refine Leaf.thenN ?_
     refine CWalk.seq ?_
     refine CWalk.block ?_
     refine CWalk.seqJ (fun p : (List (List UInt8)) => [.fact 0 (.rep [0] (a0 : List Disk)), .fact 1 (.rep [0] (a1 : List Bool)), .fact 5 (.ow2 hd41 [18] [19] [0, 16] 41 54 (s1 : List Disk)), .fact 6 (.rep [] (s8 : Int)), .fact 7 (.rep [] (s3 : Int)), .fact 8 (.isv 10), .fact 9 (.rep [] (s9 : Int)), .fact 100011 (.at 11 (.ow [14, 15] [0, 16] 54 (p : List (List UInt8)))), .fact 100012 (.at 12 (.nilv)), .fact 100013 (.at 13 (.rep [] x5.Dead)), .fact 100010 (.obj 10 [(false, 1), (false, 1), (false, 1)])]) (fun p : (List (List UInt8)) => ref05_Cut_J3 s8 s9 p = some c11) ?_ ?_
     ·rintro j13 hm
      replace hm : ref05_Cut_J3 s8 s9 j13 = some c11 := hm
      unfold ref05_Cut_J3 at hm
      show CWalk _ [.fact 0 (.rep [0] (a0 : List Disk)), .fact 1 (.rep [0] (a1 : List Bool)), .fact 5 (.ow2 hd41 [18] [19] [0, 16] 41 54 (s1 : List Disk)), .fact 6 (.rep [] (s8 : Int)), .fact 7 (.rep [] (s3 : Int)), .fact 8 (.isv 10), .fact 9 (.rep [] (s9 : Int)), .fact 100011 (.at 11 (.ow [14, 15] [0, 16] 54 (j13 : List (List UInt8)))), .fact 100012 (.at 12 (.nilv)), .fact 100013 (.at 13 (.rep [] x5.Dead)), .fact 100010 (.obj 10 [(false, 1), (false, 1), (false, 1)])] _ _
      refine CWalk.region ?_
      refine mv ?_
      refine wo (Spec.addI (Has.s rfl) Has.int) ?_
      refine wo (Spec.assign (Has.s rfl)) ?_
      refine Walk.nil ?_
      refine Leaf.blockN ?_
      refine Leaf.thenN ?_
      refine CWalk.region ?_
      refine mv ?_
      refine wo (Spec.addI (Has.s rfl) Has.int) ?_
      refine wo (Spec.assign (Has.s rfl)) ?_
      refine Walk.nil ?_
      exact Leaf.next hm (su (su (Sub.cons (Has.cv (Has.s rfl) (Cv.ow2M (T := [18]) (Tr := [19]) (te := [0, 16]) rfl rfl rfl)) (st (st (sn (st (Sub.cons (Has.at (HasG.cv (HasG.s rfl) (Cv.owM (T := [14, 15]) (te := [0, 16]) rfl rfl))) (sg (sf (sn Sub.nil)))))))))))
     ·refine CWalk.seq ?_
      refine CWalk.region ?_
      refine mv ?_
      refine mv ?_
      refine wo (Spec.len (Has.s rfl) Try.underlying23) ?_
      refine wo (Spec.lssI (Has.s rfl) (Has.s rfl)) ?_
      refine mv ?_
      refine wg rfl rfl (fun hb => Spec.move (Has.s rfl)) ?_
      refine wg rfl rfl (fun hb => Spec.move (Has.s rfl)) ?_
      obtain ⟨x14, hx14, hm⟩ := bind_some hm
      refine wg rfl rfl (fun hb => Spec.indexAddr (gO_t hx14 hb) sl23 (Has.u rfl hb) (Has.u rfl hb)) ?_
      refine wg rfl rfl (fun hb => (Spec.load ty4 (Has.u rfl hb)).flat (T' := [])) ?_
      refine wo (Spec.and (Has.s rfl) (fun h => Has.u rfl h)) ?_
      refine Walk.nil ?_
      refine Leaf.thenN ?_
      refine CWalk.cond rfl (fun hb => ?_) (fun hb => ?_)
      ·have hm := cond_t hb hm
       refine CWalk.ad (Ad.owF (i := 11) 15 rfl rfl rfl (ElT.tags rfl) rfl (Cv.owM (T := [14, 15]) (te := [0, 16]) (T' := [14, 15]) (te' := [0, 16]) rfl rfl)) ?_
       obtain ⟨x15, hx15, hm⟩ := bind_some hm
       obtain ⟨x16, hx16, hm⟩ := bind_some hm
       obtain ⟨x17, hx17, hm⟩ := bind_some hm
       obtain ⟨x18, hx18, hm⟩ := bind_some hm
       obtain ⟨x19, hx19, hm⟩ := bind_some hm
       obtain ⟨x20, hx20, hm⟩ := bind_some hm
       refine CWalk.drawM [[], [0], [], [], [2, 3], [2, 3, 4], [2, 3, 4, 5], [], [2, 3, 4, 5, 6, 7], [2, 3, 4, 5, 6, 7, 8], [2, 3, 4, 5, 6, 7, 8, 9], [], [], [11, 12], [11, 12, 13], [11, 12, 13, 14], [], [11, 12, 13, 14, 15, 16], [11, 12, 13, 14, 15, 16, 17], [11, 12, 13, 14, 15, 16, 17, 18], [11, 12, 13, 14, 15, 16, 17, 18, 19], [0, 1, 2, 3, 4, 5, 6, 7, 8, 9, 10, 11, 12, 13, 14, 15, 16, 17, 18, 19, 20], [0, 1, 2, 3, 4, 5, 6, 7, 8, 9, 10, 11, 12, 13, 14, 15, 16, 17, 18, 19, 20, 21]] [[.fact 51 (.pto 10 0)], [.fact 52 (.isv 15)], [.fact 53 (.rep [0] (a0 : List Disk))], [.fact 54 (.rep [] (s3 : Int))], [.fact 55 (.ptr [0] (x15 : Disk))], [.fact 56 (.ptr [0] (x15.Wait : List Write))], [.fact 57 (.rep [0] x15.Wait)], [.fact 58 (.rep [] (s9 : Int))], [.fact 59 (.ptr [0] (x16 : Write))], [.fact 60 (.ptr [0] (x16.At : Int))], [.fact 61 (.rep [] x16.At)], [.fact 62 (.rep [0] (a0 : List Disk))], [.fact 63 (.rep [] (s3 : Int))], [.fact 64 (.ptr [0] (x17 : Disk))], [.fact 65 (.ptr [0] (x17.Wait : List Write))], [.fact 66 (.rep [0] x17.Wait)], [.fact 67 (.rep [] (s9 : Int))], [.fact 68 (.ptr [0] (x18 : Write))], [.fact 69 (.ptr [0] (x18.Data : List UInt8))], [.fact 70 (.rep [0] x18.Data)], [.fact 71 (.ow [16] [] 5 (x19 : List UInt8))], [.fact 72 (.pto 15 (x20 * Rp.n (List UInt8)))], [.fact 100015 (.own 15 [0, 16] 54 ((s10).set x20 x19 : List (List UInt8))), .kill 15]] mixed (by kernel_rfl) (ao (so (Spec.fieldAddrO fd41_0 (Has.cv (Has.s rfl) (Cv.isvP rfl)))) (ao (so (Spec.loadF (i := 0) ty38 rfl (Has.s rfl) rfl (HasG.s rfl))) (ao (so (Spec.move (Has.s rfl))) (ao (so (Spec.move (Has.s rfl))) (ao (so (Spec.indexAddr hx15 sl22 (Has.s rfl) (Has.s rfl))) (ao (so (Spec.fieldAddrP fd41_1 (chDisk x15) rfl (Has.s rfl))) (ao (so (Spec.load ty39 (Has.s rfl))) (ao (so (Spec.move (Has.s rfl))) (ao (so (Spec.indexAddr hx16 sl39 (Has.s rfl) (Has.s rfl))) (ao (so (Spec.fieldAddrP fd58_0 (chWrite x16) rfl (Has.s rfl))) (ao (so ((Spec.load ty3 (Has.s rfl)).flat (T' := []))) (ao (so (Spec.move (Has.s rfl))) (ao (so (Spec.move (Has.s rfl))) (ao (so (Spec.indexAddr hx17 sl22 (Has.s rfl) (Has.s rfl))) (ao (so (Spec.fieldAddrP fd41_1 (chDisk x17) rfl (Has.s rfl))) (ao (so (Spec.load ty39 (Has.s rfl))) (ao (so (Spec.move (Has.s rfl))) (ao (so (Spec.indexAddr hx18 sl39 (Has.s rfl) (Has.s rfl))) (ao (so (Spec.fieldAddrP fd58_1 (chWrite x18) rfl (Has.s rfl))) (ao (so (Spec.load ty54 (Has.s rfl))) (ao (so (Spec.callE [0] 16 rfl en41 (ref04_Full_c x18.Data hx19) (HasAll.cons (Has.m (Has.s rfl) rfl) HasAll.nil))) (ao (so (Spec.idxOwn hx20 ow38 (Has.s rfl) rfl (Has.s rfl))) (ao (StepG.stE (Step.storeOwn (te' := [0, 16]) rfl (bnd_lt hx20 rfl) ty54 (Has.s rfl) rfl (Has.cv (Has.s rfl) (Cv.trans Cv.owSl (Cv.slRep (T' := [16]) rfl rfl))) (ElKeep.tags rfl rfl) (ElKeep.tags rfl rfl))) AllM.nil))))))))))))))))))))))) ?_
       exact Leaf.join ((s10).set x20 x19) hm (su (su (Sub.cons (Has.cv (Has.s rfl) (Cv.ow2M (T := [18]) (Tr := [19]) (te := [0, 16]) rfl rfl rfl)) (st (st (sn (st (Sub.cons (Has.at (HasG.cv (HasG.s rfl) (Cv.trans (Cv.isvOw rfl) (Cv.owM (T := [15]) (te := [0, 16]) rfl rfl)))) (sg (sf (sn Sub.nil)))))))))))
      ·have hm := cond_f hb hm
       refine CWalk.skip ?_
       exact Leaf.join s10 hm (su (su (Sub.cons (Has.cv (Has.s rfl) (Cv.ow2M (T := [18]) (Tr := [19]) (te := [0, 16]) rfl rfl rfl)) (st (st (sn (st (Sub.cons (Has.at (HasG.cv (HasG.s rfl) (Cv.owM (T := [14, 15]) (te := [0, 16]) rfl rfl))) (sg (sf (sn Sub.nil)))))))))))
    ·have hm := cond_f hb hm
     refine CWalk.exit ?_
     refine Leaf.thenE ?_
     exact Leaf.brk hm (fun h => nomatch h) rfl (su (su (Sub.cons (Has.cv (Has.s rfl) (Cv.ow2M (T := [18]) (Tr := [19]) (te := [0, 16]) rfl rfl rfl)) (st (st (sn (Sub.cons (Has.at (HasG.cv (HasG.s rfl) (Cv.owM (T := [14, 15]) (te := [0, 16]) rfl rfl))) (sg (sf (sn Sub.nil))))))))))
   ·intro _
    refine Leaf.blockE ?_
    refine Leaf.thenN ?_
    refine CWalk.region ?_
    refine mv ?_
    refine wo (Spec.loadObj (ls := [(false, 1, Fact.ow [14, 15] [0, 16] 54 (b21.2 : List (List UInt8))), (false, 1, Fact.nilv), (false, 1, Fact.rep [] x5.Dead)]) ty41 rfl rfl (Has.s rfl) rfl (HasGs.cons (HasG.s rfl) (HasGs.cons (HasG.s rfl) (HasGs.cons (HasG.s rfl) HasGs.nil)))) ?_
    refine wo (Spec.lit2 (y := (Disk.mk b21.2 ([] : List Write) x5.Dead)) (es := [(⟨inferInstance, (([] : List Write) : List Write)⟩ : Ent), (⟨inferInstance, (x5.Dead : Bool)⟩ : Ent)]) (T := [14, 15]) (te := [0, 16]) hd41 17 rfl ow22 rfl rfl rfl (hes41 (Disk.mk b21.2 ([] : List Write) x5.Dead)) (Has.cv (Has.s rfl) (Cv.flds (CvL.cons (Cv.owM (T := [14, 15]) (te := [0, 16]) rfl rfl) (CvL.cons (Cv.trans (Cv.nil (T := [])) (Cv.m rfl)) (CvL.cons Cv.fl CvL.nil)))))) ?_
    obtain ⟨x22, hx22, hm⟩ := bind_some hm
    refine ws (Step.append2 (H := hd41) (T := [18]) (Tr := [19]) (te := [0, 16]) (K := [14, 15]) (te' := [0, 16]) (teO := [0, 16]) 19 hx22 rfl rfl rfl rfl rfl rfl ow22 rfl rfl rfl rfl (Has.s rfl) (Has.s rfl)) ?_
    refine wo (Spec.assign (Has.s rfl)) ?_
    refine Walk.nil ?_
    refine Leaf.blockN ?_
    refine Leaf.thenN ?_
    refine CWalk.region ?_
    refine mv ?_
    refine wo (Spec.addI (Has.s rfl) Has.int) ?_
    refine wo (Spec.assign (Has.s rfl)) ?_
    refine Walk.nil ?_
    exact Leaf.next hm (su (su (Sub.cons (Has.cv (Has.s rfl) (Cv.ow2M (T := [18]) (Tr := [19]) (te := [0, 16]) rfl rfl rfl)) (st (st Sub.nil)))))
  ·have hm := cond_f hb hm
   refine CWalk.exit ?_
   refine Leaf.thenE ?_
   exact Leaf.brk hm (fun h => nomatch h) rfl (Sub.cons (Has.cv (Has.s rfl) (Cv.ow2M (T := [18]) (Tr := [19]) (te := [0, 16]) rfl rfl rfl)) Sub.nil)
 ·intro _
  refine Leaf.blockE ?_
  refine Leaf.thenN ?_
  refine CWalk.seq ?_
  refine CWalk.region ?_
  refine mv ?_
  refine wo (Spec.assign (Has.s rfl)) ?_
  refine Walk.nil ?_
  refine Leaf.thenN ?_
  refine CWalk.ret ?_
  obtain rfl := Option.some.inj hm
  exact Leaf.retC1 rfl (HasR.cv (HasR.tmp (Has.s rfl)) (Cv.trans Cv.ow2Ow (Cv.owM (T := [18]) (te := [19, 0, 16]) rfl rfl)))

/-- freeboard/freeboardref05.Crash -/
def ref05_Crash (a0 : List Disk) (a1 : List Bool) : Option ((List Disk) × Int) :=
  Option.bind (ref05_May a0) (fun x1 => (bif (!x1) then some (([] : List Disk), (8 : Int)) else Option.bind (ref05_Many a0) (fun x2 => (bif (decide (((a1).length : Int) > x2)) then some (([] : List Disk), (2 : Int)) else Option.bind (ref05_Cut a0 a1) (fun x3 => some (x3, (0 : Int)))))))
set_option maxRecDepth 100000 in
set_option maxHeartbeats 2000000 in
theorem ref05_Crash_c (a0 : List Disk) (a1 : List Bool) {r : (List Disk) × Int} (hm : ref05_Crash a0 a1 = some r) : Ctr Try.prog 12 [.rep 0 a0, .rep 0 a1] (.tup2 (.own 0 (some 1) 41 r.1) (.fl r.2)) [1] := by
 refine ctr_of_walk [[12], [0, 13]] 17 Try.func12 rfl rfl rfl rfl (fun w0 om => ?_)
 unfold ref05_Crash at hm
 refine CWalk.sub (G' := [.fact 0 (.rep [0] (a0 : List Disk)), .fact 1 (.rep [0] (a1 : List Bool))]) (sn (sn Sub.nil)) ?_
 refine CWalk.seq ?_
 refine CWalk.region ?_
 refine wo (Spec.assign Has.nilv) ?_
 refine wo (Spec.assign Has.int) ?_
 refine Walk.nil ?_
 refine Leaf.thenN ?_
 refine CWalk.seq ?_
 refine CWalk.seq ?_
 refine CWalk.region ?_
 refine mv ?_
 obtain ⟨x1, hx1, hm⟩ := bind_some hm
 refine wo (f := Fact.rep [] (x1 : Bool)) (Spec.callE [0] 10 rfl en37 (ref05_May_c a0 hx1) (HasAll.cons (Has.m (Has.s rfl) rfl) HasAll.nil)) ?_
 refine wo (Spec.not (Has.s rfl)) ?_
 refine Walk.nil ?_
 refine Leaf.thenN ?_
 refine CWalk.cond rfl (fun hb => ?_) (fun hb => ?_)
 ·have hm := cond_t hb hm
  refine CWalk.seq ?_
  refine CWalk.region ?_
  refine wo (Spec.assign Has.nilv) ?_
  refine wo (Spec.assign Has.int) ?_
  refine Walk.nil ?_
  refine Leaf.thenN ?_
  refine CWalk.ret ?_
  refine Leaf.thenR ?_
  obtain rfl := Option.some.inj hm
  exact Leaf.retC2 rfl (HasR.cv (HasR.tmp (Has.s rfl)) (Cv.trans Cv.nilOw (Cv.owM (T := []) (te := []) rfl rfl))) (HasR.cv (HasR.tmp (Has.s rfl)) Cv.fl)
 ·have hm := cond_f hb hm
  refine CWalk.skip ?_
  refine Leaf.thenN ?_
  refine CWalk.seq ?_
  refine CWalk.seq ?_
  refine CWalk.region ?_
  refine mv ?_
  refine wo (Spec.len (Has.s rfl) Try.underlying23) ?_
  refine mv ?_
  obtain ⟨x2, hx2, hm⟩ := bind_some hm
  refine wo (f := Fact.rep [] (x2 : Int)) (Spec.callE [0] 11 rfl en38 (ref05_Many_c a0 hx2) (HasAll.cons (Has.m (Has.s rfl) rfl) HasAll.nil)) ?_
  refine wo (Spec.gtrI (Has.s rfl) (Has.s rfl)) ?_
  refine Walk.nil ?_
  refine Leaf.thenN ?_
  refine CWalk.cond rfl (fun hb => ?_) (fun hb => ?_)
  ·have hm := cond_t hb hm
   refine CWalk.seq ?_
   refine CWalk.region ?_
   refine wo (Spec.assign Has.nilv) ?_
   refine wo (Spec.assign Has.int) ?_
   refine Walk.nil ?_
   refine Leaf.thenN ?_
   refine CWalk.ret ?_
   refine Leaf.thenR ?_
   obtain rfl := Option.some.inj hm
   exact Leaf.retC2 rfl (HasR.cv (HasR.tmp (Has.s rfl)) (Cv.trans Cv.nilOw (Cv.owM (T := []) (te := []) rfl rfl))) (HasR.cv (HasR.tmp (Has.s rfl)) Cv.fl)
  ·have hm := cond_f hb hm
   refine CWalk.skip ?_
   refine Leaf.thenN ?_
   refine CWalk.seq ?_
   refine CWalk.region ?_
   refine mv ?_
   refine mv ?_
   obtain ⟨x3, hx3, hm⟩ := bind_some hm
   refine wo (f := Fact.ow [12] [13, 0] 41 (x3 : List Disk)) (Spec.callE [0] 12 rfl en39 (ref05_Cut_c a0 a1 hx3) (HasAll.cons (Has.m (Has.s rfl) rfl) (HasAll.cons (Has.m (Has.s rfl) rfl) HasAll.nil))) ?_
   refine wo (Spec.assign (Has.s rfl)) ?_
   refine wo (Spec.assign Has.int) ?_
   refine Walk.nil ?_
   refine Leaf.thenN ?_
   refine CWalk.ret ?_
   obtain rfl := Option.some.inj hm
   exact Leaf.retC2 rfl (HasR.cv (HasR.tmp (Has.s rfl)) (Cv.owM (T := [12]) (te := [13, 0]) rfl rfl)) (HasR.cv (HasR.tmp (Has.s rfl)) Cv.fl)

/-- freeboard/freeboardref05.Waits -/
def ref05_Waits (a0 : List Disk) : Option (Int × Int) :=
  Option.bind (ref05_May a0) (fun x1 => (bif (!x1) then some ((0 : Int), (8 : Int)) else Option.bind (ref05_Many a0) (fun x2 => some (x2, (0 : Int)))))
set_option maxRecDepth 100000 in
set_option maxHeartbeats 2000000 in
theorem ref05_Waits_c (a0 : List Disk) {r : Int × Int} (hm : ref05_Waits a0 = some r) : Ctr Try.prog 14 [.rep 0 a0] (.tup2 (.fl r.1) (.fl r.2)) [] := by
 refine ctr_of_walk [[]] 9 Try.func14 rfl rfl rfl rfl (fun w0 om => ?_)
 unfold ref05_Waits at hm
 refine CWalk.sub (G' := [.fact 0 (.rep [0] (a0 : List Disk))]) (sn Sub.nil) ?_
 refine CWalk.seq ?_
 refine CWalk.region ?_
 refine wo (Spec.assign Has.int) ?_
 refine wo (Spec.assign Has.int) ?_
 refine Walk.nil ?_
 refine Leaf.thenN ?_
 refine CWalk.seq ?_
 refine CWalk.seq ?_
 refine CWalk.region ?_
 refine mv ?_
 obtain ⟨x1, hx1, hm⟩ := bind_some hm
 refine wo (f := Fact.rep [] (x1 : Bool)) (Spec.callE [0] 10 rfl en37 (ref05_May_c a0 hx1) (HasAll.cons (Has.m (Has.s rfl) rfl) HasAll.nil)) ?_
 refine wo (Spec.not (Has.s rfl)) ?_
 refine Walk.nil ?_
 refine Leaf.thenN ?_
 refine CWalk.cond rfl (fun hb => ?_) (fun hb => ?_)
 ·have hm := cond_t hb hm
  refine CWalk.seq ?_
  refine CWalk.region ?_
  refine wo (Spec.assign Has.int) ?_
  refine wo (Spec.assign Has.int) ?_
  refine Walk.nil ?_
  refine Leaf.thenN ?_
  refine CWalk.ret ?_
  refine Leaf.thenR ?_
  obtain rfl := Option.some.inj hm
  exact Leaf.retC2 rfl (HasR.cv (HasR.tmp (Has.s rfl)) Cv.fl) (HasR.cv (HasR.tmp (Has.s rfl)) Cv.fl)
 ·have hm := cond_f hb hm
  refine CWalk.skip ?_
  refine Leaf.thenN ?_
  refine CWalk.seq ?_
  refine CWalk.region ?_
  refine mv ?_
  obtain ⟨x2, hx2, hm⟩ := bind_some hm
  refine wo (f := Fact.rep [] (x2 : Int)) (Spec.callE [0] 11 rfl en38 (ref05_Many_c a0 hx2) (HasAll.cons (Has.m (Has.s rfl) rfl) HasAll.nil)) ?_
  refine wo (Spec.assign (Has.s rfl)) ?_
  refine wo (Spec.assign Has.int) ?_
  refine Walk.nil ?_
  refine Leaf.thenN ?_
  refine CWalk.ret ?_
  obtain rfl := Option.some.inj hm
  exact Leaf.retC2 rfl (HasR.cv (HasR.tmp (Has.s rfl)) Cv.fl) (HasR.cv (HasR.tmp (Has.s rfl)) Cv.fl)

def ref04_Same_L1 (a0 : Disk) (a1 : Disk) (s1 : Int) : Option (Ctl (Int) ((Unit) ⊕ (Unit))) :=
  (bif (decide (s1 < ((a0.Blocks).length : Int))) then Option.bind (idx a0.Blocks s1) (fun x3 => Option.bind (ref04_Full x3) (fun x4 => Option.bind (idx a1.Blocks s1) (fun x5 => Option.bind (ref04_Full x5) (fun x6 => (bif (!((Str.mk x4).s == (Str.mk x6).s)) then some (Ctl.brk (Sum.inr ())) else some (Ctl.next (wI (s1 + (1 : Int))))))))) else some (Ctl.brk (Sum.inl ())))
def ref04_Same_L2 (a0 : Disk) (a1 : Disk) (s9 : Int) : Option (Ctl (Int) ((Unit) ⊕ (Unit))) :=
  (bif (decide (s9 < ((a0.Wait).length : Int))) then Option.bind (idx a0.Wait s9) (fun x11 => Option.bind (idx a1.Wait s9) (fun x12 => Option.bind (gO (!(x11.At != x12.At)) (idx a0.Wait s9)) (fun x13 => Option.bind (gO (!(x11.At != x12.At)) (ref04_Full x13.Data)) (fun x14 => Option.bind (gO (!(x11.At != x12.At)) (idx a1.Wait s9)) (fun x15 => Option.bind (gO (!(x11.At != x12.At)) (ref04_Full x15.Data)) (fun x16 => (bif ((x11.At != x12.At) || (!((Str.mk x14).s == (Str.mk x16).s))) then some (Ctl.brk (Sum.inr ())) else some (Ctl.next (wI (s9 + (1 : Int))))))))))) else some (Ctl.brk (Sum.inl ())))
/-- freeboard/freeboardref04.Same -/
def ref04_Same (a0 : Disk) (a1 : Disk) : Option (Bool) :=
  (bif (((((a0.Blocks).length : Int) != ((a1.Blocks).length : Int)) || (((a0.Wait).length : Int) != ((a1.Wait).length : Int))) || (a0.Dead != a1.Dead)) then some false else Option.bind (loopM (fun s : Int => ref04_Same_L1 a0 a1 s) FUEL (0 : Int)) (fun b7 => Sum.elim (fun b8 => Option.bind (loopM (fun s : Int => ref04_Same_L2 a0 a1 s) FUEL (0 : Int)) (fun b17 => Sum.elim (fun b18 => some true) (fun b19 => some false) b17)) (fun b20 => some false) b7))
set_option maxRecDepth 100000 in
set_option maxHeartbeats 2000000 in
theorem ref04_Same_c (a0 : Disk) (a1 : Disk) {r : Bool} (hm : ref04_Same a0 a1 = some r) : Ctr Try.prog 17 [.rep 0 a0, .rep 0 a1] (.fl r) [] := by
 refine ctr_of_walk [[]] 91 Try.func17 rfl rfl rfl rfl (fun w0 om => ?_)
 unfold ref04_Same at hm
 refine CWalk.sub (G' := [.fact 0 (.rep [0] (a0 : Disk)), .fact 1 (.rep [0] (a1 : Disk))]) (sn (sn Sub.nil)) ?_
 refine CWalk.seq ?_
 refine CWalk.region ?_
 refine ws (Step.boxObj (ls := [(false, 1, Fact.rep [0] a0.Blocks), (false, 1, Fact.rep [0] a0.Wait), (false, 1, Fact.rep [] a0.Dead)]) 10 rfl rfl rfl rfl (HasL.flds (Has.cv (Has.s rfl) (Cv.trans (Cv.opens (chDisk a0)) (Cv.flds (CvL.cons Cv.refl (CvL.cons Cv.refl (CvL.cons Cv.fl CvL.nil)))))))) ?_
 refine ws (Step.boxObj (ls := [(false, 1, Fact.rep [0] a1.Blocks), (false, 1, Fact.rep [0] a1.Wait), (false, 1, Fact.rep [] a1.Dead)]) 14 rfl rfl rfl rfl (HasL.flds (Has.cv (Has.s rfl) (Cv.trans (Cv.opens (chDisk a1)) (Cv.flds (CvL.cons Cv.refl (CvL.cons Cv.refl (CvL.cons Cv.fl CvL.nil)))))))) ?_
 refine wo (Spec.assign Has.bool) ?_
 refine Walk.nil ?_
 refine Leaf.thenN ?_
 refine CWalk.seq ?_
 refine CWalk.seq ?_
 refine CWalk.region ?_
 refine wo (Spec.fieldAddrO fd41_0 (Has.cv (Has.s rfl) (Cv.isvP rfl))) ?_
 refine wo (Spec.loadF (i := 0) ty38 rfl (Has.s rfl) rfl (HasG.s rfl)) ?_
 refine wo (Spec.len (Has.s rfl) Try.underlying38) ?_
 refine wo (Spec.fieldAddrO fd41_0 (Has.cv (Has.s rfl) (Cv.isvP rfl))) ?_
 refine wo (Spec.loadF (i := 0) ty38 rfl (Has.s rfl) rfl (HasG.s rfl)) ?_
 refine wo (Spec.len (Has.s rfl) Try.underlying38) ?_
 refine wo (Spec.neqI (Has.s rfl) (Has.s rfl)) ?_
 refine mv ?_
 refine wg rfl rfl (fun hb => Spec.fieldAddrO fd41_1 (Has.cv (Has.s rfl) (Cv.isvP rfl))) ?_
 refine wg rfl rfl (fun hb => Spec.loadF (i := 1) ty39 rfl (Has.u rfl hb) rfl (HasG.s rfl)) ?_
 refine wg rfl rfl (fun hb => Spec.len (Has.u rfl hb) Try.underlying39) ?_
 refine wg rfl rfl (fun hb => Spec.fieldAddrO fd41_1 (Has.cv (Has.s rfl) (Cv.isvP rfl))) ?_
 refine wg rfl rfl (fun hb => Spec.loadF (i := 1) ty39 rfl (Has.u rfl hb) rfl (HasG.s rfl)) ?_
 refine wg rfl rfl (fun hb => Spec.len (Has.u rfl hb) Try.underlying39) ?_
 refine wg rfl rfl (fun hb => Spec.neqI (Has.u rfl hb) (Has.u rfl hb)) ?_
 refine wo (Spec.or (Has.s rfl) (fun h => Has.u rfl h)) ?_
 refine mv ?_
 refine wg rfl rfl (fun hb => Spec.fieldAddrO fd41_2 (Has.cv (Has.s rfl) (Cv.isvP rfl))) ?_
 refine wg rfl rfl (fun hb => Spec.loadF (i := 2) ty4 rfl (Has.u rfl hb) rfl (HasG.s rfl)) ?_
 refine wg rfl rfl (fun hb => Spec.fieldAddrO fd41_2 (Has.cv (Has.s rfl) (Cv.isvP rfl))) ?_
 refine wg rfl rfl (fun hb => Spec.loadF (i := 2) ty4 rfl (Has.u rfl hb) rfl (HasG.s rfl)) ?_
 refine wg rfl rfl (fun hb => Spec.neqT (Has.u rfl hb) (Has.u rfl hb) Try.underlying4) ?_
 refine wo (Spec.or (Has.s rfl) (fun h => Has.u rfl h)) ?_
 refine Walk.nil ?_
 refine Leaf.thenN ?_
 refine CWalk.cond rfl (fun hb => ?_) (fun hb => ?_)
 ·have hm := cond_t hb hm
  refine CWalk.seq ?_
  refine CWalk.region ?_
  refine wo (Spec.assign Has.bool) ?_
  refine Walk.nil ?_
  refine Leaf.thenN ?_
  refine CWalk.ret ?_
  refine Leaf.thenR ?_
  obtain rfl := Option.some.inj hm
  exact Leaf.retC1 rfl (HasR.cv (HasR.tmp (Has.s rfl)) Cv.fl)
 ·have hm := cond_f hb hm
  refine CWalk.skip ?_
  refine Leaf.thenN ?_
  refine CWalk.seq ?_
  refine CWalk.seq ?_
  refine CWalk.region ?_
  refine wo (Spec.assign Has.int) ?_
  refine Walk.nil ?_
  refine Leaf.thenN ?_
  refine CWalk.block ?_
  obtain ⟨b7, hb7, hm⟩ := bind_some hm
  refine CWalk.loop (fun s : Int => [.fact 2 (.isv 10), .fact 3 (.isv 14), .fact 5 (.rep [] (s : Int)), .fact 100011 (.at 11 (.rep [0] a0.Blocks)), .fact 100012 (.at 12 (.rep [0] a0.Wait)), .fact 100013 (.at 13 (.rep [] a0.Dead)), .fact 100015 (.at 15 (.rep [0] a1.Blocks)), .fact 100016 (.at 16 (.rep [0] a1.Wait)), .fact 100017 (.at 17 (.rep [] a1.Dead)), .fact 100010 (.obj 10 [(false, 1), (false, 1), (false, 1)]), .fact 100014 (.obj 14 [(false, 1), (false, 1), (false, 1)])]) (fun b : (Unit) ⊕ (Unit) => Sum.elim (fun b => (Exit.exit 0, [.fact 2 (.isv 10), .fact 3 (.isv 14), .fact 100011 (.at 11 (.rep [0] a0.Blocks)), .fact 100012 (.at 12 (.rep [0] a0.Wait)), .fact 100013 (.at 13 (.rep [] a0.Dead)), .fact 100015 (.at 15 (.rep [0] a1.Blocks)), .fact 100016 (.at 16 (.rep [0] a1.Wait)), .fact 100017 (.at 17 (.rep [] a1.Dead)), .fact 100010 (.obj 10 [(false, 1), (false, 1), (false, 1)]), .fact 100014 (.obj 14 [(false, 1), (false, 1), (false, 1)])])) (fun b => (Exit.ret, [.fact 4 (.rep [] (false : Bool))])) b) hb7 (sn (sn (st (sm (sm (sf (sm (sm (sf (sn (sn Sub.nil))))))))))) ?_ ?_
  ·rintro s1 c2 hm
   replace hm : ref04_Same_L1 a0 a1 s1 = some c2 := hm
   unfold ref04_Same_L1 at hm
   show CWalk _ [.fact 2 (.isv 10), .fact 3 (.isv 14), .fact 5 (.rep [] (s1 : Int)), .fact 100011 (.at 11 (.rep [0] a0.Blocks)), .fact 100012 (.at 12 (.rep [0] a0.Wait)), .fact 100013 (.at 13 (.rep [] a0.Dead)), .fact 100015 (.at 15 (.rep [0] a1.Blocks)), .fact 100016 (.at 16 (.rep [0] a1.Wait)), .fact 100017 (.at 17 (.rep [] a1.Dead)), .fact 100010 (.obj 10 [(false, 1), (false, 1), (false, 1)]), .fact 100014 (.obj 14 [(false, 1), (false, 1), (false, 1)])] _ _
   refine CWalk.seq ?_
   refine CWalk.seq ?_
   refine CWalk.region ?_
   refine mv ?_
   refine wo (Spec.fieldAddrO fd41_0 (Has.cv (Has.s rfl) (Cv.isvP rfl))) ?_
   refine wo (Spec.loadF (i := 0) ty38 rfl (Has.s rfl) rfl (HasG.s rfl)) ?_
   refine wo (Spec.len (Has.s rfl) Try.underlying38) ?_
   refine wo (Spec.lssI (Has.s rfl) (Has.s rfl)) ?_
   refine Walk.nil ?_
   refine Leaf.thenN ?_
   refine CWalk.cond rfl (fun hb => ?_) (fun hb => ?_)
   ·have hm := cond_t hb hm
    refine CWalk.skip ?_
    refine Leaf.thenN ?_
    refine CWalk.seq ?_
    refine CWalk.block ?_
    refine CWalk.seq ?_
    obtain ⟨x3, hx3, hm⟩ := bind_some hm
    obtain ⟨x4, hx4, hm⟩ := bind_some hm
    obtain ⟨x5, hx5, hm⟩ := bind_some hm
    obtain ⟨x6, hx6, hm⟩ := bind_some hm
    refine CWalk.drawM [[], [0], [], [0, 1, 2], [0, 1, 2, 3], [0, 1, 2, 3, 4], [0, 1, 2, 3, 4, 5], [], [7], [], [7, 8, 9], [7, 8, 9, 10], [0, 1, 2, 3, 4, 5, 7, 8, 9, 10, 11], [0, 1, 2, 3, 4, 5, 7, 8, 9, 10, 11, 12], [0, 1, 2, 3, 4, 5, 6, 7, 8, 9, 10, 11, 12, 13]] [[.fact 37 (.pto 10 0)], [.fact 38 (.rep [0] a0.Blocks)], [.fact 39 (.rep [] (s1 : Int))], [.fact 40 (.ptr [0] (x3 : List UInt8))], [.fact 41 (.rep [0] (x3 : List UInt8))], [.fact 42 (.ow [18] [] 5 (x4 : List UInt8))], [.fact 43 (.rep [] ((Str.mk x4) : Str))], [.fact 44 (.pto 14 0)], [.fact 45 (.rep [0] a1.Blocks)], [.fact 46 (.rep [] (s1 : Int))], [.fact 47 (.ptr [0] (x5 : List UInt8))], [.fact 48 (.rep [0] (x5 : List UInt8))], [.fact 49 (.ow [19] [] 5 (x6 : List UInt8))], [.fact 50 (.rep [] ((Str.mk x6) : Str))], [.fact 51 (.rep [] ((!((Str.mk x4).s == (Str.mk x6).s)) : Bool))]] mixed (by kernel_rfl) (ao (so (Spec.fieldAddrO fd41_0 (Has.cv (Has.s rfl) (Cv.isvP rfl)))) (ao (so (Spec.loadF (i := 0) ty38 rfl (Has.s rfl) rfl (HasG.s rfl))) (ao (so (Spec.move (Has.s rfl))) (ao (so (Spec.indexAddr hx3 sl38 (Has.s rfl) (Has.s rfl))) (ao (so (Spec.load ty54 (Has.s rfl))) (ao (so (Spec.callE [0] 18 rfl en41 (ref04_Full_c x3 hx4) (HasAll.cons (Has.m (Has.s rfl) rfl) HasAll.nil))) (ao (so (Spec.toStr Try.underlying54 Try.underlying5 Try.underlying9 (Has.cv (Has.s rfl) (Cv.trans Cv.owSl (Cv.slRep (T' := [18]) rfl rfl))))) (ao (so (Spec.fieldAddrO fd41_0 (Has.cv (Has.s rfl) (Cv.isvP rfl)))) (ao (so (Spec.loadF (i := 0) ty38 rfl (Has.s rfl) rfl (HasG.s rfl))) (ao (so (Spec.move (Has.s rfl))) (ao (so (Spec.indexAddr hx5 sl38 (Has.s rfl) (Has.s rfl))) (ao (so (Spec.load ty54 (Has.s rfl))) (ao (so (Spec.callE [0] 19 rfl en41 (ref04_Full_c x5 hx6) (HasAll.cons (Has.m (Has.s rfl) rfl) HasAll.nil))) (ao (so (Spec.toStr Try.underlying54 Try.underlying5 Try.underlying9 (Has.cv (Has.s rfl) (Cv.trans Cv.owSl (Cv.slRep (T' := [19]) rfl rfl))))) (ao (so (Spec.neqS (Has.s rfl) (Has.s rfl))) AllM.nil))))))))))))))) ?_
    refine Leaf.thenN ?_
    refine CWalk.cond rfl (fun hb => ?_) (fun hb => ?_)
    ·have hm := cond_t hb hm
     refine CWalk.seq ?_
     refine CWalk.region ?_
     refine wo (Spec.assign Has.bool) ?_
     refine Walk.nil ?_
     refine Leaf.thenN ?_
     refine CWalk.ret ?_
     refine Leaf.blockR ?_
     refine Leaf.thenR ?_
     exact Leaf.brk hm (fun h => nomatch h) rfl (st Sub.nil)
    ·have hm := cond_f hb hm
     refine CWalk.skip ?_
     refine Leaf.blockN ?_
     refine Leaf.thenN ?_
     refine CWalk.region ?_
     refine mv ?_
     refine wo (Spec.addI (Has.s rfl) Has.int) ?_
     refine wo (Spec.assign (Has.s rfl)) ?_
     refine Walk.nil ?_
     exact Leaf.next hm (sn (sn (st (sm (sm (sf (sm (sm (sf (sn (sn Sub.nil)))))))))))
   ·have hm := cond_f hb hm
    refine CWalk.exit ?_
    refine Leaf.thenE ?_
    exact Leaf.brk hm (fun h => nomatch h) rfl (sn (sn (sm (sm (sf (sm (sm (sf (sn (sn Sub.nil))))))))))
  ·intro _
   rcases b7 with b8 | b20
   ·have hm := selim_l hm
    refine Leaf.blockE ?_
    refine Leaf.thenN ?_
    refine CWalk.seq ?_
    refine CWalk.seq ?_
    refine CWalk.region ?_
    refine wo (Spec.assign Has.int) ?_
    refine Walk.nil ?_
    refine Leaf.thenN ?_
    refine CWalk.block ?_
    obtain ⟨b17, hb17, hm⟩ := bind_some hm
    refine CWalk.loop (fun s : Int => [.fact 2 (.isv 10), .fact 3 (.isv 14), .fact 6 (.rep [] (s : Int)), .fact 100011 (.at 11 (.rep [0] a0.Blocks)), .fact 100012 (.at 12 (.rep [0] a0.Wait)), .fact 100013 (.at 13 (.rep [] a0.Dead)), .fact 100015 (.at 15 (.rep [0] a1.Blocks)), .fact 100016 (.at 16 (.rep [0] a1.Wait)), .fact 100017 (.at 17 (.rep [] a1.Dead)), .fact 100010 (.obj 10 [(false, 1), (false, 1), (false, 1)]), .fact 100014 (.obj 14 [(false, 1), (false, 1), (false, 1)])]) (fun b : (Unit) ⊕ (Unit) => Sum.elim (fun b => (Exit.exit 2, [])) (fun b => (Exit.ret, [.fact 4 (.rep [] (false : Bool))])) b) hb17 (sn (sn (st (sm (sm (sf (sm (sm (sf (sn (sn Sub.nil))))))))))) ?_ ?_
    ·rintro s9 c10 hm
     replace hm : ref04_Same_L2 a0 a1 s9 = some c10 := hm
     unfold ref04_Same_L2 at hm
     show CWalk _ [.fact 2 (.isv 10), .fact 3 (.isv 14), .fact 6 (.rep [] (s9 : Int)), .fact 100011 (.at 11 (.rep [0] a0.Blocks)), .fact 100012 (.at 12 (.rep [0] a0.Wait)), .fact 100013 (.at 13 (.rep [] a0.Dead)), .fact 100015 (.at 15 (.rep [0] a1.Blocks)), .fact 100016 (.at 16 (.rep [0] a1.Wait)), .fact 100017 (.at 17 (.rep [] a1.Dead)), .fact 100010 (.obj 10 [(false, 1), (false, 1), (false, 1)]), .fact 100014 (.obj 14 [(false, 1), (false, 1), (false, 1)])] _ _
     refine CWalk.seq ?_
     refine CWalk.seq ?_
     refine CWalk.region ?_
     refine mv ?_
     refine wo (Spec.fieldAddrO fd41_1 (Has.cv (Has.s rfl) (Cv.isvP rfl))) ?_
     refine wo (Spec.loadF (i := 1) ty39 rfl (Has.s rfl) rfl (HasG.s rfl)) ?_
     refine wo (Spec.len (Has.s rfl) Try.underlying39) ?_
     refine wo (Spec.lssI (Has.s rfl) (Has.s rfl)) ?_
     refine Walk.nil ?_
     refine Leaf.thenN ?_
     refine CWalk.cond rfl (fun hb => ?_) (fun hb => ?_)
     ·have hm := cond_t hb hm
      refine CWalk.skip ?_
      refine Leaf.thenN ?_
      refine CWalk.seq ?_
      refine CWalk.block ?_
      refine CWalk.seq ?_
      obtain ⟨x11, hx11, hm⟩ := bind_some hm
      obtain ⟨x12, hx12, hm⟩ := bind_some hm
      obtain ⟨x13, hx13, hm⟩ := bind_some hm
      obtain ⟨x14, hx14, hm⟩ := bind_some hm
      obtain ⟨x15, hx15, hm⟩ := bind_some hm
      obtain ⟨x16, hx16, hm⟩ := bind_some hm
      refine CWalk.drawM [[], [0], [], [0, 1, 2], [0, 1, 2, 3], [0, 1, 2, 3, 4], [], [6], [], [6, 7, 8], [6, 7, 8, 9], [6, 7, 8, 9, 10], [0, 1, 2, 3, 4, 5, 6, 7, 8, 9, 10, 11], [0, 1, 2, 3, 4, 5, 6, 7, 8, 9, 10, 11, 12], [0, 1, 2, 3, 4, 5, 6, 7, 8, 9, 10, 11, 12, 13], [0, 1, 2, 3, 4, 5, 6, 7, 8, 9, 10, 11, 12, 13, 14], [0, 1, 2, 3, 4, 5, 6, 7, 8, 9, 10, 11, 12, 13], [0, 1, 2, 3, 4, 5, 6, 7, 8, 9, 10, 11, 12, 13, 14, 15, 16], [0, 1, 2, 3, 4, 5, 6, 7, 8, 9, 10, 11, 12, 13, 14, 15, 16, 17], [0, 1, 2, 3, 4, 5, 6, 7, 8, 9, 10, 11, 12, 13, 14, 15, 16, 17, 18], [0, 1, 2, 3, 4, 5, 6, 7, 8, 9, 10, 11, 12, 13, 14, 15, 16, 17, 18, 19], [0, 1, 2, 3, 4, 5, 6, 7, 8, 9, 10, 11, 12, 13, 14, 15, 16, 17, 18, 19, 20], [0, 1, 2, 3, 4, 5, 6, 7, 8, 9, 10, 11, 12, 13], [0, 1, 2, 3, 4, 5, 6, 7, 8, 9, 10, 11, 12, 13, 22], [0, 1, 2, 3, 4, 5, 6, 7, 8, 9, 10, 11, 12, 13], [0, 1, 2, 3, 4, 5, 6, 7, 8, 9, 10, 11, 12, 13, 22, 23, 24], [0, 1, 2, 3, 4, 5, 6, 7, 8, 9, 10, 11, 12, 13, 22, 23, 24, 25], [0, 1, 2, 3, 4, 5, 6, 7, 8, 9, 10, 11, 12, 13, 22, 23, 24, 25, 26], [0, 1, 2, 3, 4, 5, 6, 7, 8, 9, 10, 11, 12, 13, 14, 15, 16, 17, 18, 19, 20, 22, 23, 24, 25, 26, 27], [0, 1, 2, 3, 4, 5, 6, 7, 8, 9, 10, 11, 12, 13, 14, 15, 16, 17, 18, 19, 20, 22, 23, 24, 25, 26, 27, 28], [0, 1, 2, 3, 4, 5, 6, 7, 8, 9, 10, 11, 12, 13, 14, 15, 16, 17, 18, 19, 20, 21, 22, 23, 24, 25, 26, 27, 28, 29], [0, 1, 2, 3, 4, 5, 6, 7, 8, 9, 10, 11, 12, 13, 14, 15, 16, 17, 18, 19, 20, 21, 22, 23, 24, 25, 26, 27, 28, 29, 30]] [[.fact 59 (.pto 10 1)], [.fact 60 (.rep [0] a0.Wait)], [.fact 61 (.rep [] (s9 : Int))], [.fact 62 (.ptr [0] (x11 : Write))], [.fact 63 (.ptr [0] (x11.At : Int))], [.fact 64 (.rep [] x11.At)], [.fact 65 (.pto 14 1)], [.fact 66 (.rep [0] a1.Wait)], [.fact 67 (.rep [] (s9 : Int))], [.fact 68 (.ptr [0] (x12 : Write))], [.fact 69 (.ptr [0] (x12.At : Int))], [.fact 70 (.rep [] x12.At)], [.fact 71 (.rep [] ((x11.At != x12.At) : Bool))], [.fact 72 (.rep [] ((x11.At != x12.At) : Bool))], [.fact 73 (.under ((x11.At != x12.At) = false) (.pto 10 1))], [.fact 74 (.under ((x11.At != x12.At) = false) (.rep [0] a0.Wait))], [.fact 75 (.under ((x11.At != x12.At) = false) (.rep [] (s9 : Int)))], [.fact 76 (.under ((x11.At != x12.At) = false) (.ptr [0] (x13 : Write)))], [.fact 77 (.under ((x11.At != x12.At) = false) (.ptr [0] (x13.Data : List UInt8)))], [.fact 78 (.under ((x11.At != x12.At) = false) (.rep [0] x13.Data))], [.fact 79 (.under ((x11.At != x12.At) = false) (.ow [20] [] 5 (x14 : List UInt8)))], [.fact 80 (.under ((x11.At != x12.At) = false) (.rep [] ((Str.mk x14) : Str)))], [.fact 81 (.under ((x11.At != x12.At) = false) (.pto 14 1))], [.fact 82 (.under ((x11.At != x12.At) = false) (.rep [0] a1.Wait))], [.fact 83 (.under ((x11.At != x12.At) = false) (.rep [] (s9 : Int)))], [.fact 84 (.under ((x11.At != x12.At) = false) (.ptr [0] (x15 : Write)))], [.fact 85 (.under ((x11.At != x12.At) = false) (.ptr [0] (x15.Data : List UInt8)))], [.fact 86 (.under ((x11.At != x12.At) = false) (.rep [0] x15.Data))], [.fact 87 (.under ((x11.At != x12.At) = false) (.ow [21] [] 5 (x16 : List UInt8)))], [.fact 88 (.under ((x11.At != x12.At) = false) (.rep [] ((Str.mk x16) : Str)))], [.fact 89 (.under ((x11.At != x12.At) = false) (.rep [] ((!((Str.mk x14).s == (Str.mk x16).s)) : Bool)))], [.fact 90 (.rep [] (((x11.At != x12.At) || (!((Str.mk x14).s == (Str.mk x16).s))) : Bool))]] mixed (by kernel_rfl) (ao (so (Spec.fieldAddrO fd41_1 (Has.cv (Has.s rfl) (Cv.isvP rfl)))) (ao (so (Spec.loadF (i := 1) ty39 rfl (Has.s rfl) rfl (HasG.s rfl))) (ao (so (Spec.move (Has.s rfl))) (ao (so (Spec.indexAddr hx11 sl39 (Has.s rfl) (Has.s rfl))) (ao (so (Spec.fieldAddrP fd58_0 (chWrite x11) rfl (Has.s rfl))) (ao (so ((Spec.load ty3 (Has.s rfl)).flat (T' := []))) (ao (so (Spec.fieldAddrO fd41_1 (Has.cv (Has.s rfl) (Cv.isvP rfl)))) (ao (so (Spec.loadF (i := 1) ty39 rfl (Has.s rfl) rfl (HasG.s rfl))) (ao (so (Spec.move (Has.s rfl))) (ao (so (Spec.indexAddr hx12 sl39 (Has.s rfl) (Has.s rfl))) (ao (so (Spec.fieldAddrP fd58_0 (chWrite x12) rfl (Has.s rfl))) (ao (so ((Spec.load ty3 (Has.s rfl)).flat (T' := []))) (ao (so (Spec.neqI (Has.s rfl) (Has.s rfl))) (ao (so (Spec.move (Has.s rfl))) (ao (StepG.opg rfl rfl rfl (fun hb => Spec.fieldAddrO fd41_1 (Has.cv (Has.s rfl) (Cv.isvP rfl)))) (ao (StepG.opg rfl rfl rfl (fun hb => Spec.loadF (i := 1) ty39 rfl (Has.u rfl hb) rfl (HasG.s rfl))) (ao (StepG.opg rfl rfl rfl (fun hb => Spec.move (Has.s rfl))) (ao (StepG.opg rfl rfl rfl (fun hb => Spec.indexAddr (gO_t hx13 (not_t hb)) sl39 (Has.u rfl hb) (Has.u rfl hb))) (ao (StepG.opg rfl rfl rfl (fun hb => Spec.fieldAddrP fd58_1 (chWrite x13) rfl (Has.u rfl hb))) (ao (StepG.opg rfl rfl rfl (fun hb => Spec.load ty54 (Has.u rfl hb))) (ao (StepG.opg rfl rfl rfl (fun hb => Spec.callE [0] 20 rfl en41 (ref04_Full_c x13.Data (gO_t hx14 (not_t hb))) (HasAll.cons (Has.m (Has.u rfl hb) rfl) HasAll.nil))) (ao (StepG.opg rfl rfl rfl (fun hb => Spec.toStr Try.underlying54 Try.underlying5 Try.underlying9 (Has.cv (Has.u rfl hb) (Cv.trans Cv.owSl (Cv.slRep (T' := [20]) rfl rfl))))) (ao (StepG.opg rfl rfl rfl (fun hb => Spec.fieldAddrO fd41_1 (Has.cv (Has.s rfl) (Cv.isvP rfl)))) (ao (StepG.opg rfl rfl rfl (fun hb => Spec.loadF (i := 1) ty39 rfl (Has.u rfl hb) rfl (HasG.s rfl))) (ao (StepG.opg rfl rfl rfl (fun hb => Spec.move (Has.s rfl))) (ao (StepG.opg rfl rfl rfl (fun hb => Spec.indexAddr (gO_t hx15 (not_t hb)) sl39 (Has.u rfl hb) (Has.u rfl hb))) (ao (StepG.opg rfl rfl rfl (fun hb => Spec.fieldAddrP fd58_1 (chWrite x15) rfl (Has.u rfl hb))) (ao (StepG.opg rfl rfl rfl (fun hb => Spec.load ty54 (Has.u rfl hb))) (ao (StepG.opg rfl rfl rfl (fun hb => Spec.callE [0] 21 rfl en41 (ref04_Full_c x15.Data (gO_t hx16 (not_t hb))) (HasAll.cons (Has.m (Has.u rfl hb) rfl) HasAll.nil))) (ao (StepG.opg rfl rfl rfl (fun hb => Spec.toStr Try.underlying54 Try.underlying5 Try.underlying9 (Has.cv (Has.u rfl hb) (Cv.trans Cv.owSl (Cv.slRep (T' := [21]) rfl rfl))))) (ao (StepG.opg rfl rfl rfl (fun hb => Spec.neqS (Has.u rfl hb) (Has.u rfl hb))) (ao (so (Spec.or (Has.s rfl) (fun h => Has.u rfl h))) AllM.nil)))))))))))))))))))))))))))))))) ?_
      refine Leaf.thenN ?_
      refine CWalk.cond rfl (fun hb => ?_) (fun hb => ?_)
      ·have hm := cond_t hb hm
       refine CWalk.seq ?_
       refine CWalk.region ?_
       refine wo (Spec.assign Has.bool) ?_
       refine Walk.nil ?_
       refine Leaf.thenN ?_
       refine CWalk.ret ?_
       refine Leaf.blockR ?_
       refine Leaf.thenR ?_
       exact Leaf.brk hm (fun h => nomatch h) rfl (st Sub.nil)
      ·have hm := cond_f hb hm
       refine CWalk.skip ?_
       refine Leaf.blockN ?_
       refine Leaf.thenN ?_
       refine CWalk.region ?_
       refine mv ?_
       refine wo (Spec.addI (Has.s rfl) Has.int) ?_
       refine wo (Spec.assign (Has.s rfl)) ?_
       refine Walk.nil ?_
       exact Leaf.next hm (sn (sn (st (sm (sm (sf (sm (sm (sf (sn (sn Sub.nil)))))))))))
     ·have hm := cond_f hb hm
      refine CWalk.exit ?_
      refine Leaf.thenE ?_
      exact Leaf.brk hm (fun h => nomatch h) rfl (Sub.nil)
    ·intro _
     rcases b17 with b18 | b19
     ·have hm := selim_l hm
      refine Leaf.blockE ?_
      refine Leaf.thenN ?_
      refine CWalk.seq ?_
      refine CWalk.region ?_
      refine wo (Spec.assign Has.bool) ?_
      refine Walk.nil ?_
      refine Leaf.thenN ?_
      refine CWalk.ret ?_
      obtain rfl := Option.some.inj hm
      exact Leaf.retC1 rfl (HasR.cv (HasR.tmp (Has.s rfl)) Cv.fl)
     ·have hm := selim_r hm
      refine Leaf.blockR ?_
      refine Leaf.thenR ?_
      obtain rfl := Option.some.inj hm
      exact Leaf.retC1 rfl (HasR.cv (HasR.tmp (Has.s rfl)) Cv.fl)
   ·have hm := selim_r hm
    refine Leaf.blockR ?_
    refine Leaf.thenR ?_
    obtain rfl := Option.some.inj hm
    exact Leaf.retC1 rfl (HasR.cv (HasR.tmp (Has.s rfl)) Cv.fl)

def ref05_SameDisks_L1 (a0 : List Disk) (a1 : List Disk) (s1 : Int) : Option (Ctl (Int) ((Unit) ⊕ (Unit))) :=
  (bif (decide (s1 < ((a0).length : Int))) then Option.bind (idx a0 s1) (fun x3 => Option.bind (idx a1 s1) (fun x4 => Option.bind (ref04_Same x3 x4) (fun x5 => (bif (!x5) then some (Ctl.brk (Sum.inr ())) else some (Ctl.next (wI (s1 + (1 : Int)))))))) else some (Ctl.brk (Sum.inl ())))
/-- freeboard/freeboardref05.SameDisks -/
def ref05_SameDisks (a0 : List Disk) (a1 : List Disk) : Option (Bool) :=
  (bif (((a0).length : Int) != ((a1).length : Int)) then some false else Option.bind (loopM (fun s : Int => ref05_SameDisks_L1 a0 a1 s) FUEL (0 : Int)) (fun b6 => Sum.elim (fun b7 => some true) (fun b8 => some false) b6))
set_option maxRecDepth 100000 in
set_option maxHeartbeats 2000000 in
theorem ref05_SameDisks_c (a0 : List Disk) (a1 : List Disk) {r : Bool} (hm : ref05_SameDisks a0 a1 = some r) : Ctr Try.prog 15 [.rep 0 a0, .rep 0 a1] (.fl r) [] := by
 refine ctr_of_walk [[]] 27 Try.func15 rfl rfl rfl rfl (fun w0 om => ?_)
 unfold ref05_SameDisks at hm
 refine CWalk.sub (G' := [.fact 0 (.rep [0] (a0 : List Disk)), .fact 1 (.rep [0] (a1 : List Disk))]) (sn (sn Sub.nil)) ?_
 refine CWalk.seq ?_
 refine CWalk.region ?_
 refine wo (Spec.assign Has.bool) ?_
 refine Walk.nil ?_
 refine Leaf.thenN ?_
 refine CWalk.seq ?_
 refine CWalk.seq ?_
 refine CWalk.region ?_
 refine mv ?_
 refine wo (Spec.len (Has.s rfl) Try.underlying22) ?_
 refine mv ?_
 refine wo (Spec.len (Has.s rfl) Try.underlying22) ?_
 refine wo (Spec.neqI (Has.s rfl) (Has.s rfl)) ?_
 refine Walk.nil ?_
 refine Leaf.thenN ?_
 refine CWalk.cond rfl (fun hb => ?_) (fun hb => ?_)
 ·have hm := cond_t hb hm
  refine CWalk.seq ?_
  refine CWalk.region ?_
  refine wo (Spec.assign Has.bool) ?_
  refine Walk.nil ?_
  refine Leaf.thenN ?_
  refine CWalk.ret ?_
  refine Leaf.thenR ?_
  obtain rfl := Option.some.inj hm
  exact Leaf.retC1 rfl (HasR.cv (HasR.tmp (Has.s rfl)) Cv.fl)
 ·have hm := cond_f hb hm
  refine CWalk.skip ?_
  refine Leaf.thenN ?_
  refine CWalk.seq ?_
  refine CWalk.seq ?_
  refine CWalk.region ?_
  refine wo (Spec.assign Has.int) ?_
  refine Walk.nil ?_
  refine Leaf.thenN ?_
  refine CWalk.block ?_
  obtain ⟨b6, hb6, hm⟩ := bind_some hm
  refine CWalk.loop (fun s : Int => [.fact 0 (.rep [0] (a0 : List Disk)), .fact 1 (.rep [0] (a1 : List Disk)), .fact 5 (.rep [] (s : Int))]) (fun b : (Unit) ⊕ (Unit) => Sum.elim (fun b => (Exit.exit 0, [])) (fun b => (Exit.ret, [.fact 4 (.rep [] (false : Bool))])) b) hb6 (su (su (st Sub.nil))) ?_ ?_
  ·rintro s1 c2 hm
   replace hm : ref05_SameDisks_L1 a0 a1 s1 = some c2 := hm
   unfold ref05_SameDisks_L1 at hm
   show CWalk _ [.fact 0 (.rep [0] (a0 : List Disk)), .fact 1 (.rep [0] (a1 : List Disk)), .fact 5 (.rep [] (s1 : Int))] _ _
   refine CWalk.seq ?_
   refine CWalk.seq ?_
   refine CWalk.region ?_
   refine mv ?_
   refine mv ?_
   refine wo (Spec.len (Has.s rfl) Try.underlying22) ?_
   refine wo (Spec.lssI (Has.s rfl) (Has.s rfl)) ?_
   refine Walk.nil ?_
   refine Leaf.thenN ?_
   refine CWalk.cond rfl (fun hb => ?_) (fun hb => ?_)
   ·have hm := cond_t hb hm
    refine CWalk.skip ?_
    refine Leaf.thenN ?_
    refine CWalk.seq ?_
    refine CWalk.block ?_
    refine CWalk.seq ?_
    obtain ⟨x3, hx3, hm⟩ := bind_some hm
    obtain ⟨x4, hx4, hm⟩ := bind_some hm
    obtain ⟨x5, hx5, hm⟩ := bind_some hm
    refine CWalk.drawM [[], [], [0, 1], [0, 1, 2], [], [], [4, 5], [4, 5, 6], [0, 1, 2, 3, 4, 5, 6, 7], [0, 1, 2, 3, 4, 5, 6, 7, 8]] [[.fact 17 (.rep [0] (a0 : List Disk))], [.fact 18 (.rep [] (s1 : Int))], [.fact 19 (.ptr [0] (x3 : Disk))], [.fact 20 (.rep [0] (x3 : Disk))], [.fact 21 (.rep [0] (a1 : List Disk))], [.fact 22 (.rep [] (s1 : Int))], [.fact 23 (.ptr [0] (x4 : Disk))], [.fact 24 (.rep [0] (x4 : Disk))], [.fact 25 (.rep [] (x5 : Bool))], [.fact 26 (.rep [] ((!x5) : Bool))]] mixed (by kernel_rfl) (ao (so (Spec.move (Has.s rfl))) (ao (so (Spec.move (Has.s rfl))) (ao (so (Spec.indexAddr hx3 sl22 (Has.s rfl) (Has.s rfl))) (ao (so (Spec.load ty41 (Has.s rfl))) (ao (so (Spec.move (Has.s rfl))) (ao (so (Spec.move (Has.s rfl))) (ao (so (Spec.indexAddr hx4 sl22 (Has.s rfl) (Has.s rfl))) (ao (so (Spec.load ty41 (Has.s rfl))) (ao (so (Spec.callE [0] 10 rfl en17 (ref04_Same_c x3 x4 hx5) (HasAll.cons (Has.m (Has.s rfl) rfl) (HasAll.cons (Has.m (Has.s rfl) rfl) HasAll.nil)))) (ao (so (Spec.not (Has.s rfl))) AllM.nil)))))))))) ?_
    refine Leaf.thenN ?_
    refine CWalk.cond rfl (fun hb => ?_) (fun hb => ?_)
    ·have hm := cond_t hb hm
     refine CWalk.seq ?_
     refine CWalk.region ?_
     refine wo (Spec.assign Has.bool) ?_
     refine Walk.nil ?_
     refine Leaf.thenN ?_
     refine CWalk.ret ?_
     refine Leaf.blockR ?_
     refine Leaf.thenR ?_
     exact Leaf.brk hm (fun h => nomatch h) rfl (st Sub.nil)
    ·have hm := cond_f hb hm
     refine CWalk.skip ?_
     refine Leaf.blockN ?_
     refine Leaf.thenN ?_
     refine CWalk.region ?_
     refine mv ?_
     refine wo (Spec.addI (Has.s rfl) Has.int) ?_
     refine wo (Spec.assign (Has.s rfl)) ?_
     refine Walk.nil ?_
     exact Leaf.next hm (su (su (st Sub.nil)))
   ·have hm := cond_f hb hm
    refine CWalk.exit ?_
    refine Leaf.thenE ?_
    exact Leaf.brk hm (fun h => nomatch h) rfl (Sub.nil)
  ·intro _
   rcases b6 with b7 | b8
   ·have hm := selim_l hm
    refine Leaf.blockE ?_
    refine Leaf.thenN ?_
    refine CWalk.seq ?_
    refine CWalk.region ?_
    refine wo (Spec.assign Has.bool) ?_
    refine Walk.nil ?_
    refine Leaf.thenN ?_
    refine CWalk.ret ?_
    obtain rfl := Option.some.inj hm
    exact Leaf.retC1 rfl (HasR.cv (HasR.tmp (Has.s rfl)) Cv.fl)
   ·have hm := selim_r hm
    refine Leaf.blockR ?_
    refine Leaf.thenR ?_
    obtain rfl := Option.some.inj hm
    exact Leaf.retC1 rfl (HasR.cv (HasR.tmp (Has.s rfl)) Cv.fl)

def law05_ActsCrash_L2 (a0 : List Disk) (x2 : (List Disk)) (x3 : (List Disk) × Int) (s8 : Bool) (s9 : Int) : Option (Ctl (Bool × Int) (Bool)) :=
  (bif ((decide (s9 < ((x3.1).length : Int))) && (decide (s9 < ((x2).length : Int)))) then Option.bind (gO (s8) (idx x2 s9)) (fun x11 => Option.bind (gO (s8) (idx a0 s9)) (fun x12 => Option.bind (gO (s8) (ref04_Same x11 x12)) (fun x13 => some (Ctl.next ((s8 && x13), (wI (s9 + (1 : Int)))))))) else some (Ctl.brk s8))
def law05_ActsCrash_J1 (a0 : List Disk) (x2 : (List Disk)) (x3 : (List Disk) × Int) (x4 : (List Disk) × Int) (x5 : Int × Int) (x6 : Int × Int) (x7 : Bool) : Option (Bool) :=
  Option.bind (loopM (fun s : Bool × Int => law05_ActsCrash_L2 a0 x2 x3 s.1 s.2) FUEL ((((x7 && (x3.2 == x4.2)) && (x5.1 == x6.1)) && (x5.2 == x6.2)), (0 : Int))) (fun b14 => Option.bind (gO (b14) (ref05_SameDisks x2 a0)) (fun x15 => some (b14 && x15)))
def law05_ActsCrash_L5 (x3 : (List Disk) × Int) (s16 : Int) (s18 : Int) (s21 : Int) : Option (Ctl (Int) (Unit)) :=
  Option.bind (idx x3.1 s16) (fun x23 => Option.bind (idx x23.Blocks s18) (fun x24 => (bif (decide (s21 < ((x24).length : Int))) then Option.bind (idx x3.1 s16) (fun x25 => Option.bind (idx x25.Blocks s18) (fun x26 => Option.bind (idx x26 s21) (fun x27 => Option.bind (idx x26 s21) (fun x28 => some (Ctl.next (wI (s21 + (1 : Int)))))))) else some (Ctl.brk ()))))
def law05_ActsCrash_L4 (x3 : (List Disk) × Int) (s16 : Int) (s18 : Int) : Option (Ctl (Int) (Unit)) :=
  Option.bind (idx x3.1 s16) (fun x20 => (bif (decide (s18 < ((x20.Blocks).length : Int))) then Option.bind (loopM (fun s : Int => law05_ActsCrash_L5 x3 s16 s18 s) FUEL (0 : Int)) (fun b29 => some (Ctl.next (wI (s18 + (1 : Int))))) else some (Ctl.brk ())))
def law05_ActsCrash_L7 (x3 : (List Disk) × Int) (s16 : Int) (s31 : Int) (s34 : Int) : Option (Ctl (Int) (Unit)) :=
  Option.bind (idx x3.1 s16) (fun x36 => Option.bind (idx x36.Wait s31) (fun x37 => (bif (decide (s34 < ((x37.Data).length : Int))) then Option.bind (idx x3.1 s16) (fun x38 => Option.bind (idx x38.Wait s31) (fun x39 => Option.bind (idx x39.Data s34) (fun x40 => Option.bind (idx x39.Data s34) (fun x41 => some (Ctl.next (wI (s34 + (1 : Int)))))))) else some (Ctl.brk ()))))
def law05_ActsCrash_L6 (x3 : (List Disk) × Int) (s16 : Int) (s31 : Int) : Option (Ctl (Int) (Unit)) :=
  Option.bind (idx x3.1 s16) (fun x33 => (bif (decide (s31 < ((x33.Wait).length : Int))) then Option.bind (loopM (fun s : Int => law05_ActsCrash_L7 x3 s16 s31 s) FUEL (0 : Int)) (fun b42 => some (Ctl.next (wI (s31 + (1 : Int))))) else some (Ctl.brk ())))
def law05_ActsCrash_L3 (x3 : (List Disk) × Int) (s16 : Int) : Option (Ctl (Int) (Unit)) :=
  (bif (decide (s16 < ((x3.1).length : Int))) then Option.bind (loopM (fun s : Int => law05_ActsCrash_L4 x3 s16 s) FUEL (0 : Int)) (fun b30 => Option.bind (loopM (fun s : Int => law05_ActsCrash_L6 x3 s16 s) FUEL (0 : Int)) (fun b43 => some (Ctl.next (wI (s16 + (1 : Int)))))) else some (Ctl.brk ()))
/-- freeboard/freeboardlaw05.ActsCrash -/
def law05_ActsCrash (a0 : List Disk) (a1 : List Bool) : Option (Bool) :=
  Option.bind (ref05_Great a0) (fun x1 => (bif (x1 || (decide (((a1).length : Int) > (30000 : Int)))) then some true else Option.bind (ref05_Twin a0) (fun x2 => Option.bind (acts_Crash x2 a1) (fun x3 => Option.bind (ref05_Crash a0 a1) (fun x4 => Option.bind (acts_Waits x2) (fun x5 => Option.bind (ref05_Waits a0) (fun x6 => Option.bind (ref05_SameDisks x3.1 x4.1) (fun x7 => Option.bind (loopM (fun s : Int => law05_ActsCrash_L3 x3 s) FUEL (0 : Int)) (fun b44 => (law05_ActsCrash_J1 a0 x2 x3 x4 x5 x6 x7))))))))))
set_option maxRecDepth 100000 in
set_option maxHeartbeats 2000000 in
theorem law05_ActsCrash_c (a0 : List Disk) (a1 : List Bool) {r : Bool} (hm : law05_ActsCrash a0 a1 = some r) : Ctr Try.prog 3 [.rep 0 a0, .rep 0 a1] (.fl r) [] := by
 refine ctr_of_walk [[]] 97 Try.func3 rfl rfl rfl rfl (fun w0 om => ?_)
 unfold law05_ActsCrash at hm
 refine CWalk.sub (G' := [.fact 0 (.rep [0] (a0 : List Disk)), .fact 1 (.rep [0] (a1 : List Bool))]) (sn (sn Sub.nil)) ?_
 refine CWalk.seq ?_
 refine CWalk.region ?_
 refine wo (Spec.assign Has.bool) ?_
 refine Walk.nil ?_
 refine Leaf.thenN ?_
 refine CWalk.seq ?_
 refine CWalk.seq ?_
 refine CWalk.region ?_
 refine mv ?_
 obtain ⟨x1, hx1, hm⟩ := bind_some hm
 refine wo (f := Fact.rep [] (x1 : Bool)) (Spec.callE [0] 10 rfl en9 (ref05_Great_c a0 hx1) (HasAll.cons (Has.m (Has.s rfl) rfl) HasAll.nil)) ?_
 refine mv ?_
 refine wg rfl rfl (fun hb => Spec.move (Has.s rfl)) ?_
 refine wg rfl rfl (fun hb => Spec.len (Has.u rfl hb) Try.underlying23) ?_
 refine wg rfl rfl (fun hb => Spec.gtrI (Has.u rfl hb) Has.int) ?_
 refine wo (Spec.or (Has.s rfl) (fun h => Has.u rfl h)) ?_
 refine Walk.nil ?_
 refine Leaf.thenN ?_
 refine CWalk.cond rfl (fun hb => ?_) (fun hb => ?_)
 ·have hm := cond_t hb hm
  refine CWalk.seq ?_
  refine CWalk.region ?_
  refine wo (Spec.assign Has.bool) ?_
  refine Walk.nil ?_
  refine Leaf.thenN ?_
  refine CWalk.ret ?_
  refine Leaf.thenR ?_
  obtain rfl := Option.some.inj hm
  exact Leaf.retC1 rfl (HasR.cv (HasR.tmp (Has.s rfl)) Cv.fl)
 ·have hm := cond_f hb hm
  refine CWalk.skip ?_
  refine Leaf.thenN ?_
  refine CWalk.seq ?_
  refine CWalk.region ?_
  refine mv ?_
  obtain ⟨x2, hx2, hm⟩ := bind_some hm
  refine wo (f := Fact.ow [11] [12] 41 (x2 : List Disk)) (Spec.callE [0] 11 rfl en10 (ref05_Twin_c a0 hx2) (HasAll.cons (Has.m (Has.s rfl) rfl) HasAll.nil)) ?_
  refine wo (Spec.assign (Has.s rfl)) ?_
  refine Walk.nil ?_
  refine Leaf.thenN ?_
  refine CWalk.seq ?_
  refine CWalk.region ?_
  refine mv ?_
  refine mv ?_
  obtain ⟨x3, hx3, hm⟩ := bind_some hm
  refine wo (f := Fact.tup2 (Fact.ow [13] [14] 41 (x3.1 : List Disk)) (Fact.rep [] x3.2)) (Spec.callE [0, 11, 12] 13 rfl en11 (acts_Crash_c x2 a1 hx3) (HasAll.cons (Has.m (Has.cv (Has.s rfl) (Cv.trans Cv.owSl (Cv.slRep (T' := [11, 12]) rfl rfl))) rfl) (HasAll.cons (Has.m (Has.s rfl) rfl) HasAll.nil))) ?_
  refine mv ?_
  refine wo (Spec.ext0 (Has.s rfl)) ?_
  refine wo (Spec.ext1 (Has.s rfl)) ?_
  refine wo (Spec.assign (Has.s rfl)) ?_
  refine wo (Spec.assign (Has.s rfl)) ?_
  refine Walk.nil ?_
  refine Leaf.thenN ?_
  refine CWalk.seq ?_
  refine CWalk.region ?_
  refine mv ?_
  refine mv ?_
  obtain ⟨x4, hx4, hm⟩ := bind_some hm
  refine wo (f := Fact.tup2 (Fact.ow [15] [16, 0] 41 (x4.1 : List Disk)) (Fact.rep [] x4.2)) (Spec.callE [0] 15 rfl en12 (ref05_Crash_c a0 a1 hx4) (HasAll.cons (Has.m (Has.s rfl) rfl) (HasAll.cons (Has.m (Has.s rfl) rfl) HasAll.nil))) ?_
  refine mv ?_
  refine wo (Spec.ext0 (Has.s rfl)) ?_
  refine wo (Spec.ext1 (Has.s rfl)) ?_
  refine wo (Spec.assign (Has.s rfl)) ?_
  refine wo (Spec.assign (Has.s rfl)) ?_
  refine Walk.nil ?_
  refine Leaf.thenN ?_
  refine CWalk.seq ?_
  refine CWalk.region ?_
  refine mv ?_
  obtain ⟨x5, hx5, hm⟩ := bind_some hm
  refine wo (f := Fact.tup2 (Fact.rep [] x5.1) (Fact.rep [] x5.2)) (Spec.callE [11, 12] 17 rfl en13 (acts_Waits_c x2 hx5) (HasAll.cons (Has.m (Has.cv (Has.s rfl) (Cv.trans Cv.owSl (Cv.slRep (T' := [11, 12]) rfl rfl))) rfl) HasAll.nil)) ?_
  refine mv ?_
  refine wo (Spec.ext0 (Has.s rfl)) ?_
  refine wo (Spec.ext1 (Has.s rfl)) ?_
  refine wo (Spec.assign (Has.s rfl)) ?_
  refine wo (Spec.assign (Has.s rfl)) ?_
  refine Walk.nil ?_
  refine Leaf.thenN ?_
  refine CWalk.seq ?_
  refine CWalk.region ?_
  refine mv ?_
  obtain ⟨x6, hx6, hm⟩ := bind_some hm
  refine wo (f := Fact.tup2 (Fact.rep [] x6.1) (Fact.rep [] x6.2)) (Spec.callE [0] 18 rfl en14 (ref05_Waits_c a0 hx6) (HasAll.cons (Has.m (Has.s rfl) rfl) HasAll.nil)) ?_
  refine mv ?_
  refine wo (Spec.ext0 (Has.s rfl)) ?_
  refine wo (Spec.ext1 (Has.s rfl)) ?_
  refine wo (Spec.assign (Has.s rfl)) ?_
  refine wo (Spec.assign (Has.s rfl)) ?_
  refine Walk.nil ?_
  refine Leaf.thenN ?_
  refine CWalk.seq ?_
  refine CWalk.region ?_
  refine mv ?_
  refine mv ?_
  obtain ⟨x7, hx7, hm⟩ := bind_some hm
  refine wo (f := Fact.rep [] (x7 : Bool)) (Spec.callE [0, 13, 14, 15, 16] 19 rfl en15 (ref05_SameDisks_c x3.1 x4.1 hx7) (HasAll.cons (Has.m (Has.cv (Has.s rfl) (Cv.trans Cv.owSl (Cv.slRep (T' := [13, 14]) rfl rfl))) rfl) (HasAll.cons (Has.m (Has.cv (Has.s rfl) (Cv.trans Cv.owSl (Cv.slRep (T' := [0, 15, 16]) rfl rfl))) rfl) HasAll.nil))) ?_
  refine mv ?_
  refine wg rfl rfl (fun hb => Spec.move (Has.s rfl)) ?_
  refine wg rfl rfl (fun hb => Spec.move (Has.s rfl)) ?_
  refine wg rfl rfl (fun hb => Spec.eqlI (Has.u rfl hb) (Has.u rfl hb)) ?_
  refine wo (Spec.and (Has.s rfl) (fun h => Has.u rfl h)) ?_
  refine mv ?_
  refine wg rfl rfl (fun hb => Spec.move (Has.s rfl)) ?_
  refine wg rfl rfl (fun hb => Spec.move (Has.s rfl)) ?_
  refine wg rfl rfl (fun hb => Spec.eqlI (Has.u rfl hb) (Has.u rfl hb)) ?_
  refine wo (Spec.and (Has.s rfl) (fun h => Has.u rfl h)) ?_
  refine mv ?_
  refine wg rfl rfl (fun hb => Spec.move (Has.s rfl)) ?_
  refine wg rfl rfl (fun hb => Spec.move (Has.s rfl)) ?_
  refine wg rfl rfl (fun hb => Spec.eqlI (Has.u rfl hb) (Has.u rfl hb)) ?_
  refine wo (Spec.and (Has.s rfl) (fun h => Has.u rfl h)) ?_
  refine wo (Spec.assign (Has.s rfl)) ?_
  refine Walk.nil ?_
  refine Leaf.thenN ?_
  refine CWalk.seq ?_
  refine CWalk.region ?_
  refine mv ?_
  refine Walk.inline (S := Unit) (fun p : Unit => [.fact 0 (.rep [0] (a0 : List Disk)), .fact 5 (.ow [11] [12] 41 (x2 : List Disk)), .fact 6 (.lo [13, 14] x3.1), .fact 14 (.rep [] ((((x7 && (x3.2 == x4.2)) && (x5.1 == x6.1)) && (x5.2 == x6.2)) : Bool)), .fact 66 (.top)]) (fun p : Unit => law05_ActsCrash_J1 a0 x2 x3 x4 x5 x6 x7 = some r) (fun u1 => [.fact 902000 (.cst (u1 0) (Fact.rep [0] (a0 : List Disk))), .fact 902005 (.cst (u1 5) (Fact.ow [11] [12] 41 (x2 : List Disk))), .fact 902006 (.cst (u1 6) (Fact.ow [13] [14] 41 (x3.1 : List Disk))), .fact 902014 (.cst (u1 14) (Fact.rep [] ((((x7 && (x3.2 == x4.2)) && (x5.1 == x6.1)) && (x5.2 == x6.2)) : Bool)))]) (FA := [Fact.ow [13] [14] 41 (x3.1 : List Disk)]) rfl Try.func16 rfl rfl rfl (CallOk.fn en16 (HasF.cons (Has.s rfl) HasF.nil)) (fun u1 => (cs 902000 0 (cs 902000 5 (cs 902000 6 (cs 902000 14 Carry.nil))))) (fun u1 => ?_) ?_
  ·refine CWalk.seq ?_
   refine CWalk.region ?_
   refine wo (Spec.assign Has.int) ?_
   refine Walk.nil ?_
   refine Leaf.thenN ?_
   refine CWalk.block ?_
   obtain ⟨b44, hb44, hm⟩ := bind_some hm
   refine CWalk.loop (fun s : Int => [.fact 0 (.lo [13, 14] x3.1), .fact 2 (.rep [] (s : Int)), .fact 902000 (.cst (u1 0) (Fact.rep [0] (a0 : List Disk))), .fact 902005 (.cst (u1 5) (Fact.ow [11] [12] 41 (x2 : List Disk))), .fact 902006 (.cst (u1 6) (Fact.lo [13, 14] x3.1)), .fact 902014 (.cst (u1 14) (Fact.rep [] ((((x7 && (x3.2 == x4.2)) && (x5.1 == x6.1)) && (x5.2 == x6.2)) : Bool)))]) (fun b : Unit => (Exit.exit 0, [.fact 902000 (.cst (u1 0) (Fact.rep [0] (a0 : List Disk))), .fact 902005 (.cst (u1 5) (Fact.ow [11] [12] 41 (x2 : List Disk))), .fact 902006 (.cst (u1 6) (Fact.lo [13, 14] x3.1)), .fact 902014 (.cst (u1 14) (Fact.rep [] ((((x7 && (x3.2 == x4.2)) && (x5.1 == x6.1)) && (x5.2 == x6.2)) : Bool)))])) hb44 (Sub.cons (Has.cv (Has.s rfl) (Cv.trans (Cv.trans Cv.owSl (Cv.slRep (T' := [13, 14]) rfl rfl)) (Cv.lo rfl))) (st (Sub.cons (Has.cst (HasC.cv (HasC.s (s := 902000) rfl) (Cv.m rfl))) (Sub.cons (Has.cst (HasC.cv (HasC.s (s := 902005) rfl) (Cv.owM (T := [11]) (te := [12]) rfl rfl))) (Sub.cons (Has.cst (HasC.cv (HasC.s (s := 902006) rfl) (Cv.trans (Cv.trans Cv.owSl (Cv.slRep (T' := [13, 14]) rfl rfl)) (Cv.lo rfl)))) (Sub.cons (Has.cst (HasC.cv (HasC.s (s := 902014) rfl) Cv.fl)) Sub.nil)))))) ?_ ?_
   ·rintro s16 c17 hm
    replace hm : law05_ActsCrash_L3 x3 s16 = some c17 := hm
    unfold law05_ActsCrash_L3 at hm
    show CWalk _ [.fact 0 (.lo [13, 14] x3.1), .fact 2 (.rep [] (s16 : Int)), .fact 902000 (.cst (u1 0) (Fact.rep [0] (a0 : List Disk))), .fact 902005 (.cst (u1 5) (Fact.ow [11] [12] 41 (x2 : List Disk))), .fact 902006 (.cst (u1 6) (Fact.lo [13, 14] x3.1)), .fact 902014 (.cst (u1 14) (Fact.rep [] ((((x7 && (x3.2 == x4.2)) && (x5.1 == x6.1)) && (x5.2 == x6.2)) : Bool)))] _ _
    refine CWalk.seq ?_
    refine CWalk.seq ?_
    refine CWalk.region ?_
    refine mv ?_
    refine mv ?_
    refine wo (Spec.lenLo (Has.s rfl) Try.underlying22) ?_
    refine wo (Spec.lssI (Has.s rfl) (Has.s rfl)) ?_
    refine Walk.nil ?_
    refine Leaf.thenN ?_
    refine CWalk.cond rfl (fun hb => ?_) (fun hb => ?_)
    ·have hm := cond_t hb hm
     refine CWalk.skip ?_
     refine Leaf.thenN ?_
     refine CWalk.seq ?_
     refine CWalk.block ?_
     refine CWalk.seq ?_
     refine CWalk.seq ?_
     refine CWalk.region ?_
     refine wo (Spec.assign Has.int) ?_
     refine Walk.nil ?_
     refine Leaf.thenN ?_
     refine CWalk.block ?_
     obtain ⟨b30, hb30, hm⟩ := bind_some hm
     refine CWalk.loop (fun s : Int => [.fact 0 (.lo [13, 14] x3.1), .fact 2 (.rep [] (s16 : Int)), .fact 3 (.rep [] (s : Int)), .fact 902000 (.cst (u1 0) (Fact.rep [0] (a0 : List Disk))), .fact 902005 (.cst (u1 5) (Fact.ow [11] [12] 41 (x2 : List Disk))), .fact 902006 (.cst (u1 6) (Fact.lo [13, 14] x3.1)), .fact 902014 (.cst (u1 14) (Fact.rep [] ((((x7 && (x3.2 == x4.2)) && (x5.1 == x6.1)) && (x5.2 == x6.2)) : Bool)))]) (fun b : Unit => (Exit.exit 2, [.fact 0 (.lo [13, 14] x3.1), .fact 2 (.rep [] (s16 : Int)), .fact 902000 (.cst (u1 0) (Fact.rep [0] (a0 : List Disk))), .fact 902005 (.cst (u1 5) (Fact.ow [11] [12] 41 (x2 : List Disk))), .fact 902006 (.cst (u1 6) (Fact.lo [13, 14] x3.1)), .fact 902014 (.cst (u1 14) (Fact.rep [] ((((x7 && (x3.2 == x4.2)) && (x5.1 == x6.1)) && (x5.2 == x6.2)) : Bool)))])) hb30 (sn (st (st (Sub.cons (Has.cst (HasC.cv (HasC.s (s := 902000) rfl) (Cv.m rfl))) (Sub.cons (Has.cst (HasC.cv (HasC.s (s := 902005) rfl) (Cv.owM (T := [11]) (te := [12]) rfl rfl))) (sc (Sub.cons (Has.cst (HasC.cv (HasC.s (s := 902014) rfl) Cv.fl)) Sub.nil))))))) ?_ ?_
     ·rintro s18 c19 hm
      replace hm : law05_ActsCrash_L4 x3 s16 s18 = some c19 := hm
      unfold law05_ActsCrash_L4 at hm
      show CWalk _ [.fact 0 (.lo [13, 14] x3.1), .fact 2 (.rep [] (s16 : Int)), .fact 3 (.rep [] (s18 : Int)), .fact 902000 (.cst (u1 0) (Fact.rep [0] (a0 : List Disk))), .fact 902005 (.cst (u1 5) (Fact.ow [11] [12] 41 (x2 : List Disk))), .fact 902006 (.cst (u1 6) (Fact.lo [13, 14] x3.1)), .fact 902014 (.cst (u1 14) (Fact.rep [] ((((x7 && (x3.2 == x4.2)) && (x5.1 == x6.1)) && (x5.2 == x6.2)) : Bool)))] _ _
      refine CWalk.seq ?_
      refine CWalk.seq ?_
      refine CWalk.region ?_
      refine mv ?_
      refine mv ?_
      refine mv ?_
      obtain ⟨x20, hx20, hm⟩ := bind_some hm
      refine wo (Spec.idxLo hx20 sl22 (Has.s rfl) (Has.s rfl)) ?_
      refine wo (Spec.fieldLo fd41_0 (loDisk_0 _) (Has.s rfl)) ?_
      refine wo (Spec.loadLo ty38 (Has.s rfl)) ?_
      refine wo (Spec.lenLo (Has.s rfl) Try.underlying38) ?_
      refine wo (Spec.lssI (Has.s rfl) (Has.s rfl)) ?_
      refine Walk.nil ?_
      refine Leaf.thenN ?_
      refine CWalk.cond rfl (fun hb => ?_) (fun hb => ?_)
      ·have hm := cond_t hb hm
       refine CWalk.skip ?_
       refine Leaf.thenN ?_
       refine CWalk.seq ?_
       refine CWalk.block ?_
       refine CWalk.seq ?_
       refine CWalk.region ?_
       refine wo (Spec.assign Has.int) ?_
       refine Walk.nil ?_
       refine Leaf.thenN ?_
       refine CWalk.block ?_
       obtain ⟨b29, hb29, hm⟩ := bind_some hm
       refine CWalk.loop (fun s : Int => [.fact 0 (.lo [13, 14] x3.1), .fact 2 (.rep [] (s16 : Int)), .fact 3 (.rep [] (s18 : Int)), .fact 4 (.rep [] (s : Int)), .fact 902000 (.cst (u1 0) (Fact.rep [0] (a0 : List Disk))), .fact 902005 (.cst (u1 5) (Fact.ow [11] [12] 41 (x2 : List Disk))), .fact 902006 (.cst (u1 6) (Fact.lo [13, 14] x3.1)), .fact 902014 (.cst (u1 14) (Fact.rep [] ((((x7 && (x3.2 == x4.2)) && (x5.1 == x6.1)) && (x5.2 == x6.2)) : Bool)))]) (fun b : Unit => (Exit.exit 4, [.fact 0 (.lo [13, 14] x3.1), .fact 2 (.rep [] (s16 : Int)), .fact 3 (.rep [] (s18 : Int)), .fact 902000 (.cst (u1 0) (Fact.rep [0] (a0 : List Disk))), .fact 902005 (.cst (u1 5) (Fact.ow [11] [12] 41 (x2 : List Disk))), .fact 902006 (.cst (u1 6) (Fact.lo [13, 14] x3.1)), .fact 902014 (.cst (u1 14) (Fact.rep [] ((((x7 && (x3.2 == x4.2)) && (x5.1 == x6.1)) && (x5.2 == x6.2)) : Bool)))])) hb29 (sn (st (st (st (Sub.cons (Has.cst (HasC.cv (HasC.s (s := 902000) rfl) (Cv.m rfl))) (Sub.cons (Has.cst (HasC.cv (HasC.s (s := 902005) rfl) (Cv.owM (T := [11]) (te := [12]) rfl rfl))) (sc (Sub.cons (Has.cst (HasC.cv (HasC.s (s := 902014) rfl) Cv.fl)) Sub.nil)))))))) ?_ ?_
       ·rintro s21 c22 hm
        replace hm : law05_ActsCrash_L5 x3 s16 s18 s21 = some c22 := hm
        unfold law05_ActsCrash_L5 at hm
        show CWalk _ [.fact 0 (.lo [13, 14] x3.1), .fact 2 (.rep [] (s16 : Int)), .fact 3 (.rep [] (s18 : Int)), .fact 4 (.rep [] (s21 : Int)), .fact 902000 (.cst (u1 0) (Fact.rep [0] (a0 : List Disk))), .fact 902005 (.cst (u1 5) (Fact.ow [11] [12] 41 (x2 : List Disk))), .fact 902006 (.cst (u1 6) (Fact.lo [13, 14] x3.1)), .fact 902014 (.cst (u1 14) (Fact.rep [] ((((x7 && (x3.2 == x4.2)) && (x5.1 == x6.1)) && (x5.2 == x6.2)) : Bool)))] _ _
        refine CWalk.seq ?_
        refine CWalk.seq ?_
        refine CWalk.region ?_
        refine mv ?_
        refine mv ?_
        refine mv ?_
        obtain ⟨x23, hx23, hm⟩ := bind_some hm
        refine wo (Spec.idxLo hx23 sl22 (Has.s rfl) (Has.s rfl)) ?_
        refine wo (Spec.fieldLo fd41_0 (loDisk_0 _) (Has.s rfl)) ?_
        refine wo (Spec.loadLo ty38 (Has.s rfl)) ?_
        refine mv ?_
        obtain ⟨x24, hx24, hm⟩ := bind_some hm
        refine wo (Spec.idxLo hx24 sl38 (Has.s rfl) (Has.s rfl)) ?_
        refine wo (Spec.loadLo ty54 (Has.s rfl)) ?_
        refine wo (Spec.lenLo (Has.s rfl) Try.underlying54) ?_
        refine wo (Spec.lssI (Has.s rfl) (Has.s rfl)) ?_
        refine Walk.nil ?_
        refine Leaf.thenN ?_
        refine CWalk.cond rfl (fun hb => ?_) (fun hb => ?_)
        ·have hm := cond_t hb hm
         refine CWalk.skip ?_
         refine Leaf.thenN ?_
         refine CWalk.seq ?_
         refine CWalk.block ?_
         refine CWalk.region ?_
         refine mv ?_
         refine mv ?_
         obtain ⟨x25, hx25, hm⟩ := bind_some hm
         refine wo (Spec.idxLo hx25 sl22 (Has.s rfl) (Has.s rfl)) ?_
         refine wo (Spec.fieldLo fd41_0 (loDisk_0 _) (Has.s rfl)) ?_
         refine wo (Spec.loadLo ty38 (Has.s rfl)) ?_
         refine mv ?_
         obtain ⟨x26, hx26, hm⟩ := bind_some hm
         refine wo (Spec.idxLo hx26 sl38 (Has.s rfl) (Has.s rfl)) ?_
         refine wo (Spec.loadLo ty54 (Has.s rfl)) ?_
         refine mv ?_
         obtain ⟨x27, hx27, hm⟩ := bind_some hm
         refine wo (Spec.idxLo hx27 sl54 (Has.s rfl) (Has.s rfl)) ?_
         refine wo (Spec.loadLo ty5 (Has.s rfl)) ?_
         refine wo (Spec.add8Lo (Has.s rfl) (Has.u8 1 rfl)) ?_
         obtain ⟨x28, hx28, hm⟩ := bind_some hm
         refine wo (Spec.idxLo hx28 sl54 (Has.s rfl) (Has.s rfl)) ?_
         refine ws (Step.storeL (T := [13, 14]) (LL := [.fact 0 (.lo [13, 14] x3.1), .fact 902006 (.cst (u1 6) (Fact.lo [13, 14] x3.1))]) rfl ty5 (Has.s rfl) (Has.s rfl) (LooseL.lo rfl (LooseL.loC rfl LooseL.nil))) ?_
         refine Walk.nil ?_
         refine Leaf.blockN ?_
         refine Leaf.thenN ?_
         refine CWalk.region ?_
         refine mv ?_
         refine wo (Spec.addI (Has.s rfl) Has.int) ?_
         refine wo (Spec.assign (Has.s rfl)) ?_
         refine Walk.nil ?_
         exact Leaf.next hm (sn (st (st (st (Sub.cons (Has.cst (HasC.cv (HasC.s (s := 902000) rfl) (Cv.m rfl))) (Sub.cons (Has.cst (HasC.cv (HasC.s (s := 902005) rfl) (Cv.owM (T := [11]) (te := [12]) rfl rfl))) (sc (Sub.cons (Has.cst (HasC.cv (HasC.s (s := 902014) rfl) Cv.fl)) Sub.nil))))))))
        ·have hm := cond_f hb hm
         refine CWalk.exit ?_
         refine Leaf.thenE ?_
         exact Leaf.brk hm (fun h => nomatch h) rfl (sn (st (st (Sub.cons (Has.cst (HasC.cv (HasC.s (s := 902000) rfl) (Cv.m rfl))) (Sub.cons (Has.cst (HasC.cv (HasC.s (s := 902005) rfl) (Cv.owM (T := [11]) (te := [12]) rfl rfl))) (sc (Sub.cons (Has.cst (HasC.cv (HasC.s (s := 902014) rfl) Cv.fl)) Sub.nil)))))))
       ·intro _
        refine Leaf.blockE ?_
        refine Leaf.blockN ?_
        refine Leaf.thenN ?_
        refine CWalk.region ?_
        refine mv ?_
        refine wo (Spec.addI (Has.s rfl) Has.int) ?_
        refine wo (Spec.assign (Has.s rfl)) ?_
        refine Walk.nil ?_
        exact Leaf.next hm (sn (st (st (Sub.cons (Has.cst (HasC.cv (HasC.s (s := 902000) rfl) (Cv.m rfl))) (Sub.cons (Has.cst (HasC.cv (HasC.s (s := 902005) rfl) (Cv.owM (T := [11]) (te := [12]) rfl rfl))) (sc (Sub.cons (Has.cst (HasC.cv (HasC.s (s := 902014) rfl) Cv.fl)) Sub.nil)))))))
      ·have hm := cond_f hb hm
       refine CWalk.exit ?_
       refine Leaf.thenE ?_
       exact Leaf.brk hm (fun h => nomatch h) rfl (sn (st (Sub.cons (Has.cst (HasC.cv (HasC.s (s := 902000) rfl) (Cv.m rfl))) (Sub.cons (Has.cst (HasC.cv (HasC.s (s := 902005) rfl) (Cv.owM (T := [11]) (te := [12]) rfl rfl))) (sc (Sub.cons (Has.cst (HasC.cv (HasC.s (s := 902014) rfl) Cv.fl)) Sub.nil))))))
     ·intro _
      refine Leaf.blockE ?_
      refine Leaf.thenN ?_
      refine CWalk.seq ?_
      refine CWalk.region ?_
      refine wo (Spec.assign Has.int) ?_
      refine Walk.nil ?_
      refine Leaf.thenN ?_
      refine CWalk.block ?_
      obtain ⟨b43, hb43, hm⟩ := bind_some hm
      refine CWalk.loop (fun s : Int => [.fact 0 (.lo [13, 14] x3.1), .fact 2 (.rep [] (s16 : Int)), .fact 5 (.rep [] (s : Int)), .fact 902000 (.cst (u1 0) (Fact.rep [0] (a0 : List Disk))), .fact 902005 (.cst (u1 5) (Fact.ow [11] [12] 41 (x2 : List Disk))), .fact 902006 (.cst (u1 6) (Fact.lo [13, 14] x3.1)), .fact 902014 (.cst (u1 14) (Fact.rep [] ((((x7 && (x3.2 == x4.2)) && (x5.1 == x6.1)) && (x5.2 == x6.2)) : Bool)))]) (fun b : Unit => (Exit.exit 6, [.fact 0 (.lo [13, 14] x3.1), .fact 2 (.rep [] (s16 : Int)), .fact 902000 (.cst (u1 0) (Fact.rep [0] (a0 : List Disk))), .fact 902005 (.cst (u1 5) (Fact.ow [11] [12] 41 (x2 : List Disk))), .fact 902006 (.cst (u1 6) (Fact.lo [13, 14] x3.1)), .fact 902014 (.cst (u1 14) (Fact.rep [] ((((x7 && (x3.2 == x4.2)) && (x5.1 == x6.1)) && (x5.2 == x6.2)) : Bool)))])) hb43 (sn (st (st (Sub.cons (Has.cst (HasC.cv (HasC.s (s := 902000) rfl) (Cv.m rfl))) (Sub.cons (Has.cst (HasC.cv (HasC.s (s := 902005) rfl) (Cv.owM (T := [11]) (te := [12]) rfl rfl))) (sc (Sub.cons (Has.cst (HasC.cv (HasC.s (s := 902014) rfl) Cv.fl)) Sub.nil))))))) ?_ ?_
      ·rintro s31 c32 hm
       replace hm : law05_ActsCrash_L6 x3 s16 s31 = some c32 := hm
       unfold law05_ActsCrash_L6 at hm
       show CWalk _ [.fact 0 (.lo [13, 14] x3.1), .fact 2 (.rep [] (s16 : Int)), .fact 5 (.rep [] (s31 : Int)), .fact 902000 (.cst (u1 0) (Fact.rep [0] (a0 : List Disk))), .fact 902005 (.cst (u1 5) (Fact.ow [11] [12] 41 (x2 : List Disk))), .fact 902006 (.cst (u1 6) (Fact.lo [13, 14] x3.1)), .fact 902014 (.cst (u1 14) (Fact.rep [] ((((x7 && (x3.2 == x4.2)) && (x5.1 == x6.1)) && (x5.2 == x6.2)) : Bool)))] _ _
       refine CWalk.seq ?_
       refine CWalk.seq ?_
       refine CWalk.region ?_
       refine mv ?_
       refine mv ?_
       refine mv ?_
       obtain ⟨x33, hx33, hm⟩ := bind_some hm
       refine wo (Spec.idxLo hx33 sl22 (Has.s rfl) (Has.s rfl)) ?_
       refine wo (Spec.fieldLo fd41_1 (loDisk_1 _) (Has.s rfl)) ?_
       refine wo (Spec.loadLo ty39 (Has.s rfl)) ?_
       refine wo (Spec.lenLo (Has.s rfl) Try.underlying39) ?_
       refine wo (Spec.lssI (Has.s rfl) (Has.s rfl)) ?_
       refine Walk.nil ?_
       refine Leaf.thenN ?_
       refine CWalk.cond rfl (fun hb => ?_) (fun hb => ?_)
       ·have hm := cond_t hb hm
        refine CWalk.skip ?_
        refine Leaf.thenN ?_
        refine CWalk.seq ?_
        refine CWalk.block ?_
        refine CWalk.seq ?_
        refine CWalk.region ?_
        refine wo (Spec.assign Has.int) ?_
        refine Walk.nil ?_
        refine Leaf.thenN ?_
        refine CWalk.block ?_
        obtain ⟨b42, hb42, hm⟩ := bind_some hm
        refine CWalk.loop (fun s : Int => [.fact 0 (.lo [13, 14] x3.1), .fact 2 (.rep [] (s16 : Int)), .fact 5 (.rep [] (s31 : Int)), .fact 6 (.rep [] (s : Int)), .fact 902000 (.cst (u1 0) (Fact.rep [0] (a0 : List Disk))), .fact 902005 (.cst (u1 5) (Fact.ow [11] [12] 41 (x2 : List Disk))), .fact 902006 (.cst (u1 6) (Fact.lo [13, 14] x3.1)), .fact 902014 (.cst (u1 14) (Fact.rep [] ((((x7 && (x3.2 == x4.2)) && (x5.1 == x6.1)) && (x5.2 == x6.2)) : Bool)))]) (fun b : Unit => (Exit.exit 8, [.fact 0 (.lo [13, 14] x3.1), .fact 2 (.rep [] (s16 : Int)), .fact 5 (.rep [] (s31 : Int)), .fact 902000 (.cst (u1 0) (Fact.rep [0] (a0 : List Disk))), .fact 902005 (.cst (u1 5) (Fact.ow [11] [12] 41 (x2 : List Disk))), .fact 902006 (.cst (u1 6) (Fact.lo [13, 14] x3.1)), .fact 902014 (.cst (u1 14) (Fact.rep [] ((((x7 && (x3.2 == x4.2)) && (x5.1 == x6.1)) && (x5.2 == x6.2)) : Bool)))])) hb42 (sn (st (st (st (Sub.cons (Has.cst (HasC.cv (HasC.s (s := 902000) rfl) (Cv.m rfl))) (Sub.cons (Has.cst (HasC.cv (HasC.s (s := 902005) rfl) (Cv.owM (T := [11]) (te := [12]) rfl rfl))) (sc (Sub.cons (Has.cst (HasC.cv (HasC.s (s := 902014) rfl) Cv.fl)) Sub.nil)))))))) ?_ ?_
        ·rintro s34 c35 hm
         replace hm : law05_ActsCrash_L7 x3 s16 s31 s34 = some c35 := hm
         unfold law05_ActsCrash_L7 at hm
         show CWalk _ [.fact 0 (.lo [13, 14] x3.1), .fact 2 (.rep [] (s16 : Int)), .fact 5 (.rep [] (s31 : Int)), .fact 6 (.rep [] (s34 : Int)), .fact 902000 (.cst (u1 0) (Fact.rep [0] (a0 : List Disk))), .fact 902005 (.cst (u1 5) (Fact.ow [11] [12] 41 (x2 : List Disk))), .fact 902006 (.cst (u1 6) (Fact.lo [13, 14] x3.1)), .fact 902014 (.cst (u1 14) (Fact.rep [] ((((x7 && (x3.2 == x4.2)) && (x5.1 == x6.1)) && (x5.2 == x6.2)) : Bool)))] _ _
         refine CWalk.seq ?_
         refine CWalk.seq ?_
         refine CWalk.region ?_
         refine mv ?_
         refine mv ?_
         refine mv ?_
         obtain ⟨x36, hx36, hm⟩ := bind_some hm
         refine wo (Spec.idxLo hx36 sl22 (Has.s rfl) (Has.s rfl)) ?_
         refine wo (Spec.fieldLo fd41_1 (loDisk_1 _) (Has.s rfl)) ?_
         refine wo (Spec.loadLo ty39 (Has.s rfl)) ?_
         refine mv ?_
         obtain ⟨x37, hx37, hm⟩ := bind_some hm
         refine wo (Spec.idxLo hx37 sl39 (Has.s rfl) (Has.s rfl)) ?_
         refine wo (Spec.fieldLo fd58_1 (loWrite_1 _) (Has.s rfl)) ?_
         refine wo (Spec.loadLo ty54 (Has.s rfl)) ?_
         refine wo (Spec.lenLo (Has.s rfl) Try.underlying54) ?_
         refine wo (Spec.lssI (Has.s rfl) (Has.s rfl)) ?_
         refine Walk.nil ?_
         refine Leaf.thenN ?_
         refine CWalk.cond rfl (fun hb => ?_) (fun hb => ?_)
         ·have hm := cond_t hb hm
          refine CWalk.skip ?_
          refine Leaf.thenN ?_
          refine CWalk.seq ?_
          refine CWalk.block ?_
          refine CWalk.region ?_
          refine mv ?_
          refine mv ?_
          obtain ⟨x38, hx38, hm⟩ := bind_some hm
          refine wo (Spec.idxLo hx38 sl22 (Has.s rfl) (Has.s rfl)) ?_
          refine wo (Spec.fieldLo fd41_1 (loDisk_1 _) (Has.s rfl)) ?_
          refine wo (Spec.loadLo ty39 (Has.s rfl)) ?_
          refine mv ?_
          obtain ⟨x39, hx39, hm⟩ := bind_some hm
          refine wo (Spec.idxLo hx39 sl39 (Has.s rfl) (Has.s rfl)) ?_
          refine wo (Spec.fieldLo fd58_1 (loWrite_1 _) (Has.s rfl)) ?_
          refine wo (Spec.loadLo ty54 (Has.s rfl)) ?_
          refine mv ?_
          obtain ⟨x40, hx40, hm⟩ := bind_some hm
          refine wo (Spec.idxLo hx40 sl54 (Has.s rfl) (Has.s rfl)) ?_
          refine wo (Spec.loadLo ty5 (Has.s rfl)) ?_
          refine wo (Spec.add8Lo (Has.s rfl) (Has.u8 1 rfl)) ?_
          obtain ⟨x41, hx41, hm⟩ := bind_some hm
          refine wo (Spec.idxLo hx41 sl54 (Has.s rfl) (Has.s rfl)) ?_
          refine ws (Step.storeL (T := [13, 14]) (LL := [.fact 0 (.lo [13, 14] x3.1), .fact 902006 (.cst (u1 6) (Fact.lo [13, 14] x3.1))]) rfl ty5 (Has.s rfl) (Has.s rfl) (LooseL.lo rfl (LooseL.loC rfl LooseL.nil))) ?_
          refine Walk.nil ?_
          refine Leaf.blockN ?_
          refine Leaf.thenN ?_
          refine CWalk.region ?_
          refine mv ?_
          refine wo (Spec.addI (Has.s rfl) Has.int) ?_
          refine wo (Spec.assign (Has.s rfl)) ?_
          refine Walk.nil ?_
          exact Leaf.next hm (sn (st (st (st (Sub.cons (Has.cst (HasC.cv (HasC.s (s := 902000) rfl) (Cv.m rfl))) (Sub.cons (Has.cst (HasC.cv (HasC.s (s := 902005) rfl) (Cv.owM (T := [11]) (te := [12]) rfl rfl))) (sc (Sub.cons (Has.cst (HasC.cv (HasC.s (s := 902014) rfl) Cv.fl)) Sub.nil))))))))
         ·have hm := cond_f hb hm
          refine CWalk.exit ?_
          refine Leaf.thenE ?_
          exact Leaf.brk hm (fun h => nomatch h) rfl (sn (st (st (Sub.cons (Has.cst (HasC.cv (HasC.s (s := 902000) rfl) (Cv.m rfl))) (Sub.cons (Has.cst (HasC.cv (HasC.s (s := 902005) rfl) (Cv.owM (T := [11]) (te := [12]) rfl rfl))) (sc (Sub.cons (Has.cst (HasC.cv (HasC.s (s := 902014) rfl) Cv.fl)) Sub.nil)))))))
        ·intro _
         refine Leaf.blockE ?_
         refine Leaf.blockN ?_
         refine Leaf.thenN ?_
         refine CWalk.region ?_
         refine mv ?_
         refine wo (Spec.addI (Has.s rfl) Has.int) ?_
         refine wo (Spec.assign (Has.s rfl)) ?_
         refine Walk.nil ?_
         exact Leaf.next hm (sn (st (st (Sub.cons (Has.cst (HasC.cv (HasC.s (s := 902000) rfl) (Cv.m rfl))) (Sub.cons (Has.cst (HasC.cv (HasC.s (s := 902005) rfl) (Cv.owM (T := [11]) (te := [12]) rfl rfl))) (sc (Sub.cons (Has.cst (HasC.cv (HasC.s (s := 902014) rfl) Cv.fl)) Sub.nil)))))))
       ·have hm := cond_f hb hm
        refine CWalk.exit ?_
        refine Leaf.thenE ?_
        exact Leaf.brk hm (fun h => nomatch h) rfl (sn (st (Sub.cons (Has.cst (HasC.cv (HasC.s (s := 902000) rfl) (Cv.m rfl))) (Sub.cons (Has.cst (HasC.cv (HasC.s (s := 902005) rfl) (Cv.owM (T := [11]) (te := [12]) rfl rfl))) (sc (Sub.cons (Has.cst (HasC.cv (HasC.s (s := 902014) rfl) Cv.fl)) Sub.nil))))))
      ·intro _
       refine Leaf.blockE ?_
       refine Leaf.blockN ?_
       refine Leaf.thenN ?_
       refine CWalk.region ?_
       refine mv ?_
       refine wo (Spec.addI (Has.s rfl) Has.int) ?_
       refine wo (Spec.assign (Has.s rfl)) ?_
       refine Walk.nil ?_
       exact Leaf.next hm (sn (st (Sub.cons (Has.cst (HasC.cv (HasC.s (s := 902000) rfl) (Cv.m rfl))) (Sub.cons (Has.cst (HasC.cv (HasC.s (s := 902005) rfl) (Cv.owM (T := [11]) (te := [12]) rfl rfl))) (sc (Sub.cons (Has.cst (HasC.cv (HasC.s (s := 902014) rfl) Cv.fl)) Sub.nil))))))
    ·have hm := cond_f hb hm
     refine CWalk.exit ?_
     refine Leaf.thenE ?_
     exact Leaf.brk hm (fun h => nomatch h) rfl (Sub.cons (Has.cst (HasC.cv (HasC.s (s := 902000) rfl) (Cv.m rfl))) (Sub.cons (Has.cst (HasC.cv (HasC.s (s := 902005) rfl) (Cv.owM (T := [11]) (te := [12]) rfl rfl))) (sc (Sub.cons (Has.cst (HasC.cv (HasC.s (s := 902014) rfl) Cv.fl)) Sub.nil))))
   ·intro _
    refine Leaf.blockE ?_
    exact Leaf.inN (Leaf.in0 (f0 := Fact.top) () hm rfl rfl (fun _ _ => trivial) (Low.slot rfl (HasC.cv (HasC.s (s := 902000) rfl) (Cv.m rfl)) (Low.slot rfl (HasC.cv (HasC.s (s := 902005) rfl) (Cv.owM (T := [11]) (te := [12]) rfl rfl)) (ls 902006 (Low.slot rfl (HasC.cv (HasC.s (s := 902014) rfl) Cv.fl) (Low.res Low.nil))))))
  ·rintro _ hm
   replace hm : law05_ActsCrash_J1 a0 x2 x3 x4 x5 x6 x7 = some r := hm
   unfold law05_ActsCrash_J1 at hm
   show Walk _ _ _ [.fact 0 (.rep [0] (a0 : List Disk)), .fact 5 (.ow [11] [12] 41 (x2 : List Disk)), .fact 6 (.lo [13, 14] x3.1), .fact 14 (.rep [] ((((x7 && (x3.2 == x4.2)) && (x5.1 == x6.1)) && (x5.2 == x6.2)) : Bool)), .fact 66 (.top)] _
   refine Walk.nil ?_
   refine Leaf.thenN ?_
   refine CWalk.seq ?_
   refine CWalk.seq ?_
   refine CWalk.region ?_
   refine wo (Spec.assign Has.int) ?_
   refine Walk.nil ?_
   refine Leaf.thenN ?_
   refine CWalk.block ?_
   obtain ⟨b14, hb14, hm⟩ := bind_some hm
   refine CWalk.loop (fun s : Bool × Int => [.fact 0 (.rep [0] (a0 : List Disk)), .fact 5 (.ow [11] [12] 41 (x2 : List Disk)), .fact 6 (.lo [13, 14] x3.1), .fact 14 (.rep [] s.1), .fact 15 (.rep [] s.2)]) (fun b : Bool => (Exit.exit 0, [.fact 0 (.rep [0] (a0 : List Disk)), .fact 5 (.ow [11] [12] 41 (x2 : List Disk)), .fact 14 (.rep [] (b : Bool))])) hb14 (su (Sub.cons (Has.cv (Has.s rfl) (Cv.owM (T := [11]) (te := [12]) rfl rfl)) (sn (st (st Sub.nil))))) ?_ ?_
   ·rintro ⟨s8, s9⟩ c10 hm
    replace hm : law05_ActsCrash_L2 a0 x2 x3 s8 s9 = some c10 := hm
    unfold law05_ActsCrash_L2 at hm
    show CWalk _ [.fact 0 (.rep [0] (a0 : List Disk)), .fact 5 (.ow [11] [12] 41 (x2 : List Disk)), .fact 6 (.lo [13, 14] x3.1), .fact 14 (.rep [] (s8 : Bool)), .fact 15 (.rep [] (s9 : Int))] _ _
    refine CWalk.seq ?_
    refine CWalk.seq ?_
    refine CWalk.region ?_
    refine mv ?_
    refine mv ?_
    refine wo (Spec.lenLo (Has.s rfl) Try.underlying22) ?_
    refine wo (Spec.lssI (Has.s rfl) (Has.s rfl)) ?_
    refine mv ?_
    refine wg rfl rfl (fun hb => Spec.move (Has.s rfl)) ?_
    refine wg rfl rfl (fun hb => Spec.move (Has.s rfl)) ?_
    refine wg rfl rfl (fun hb => Spec.len (Has.cv (Has.u rfl hb) (Cv.trans Cv.owSl (Cv.slRep (T' := [11, 12]) rfl rfl))) Try.underlying22) ?_
    refine wg rfl rfl (fun hb => Spec.lssI (Has.u rfl hb) (Has.u rfl hb)) ?_
    refine wo (Spec.and (Has.s rfl) (fun h => Has.u rfl h)) ?_
    refine Walk.nil ?_
    refine Leaf.thenN ?_
    refine CWalk.cond rfl (fun hb => ?_) (fun hb => ?_)
    ·have hm := cond_t hb hm
     refine CWalk.skip ?_
     refine Leaf.thenN ?_
     refine CWalk.seq ?_
     refine CWalk.block ?_
     obtain ⟨x11, hx11, hm⟩ := bind_some hm
     obtain ⟨x12, hx12, hm⟩ := bind_some hm
     obtain ⟨x13, hx13, hm⟩ := bind_some hm
     refine CWalk.drawM [[], [0], [0, 1], [0, 1], [0, 1, 2, 3], [0, 1, 2, 3, 4], [0, 1], [0, 1], [0, 1, 6, 7], [0, 1, 6, 7, 8], [0, 1, 2, 3, 4, 5, 6, 7, 8, 9], [0, 1, 2, 3, 4, 5, 6, 7, 8, 9, 10], [0, 1, 2, 3, 4, 5, 6, 7, 8, 9, 10, 11]] [[.fact 79 (.rep [] (s8 : Bool))], [.fact 80 (.rep [] (s8 : Bool))], [.fact 81 (.under (s8 = true) (.ow [11] [12] 41 (x2 : List Disk)))], [.fact 82 (.under (s8 = true) (.rep [] (s9 : Int)))], [.fact 83 (.under (s8 = true) (.pts [11] [12] (x11 : Disk)))], [.fact 84 (.under (s8 = true) (.rep [12] (x11 : Disk)))], [.fact 85 (.under (s8 = true) (.rep [0] (a0 : List Disk)))], [.fact 86 (.under (s8 = true) (.rep [] (s9 : Int)))], [.fact 87 (.under (s8 = true) (.ptr [0] (x12 : Disk)))], [.fact 88 (.under (s8 = true) (.rep [0] (x12 : Disk)))], [.fact 89 (.under (s8 = true) (.rep [] (x13 : Bool)))], [.fact 90 (.rep [] ((s8 && x13) : Bool))], [.fact 14 (.rep [] ((s8 && x13) : Bool))]] mixed (by kernel_rfl) (ao (so (Spec.move (Has.s rfl))) (ao (so (Spec.move (Has.s rfl))) (ao (StepG.opg rfl rfl rfl (fun hb => Spec.move (Has.s rfl))) (ao (StepG.opg rfl rfl rfl (fun hb => Spec.move (Has.s rfl))) (ao (StepG.opg rfl rfl rfl (fun hb => Spec.indexSl (gO_t hx11 hb) sl22 (Has.cv (Has.u rfl hb) Cv.owSl) (Has.u rfl hb))) (ao (StepG.opg rfl rfl rfl (fun hb => Spec.loadS ty41 (Has.u rfl hb))) (ao (StepG.opg rfl rfl rfl (fun hb => Spec.move (Has.s rfl))) (ao (StepG.opg rfl rfl rfl (fun hb => Spec.move (Has.s rfl))) (ao (StepG.opg rfl rfl rfl (fun hb => Spec.indexAddr (gO_t hx12 hb) sl22 (Has.u rfl hb) (Has.u rfl hb))) (ao (StepG.opg rfl rfl rfl (fun hb => Spec.load ty41 (Has.u rfl hb))) (ao (StepG.opg rfl rfl rfl (fun hb => Spec.callE [0, 12] 20 rfl en17 (ref04_Same_c x11 x12 (gO_t hx13 hb)) (HasAll.cons (Has.m (Has.u rfl hb) rfl) (HasAll.cons (Has.m (Has.u rfl hb) rfl) HasAll.nil)))) (ao (so (Spec.and (Has.s rfl) (fun h => Has.u rfl h))) (ao (so (Spec.assign (Has.s rfl))) AllM.nil))))))))))))) ?_
     refine Leaf.blockN ?_
     refine Leaf.thenN ?_
     refine CWalk.region ?_
     refine mv ?_
     refine wo (Spec.addI (Has.s rfl) Has.int) ?_
     refine wo (Spec.assign (Has.s rfl)) ?_
     refine Walk.nil ?_
     exact Leaf.next hm (su (Sub.cons (Has.cv (Has.s rfl) (Cv.owM (T := [11]) (te := [12]) rfl rfl)) (sn (st (st Sub.nil)))))
    ·have hm := cond_f hb hm
     refine CWalk.exit ?_
     refine Leaf.thenE ?_
     exact Leaf.brk hm (fun h => nomatch h) rfl (su (Sub.cons (Has.cv (Has.s rfl) (Cv.owM (T := [11]) (te := [12]) rfl rfl)) (st Sub.nil)))
   ·intro _
    refine Leaf.blockE ?_
    refine Leaf.thenN ?_
    refine CWalk.seq ?_
    refine CWalk.region ?_
    refine mv ?_
    refine mv ?_
    refine wg rfl rfl (fun hb => Spec.move (Has.s rfl)) ?_
    refine wg rfl rfl (fun hb => Spec.move (Has.s rfl)) ?_
    obtain ⟨x15, hx15, hm⟩ := bind_some hm
    refine wg (f := Fact.rep [] (x15 : Bool)) rfl rfl (fun hb => Spec.callE [0, 11, 12] 21 rfl en15 (ref05_SameDisks_c x2 a0 (gO_t hx15 hb)) (HasAll.cons (Has.m (Has.cv (Has.u rfl hb) (Cv.trans Cv.owSl (Cv.slRep (T' := [11, 12]) rfl rfl))) rfl) (HasAll.cons (Has.m (Has.u rfl hb) rfl) HasAll.nil))) ?_
    refine wo (Spec.and (Has.s rfl) (fun h => Has.u rfl h)) ?_
    refine wo (Spec.assign (Has.s rfl)) ?_
    refine Walk.nil ?_
    refine Leaf.thenN ?_
    refine CWalk.ret ?_
    obtain rfl := Option.some.inj hm
    exact Leaf.retC1 rfl (HasR.cv (HasR.tmp (Has.s rfl)) Cv.fl)

end Go.Proofs.Ytgkhjpfnmbdchaa
