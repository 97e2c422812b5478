/- Printed by a program of ours: models of functions, and that calls do what they say. -/
import Derived.Test.YtdkmkalddgplmaaProg
import Derived.Test.YtdkmkalddgplmaaCore36
import Derived.KernelRfl
namespace Go.Proofs.Ytdkmkalddgplmaa
open Go GL
set_option linter.unusedVariables false

structure Op55 where
  Kind : UInt8
  At : UInt8
  Byte : UInt8
  deriving Inhabited, DecidableEq
instance : Rp Op55 := Rp.via (inferInstance : Rp (UInt8 × UInt8 × UInt8)) (fun x => (x.Kind, x.At, x.Byte))
theorem chOp55 (x : Op55) : Ch x [⟨inferInstance, x.Kind⟩, ⟨inferInstance, x.At⟩, ⟨inferInstance, x.Byte⟩] := Ch.via (ChT.cons (ChT.cons (ChT.one _)))
instance : Lo Op55 := Lo.via (inferInstance : Rp (UInt8 × UInt8 × UInt8)) inferInstance (fun x : Op55 => (x.Kind, x.At, x.Byte))
theorem loOp55_0 (x : Op55) : LoAt x 0 x.Kind := fun F cs w h => (LoAt.fst : LoAt ((x.Kind, x.At, x.Byte)) 0 x.Kind) F cs w h
theorem loOp55_1 (x : Op55) : LoAt x 1 x.At := fun F cs w h => ((LoAt.snd LoAt.fst) : LoAt ((x.Kind, x.At, x.Byte)) 1 x.At) F cs w h
theorem loOp55_2 (x : Op55) : LoAt x 2 x.Byte := fun F cs w h => ((LoAt.snd (LoAt.snd LoAt.self)) : LoAt ((x.Kind, x.At, x.Byte)) 2 x.Byte) F cs w h
instance : Flat Op55 := ⟨fun F F' x cs w w' h => Flat.flat (α := UInt8 × UInt8 × UInt8) F F' ((x.Kind, x.At, x.Byte)) cs w w' h⟩

structure Write where
  At : Int
  Data : List UInt8
  deriving Inhabited, DecidableEq
instance : Rp Write := Rp.via (inferInstance : Rp (Int × (List UInt8))) (fun x => (x.At, x.Data))
theorem chWrite (x : Write) : Ch x [⟨inferInstance, x.At⟩, ⟨inferInstance, x.Data⟩] := Ch.via (ChT.cons (ChT.one _))
instance : Lo Write := Lo.via (inferInstance : Rp (Int × (List UInt8))) inferInstance (fun x : Write => (x.At, x.Data))
theorem loWrite_0 (x : Write) : LoAt x 0 x.At := fun F cs w h => (LoAt.fst : LoAt ((x.At, x.Data)) 0 x.At) F cs w h
theorem loWrite_1 (x : Write) : LoAt x 1 x.Data := fun F cs w h => ((LoAt.snd LoAt.self) : LoAt ((x.At, x.Data)) 1 x.Data) F cs w h

structure Disk where
  Blocks : List (List UInt8)
  Wait : List Write
  Dead : Bool
  deriving Inhabited, DecidableEq
instance : Rp Disk := Rp.via (inferInstance : Rp ((List (List UInt8)) × (List Write) × Bool)) (fun x => (x.Blocks, x.Wait, x.Dead))
theorem chDisk (x : Disk) : Ch x [⟨inferInstance, x.Blocks⟩, ⟨inferInstance, x.Wait⟩, ⟨inferInstance, x.Dead⟩] := Ch.via (ChT.cons (ChT.cons (ChT.one _)))
instance : Lo Disk := Lo.via (inferInstance : Rp ((List (List UInt8)) × (List Write) × Bool)) inferInstance (fun x : Disk => (x.Blocks, x.Wait, x.Dead))
theorem loDisk_0 (x : Disk) : LoAt x 0 x.Blocks := fun F cs w h => (LoAt.fst : LoAt ((x.Blocks, x.Wait, x.Dead)) 0 x.Blocks) F cs w h
theorem loDisk_1 (x : Disk) : LoAt x 1 x.Wait := fun F cs w h => ((LoAt.snd LoAt.fst) : LoAt ((x.Blocks, x.Wait, x.Dead)) 1 x.Wait) F cs w h
theorem loDisk_2 (x : Disk) : LoAt x 2 x.Dead := fun F cs w h => ((LoAt.snd (LoAt.snd LoAt.self)) : LoAt ((x.Blocks, x.Wait, x.Dead)) 2 x.Dead) F cs w h

structure Arr4_UInt8 where
  e0 : UInt8
  e1 : UInt8
  e2 : UInt8
  e3 : UInt8
  deriving Inhabited, DecidableEq
instance : Rp Arr4_UInt8 := Rp.via (inferInstance : Rp (UInt8 × UInt8 × UInt8 × UInt8)) (fun x => (x.e0, x.e1, x.e2, x.e3))
theorem chArr4_UInt8 (x : Arr4_UInt8) : Ch x [⟨inferInstance, x.e0⟩, ⟨inferInstance, x.e1⟩, ⟨inferInstance, x.e2⟩, ⟨inferInstance, x.e3⟩] := Ch.via (ChT.cons (ChT.cons (ChT.cons (ChT.one _))))
instance : Lo Arr4_UInt8 := Lo.via (inferInstance : Rp (UInt8 × UInt8 × UInt8 × UInt8)) inferInstance (fun x : Arr4_UInt8 => (x.e0, x.e1, x.e2, x.e3))
theorem loArr4_UInt8_0 (x : Arr4_UInt8) : LoAt x 0 x.e0 := fun F cs w h => (LoAt.fst : LoAt ((x.e0, x.e1, x.e2, x.e3)) 0 x.e0) F cs w h
theorem loArr4_UInt8_1 (x : Arr4_UInt8) : LoAt x 1 x.e1 := fun F cs w h => ((LoAt.snd LoAt.fst) : LoAt ((x.e0, x.e1, x.e2, x.e3)) 1 x.e1) F cs w h
theorem loArr4_UInt8_2 (x : Arr4_UInt8) : LoAt x 2 x.e2 := fun F cs w h => ((LoAt.snd (LoAt.snd LoAt.fst)) : LoAt ((x.e0, x.e1, x.e2, x.e3)) 2 x.e2) F cs w h
theorem loArr4_UInt8_3 (x : Arr4_UInt8) : LoAt x 3 x.e3 := fun F cs w h => ((LoAt.snd (LoAt.snd (LoAt.snd LoAt.self))) : LoAt ((x.e0, x.e1, x.e2, x.e3)) 3 x.e3) F cs w h
instance : Flat Arr4_UInt8 := ⟨fun F F' x cs w w' h => Flat.flat (α := UInt8 × UInt8 × UInt8 × UInt8) F F' ((x.e0, x.e1, x.e2, x.e3)) cs w w' h⟩

theorem zl25 : ZeroLs Try.prog 25 [(false, 1, Fact.nilv), (false, 1, Fact.nilv), (false, 1, Fact.rep [] (false : Bool))] := ⟨⟨[.slice none 0 0, .slice none 0 0, .bool false], by kernel_rfl, fun g w => FldRel.zn (FldRel.zn (FldRel.zr (fun _ _ => rfl) (rfl)))⟩⟩
theorem bd25 : BuildTy Try.prog 25 [(0, 1), (1, 1), (2, 1)] [(false, 1, Fact.nilv), (false, 1, Fact.nilv), (false, 1, Fact.rep [] (false : Bool))] := ⟨⟨_, [.slice none 0 0, .slice none 0 0, .bool false], by kernel_rfl, Try.underlying25, (fun g w => FldRel.zn (FldRel.zn (FldRel.zr (fun _ _ => rfl) (rfl)))), by kernel_rfl⟩⟩
theorem ty25 : Ty Try.prog 25 (Disk) := Ty.of (by kernel_rfl)
theorem ow22 : OwnTy Try.prog 22 28 (List UInt8) := OwnTy.of Try.underlying22 (by kernel_rfl) rfl (by kernel_rfl)
theorem zt28 : ZeroTy Try.prog 28 ([] : List UInt8) := ⟨.slice none 0 0, by kernel_rfl, fun _ => nil_rel⟩
theorem en15 : enters Try.prog 15 = true := by kernel_rfl
theorem ow28 : OwnTy Try.prog 28 5 (UInt8) := OwnTy.of Try.underlying28 (by kernel_rfl) rfl (by kernel_rfl)
theorem zt5 : ZeroTy Try.prog 5 (0 : UInt8) := ⟨.int .u8 0, by kernel_rfl, fun _ => rfl⟩
theorem ty5 : Ty Try.prog 5 (UInt8) := Ty.of (by kernel_rfl)
theorem en32 : enters Try.prog 32 = true := by kernel_rfl
theorem fd25_0 : FieldTy Try.prog 25 0 0 1 := FieldTy.of Try.underlying25 (by kernel_rfl) rfl
theorem ty22 : Ty Try.prog 22 (List (List UInt8)) := Ty.of (by kernel_rfl)
theorem zl3 : ZeroLs Try.prog 3 [(false, 1, Fact.rep [] ((0 : Int) : Int))] := ⟨⟨[.int .i64 0], by kernel_rfl, fun g w => FldRel.zr (fun _ _ => rfl) (rfl)⟩⟩
theorem ty3 : Ty Try.prog 3 (Int) := Ty.of (by kernel_rfl)
theorem fd25_1 : FieldTy Try.prog 25 1 1 1 := FieldTy.of Try.underlying25 (by kernel_rfl) rfl
theorem ty23 : Ty Try.prog 23 (List Write) := Ty.of (by kernel_rfl)
theorem sl22 : SlTy Try.prog 22 28 (List UInt8) := SlTy.of Try.underlying22 (by kernel_rfl) rfl
theorem ty28 : Ty Try.prog 28 (List UInt8) := Ty.of (by kernel_rfl)
theorem en63 : enters Try.prog 63 = true := by kernel_rfl
theorem en45 : enters Try.prog 45 = true := by kernel_rfl
theorem en44 : enters Try.prog 44 = true := by kernel_rfl
theorem sl23 : SlTy Try.prog 23 59 (Write) := SlTy.of Try.underlying23 (by kernel_rfl) rfl
theorem ty59 : Ty Try.prog 59 (Write) := Ty.of (by kernel_rfl)
theorem en64 : enters Try.prog 64 = true := by kernel_rfl
theorem fd59_0 : FieldTy Try.prog 59 0 0 1 := FieldTy.of Try.underlying59 (by kernel_rfl) rfl
theorem fd59_1 : FieldTy Try.prog 59 1 1 1 := FieldTy.of Try.underlying59 (by kernel_rfl) rfl
theorem en47 : enters Try.prog 47 = true := by kernel_rfl
theorem en46 : enters Try.prog 46 = true := by kernel_rfl
theorem fd25_2 : FieldTy Try.prog 25 2 2 1 := FieldTy.of Try.underlying25 (by kernel_rfl) rfl
theorem ty4 : Ty Try.prog 4 (Bool) := Ty.of (by kernel_rfl)
theorem en48 : enters Try.prog 48 = true := by kernel_rfl
theorem en19 : enters Try.prog 19 = true := by kernel_rfl
theorem en40 : enters Try.prog 40 = true := by kernel_rfl
theorem en55 : enters Try.prog 55 = true := by kernel_rfl
theorem en42 : enters Try.prog 42 = true := by kernel_rfl
theorem mixed : Try.prog.follows .mixedOrders = true := by kernel_rfl
theorem zl59 : ZeroLs Try.prog 59 [(false, 1, Fact.rep [] ((0 : Int) : Int)), (false, 1, Fact.nilv)] := ⟨⟨[.int .i64 0, .slice none 0 0], by kernel_rfl, fun g w => FldRel.zr (fun _ _ => rfl) (FldRel.zn (rfl))⟩⟩
theorem bd59 : BuildTy Try.prog 59 [(0, 1), (1, 1)] [(false, 1, Fact.rep [] ((0 : Int) : Int)), (false, 1, Fact.nilv)] := ⟨⟨_, [.int .i64 0, .slice none 0 0], by kernel_rfl, Try.underlying59, (fun g w => FldRel.zr (fun _ _ => rfl) (FldRel.zn (rfl))), by kernel_rfl⟩⟩
theorem ow23 : OwnTy Try.prog 23 59 (Write) := OwnTy.of Try.underlying23 (by kernel_rfl) rfl (by kernel_rfl)
theorem en17 : enters Try.prog 17 = true := by kernel_rfl
theorem en37 : enters Try.prog 37 = true := by kernel_rfl
theorem en23 : enters Try.prog 23 = true := by kernel_rfl
theorem en27 : enters Try.prog 27 = true := by kernel_rfl
theorem en58 : enters Try.prog 58 = true := by kernel_rfl
theorem en59 : enters Try.prog 59 = true := by kernel_rfl
theorem zt59 : ZeroTy Try.prog 59 (Write.mk (0 : Int) ([] : List UInt8)) := ⟨.agg #[.int .i64 0, .slice none 0 0], by kernel_rfl, fun _ => ⟨[.int .i64 0], [.slice none 0 0], rfl, rfl, nil_rel⟩⟩
theorem en25 : enters Try.prog 25 = true := by kernel_rfl
theorem zl28 : ZeroLs Try.prog 28 [(false, 1, Fact.nilv)] := ⟨⟨[.slice none 0 0], by kernel_rfl, fun g w => FldRel.zn (rfl)⟩⟩
theorem zl29 : ZeroLs Try.prog 29 [(false, 1, Fact.rep [] ((0 : Int) : Int))] := ⟨⟨[.int .i64 0], by kernel_rfl, fun g w => FldRel.zr (fun _ _ => rfl) (rfl)⟩⟩
theorem en13 : enters Try.prog 13 = true := by kernel_rfl
theorem ty29 : Ty Try.prog 29 (Int) := Ty.of (by kernel_rfl)
theorem en36 : enters Try.prog 36 = true := by kernel_rfl
theorem en62 : enters Try.prog 62 = true := by kernel_rfl
theorem en11 : enters Try.prog 11 = true := by kernel_rfl
theorem en33 : enters Try.prog 33 = true := by kernel_rfl
theorem en34 : enters Try.prog 34 = true := by kernel_rfl
theorem en31 : enters Try.prog 31 = true := by kernel_rfl
theorem zl53 : ZeroLs Try.prog 53 [(false, 1, Fact.rep [] ((0 : UInt8) : UInt8)), (false, 1, Fact.rep [] ((0 : UInt8) : UInt8)), (false, 1, Fact.rep [] ((0 : UInt8) : UInt8)), (false, 1, Fact.rep [] ((0 : UInt8) : UInt8))] := ⟨⟨[.int .u8 0, .int .u8 0, .int .u8 0, .int .u8 0], by kernel_rfl, fun g w => FldRel.zr (fun _ _ => rfl) (FldRel.zr (fun _ _ => rfl) (FldRel.zr (fun _ _ => rfl) (FldRel.zr (fun _ _ => rfl) (rfl))))⟩⟩
theorem sl52 : SlTy Try.prog 52 55 (Op55) := SlTy.of Try.underlying52 (by kernel_rfl) rfl
theorem fd55_1 : FieldTy Try.prog 55 1 1 1 := FieldTy.of Try.underlying55 (by kernel_rfl) rfl
theorem fd55_0 : FieldTy Try.prog 55 0 0 1 := FieldTy.of Try.underlying55 (by kernel_rfl) rfl
theorem fd55_2 : FieldTy Try.prog 55 2 2 1 := FieldTy.of Try.underlying55 (by kernel_rfl) rfl
theorem sm53 : SmTy Try.prog 53 5 4 1 := ⟨Try.underlying53, by kernel_rfl⟩
theorem ty53 : Ty Try.prog 53 (Arr4_UInt8) := Ty.of (by kernel_rfl)
theorem en29 : enters Try.prog 29 = true := by kernel_rfl
theorem zl71 : ZeroLs Try.prog 71 [(false, 1, Fact.top)] := ⟨⟨[.nilFunc], by kernel_rfl, fun g w => FldRel.zt (rfl)⟩⟩
theorem tc71 : Ty Try.prog 71 Cell1 := Ty.of (by kernel_rfl)
theorem ty71 : Ty Try.prog 71 (Int) := Ty.of (by kernel_rfl)
theorem en51 : enters Try.prog 51 = true := by kernel_rfl
theorem en50 : enters Try.prog 50 = true := by kernel_rfl
theorem en53 : enters Try.prog 53 = true := by kernel_rfl
theorem en54 : enters Try.prog 54 = true := by kernel_rfl
theorem en52 : enters Try.prog 52 = true := by kernel_rfl
theorem en21 : enters Try.prog 21 = true := by kernel_rfl
theorem en35 : enters Try.prog 35 = true := by kernel_rfl

/-- freeboard/disk.New -/
def disk_New (a0 : Int) : Option (Disk × Int) :=
  (bif ((decide (a0 < (1 : Int))) || (decide (a0 > (256 : Int)))) then some ((Disk.mk ([] : List (List UInt8)) ([] : List Write) false), (2 : Int)) else Option.bind (makeL ([] : List UInt8) a0) (fun x1 => some ((Disk.mk x1 ([] : List Write) false), (0 : Int))))
set_option maxRecDepth 100000 in
set_option maxHeartbeats 2000000 in
theorem disk_New_c (a0 : Int) {r : Disk × Int} (hm : disk_New a0 = some r) : Ctr Try.prog 15 [.rep 0 a0] (.tup2 (.flds [(false, 1, (.own 0 none 28 r.1.Blocks)), (false, 1, (.own 0 none 59 r.1.Wait)), (false, 1, (.fl r.1.Dead))]) (.fl r.2)) [] := by
 refine ctr_of_walk [[14]] 14 Try.func15 rfl rfl rfl rfl (fun w0 om => ?_)
 unfold disk_New at hm
 refine CWalk.sub (G' := [.fact 0 (.rep [] (a0 : Int))]) (Sub.cons (Has.fl (Has.s rfl)) Sub.nil) ?_
 refine CWalk.seq ?_
 refine CWalk.region ?_
 refine ws (Step.allocObj (ls := [(false, 1, Fact.nilv), (false, 1, Fact.nilv), (false, 1, Fact.rep [] (false : Bool))]) 10 rfl rfl rfl rfl zl25) ?_
 refine wo (Spec.assign Has.int) ?_
 refine Walk.nil ?_
 refine Leaf.thenN ?_
 refine CWalk.seq ?_
 refine CWalk.seq ?_
 refine CWalk.region ?_
 refine mv ?_
 refine wo (Spec.lssI (Has.s rfl) Has.int) ?_
 refine mv ?_
 refine wg rfl rfl (fun hb => Spec.move (Has.s rfl)) ?_
 refine wg rfl rfl (fun hb => Spec.gtrI (Has.u rfl hb) Has.int) ?_
 refine wo (Spec.or (Has.s rfl) (fun h => Has.u rfl h)) ?_
 refine Walk.nil ?_
 refine Leaf.thenN ?_
 refine CWalk.cond rfl (fun hb => ?_) (fun hb => ?_)
 ·have hm := cond_t hb hm
  refine CWalk.seq ?_
  refine CWalk.region ?_
  refine wo (Spec.build (us := []) (ls' := [(false, 1, Fact.nilv), (false, 1, Fact.nilv), (false, 1, Fact.rep [] (false : Bool))]) bd25 rfl BP.nil) ?_
  refine ws (Step.storeObj (ls := [(false, 1, Fact.nilv), (false, 1, Fact.nilv), (false, 1, Fact.rep [] (false : Bool))]) rfl ty25 rfl rfl (Has.s rfl) rfl (HasL.flds (Has.s rfl)) rfl) ?_
  refine wo (Spec.assign Has.int) ?_
  refine Walk.nil ?_
  refine Leaf.thenN ?_
  refine CWalk.ret ?_
  refine Leaf.thenR ?_
  obtain rfl := Option.some.inj hm
  exact Leaf.retC2 rfl (HasR.cv (HasR.obj (ls := [(false, 1, Fact.nilv), (false, 1, Fact.nilv), (false, 1, Fact.rep [] (false : Bool))]) ty25 rfl rfl (Has.s rfl) rfl (HasGs.cons (HasG.s rfl) (HasGs.cons (HasG.s rfl) (HasGs.cons (HasG.s rfl) HasGs.nil)))) (Cv.flds (CvL.cons (Cv.trans Cv.nilOw (Cv.owM (T := []) (te := []) rfl rfl)) (CvL.cons (Cv.trans Cv.nilOw (Cv.owM (T := []) (te := []) rfl rfl)) (CvL.cons Cv.fl CvL.nil))))) (HasR.cv (HasR.tmp (Has.s rfl)) Cv.fl)
 ·have hm := cond_f hb hm
  refine CWalk.skip ?_
  refine Leaf.thenN ?_
  refine CWalk.seq ?_
  refine CWalk.region ?_
  refine mv ?_
  obtain ⟨x1, hx1, hm⟩ := bind_some hm
  refine ws (Step.makeOwn 14 hx1 rfl rfl ow22 zt28 (Has.s rfl)) ?_
  refine wo (Spec.build (us := [(0, .tmp 12)]) (ls' := [(false, 1, Fact.isv 14), (false, 1, Fact.nilv), (false, 1, Fact.rep [] (false : Bool))]) bd25 rfl (BP.cons rfl rfl (Has.cv (Has.s rfl) (Cv.own rfl)) (Has.s rfl) BP.nil)) ?_
  refine ws (Step.storeObj (ls := [(false, 1, Fact.isv 14), (false, 1, Fact.nilv), (false, 1, Fact.rep [] (false : Bool))]) rfl ty25 rfl rfl (Has.s rfl) rfl (HasL.flds (Has.s rfl)) rfl) ?_
  refine wo (Spec.assign Has.int) ?_
  refine Walk.nil ?_
  refine Leaf.thenN ?_
  refine CWalk.ret ?_
  obtain rfl := Option.some.inj hm
  exact Leaf.retC2 rfl (HasR.cv (HasR.obj (ls := [(false, 1, Fact.isv 14), (false, 1, Fact.nilv), (false, 1, Fact.rep [] (false : Bool))]) ty25 rfl rfl (Has.s rfl) rfl (HasGs.cons (HasG.s rfl) (HasGs.cons (HasG.s rfl) (HasGs.cons (HasG.s rfl) HasGs.nil)))) (Cv.flds (CvL.cons (Cv.trans (Cv.isvOw rfl) (Cv.owM (T := [14]) (te := []) rfl rfl)) (CvL.cons (Cv.trans Cv.nilOw (Cv.owM (T := []) (te := []) rfl rfl)) (CvL.cons Cv.fl CvL.nil))))) (HasR.cv (HasR.tmp (Has.s rfl)) Cv.fl)

def law04_full_L1 (a0 : UInt8) (s2 : Int) (s3 : List UInt8) : Option (Ctl (Int × (List UInt8)) ((List UInt8))) :=
  (bif (decide (s2 < ((s3).length : Int))) then Option.bind (bnd (s3).length s2) (fun x5 => some (Ctl.next ((wI (s2 + (1 : Int))), (s3).set x5 a0))) else some (Ctl.brk s3))
/-- freeboard/freeboardlaw04.full -/
def law04_full (a0 : UInt8) : Option ((List UInt8)) :=
  Option.bind (makeL (0 : UInt8) (128 : Int)) (fun x1 => Option.bind (loopM (fun s : Int × (List UInt8) => law04_full_L1 a0 s.1 s.2) FUEL ((0 : Int), x1)) (fun b6 => some b6))
set_option maxRecDepth 100000 in
set_option maxHeartbeats 2000000 in
theorem law04_full_c (a0 : UInt8) {r : (List UInt8)} (hm : law04_full a0 = some r) : Ctr Try.prog 32 [.rep 0 a0] (.own 0 none 5 r) [] := by
 refine ctr_of_walk [[10]] 17 Try.func32 rfl rfl rfl rfl (fun w0 om => ?_)
 unfold law04_full at hm
 refine CWalk.sub (G' := [.fact 0 (.rep [] (a0 : UInt8))]) (Sub.cons (Has.fl (Has.s rfl)) Sub.nil) ?_
 refine CWalk.seq ?_
 refine CWalk.region ?_
 refine wo (Spec.assign Has.nilv) ?_
 refine Walk.nil ?_
 refine Leaf.thenN ?_
 refine CWalk.seq ?_
 refine CWalk.region ?_
 obtain ⟨x1, hx1, hm⟩ := bind_some hm
 refine ws (Step.makeOwn 10 hx1 rfl rfl ow28 zt5 Has.int) ?_
 refine wo (Spec.assign (Has.s rfl)) ?_
 refine Walk.nil ?_
 refine Leaf.thenN ?_
 refine CWalk.seq ?_
 refine CWalk.seq ?_
 refine CWalk.region ?_
 refine wo (Spec.assign Has.int) ?_
 refine Walk.nil ?_
 refine Leaf.thenN ?_
 refine CWalk.block ?_
 obtain ⟨b6, hb6, hm⟩ := bind_some hm
 refine CWalk.loop (fun s : Int × (List UInt8) => [.fact 0 (.rep [] (a0 : UInt8)), .fact 3 (.isv 10), .fact 4 (.rep [] s.1), .fact 100010 (.own 10 [] 5 (s.2 : List UInt8))]) (fun b : (List UInt8) => (Exit.exit 0, [.fact 3 (.isv 10), .fact 100010 (.own 10 [] 5 (b : List UInt8))])) hb6 (st (sn (st (Sub.cons (Has.ownM (Has.s rfl) rfl) Sub.nil)))) ?_ ?_
 ·rintro ⟨s2, s3⟩ c4 hm
  replace hm : law04_full_L1 a0 s2 s3 = some c4 := hm
  unfold law04_full_L1 at hm
  show CWalk _ [.fact 0 (.rep [] (a0 : UInt8)), .fact 3 (.isv 10), .fact 4 (.rep [] (s2 : Int)), .fact 100010 (.own 10 [] 5 (s3 : List UInt8))] _ _
  refine CWalk.seq ?_
  refine CWalk.seq ?_
  refine CWalk.region ?_
  refine mv ?_
  refine mv ?_
  refine wo (Spec.len (Has.cv (Has.s rfl) (Cv.own rfl)) Try.underlying28) ?_
  refine wo (Spec.lssI (Has.s rfl) (Has.s rfl)) ?_
  refine Walk.nil ?_
  refine Leaf.thenN ?_
  refine CWalk.cond rfl (fun hb => ?_) (fun hb => ?_)
  ·have hm := cond_t hb hm
   refine CWalk.skip ?_
   refine Leaf.thenN ?_
   refine CWalk.seq ?_
   refine CWalk.block ?_
   refine CWalk.region ?_
   refine mv ?_
   refine mv ?_
   refine mv ?_
   obtain ⟨x5, hx5, hm⟩ := bind_some hm
   refine wo (Spec.idxOwn hx5 ow28 (Has.s rfl) rfl (Has.s rfl)) ?_
   refine ws (Step.storeOwn (te' := []) rfl (bnd_lt hx5 rfl) ty5 (Has.s rfl) rfl (Has.s rfl) ElKeep.flat ElKeep.flat) ?_
   refine Walk.nil ?_
   refine Leaf.blockN ?_
   refine Leaf.thenN ?_
   refine CWalk.region ?_
   refine mv ?_
   refine wo (Spec.addI (Has.s rfl) Has.int) ?_
   refine wo (Spec.assign (Has.s rfl)) ?_
   refine Walk.nil ?_
   exact Leaf.next hm (st (sn (st (Sub.cons (Has.ownM (Has.s rfl) rfl) Sub.nil))))
  ·have hm := cond_f hb hm
   refine CWalk.exit ?_
   refine Leaf.thenE ?_
   exact Leaf.brk hm (fun h => nomatch h) rfl (sn (Sub.cons (Has.ownM (Has.s rfl) rfl) Sub.nil))
 ·intro _
  refine Leaf.blockE ?_
  refine Leaf.thenN ?_
  refine CWalk.seq ?_
  refine CWalk.region ?_
  refine mv ?_
  refine wo (Spec.assign (Has.s rfl)) ?_
  refine Walk.nil ?_
  refine Leaf.thenN ?_
  refine CWalk.ret ?_
  obtain rfl := Option.some.inj hm
  exact Leaf.retC1 rfl (HasR.cv (HasR.tmp (Has.s rfl)) (Cv.trans (Cv.isvOw rfl) (Cv.owF (T := [10]) (te := []) rfl)))

def slices_IndexFunc_byte_byte_L1 (a0 : List (List UInt8)) (a1 : (List UInt8) → Option Bool) (s1 : Int) : Option (Ctl (Int) ((Unit) ⊕ (Int))) :=
  (bif (decide (s1 < ((a0).length : Int))) then Option.bind (idx a0 s1) (fun x3 => Option.bind (a1 x3) (fun x4 => (bif x4 then some (Ctl.brk (Sum.inr s1)) else some (Ctl.next (wI (s1 + (1 : Int))))))) else some (Ctl.brk (Sum.inl ())))
/-- slices.IndexFunc[[][]byte,[]byte] -/
def slices_IndexFunc_byte_byte (a0 : List (List UInt8)) (a1 : (List UInt8) → Option Bool) : Option (Int) :=
  Option.bind (loopM (fun s : Int => slices_IndexFunc_byte_byte_L1 a0 a1 s) FUEL (0 : Int)) (fun b5 => Sum.elim (fun b6 => some (-1 : Int)) (fun b7 => some b7) b5)
set_option maxRecDepth 100000 in
set_option maxHeartbeats 2000000 in
theorem slices_IndexFunc_byte_byte_c (a0 : List (List UInt8)) (a1 : (List UInt8) → Option Bool) {r : Int} (hm : slices_IndexFunc_byte_byte a0 a1 = some r) : Ctr Try.prog 63 [.rep 0 a0, .fn Try.prog pre1 0 a1] (.fl r) [] := by
 refine ctr_of_walk [[]] 19 Try.func63 rfl rfl rfl rfl (fun w0 om => ?_)
 unfold slices_IndexFunc_byte_byte at hm
 refine CWalk.sub (G' := [.fact 0 (.rep [0] (a0 : List (List UInt8))), .fact 1 (.fn Try.prog pre1 [0] (a1))]) (sn (sn Sub.nil)) ?_
 refine CWalk.seq ?_
 refine CWalk.region ?_
 refine wo (Spec.assign Has.int) ?_
 refine Walk.nil ?_
 refine Leaf.thenN ?_
 refine CWalk.seq ?_
 refine CWalk.seq ?_
 refine CWalk.region ?_
 refine mv ?_
 refine wo (Spec.len (Has.s rfl) Try.underlying22) ?_
 refine wo (Spec.move Has.int) ?_
 refine Walk.nil ?_
 refine Leaf.thenN ?_
 refine CWalk.block ?_
 obtain ⟨b5, hb5, hm⟩ := bind_some hm
 refine CWalk.loop (fun s : Int => [.fact 0 (.rep [0] (a0 : List (List UInt8))), .fact 1 (.fn Try.prog pre1 [0] (a1)), .fact 7 (.rep [] (((a0).length : Int) : Int)), .fact 8 (.rep [] (s : Int))]) (fun b : (Unit) ⊕ (Int) => Sum.elim (fun b => (Exit.exit 0, [])) (fun b => (Exit.ret, [.fact 4 (.rep [] (b : Int))])) b) hb5 (su (sn (st (st Sub.nil)))) ?_ ?_
 ·rintro s1 c2 hm
  replace hm : slices_IndexFunc_byte_byte_L1 a0 a1 s1 = some c2 := hm
  unfold slices_IndexFunc_byte_byte_L1 at hm
  show CWalk _ [.fact 0 (.rep [0] (a0 : List (List UInt8))), .fact 1 (.fn Try.prog pre1 [0] (a1)), .fact 7 (.rep [] (((a0).length : Int) : Int)), .fact 8 (.rep [] (s1 : Int))] _ _
  refine CWalk.seq ?_
  refine CWalk.region ?_
  refine wo (Spec.lssI (Has.s rfl) (Has.s rfl)) ?_
  refine Walk.nil ?_
  refine Leaf.thenN ?_
  refine CWalk.seq ?_
  refine CWalk.cond rfl (fun hb => ?_) (fun hb => ?_)
  ·have hm := cond_t hb hm
   refine CWalk.skip ?_
   refine Leaf.thenN ?_
   refine CWalk.seq ?_
   refine CWalk.block ?_
   refine CWalk.seq ?_
   refine CWalk.region ?_
   refine mv ?_
   refine wo (Spec.assign (Has.s rfl)) ?_
   refine Walk.nil ?_
   refine Leaf.thenN ?_
   refine CWalk.seq ?_
   refine CWalk.region ?_
   refine mv ?_
   refine mv ?_
   refine mv ?_
   obtain ⟨x3, hx3, hm⟩ := bind_some hm
   refine wo (Spec.indexAddr hx3 sl22 (Has.s rfl) (Has.s rfl)) ?_
   refine wo (Spec.load ty28 (Has.s rfl)) ?_
   obtain ⟨x4, hx4, hm⟩ := bind_some hm
   refine wo (Spec.callFn (xs := [.tmp 15]) (x := x3) [0] 10 rfl hx4 (Has.s rfl) (HasAll.cons (Has.m (Has.s rfl) rfl) HasAll.nil)) ?_
   refine Walk.nil ?_
   refine Leaf.thenN ?_
   refine CWalk.cond rfl (fun hb => ?_) (fun hb => ?_)
   ·have hm := cond_t hb hm
    refine CWalk.seq ?_
    refine CWalk.region ?_
    refine mv ?_
    refine wo (Spec.assign (Has.s rfl)) ?_
    refine Walk.nil ?_
    refine Leaf.thenN ?_
    refine CWalk.ret ?_
    refine Leaf.blockR ?_
    refine Leaf.thenR ?_
    exact Leaf.brk hm (fun h => nomatch h) rfl (st Sub.nil)
   ·have hm := cond_f hb hm
    refine CWalk.skip ?_
    refine Leaf.blockN ?_
    refine Leaf.thenN ?_
    refine CWalk.region ?_
    refine wo (Spec.addI (Has.s rfl) Has.int) ?_
    refine mv ?_
    refine Walk.nil ?_
    exact Leaf.next hm (su (sn (st (st Sub.nil))))
  ·have hm := cond_f hb hm
   refine CWalk.exit ?_
   refine Leaf.thenE ?_
   exact Leaf.brk hm (fun h => nomatch h) rfl (Sub.nil)
 ·intro _
  rcases b5 with b6 | b7
  ·have hm := selim_l hm
   refine Leaf.blockE ?_
   refine Leaf.thenN ?_
   refine CWalk.seq ?_
   refine CWalk.region ?_
   refine wo (Spec.assign Has.int) ?_
   refine Walk.nil ?_
   refine Leaf.thenN ?_
   refine CWalk.ret ?_
   obtain rfl := Option.some.inj hm
   exact Leaf.retC1 rfl (HasR.cv (HasR.tmp (Has.s rfl)) Cv.fl)
  ·have hm := selim_r hm
   refine Leaf.blockR ?_
   refine Leaf.thenR ?_
   obtain rfl := Option.some.inj hm
   exact Leaf.retC1 rfl (HasR.cv (HasR.tmp (Has.s rfl)) Cv.fl)

/-- slices.ContainsFunc[[][]byte,[]byte] -/
def slices_ContainsFunc_byte_byte (a0 : List (List UInt8)) (a1 : (List UInt8) → Option Bool) : Option (Bool) :=
  Option.bind (slices_IndexFunc_byte_byte a0 a1) (fun x1 => some (decide (x1 ≥ (0 : Int))))
set_option maxRecDepth 100000 in
set_option maxHeartbeats 2000000 in
theorem slices_ContainsFunc_byte_byte_c (a0 : List (List UInt8)) (a1 : (List UInt8) → Option Bool) {r : Bool} (hm : slices_ContainsFunc_byte_byte a0 a1 = some r) : Ctr Try.prog 44 [.rep 0 a0, .fn Try.prog pre1 0 a1] (.fl r) [] := by
 refine ctr_of_walk [[]] 9 Try.func44 rfl rfl rfl rfl (fun w0 om => ?_)
 unfold slices_ContainsFunc_byte_byte at hm
 refine CWalk.sub (G' := [.fact 0 (.rep [0] (a0 : List (List UInt8))), .fact 1 (.fn Try.prog pre1 [0] (a1))]) (sn (sn Sub.nil)) ?_
 refine CWalk.seq ?_
 refine CWalk.region ?_
 refine wo (Spec.assign Has.bool) ?_
 refine Walk.nil ?_
 refine Leaf.thenN ?_
 refine CWalk.seq ?_
 refine CWalk.region ?_
 refine mv ?_
 refine mv ?_
 obtain ⟨x1, hx1, hm⟩ := bind_some hm
 refine wo (f := Fact.rep [] (x1 : Int)) (Spec.callE [0] 10 rfl en63 (slices_IndexFunc_byte_byte_c a0 a1 hx1) (HasAll.cons (Has.m (Has.s rfl) rfl) (HasAll.cons (Has.cv (Has.s rfl) (Cv.fnM rfl)) HasAll.nil))) ?_
 refine wo (Spec.geqI (Has.s rfl) Has.int) ?_
 refine wo (Spec.assign (Has.s rfl)) ?_
 refine Walk.nil ?_
 refine Leaf.thenN ?_
 refine CWalk.ret ?_
 obtain rfl := Option.some.inj hm
 exact Leaf.retC1 rfl (HasR.cv (HasR.tmp (Has.s rfl)) Cv.fl)

/-- freeboard/disk.odd -/
def disk_odd (a0 : List UInt8) : Option (Bool) :=
  some ((((a0).length : Int) != (0 : Int)) && (((a0).length : Int) != (128 : Int)))
set_option maxRecDepth 100000 in
set_option maxHeartbeats 2000000 in
theorem disk_odd_c (a0 : List UInt8) {r : Bool} (hm : disk_odd a0 = some r) : Ctr Try.prog 45 [.rep 0 a0] (.fl r) [] := by
 refine ctr_of_walk [[]] 11 Try.func45 rfl rfl rfl rfl (fun w0 om => ?_)
 unfold disk_odd at hm
 refine CWalk.sub (G' := [.fact 0 (.rep [0] (a0 : List UInt8))]) (sn Sub.nil) ?_
 refine CWalk.seq ?_
 refine CWalk.region ?_
 refine wo (Spec.assign Has.bool) ?_
 refine Walk.nil ?_
 refine Leaf.thenN ?_
 refine CWalk.seq ?_
 refine CWalk.region ?_
 refine mv ?_
 refine wo (Spec.len (Has.s rfl) Try.underlying28) ?_
 refine wo (Spec.neqI (Has.s rfl) Has.int) ?_
 refine mv ?_
 refine wg rfl rfl (fun hb => Spec.move (Has.s rfl)) ?_
 refine wg rfl rfl (fun hb => Spec.len (Has.u rfl hb) Try.underlying28) ?_
 refine wg rfl rfl (fun hb => Spec.neqI (Has.u rfl hb) Has.int) ?_
 refine wo (Spec.and (Has.s rfl) (fun h => Has.u rfl h)) ?_
 refine wo (Spec.assign (Has.s rfl)) ?_
 refine Walk.nil ?_
 refine Leaf.thenN ?_
 refine CWalk.ret ?_
 obtain rfl := Option.some.inj hm
 exact Leaf.retC1 rfl (HasR.cv (HasR.tmp (Has.s rfl)) Cv.fl)

def slices_IndexFunc_api_Write_api_Write_L1 (a0 : List Write) (a1 : Write → Option Bool) (s1 : Int) : Option (Ctl (Int) ((Unit) ⊕ (Int))) :=
  (bif (decide (s1 < ((a0).length : Int))) then Option.bind (idx a0 s1) (fun x3 => Option.bind (a1 x3) (fun x4 => (bif x4 then some (Ctl.brk (Sum.inr s1)) else some (Ctl.next (wI (s1 + (1 : Int))))))) else some (Ctl.brk (Sum.inl ())))
/-- slices.IndexFunc[[]freeboard/api.Write,freeboard/api.Write] -/
def slices_IndexFunc_api_Write_api_Write (a0 : List Write) (a1 : Write → Option Bool) : Option (Int) :=
  Option.bind (loopM (fun s : Int => slices_IndexFunc_api_Write_api_Write_L1 a0 a1 s) FUEL (0 : Int)) (fun b5 => Sum.elim (fun b6 => some (-1 : Int)) (fun b7 => some b7) b5)
set_option maxRecDepth 100000 in
set_option maxHeartbeats 2000000 in
theorem slices_IndexFunc_api_Write_api_Write_c (a0 : List Write) (a1 : Write → Option Bool) {r : Int} (hm : slices_IndexFunc_api_Write_api_Write a0 a1 = some r) : Ctr Try.prog 64 [.rep 0 a0, .fn Try.prog pre1 0 a1] (.fl r) [] := by
 refine ctr_of_walk [[]] 19 Try.func64 rfl rfl rfl rfl (fun w0 om => ?_)
 unfold slices_IndexFunc_api_Write_api_Write at hm
 refine CWalk.sub (G' := [.fact 0 (.rep [0] (a0 : List Write)), .fact 1 (.fn Try.prog pre1 [0] (a1))]) (sn (sn Sub.nil)) ?_
 refine CWalk.seq ?_
 refine CWalk.region ?_
 refine wo (Spec.assign Has.int) ?_
 refine Walk.nil ?_
 refine Leaf.thenN ?_
 refine CWalk.seq ?_
 refine CWalk.seq ?_
 refine CWalk.region ?_
 refine mv ?_
 refine wo (Spec.len (Has.s rfl) Try.underlying23) ?_
 refine wo (Spec.move Has.int) ?_
 refine Walk.nil ?_
 refine Leaf.thenN ?_
 refine CWalk.block ?_
 obtain ⟨b5, hb5, hm⟩ := bind_some hm
 refine CWalk.loop (fun s : Int => [.fact 0 (.rep [0] (a0 : List Write)), .fact 1 (.fn Try.prog pre1 [0] (a1)), .fact 7 (.rep [] (((a0).length : Int) : Int)), .fact 8 (.rep [] (s : Int))]) (fun b : (Unit) ⊕ (Int) => Sum.elim (fun b => (Exit.exit 0, [])) (fun b => (Exit.ret, [.fact 4 (.rep [] (b : Int))])) b) hb5 (su (sn (st (st Sub.nil)))) ?_ ?_
 ·rintro s1 c2 hm
  replace hm : slices_IndexFunc_api_Write_api_Write_L1 a0 a1 s1 = some c2 := hm
  unfold slices_IndexFunc_api_Write_api_Write_L1 at hm
  show CWalk _ [.fact 0 (.rep [0] (a0 : List Write)), .fact 1 (.fn Try.prog pre1 [0] (a1)), .fact 7 (.rep [] (((a0).length : Int) : Int)), .fact 8 (.rep [] (s1 : Int))] _ _
  refine CWalk.seq ?_
  refine CWalk.region ?_
  refine wo (Spec.lssI (Has.s rfl) (Has.s rfl)) ?_
  refine Walk.nil ?_
  refine Leaf.thenN ?_
  refine CWalk.seq ?_
  refine CWalk.cond rfl (fun hb => ?_) (fun hb => ?_)
  ·have hm := cond_t hb hm
   refine CWalk.skip ?_
   refine Leaf.thenN ?_
   refine CWalk.seq ?_
   refine CWalk.block ?_
   refine CWalk.seq ?_
   refine CWalk.region ?_
   refine mv ?_
   refine wo (Spec.assign (Has.s rfl)) ?_
   refine Walk.nil ?_
   refine Leaf.thenN ?_
   refine CWalk.seq ?_
   refine CWalk.region ?_
   refine mv ?_
   refine mv ?_
   refine mv ?_
   obtain ⟨x3, hx3, hm⟩ := bind_some hm
   refine wo (Spec.indexAddr hx3 sl23 (Has.s rfl) (Has.s rfl)) ?_
   refine wo (Spec.load ty59 (Has.s rfl)) ?_
   obtain ⟨x4, hx4, hm⟩ := bind_some hm
   refine wo (Spec.callFn (xs := [.tmp 15]) (x := x3) [0] 10 rfl hx4 (Has.s rfl) (HasAll.cons (Has.m (Has.s rfl) rfl) HasAll.nil)) ?_
   refine Walk.nil ?_
   refine Leaf.thenN ?_
   refine CWalk.cond rfl (fun hb => ?_) (fun hb => ?_)
   ·have hm := cond_t hb hm
    refine CWalk.seq ?_
    refine CWalk.region ?_
    refine mv ?_
    refine wo (Spec.assign (Has.s rfl)) ?_
    refine Walk.nil ?_
    refine Leaf.thenN ?_
    refine CWalk.ret ?_
    refine Leaf.blockR ?_
    refine Leaf.thenR ?_
    exact Leaf.brk hm (fun h => nomatch h) rfl (st Sub.nil)
   ·have hm := cond_f hb hm
    refine CWalk.skip ?_
    refine Leaf.blockN ?_
    refine Leaf.thenN ?_
    refine CWalk.region ?_
    refine wo (Spec.addI (Has.s rfl) Has.int) ?_
    refine mv ?_
    refine Walk.nil ?_
    exact Leaf.next hm (su (sn (st (st Sub.nil))))
  ·have hm := cond_f hb hm
   refine CWalk.exit ?_
   refine Leaf.thenE ?_
   exact Leaf.brk hm (fun h => nomatch h) rfl (Sub.nil)
 ·intro _
  rcases b5 with b6 | b7
  ·have hm := selim_l hm
   refine Leaf.blockE ?_
   refine Leaf.thenN ?_
   refine CWalk.seq ?_
   refine CWalk.region ?_
   refine wo (Spec.assign Has.int) ?_
   refine Walk.nil ?_
   refine Leaf.thenN ?_
   refine CWalk.ret ?_
   obtain rfl := Option.some.inj hm
   exact Leaf.retC1 rfl (HasR.cv (HasR.tmp (Has.s rfl)) Cv.fl)
  ·have hm := selim_r hm
   refine Leaf.blockR ?_
   refine Leaf.thenR ?_
   obtain rfl := Option.some.inj hm
   exact Leaf.retC1 rfl (HasR.cv (HasR.tmp (Has.s rfl)) Cv.fl)

/-- slices.ContainsFunc[[]freeboard/api.Write,freeboard/api.Write] -/
def slices_ContainsFunc_api_Write_api_Write (a0 : List Write) (a1 : Write → Option Bool) : Option (Bool) :=
  Option.bind (slices_IndexFunc_api_Write_api_Write a0 a1) (fun x1 => some (decide (x1 ≥ (0 : Int))))
set_option maxRecDepth 100000 in
set_option maxHeartbeats 2000000 in
theorem slices_ContainsFunc_api_Write_api_Write_c (a0 : List Write) (a1 : Write → Option Bool) {r : Bool} (hm : slices_ContainsFunc_api_Write_api_Write a0 a1 = some r) : Ctr Try.prog 46 [.rep 0 a0, .fn Try.prog pre1 0 a1] (.fl r) [] := by
 refine ctr_of_walk [[]] 9 Try.func46 rfl rfl rfl rfl (fun w0 om => ?_)
 unfold slices_ContainsFunc_api_Write_api_Write at hm
 refine CWalk.sub (G' := [.fact 0 (.rep [0] (a0 : List Write)), .fact 1 (.fn Try.prog pre1 [0] (a1))]) (sn (sn Sub.nil)) ?_
 refine CWalk.seq ?_
 refine CWalk.region ?_
 refine wo (Spec.assign Has.bool) ?_
 refine Walk.nil ?_
 refine Leaf.thenN ?_
 refine CWalk.seq ?_
 refine CWalk.region ?_
 refine mv ?_
 refine mv ?_
 obtain ⟨x1, hx1, hm⟩ := bind_some hm
 refine wo (f := Fact.rep [] (x1 : Int)) (Spec.callE [0] 10 rfl en64 (slices_IndexFunc_api_Write_api_Write_c a0 a1 hx1) (HasAll.cons (Has.m (Has.s rfl) rfl) (HasAll.cons (Has.cv (Has.s rfl) (Cv.fnM rfl)) HasAll.nil))) ?_
 refine wo (Spec.geqI (Has.s rfl) Has.int) ?_
 refine wo (Spec.assign (Has.s rfl)) ?_
 refine Walk.nil ?_
 refine Leaf.thenN ?_
 refine CWalk.ret ?_
 obtain rfl := Option.some.inj hm
 exact Leaf.retC1 rfl (HasR.cv (HasR.tmp (Has.s rfl)) Cv.fl)

/-- freeboard/disk.Check$1 -/
def disk_Check_1 (a0 : Write) (a1 : Int) : Option (Bool) :=
  Option.bind (gO (!((decide (a0.At < (0 : Int))) || (decide (a0.At ≥ a1)))) (disk_odd a0.Data)) (fun x1 => some (((decide (a0.At < (0 : Int))) || (decide (a0.At ≥ a1))) || x1))
set_option maxRecDepth 100000 in
set_option maxHeartbeats 2000000 in
theorem disk_Check_1_c (a0 : Write) (a1 : Int) {r : Bool} (hm : disk_Check_1 a0 a1 = some r) : Ctr Try.prog 47 [.rep 0 a0, .ptr 0 a1] (.fl r) [] := by
 refine ctr_of_walk [[]] 18 Try.func47 rfl rfl rfl rfl (fun w0 om => ?_)
 unfold disk_Check_1 at hm
 refine CWalk.sub (G' := [.fact 0 (.rep [0] (a0 : Write)), .fact 1 (.ptr [0] (a1 : Int))]) (sn (sn Sub.nil)) ?_
 refine CWalk.seq ?_
 refine CWalk.region ?_
 refine ws (Step.boxObj (ls := [(false, 1, Fact.rep [] a0.At), (false, 1, Fact.rep [0] a0.Data)]) 10 rfl rfl rfl rfl (HasL.flds (Has.cv (Has.s rfl) (Cv.trans (Cv.opens (chWrite a0)) (Cv.flds (CvL.cons Cv.fl (CvL.cons Cv.refl CvL.nil))))))) ?_
 refine wo (Spec.assign Has.bool) ?_
 refine Walk.nil ?_
 refine Leaf.thenN ?_
 refine CWalk.seq ?_
 refine CWalk.region ?_
 refine wo (Spec.fieldAddrO fd59_0 (Has.cv (Has.s rfl) (Cv.isvP rfl))) ?_
 refine wo (Spec.loadF (i := 0) ty3 rfl (Has.s rfl) rfl (HasG.s rfl)) ?_
 refine wo (Spec.lssI (Has.s rfl) Has.int) ?_
 refine mv ?_
 refine wg rfl rfl (fun hb => Spec.fieldAddrO fd59_0 (Has.cv (Has.s rfl) (Cv.isvP rfl))) ?_
 refine wg rfl rfl (fun hb => Spec.loadF (i := 0) ty3 rfl (Has.u rfl hb) rfl (HasG.s rfl)) ?_
 refine wg rfl rfl (fun hb => (Spec.load ty3 (Has.s rfl)).flat (T' := [])) ?_
 refine wg rfl rfl (fun hb => Spec.geqI (Has.u rfl hb) (Has.u rfl hb)) ?_
 refine wo (Spec.or (Has.s rfl) (fun h => Has.u rfl h)) ?_
 refine mv ?_
 refine wg rfl rfl (fun hb => Spec.fieldAddrO fd59_1 (Has.cv (Has.s rfl) (Cv.isvP rfl))) ?_
 refine wg rfl rfl (fun hb => Spec.loadF (i := 1) ty28 rfl (Has.u rfl hb) rfl (HasG.s rfl)) ?_
 obtain ⟨x1, hx1, hm⟩ := bind_some hm
 refine wg (f := Fact.rep [] (x1 : Bool)) rfl rfl (fun hb => Spec.callE [0] 13 rfl en45 (disk_odd_c a0.Data (gO_t hx1 (not_t hb))) (HasAll.cons (Has.m (Has.u rfl hb) rfl) HasAll.nil)) ?_
 refine wo (Spec.or (Has.s rfl) (fun h => Has.u rfl h)) ?_
 refine wo (Spec.assign (Has.s rfl)) ?_
 refine Walk.nil ?_
 refine Leaf.thenN ?_
 refine CWalk.ret ?_
 obtain rfl := Option.some.inj hm
 exact Leaf.retC1 rfl (HasR.cv (HasR.tmp (Has.s rfl)) Cv.fl)

/-- freeboard/disk.Check$2 -/
def disk_Check_2 (a0 : List UInt8) : Option (Bool) :=
  some (decide (((a0).length : Int) > (0 : Int)))
set_option maxRecDepth 100000 in
set_option maxHeartbeats 2000000 in
theorem disk_Check_2_c (a0 : List UInt8) {r : Bool} (hm : disk_Check_2 a0 = some r) : Ctr Try.prog 48 [.rep 0 a0] (.fl r) [] := by
 refine ctr_of_walk [[]] 6 Try.func48 rfl rfl rfl rfl (fun w0 om => ?_)
 unfold disk_Check_2 at hm
 refine CWalk.sub (G' := [.fact 0 (.rep [0] (a0 : List UInt8))]) (sn Sub.nil) ?_
 refine CWalk.seq ?_
 refine CWalk.region ?_
 refine wo (Spec.assign Has.bool) ?_
 refine Walk.nil ?_
 refine Leaf.thenN ?_
 refine CWalk.seq ?_
 refine CWalk.region ?_
 refine mv ?_
 refine wo (Spec.len (Has.s rfl) Try.underlying28) ?_
 refine wo (Spec.gtrI (Has.s rfl) Has.int) ?_
 refine wo (Spec.assign (Has.s rfl)) ?_
 refine Walk.nil ?_
 refine Leaf.thenN ?_
 refine CWalk.ret ?_
 obtain rfl := Option.some.inj hm
 exact Leaf.retC1 rfl (HasR.cv (HasR.tmp (Has.s rfl)) Cv.fl)

/-- freeboard/disk.Check -/
def disk_Check (a0 : Disk) : Option (Int) :=
  Option.bind (gO (!(((decide (((a0.Blocks).length : Int) < (1 : Int))) || (decide (((a0.Blocks).length : Int) > (256 : Int)))) || (decide (((a0.Wait).length : Int) > (1024 : Int))))) (slices_ContainsFunc_byte_byte a0.Blocks (fun y => disk_odd y))) (fun x1 => (bif ((((decide (((a0.Blocks).length : Int) < (1 : Int))) || (decide (((a0.Blocks).length : Int) > (256 : Int)))) || (decide (((a0.Wait).length : Int) > (1024 : Int)))) || x1) then some (8 : Int) else Option.bind (slices_ContainsFunc_api_Write_api_Write a0.Wait (fun y => disk_Check_1 y ((a0.Blocks).length : Int))) (fun x2 => (bif x2 then some (8 : Int) else Option.bind (gO ((a0.Dead) && (!(decide (((a0.Wait).length : Int) > (0 : Int))))) (slices_ContainsFunc_byte_byte a0.Blocks (fun y => disk_Check_2 y))) (fun x3 => (bif (a0.Dead && ((decide (((a0.Wait).length : Int) > (0 : Int))) || x3)) then some (8 : Int) else some (0 : Int)))))))
set_option maxRecDepth 100000 in
set_option maxHeartbeats 2000000 in
theorem disk_Check_c (a0 : Disk) {r : Int} (hm : disk_Check a0 = some r) : Ctr Try.prog 19 [.rep 0 a0] (.fl r) [] := by
 refine ctr_of_walk [[]] 41 Try.func19 rfl rfl rfl rfl (fun w0 om => ?_)
 unfold disk_Check at hm
 refine CWalk.sub (G' := [.fact 0 (.rep [0] (a0 : Disk))]) (sn Sub.nil) ?_
 refine CWalk.seq ?_
 refine CWalk.region ?_
 refine ws (Step.boxObj (ls := [(false, 1, Fact.rep [0] a0.Blocks), (false, 1, Fact.rep [0] a0.Wait), (false, 1, Fact.rep [] a0.Dead)]) 10 rfl rfl rfl rfl (HasL.flds (Has.cv (Has.s rfl) (Cv.trans (Cv.opens (chDisk a0)) (Cv.flds (CvL.cons Cv.refl (CvL.cons Cv.refl (CvL.cons Cv.fl CvL.nil)))))))) ?_
 refine wo (Spec.assign Has.int) ?_
 refine Walk.nil ?_
 refine Leaf.thenN ?_
 refine CWalk.seq ?_
 refine CWalk.region ?_
 refine wo (Spec.fieldAddrO fd25_0 (Has.cv (Has.s rfl) (Cv.isvP rfl))) ?_
 refine wo (Spec.loadF (i := 0) ty22 rfl (Has.s rfl) rfl (HasG.s rfl)) ?_
 refine wo (Spec.len (Has.s rfl) Try.underlying22) ?_
 refine ws (Step.allocObj (ls := [(false, 1, Fact.rep [] ((0 : Int) : Int))]) 14 rfl rfl rfl rfl zl3) ?_
 refine ws (Step.storeF (i := 0) (f := Fact.rep [] (((a0.Blocks).length : Int) : Int)) rfl ty3 rfl (Has.cv (Has.s rfl) (Cv.isvP rfl)) rfl (Has.s rfl) (Has.s rfl) rfl) ?_
 refine Walk.nil ?_
 refine Leaf.thenN ?_
 refine CWalk.seq ?_
 refine CWalk.seq ?_
 refine CWalk.region ?_
 refine wo (Spec.loadF (i := 0) ty3 rfl (Has.cv (Has.s rfl) (Cv.isvP rfl)) rfl (HasG.s rfl)) ?_
 refine wo (Spec.lssI (Has.s rfl) Has.int) ?_
 refine mv ?_
 refine wg rfl rfl (fun hb => Spec.loadF (i := 0) ty3 rfl (Has.cv (Has.s rfl) (Cv.isvP rfl)) rfl (HasG.s rfl)) ?_
 refine wg rfl rfl (fun hb => Spec.gtrI (Has.u rfl hb) Has.int) ?_
 refine wo (Spec.or (Has.s rfl) (fun h => Has.u rfl h)) ?_
 refine mv ?_
 refine wg rfl rfl (fun hb => Spec.fieldAddrO fd25_1 (Has.cv (Has.s rfl) (Cv.isvP rfl))) ?_
 refine wg rfl rfl (fun hb => Spec.loadF (i := 1) ty23 rfl (Has.u rfl hb) rfl (HasG.s rfl)) ?_
 refine wg rfl rfl (fun hb => Spec.len (Has.u rfl hb) Try.underlying23) ?_
 refine wg rfl rfl (fun hb => Spec.gtrI (Has.u rfl hb) Has.int) ?_
 refine wo (Spec.or (Has.s rfl) (fun h => Has.u rfl h)) ?_
 refine mv ?_
 refine wg rfl rfl (fun hb => Spec.fieldAddrO fd25_0 (Has.cv (Has.s rfl) (Cv.isvP rfl))) ?_
 refine wg rfl rfl (fun hb => Spec.loadF (i := 0) ty22 rfl (Has.u rfl hb) rfl (HasG.s rfl)) ?_
 obtain ⟨x1, hx1, hm⟩ := bind_some hm
 refine wg (f := Fact.rep [] (x1 : Bool)) rfl rfl (fun hb => Spec.callE [0] 16 rfl en44 (slices_ContainsFunc_byte_byte_c a0.Blocks (fun y => disk_odd y) (gO_t hx1 (not_t hb))) (HasAll.cons (Has.m (Has.u rfl hb) rfl) (HasAll.cons (Has.cv Has.func (Cv.fn (pu := []) (pc := []) (shc := []) en45 CvF.nil CvF.nil (fun y r h => disk_odd_c y h))) HasAll.nil))) ?_
 refine wo (Spec.or (Has.s rfl) (fun h => Has.u rfl h)) ?_
 refine Walk.nil ?_
 refine Leaf.thenN ?_
 refine CWalk.cond rfl (fun hb => ?_) (fun hb => ?_)
 ·have hm := cond_t hb hm
  refine CWalk.seq ?_
  refine CWalk.region ?_
  refine wo (Spec.assign Has.int) ?_
  refine Walk.nil ?_
  refine Leaf.thenN ?_
  refine CWalk.ret ?_
  refine Leaf.thenR ?_
  obtain rfl := Option.some.inj hm
  exact Leaf.retC1 rfl (HasR.cv (HasR.tmp (Has.s rfl)) Cv.fl)
 ·have hm := cond_f hb hm
  refine CWalk.skip ?_
  refine Leaf.thenN ?_
  refine CWalk.seq ?_
  refine CWalk.seq ?_
  refine CWalk.region ?_
  refine wo (Spec.fieldAddrO fd25_1 (Has.cv (Has.s rfl) (Cv.isvP rfl))) ?_
  refine wo (Spec.loadF (i := 1) ty23 rfl (Has.s rfl) rfl (HasG.s rfl)) ?_
  refine wo (Spec.makeFunc (xs := []) (ys := [.tmp 3]) rfl rfl HasF.nil (HasF.cons (Has.s rfl) HasF.nil) (fun _ _ _ => rfl)) ?_
  obtain ⟨x2, hx2, hm⟩ := bind_some hm
  refine wo (f := Fact.rep [] (x2 : Bool)) (Spec.callE [0, 14] 17 rfl en46 (slices_ContainsFunc_api_Write_api_Write_c a0.Wait (fun y => disk_Check_1 y ((a0.Blocks).length : Int)) hx2) (HasAll.cons (Has.m (Has.s rfl) rfl) (HasAll.cons (Has.cv (Has.s rfl) (Cv.fn (pu := []) (pc := [.ptr 0 ((a0.Blocks).length : Int)]) (shc := []) en47 CvF.nil (CvF.cons (Cv.trans (Cv.objPtr1 (f := Fact.rep [] (((a0.Blocks).length : Int) : Int)) rfl rfl (HasG.s rfl) (Cv.fl (T' := []))) (Cv.ptrM rfl)) CvF.nil) (fun y r h => disk_Check_1_c y ((a0.Blocks).length : Int) h))) HasAll.nil))) ?_
  refine Walk.nil ?_
  refine Leaf.thenN ?_
  refine CWalk.cond rfl (fun hb => ?_) (fun hb => ?_)
  ·have hm := cond_t hb hm
   refine CWalk.seq ?_
   refine CWalk.region ?_
   refine wo (Spec.assign Has.int) ?_
   refine Walk.nil ?_
   refine Leaf.thenN ?_
   refine CWalk.ret ?_
   refine Leaf.thenR ?_
   obtain rfl := Option.some.inj hm
   exact Leaf.retC1 rfl (HasR.cv (HasR.tmp (Has.s rfl)) Cv.fl)
  ·have hm := cond_f hb hm
   refine CWalk.skip ?_
   refine Leaf.thenN ?_
   refine CWalk.seq ?_
   refine CWalk.seq ?_
   refine CWalk.region ?_
   refine wo (Spec.fieldAddrO fd25_2 (Has.cv (Has.s rfl) (Cv.isvP rfl))) ?_
   refine wo (Spec.loadF (i := 2) ty4 rfl (Has.s rfl) rfl (HasG.s rfl)) ?_
   refine mv ?_
   refine wg rfl rfl (fun hb => Spec.fieldAddrO fd25_1 (Has.cv (Has.s rfl) (Cv.isvP rfl))) ?_
   refine wg rfl rfl (fun hb => Spec.loadF (i := 1) ty23 rfl (Has.u rfl hb) rfl (HasG.s rfl)) ?_
   refine wg rfl rfl (fun hb => Spec.len (Has.u rfl hb) Try.underlying23) ?_
   refine wg rfl rfl (fun hb => Spec.gtrI (Has.u rfl hb) Has.int) ?_
   refine wg rfl rfl (fun hb => Spec.move (Has.u rfl hb)) ?_
   refine Walk.opgu rfl rfl rfl (fun hb => Spec.fieldAddrO fd25_0 (Has.cv (Has.s rfl) (Cv.isvP rfl))) ?_
   refine Walk.opgu rfl rfl rfl (fun hb => Spec.loadF (i := 0) ty22 rfl (Has.u rfl hb) rfl (HasG.s rfl)) ?_
   obtain ⟨x3, hx3, hm⟩ := bind_some hm
   refine Walk.opgu (f := Fact.rep [] (x3 : Bool)) rfl rfl rfl (fun hb => Spec.callE [0] 18 rfl en44 (slices_ContainsFunc_byte_byte_c a0.Blocks (fun y => disk_Check_2 y) (gO_t hx3 (and_t hb.1 (not_t hb.2)))) (HasAll.cons (Has.m (Has.u rfl hb) rfl) (HasAll.cons (Has.cv Has.func (Cv.fn (pu := []) (pc := []) (shc := []) en48 CvF.nil CvF.nil (fun y r h => disk_Check_2_c y h))) HasAll.nil))) ?_
   refine wg rfl rfl (fun hb => Spec.or (Has.u rfl hb) (fun h => Has.u rfl ⟨hb, h⟩)) ?_
   refine wo (Spec.and (Has.s rfl) (fun h => Has.u rfl h)) ?_
   refine Walk.nil ?_
   refine Leaf.thenN ?_
   refine CWalk.cond rfl (fun hb => ?_) (fun hb => ?_)
   ·have hm := cond_t hb hm
    refine CWalk.seq ?_
    refine CWalk.region ?_
    refine wo (Spec.assign Has.int) ?_
    refine Walk.nil ?_
    refine Leaf.thenN ?_
    refine CWalk.ret ?_
    refine Leaf.thenR ?_
    obtain rfl := Option.some.inj hm
    exact Leaf.retC1 rfl (HasR.cv (HasR.tmp (Has.s rfl)) Cv.fl)
   ·have hm := cond_f hb hm
    refine CWalk.skip ?_
    refine Leaf.thenN ?_
    refine CWalk.seq ?_
    refine CWalk.region ?_
    refine wo (Spec.assign Has.int) ?_
    refine Walk.nil ?_
    refine Leaf.thenN ?_
    refine CWalk.ret ?_
    obtain rfl := Option.some.inj hm
    exact Leaf.retC1 rfl (HasR.cv (HasR.tmp (Has.s rfl)) Cv.fl)

/-- freeboard/disk.place -/
def disk_place (a0 : Disk) (a1 : Int) : Option (Int) :=
  Option.bind (disk_Check a0) (fun x1 => (bif (x1 != (0 : Int)) then some x1 else (bif ((decide (a1 < (0 : Int))) || (decide (a1 ≥ ((a0.Blocks).length : Int)))) then some (2 : Int) else some (0 : Int))))
set_option maxRecDepth 100000 in
set_option maxHeartbeats 2000000 in
theorem disk_place_c (a0 : Disk) (a1 : Int) {r : Int} (hm : disk_place a0 a1 = some r) : Ctr Try.prog 40 [.rep 0 a0, .rep 0 a1] (.fl r) [] := by
 refine ctr_of_walk [[]] 20 Try.func40 rfl rfl rfl rfl (fun w0 om => ?_)
 unfold disk_place at hm
 refine CWalk.sub (G' := [.fact 0 (.rep [0] (a0 : Disk)), .fact 1 (.rep [] (a1 : Int))]) (sn (Sub.cons (Has.fl (Has.s rfl)) Sub.nil)) ?_
 refine CWalk.seq ?_
 refine CWalk.region ?_
 refine ws (Step.boxObj (ls := [(false, 1, Fact.rep [0] a0.Blocks), (false, 1, Fact.rep [0] a0.Wait), (false, 1, Fact.rep [] a0.Dead)]) 10 rfl rfl rfl rfl (HasL.flds (Has.cv (Has.s rfl) (Cv.trans (Cv.opens (chDisk a0)) (Cv.flds (CvL.cons Cv.refl (CvL.cons Cv.refl (CvL.cons Cv.fl CvL.nil)))))))) ?_
 refine wo (Spec.assign Has.int) ?_
 refine Walk.nil ?_
 refine Leaf.thenN ?_
 refine CWalk.seq ?_
 refine CWalk.seq ?_
 refine CWalk.region ?_
 refine wo (Spec.loadObj (ls := [(false, 1, Fact.rep [0] a0.Blocks), (false, 1, Fact.rep [0] a0.Wait), (false, 1, Fact.rep [] a0.Dead)]) ty25 rfl rfl (Has.s rfl) rfl (HasGs.cons (HasG.s rfl) (HasGs.cons (HasG.s rfl) (HasGs.cons (HasG.s rfl) HasGs.nil)))) ?_
 obtain ⟨x1, hx1, hm⟩ := bind_some hm
 refine wo (f := Fact.rep [] (x1 : Int)) (Spec.callE [0] 14 rfl en19 (disk_Check_c a0 hx1) (HasAll.cons (Has.m (Has.cv (Has.s rfl) (Cv.trans (Cv.flds (CvL.cons (Cv.m rfl) (CvL.cons (Cv.m rfl) (CvL.cons Cv.fl CvL.nil)))) (Cv.close (T := [0]) (chDisk a0)))) rfl) HasAll.nil)) ?_
 refine wo (Spec.assign (Has.s rfl)) ?_
 refine Walk.nil ?_
 refine Leaf.thenN ?_
 refine CWalk.seq ?_
 refine CWalk.region ?_
 refine mv ?_
 refine wo (Spec.neqI (Has.s rfl) Has.int) ?_
 refine Walk.nil ?_
 refine Leaf.thenN ?_
 refine CWalk.cond rfl (fun hb => ?_) (fun hb => ?_)
 ·have hm := cond_t hb hm
  refine CWalk.seq ?_
  refine CWalk.region ?_
  refine mv ?_
  refine wo (Spec.assign (Has.s rfl)) ?_
  refine Walk.nil ?_
  refine Leaf.thenN ?_
  refine CWalk.ret ?_
  refine Leaf.thenR ?_
  obtain rfl := Option.some.inj hm
  exact Leaf.retC1 rfl (HasR.cv (HasR.tmp (Has.s rfl)) Cv.fl)
 ·have hm := cond_f hb hm
  refine CWalk.skip ?_
  refine Leaf.thenN ?_
  refine CWalk.seq ?_
  refine CWalk.seq ?_
  refine CWalk.region ?_
  refine mv ?_
  refine wo (Spec.lssI (Has.s rfl) Has.int) ?_
  refine mv ?_
  refine wg rfl rfl (fun hb => Spec.move (Has.s rfl)) ?_
  refine wg rfl rfl (fun hb => Spec.fieldAddrO fd25_0 (Has.cv (Has.s rfl) (Cv.isvP rfl))) ?_
  refine wg rfl rfl (fun hb => Spec.loadF (i := 0) ty22 rfl (Has.u rfl hb) rfl (HasG.s rfl)) ?_
  refine wg rfl rfl (fun hb => Spec.len (Has.u rfl hb) Try.underlying22) ?_
  refine wg rfl rfl (fun hb => Spec.geqI (Has.u rfl hb) (Has.u rfl hb)) ?_
  refine wo (Spec.or (Has.s rfl) (fun h => Has.u rfl h)) ?_
  refine Walk.nil ?_
  refine Leaf.thenN ?_
  refine CWalk.cond rfl (fun hb => ?_) (fun hb => ?_)
  ·have hm := cond_t hb hm
   refine CWalk.seq ?_
   refine CWalk.region ?_
   refine wo (Spec.assign Has.int) ?_
   refine Walk.nil ?_
   refine Leaf.thenN ?_
   refine CWalk.ret ?_
   refine Leaf.thenR ?_
   obtain rfl := Option.some.inj hm
   exact Leaf.retC1 rfl (HasR.cv (HasR.tmp (Has.s rfl)) Cv.fl)
  ·have hm := cond_f hb hm
   refine CWalk.skip ?_
   refine Leaf.thenN ?_
   refine CWalk.seq ?_
   refine CWalk.region ?_
   refine wo (Spec.assign Has.int) ?_
   refine Walk.nil ?_
   refine Leaf.thenN ?_
   refine CWalk.ret ?_
   obtain rfl := Option.some.inj hm
   exact Leaf.retC1 rfl (HasR.cv (HasR.tmp (Has.s rfl)) Cv.fl)

/-- freeboard/disk.write -/
def disk_write (a0 : Disk) (a1 : Int) (a2 : List UInt8) : Option (Int) :=
  Option.bind (disk_place a0 a1) (fun x1 => (bif (x1 != (0 : Int)) then some x1 else Option.bind (disk_odd a2) (fun x2 => (bif x2 then some (3 : Int) else (bif a0.Dead then some (40 : Int) else some (0 : Int))))))
set_option maxRecDepth 100000 in
set_option maxHeartbeats 2000000 in
theorem disk_write_c (a0 : Disk) (a1 : Int) (a2 : List UInt8) {r : Int} (hm : disk_write a0 a1 a2 = some r) : Ctr Try.prog 55 [.rep 0 a0, .rep 0 a1, .rep 0 a2] (.fl r) [] := by
 refine ctr_of_walk [[]] 21 Try.func55 rfl rfl rfl rfl (fun w0 om => ?_)
 unfold disk_write at hm
 refine CWalk.sub (G' := [.fact 0 (.rep [0] (a0 : Disk)), .fact 1 (.rep [] (a1 : Int)), .fact 2 (.rep [0] (a2 : List UInt8))]) (sn (Sub.cons (Has.fl (Has.s rfl)) (sn Sub.nil))) ?_
 refine CWalk.seq ?_
 refine CWalk.region ?_
 refine ws (Step.boxObj (ls := [(false, 1, Fact.rep [0] a0.Blocks), (false, 1, Fact.rep [0] a0.Wait), (false, 1, Fact.rep [] a0.Dead)]) 10 rfl rfl rfl rfl (HasL.flds (Has.cv (Has.s rfl) (Cv.trans (Cv.opens (chDisk a0)) (Cv.flds (CvL.cons Cv.refl (CvL.cons Cv.refl (CvL.cons Cv.fl CvL.nil)))))))) ?_
 refine wo (Spec.assign Has.int) ?_
 refine Walk.nil ?_
 refine Leaf.thenN ?_
 refine CWalk.seq ?_
 refine CWalk.region ?_
 refine wo (Spec.loadObj (ls := [(false, 1, Fact.rep [0] a0.Blocks), (false, 1, Fact.rep [0] a0.Wait), (false, 1, Fact.rep [] a0.Dead)]) ty25 rfl rfl (Has.s rfl) rfl (HasGs.cons (HasG.s rfl) (HasGs.cons (HasG.s rfl) (HasGs.cons (HasG.s rfl) HasGs.nil)))) ?_
 refine mv ?_
 obtain ⟨x1, hx1, hm⟩ := bind_some hm
 refine wo (f := Fact.rep [] (x1 : Int)) (Spec.callE [0] 14 rfl en40 (disk_place_c a0 a1 hx1) (HasAll.cons (Has.m (Has.cv (Has.s rfl) (Cv.trans (Cv.flds (CvL.cons (Cv.m rfl) (CvL.cons (Cv.m rfl) (CvL.cons Cv.fl CvL.nil)))) (Cv.close (T := [0]) (chDisk a0)))) rfl) (HasAll.cons (Has.fl (Has.s rfl)) HasAll.nil))) ?_
 refine wo (Spec.assign (Has.s rfl)) ?_
 refine Walk.nil ?_
 refine Leaf.thenN ?_
 refine CWalk.seq ?_
 refine CWalk.block ?_
 refine CWalk.seq ?_
 refine CWalk.region ?_
 refine mv ?_
 refine wo (Spec.neqI (Has.s rfl) Has.int) ?_
 refine wo (Spec.assign (Has.s rfl)) ?_
 refine Walk.nil ?_
 refine Leaf.thenN ?_
 refine CWalk.cond rfl (fun hb => ?_) (fun hb => ?_)
 ·have hm := cond_t hb hm
  refine CWalk.seq ?_
  refine CWalk.region ?_
  refine mv ?_
  refine wo (Spec.assign (Has.s rfl)) ?_
  refine Walk.nil ?_
  refine Leaf.thenN ?_
  refine CWalk.ret ?_
  refine Leaf.blockR ?_
  refine Leaf.thenR ?_
  obtain rfl := Option.some.inj hm
  exact Leaf.retC1 rfl (HasR.cv (HasR.tmp (Has.s rfl)) Cv.fl)
 ·have hm := cond_f hb hm
  refine CWalk.seq ?_
  refine CWalk.region ?_
  refine mv ?_
  obtain ⟨x2, hx2, hm⟩ := bind_some hm
  refine wo (f := Fact.rep [] (x2 : Bool)) (Spec.callE [0] 15 rfl en45 (disk_odd_c a2 hx2) (HasAll.cons (Has.m (Has.s rfl) rfl) HasAll.nil)) ?_
  refine wo (Spec.assign (Has.s rfl)) ?_
  refine Walk.nil ?_
  refine Leaf.thenN ?_
  refine CWalk.cond rfl (fun hb => ?_) (fun hb => ?_)
  ·have hm := cond_t hb hm
   refine CWalk.seq ?_
   refine CWalk.region ?_
   refine wo (Spec.assign Has.int) ?_
   refine Walk.nil ?_
   refine Leaf.thenN ?_
   refine CWalk.ret ?_
   refine Leaf.blockR ?_
   refine Leaf.thenR ?_
   obtain rfl := Option.some.inj hm
   exact Leaf.retC1 rfl (HasR.cv (HasR.tmp (Has.s rfl)) Cv.fl)
  ·have hm := cond_f hb hm
   refine CWalk.seq ?_
   refine CWalk.region ?_
   refine wo (Spec.fieldAddrO fd25_2 (Has.cv (Has.s rfl) (Cv.isvP rfl))) ?_
   refine wo (Spec.loadF (i := 2) ty4 rfl (Has.s rfl) rfl (HasG.s rfl)) ?_
   refine wo (Spec.assign (Has.s rfl)) ?_
   refine Walk.nil ?_
   refine Leaf.thenN ?_
   refine CWalk.cond rfl (fun hb => ?_) (fun hb => ?_)
   ·have hm := cond_t hb hm
    refine CWalk.seq ?_
    refine CWalk.region ?_
    refine wo (Spec.assign Has.int) ?_
    refine Walk.nil ?_
    refine Leaf.thenN ?_
    refine CWalk.ret ?_
    refine Leaf.blockR ?_
    refine Leaf.thenR ?_
    obtain rfl := Option.some.inj hm
    exact Leaf.retC1 rfl (HasR.cv (HasR.tmp (Has.s rfl)) Cv.fl)
   ·have hm := cond_f hb hm
    refine CWalk.skip ?_
    refine Leaf.blockN ?_
    refine Leaf.thenN ?_
    refine CWalk.seq ?_
    refine CWalk.region ?_
    refine wo (Spec.assign Has.int) ?_
    refine Walk.nil ?_
    refine Leaf.thenN ?_
    refine CWalk.ret ?_
    obtain rfl := Option.some.inj hm
    exact Leaf.retC1 rfl (HasR.cv (HasR.tmp (Has.s rfl)) Cv.fl)

/-- slices.Clone[[]byte,byte] -/
def slices_Clone_byte_byte (a0 : List UInt8) : Option ((List UInt8)) :=
  Option.bind (app ([] : List UInt8) a0) (fun x1 => some x1)
set_option maxRecDepth 100000 in
set_option maxHeartbeats 2000000 in
theorem slices_Clone_byte_byte_c (a0 : List UInt8) {r : (List UInt8)} (hm : slices_Clone_byte_byte a0 = some r) : Ctr Try.prog 42 [.rep 0 a0] (.own 0 none 5 r) [] := by
 refine ctr_of_walk [[10]] 8 Try.func42 rfl rfl rfl rfl (fun w0 om => ?_)
 unfold slices_Clone_byte_byte at hm
 refine CWalk.sub (G' := [.fact 0 (.rep [0] (a0 : List UInt8))]) (sn Sub.nil) ?_
 refine CWalk.seq ?_
 refine CWalk.region ?_
 refine wo (Spec.assign Has.nilv) ?_
 refine Walk.nil ?_
 refine Leaf.thenN ?_
 refine CWalk.seq ?_
 refine CWalk.seq ?_
 refine CWalk.region ?_
 refine mv ?_
 refine wo (Spec.eqlNil Try.underlying28 (Has.s rfl)) ?_
 refine Walk.nil ?_
 refine Leaf.thenN ?_
 refine CWalk.condNil rfl (fun hb => ?_) ?_
 ·have hm : some ([] : List UInt8) = some r := by first | simpa [app, hb] using hm | simpa [hb] using hm
  refine CWalk.seq ?_
  refine CWalk.region ?_
  refine wo (Spec.assign Has.nilv) ?_
  refine Walk.nil ?_
  refine Leaf.thenN ?_
  refine CWalk.ret ?_
  refine Leaf.thenR ?_
  obtain rfl := Option.some.inj hm
  exact Leaf.retC1 rfl (HasR.cv (HasR.tmp (Has.s rfl)) (Cv.trans Cv.nilOw (Cv.owF (T := []) (te := []) rfl)))
 ·skip
  refine CWalk.skip ?_
  refine Leaf.thenN ?_
  refine CWalk.seq ?_
  refine CWalk.region ?_
  refine ws (Step.lit0 (α := UInt8) 10 rfl rfl ow28) ?_
  refine mv ?_
  obtain ⟨x1, hx1, hm⟩ := bind_some hm
  refine ws (Step.append (te' := []) 10 hx1 rfl rfl ow28 (Has.s rfl) rfl (Has.s rfl) ElKeep.flat ElKeep.flat) ?_
  refine wo (Spec.assign (Has.s rfl)) ?_
  refine Walk.nil ?_
  refine Leaf.thenN ?_
  refine CWalk.ret ?_
  obtain rfl := Option.some.inj hm
  exact Leaf.retC1 rfl (HasR.cv (HasR.tmp (Has.s rfl)) (Cv.trans (Cv.isvOw rfl) (Cv.owF (T := [10]) (te := []) rfl)))

def disk_Twin_L1 (a0 : Disk) (s1 : Int) (s2 : List (List UInt8)) : Option (Ctl (Int × (List (List UInt8))) ((List (List UInt8)))) :=
  (bif (decide (s1 < ((a0.Blocks).length : Int))) then Option.bind (idx a0.Blocks s1) (fun x4 => Option.bind (slices_Clone_byte_byte x4) (fun x5 => Option.bind (app s2 ([x5])) (fun x6 => some (Ctl.next ((wI (s1 + (1 : Int))), x6))))) else some (Ctl.brk s2))
def disk_Twin_L2 (a0 : Disk) (s8 : Int) (s9 : List Write) : Option (Ctl (Int × (List Write)) ((List Write))) :=
  (bif (decide (s8 < ((a0.Wait).length : Int))) then Option.bind (idx a0.Wait s8) (fun x11 => Option.bind (slices_Clone_byte_byte x11.Data) (fun x12 => Option.bind (app s9 ([(Write.mk x11.At x12)])) (fun x13 => some (Ctl.next ((wI (s8 + (1 : Int))), x13))))) else some (Ctl.brk s9))
/-- freeboard/disk.Twin -/
def disk_Twin (a0 : Disk) : Option (Disk) :=
  Option.bind (loopM (fun s : Int × (List (List UInt8)) => disk_Twin_L1 a0 s.1 s.2) FUEL ((0 : Int), ([] : List (List UInt8)))) (fun b7 => Option.bind (loopM (fun s : Int × (List Write) => disk_Twin_L2 a0 s.1 s.2) FUEL ((0 : Int), ([] : List Write))) (fun b14 => some (Disk.mk b7 b14 a0.Dead)))
set_option maxRecDepth 100000 in
set_option maxHeartbeats 2000000 in
theorem disk_Twin_c (a0 : Disk) {r : Disk} (hm : disk_Twin a0 = some r) : Ctr Try.prog 17 [.rep 0 a0] (.flds [(false, 1, (.own 0 (some 1) 28 r.Blocks)), (false, 1, (.own 2 (some 3) 59 r.Wait)), (false, 1, (.fl r.Dead))]) [] := by
 refine ctr_of_walk [[24], [22, 23], [30], [28, 29]] 46 Try.func17 rfl rfl rfl rfl (fun w0 om => ?_)
 unfold disk_Twin at hm
 refine CWalk.sub (G' := [.fact 0 (.rep [0] (a0 : Disk))]) (sn Sub.nil) ?_
 refine CWalk.seq ?_
 refine CWalk.region ?_
 refine ws (Step.boxObj (ls := [(false, 1, Fact.rep [0] a0.Blocks), (false, 1, Fact.rep [0] a0.Wait), (false, 1, Fact.rep [] a0.Dead)]) 10 rfl rfl rfl rfl (HasL.flds (Has.cv (Has.s rfl) (Cv.trans (Cv.opens (chDisk a0)) (Cv.flds (CvL.cons Cv.refl (CvL.cons Cv.refl (CvL.cons Cv.fl CvL.nil)))))))) ?_
 refine ws (Step.allocObj (ls := [(false, 1, Fact.nilv), (false, 1, Fact.nilv), (false, 1, Fact.rep [] (false : Bool))]) 14 rfl rfl rfl rfl zl25) ?_
 refine Walk.nil ?_
 refine Leaf.thenN ?_
 refine CWalk.seq ?_
 refine CWalk.region ?_
 refine wo (Spec.fieldAddrO fd25_2 (Has.cv (Has.s rfl) (Cv.isvP rfl))) ?_
 refine wo (Spec.loadF (i := 2) ty4 rfl (Has.s rfl) rfl (HasG.s rfl)) ?_
 refine wo (Spec.build (us := [(2, .tmp 9)]) (ls' := [(false, 1, Fact.nilv), (false, 1, Fact.nilv), (false, 1, Fact.rep [] a0.Dead)]) bd25 rfl (BP.cons rfl rfl (Has.s rfl) (Has.s rfl) BP.nil)) ?_
 refine ws (Step.allocObj (ls := [(false, 1, Fact.nilv), (false, 1, Fact.nilv), (false, 1, Fact.rep [] (false : Bool))]) 18 rfl rfl rfl rfl zl25) ?_
 refine ws (Step.storeObj (ls := [(false, 1, Fact.nilv), (false, 1, Fact.nilv), (false, 1, Fact.rep [] a0.Dead)]) rfl ty25 rfl rfl (Has.s rfl) rfl (HasL.flds (Has.s rfl)) rfl) ?_
 refine Walk.nil ?_
 refine Leaf.thenN ?_
 refine CWalk.seq ?_
 refine CWalk.seq ?_
 refine CWalk.region ?_
 refine wo (Spec.fieldAddrO fd25_0 (Has.cv (Has.s rfl) (Cv.isvP rfl))) ?_
 refine wo (Spec.loadF (i := 0) ty22 rfl (Has.s rfl) rfl (HasG.s rfl)) ?_
 refine wo (Spec.len (Has.s rfl) Try.underlying22) ?_
 refine wo (Spec.move Has.int) ?_
 refine Walk.nil ?_
 refine Leaf.thenN ?_
 refine CWalk.block ?_
 obtain ⟨b7, hb7, hm⟩ := bind_some hm
 refine CWalk.loop (fun s : Int × (List (List UInt8)) => [.fact 1 (.isv 10), .fact 2 (.isv 14), .fact 3 (.isv 18), .fact 12 (.rep [0] a0.Blocks), .fact 13 (.rep [] (((a0.Blocks).length : Int) : Int)), .fact 14 (.rep [] s.1), .fact 100011 (.at 11 (.rep [0] a0.Blocks)), .fact 100012 (.at 12 (.rep [0] a0.Wait)), .fact 100013 (.at 13 (.rep [] a0.Dead)), .fact 100015 (.at 15 (.nilv)), .fact 100016 (.at 16 (.nilv)), .fact 100017 (.at 17 (.rep [] (false : Bool))), .fact 100019 (.at 19 (.ow [24] [22, 23] 28 (s.2 : List (List UInt8)))), .fact 100020 (.at 20 (.nilv)), .fact 100021 (.at 21 (.rep [] a0.Dead)), .fact 100010 (.obj 10 [(false, 1), (false, 1), (false, 1)]), .fact 100014 (.obj 14 [(false, 1), (false, 1), (false, 1)]), .fact 100018 (.obj 18 [(false, 1), (false, 1), (false, 1)])]) (fun b : (List (List UInt8)) => (Exit.exit 0, [.fact 1 (.isv 10), .fact 2 (.isv 14), .fact 3 (.isv 18), .fact 100011 (.at 11 (.rep [0] a0.Blocks)), .fact 100012 (.at 12 (.rep [0] a0.Wait)), .fact 100013 (.at 13 (.rep [] a0.Dead)), .fact 100015 (.at 15 (.nilv)), .fact 100016 (.at 16 (.nilv)), .fact 100017 (.at 17 (.rep [] (false : Bool))), .fact 100019 (.at 19 (.ow [24] [22, 23] 28 (b : List (List UInt8)))), .fact 100020 (.at 20 (.nilv)), .fact 100021 (.at 21 (.rep [] a0.Dead)), .fact 100010 (.obj 10 [(false, 1), (false, 1), (false, 1)]), .fact 100014 (.obj 14 [(false, 1), (false, 1), (false, 1)]), .fact 100018 (.obj 18 [(false, 1), (false, 1), (false, 1)])])) hb7 (sn (sn (sn (su (st (st (sm (sm (sf (sg (sg (sf (Sub.cons (Has.at (HasG.cv (HasG.s rfl) (Cv.trans Cv.nilOw (Cv.owM (T := []) (te := []) rfl rfl)))) (sg (sf (sn (sn (sn Sub.nil)))))))))))))))))) ?_ ?_
 ·rintro ⟨s1, s2⟩ c3 hm
  replace hm : disk_Twin_L1 a0 s1 s2 = some c3 := hm
  unfold disk_Twin_L1 at hm
  show CWalk _ [.fact 1 (.isv 10), .fact 2 (.isv 14), .fact 3 (.isv 18), .fact 12 (.rep [0] a0.Blocks), .fact 13 (.rep [] (((a0.Blocks).length : Int) : Int)), .fact 14 (.rep [] (s1 : Int)), .fact 100011 (.at 11 (.rep [0] a0.Blocks)), .fact 100012 (.at 12 (.rep [0] a0.Wait)), .fact 100013 (.at 13 (.rep [] a0.Dead)), .fact 100015 (.at 15 (.nilv)), .fact 100016 (.at 16 (.nilv)), .fact 100017 (.at 17 (.rep [] (false : Bool))), .fact 100019 (.at 19 (.ow [24] [22, 23] 28 (s2 : List (List UInt8)))), .fact 100020 (.at 20 (.nilv)), .fact 100021 (.at 21 (.rep [] a0.Dead)), .fact 100010 (.obj 10 [(false, 1), (false, 1), (false, 1)]), .fact 100014 (.obj 14 [(false, 1), (false, 1), (false, 1)]), .fact 100018 (.obj 18 [(false, 1), (false, 1), (false, 1)])] _ _
  refine CWalk.seq ?_
  refine CWalk.region ?_
  refine wo (Spec.lssI (Has.s rfl) (Has.s rfl)) ?_
  refine Walk.nil ?_
  refine Leaf.thenN ?_
  refine CWalk.seq ?_
  refine CWalk.cond rfl (fun hb => ?_) (fun hb => ?_)
  ·have hm := cond_t hb hm
   refine CWalk.skip ?_
   refine Leaf.thenN ?_
   refine CWalk.seq ?_
   refine CWalk.block ?_
   refine CWalk.seq ?_
   refine CWalk.region ?_
   obtain ⟨x4, hx4, hm⟩ := bind_some hm
   refine wo (Spec.indexAddr hx4 sl22 (Has.s rfl) (Has.s rfl)) ?_
   refine wo (Spec.load ty28 (Has.s rfl)) ?_
   refine wo (Spec.assign (Has.s rfl)) ?_
   refine Walk.nil ?_
   refine Leaf.thenN ?_
   obtain ⟨x5, hx5, hm⟩ := bind_some hm
   obtain ⟨x6, hx6, hm⟩ := bind_some hm
   refine CWalk.drawM [[], [0], [], [2], [2, 3], [0, 1, 2, 3, 4], [0, 1, 2, 3, 4, 5], [0, 1, 2, 3, 4, 5, 6]] [[.fact 18 (.pto 18 0)], [.fact 19 (.ow [24] [22, 23] 28 (s2 : List (List UInt8)))], [.fact 20 (.rep [0] (x4 : List UInt8))], [.fact 21 (.ow [22] [] 5 (x5 : List UInt8))], [.fact 22 (.rep [23, 22] ([x5] : List (List UInt8)))], [.fact 23 (.ow [24] [22, 23] 28 (x6 : List (List UInt8))), .kill 24], [.fact 24 (.pto 18 0)], [.fact 100019 (.at 19 (.ow [24] [22, 23] 28 (x6 : List (List UInt8)))), .fact 100018 (.obj 18 [(false, 1), (false, 1), (false, 1)]), .kill 18, .killId 19]] mixed (by kernel_rfl) (ao (so (Spec.fieldAddrO fd25_0 (Has.cv (Has.s rfl) (Cv.isvP rfl)))) (ao (so (Spec.loadF (i := 0) ty22 rfl (Has.s rfl) rfl (HasG.s rfl))) (ao (so (Spec.move (Has.s rfl))) (ao (so (Spec.callE [0] 22 rfl en42 (slices_Clone_byte_byte_c x4 hx5) (HasAll.cons (Has.m (Has.s rfl) rfl) HasAll.nil))) (ao (so (Spec.lit (xs := [.tmp 21]) (T := [22]) 23 rfl ow22 rfl rfl rfl rfl (HasEach.cons (Has.m (Has.cv (Has.s rfl) (Cv.trans Cv.owSl (Cv.slRep (T' := [22]) rfl rfl))) rfl) HasEach.nil))) (ao (StepG.stE (Step.appendOw (T := [24]) (te' := [22, 23]) hx6 rfl rfl rfl ow22 (Has.s rfl) (Has.s rfl) (ElKeeps.tags rfl rfl) (ElKeeps.tags rfl rfl))) (ao (so (Spec.fieldAddrO fd25_0 (Has.cv (Has.s rfl) (Cv.isvP rfl)))) (ao (StepG.stE (Step.storeF (i := 0) (f := Fact.ow [24] [22, 23] 28 (x6 : List (List UInt8))) rfl ty22 rfl (Has.s rfl) rfl (Has.cv (Has.s rfl) (Cv.trans Cv.owSl (Cv.slRep (T' := [22, 23, 24]) rfl rfl))) (Has.s rfl) rfl)) AllM.nil)))))))) ?_
   refine Leaf.blockN ?_
   refine Leaf.thenN ?_
   refine CWalk.region ?_
   refine wo (Spec.addI (Has.s rfl) Has.int) ?_
   refine mv ?_
   refine Walk.nil ?_
   exact Leaf.next hm (sn (sn (sn (su (st (st (sm (sm (sf (sg (sg (sf (Sub.cons (Has.at (HasG.cv (HasG.s rfl) (Cv.owM (T := [24]) (te := [22, 23]) rfl rfl))) (sg (sf (sn (sn (sn Sub.nil))))))))))))))))))
  ·have hm := cond_f hb hm
   refine CWalk.exit ?_
   refine Leaf.thenE ?_
   exact Leaf.brk hm (fun h => nomatch h) rfl (sn (sn (sn (sm (sm (sf (sg (sg (sf (Sub.cons (Has.at (HasG.cv (HasG.s rfl) (Cv.owM (T := [24]) (te := [22, 23]) rfl rfl))) (sg (sf (sn (sn (sn Sub.nil)))))))))))))))
 ·intro _
  refine Leaf.blockE ?_
  refine Leaf.thenN ?_
  refine CWalk.seq ?_
  refine CWalk.seq ?_
  refine CWalk.region ?_
  refine wo (Spec.fieldAddrO fd25_1 (Has.cv (Has.s rfl) (Cv.isvP rfl))) ?_
  refine wo (Spec.loadF (i := 1) ty23 rfl (Has.s rfl) rfl (HasG.s rfl)) ?_
  refine wo (Spec.len (Has.s rfl) Try.underlying23) ?_
  refine wo (Spec.move Has.int) ?_
  refine Walk.nil ?_
  refine Leaf.thenN ?_
  refine CWalk.block ?_
  obtain ⟨b14, hb14, hm⟩ := bind_some hm
  refine CWalk.loop (fun s : Int × (List Write) => [.fact 2 (.isv 14), .fact 3 (.isv 18), .fact 27 (.rep [0] a0.Wait), .fact 28 (.rep [] (((a0.Wait).length : Int) : Int)), .fact 29 (.rep [] s.1), .fact 100015 (.at 15 (.nilv)), .fact 100016 (.at 16 (.nilv)), .fact 100017 (.at 17 (.rep [] (false : Bool))), .fact 100019 (.at 19 (.ow [24] [22, 23] 28 (b7 : List (List UInt8)))), .fact 100020 (.at 20 (.ow [30] [28, 29] 59 (s.2 : List Write))), .fact 100021 (.at 21 (.rep [] a0.Dead)), .fact 100014 (.obj 14 [(false, 1), (false, 1), (false, 1)]), .fact 100018 (.obj 18 [(false, 1), (false, 1), (false, 1)])]) (fun b : (List Write) => (Exit.exit 2, [.fact 2 (.isv 14), .fact 3 (.isv 18), .fact 100015 (.at 15 (.nilv)), .fact 100016 (.at 16 (.nilv)), .fact 100017 (.at 17 (.rep [] (false : Bool))), .fact 100019 (.at 19 (.ow [24] [22, 23] 28 (b7 : List (List UInt8)))), .fact 100020 (.at 20 (.ow [30] [28, 29] 59 (b : List Write))), .fact 100021 (.at 21 (.rep [] a0.Dead)), .fact 100014 (.obj 14 [(false, 1), (false, 1), (false, 1)]), .fact 100018 (.obj 18 [(false, 1), (false, 1), (false, 1)])])) hb14 (sn (sn (su (st (st (sg (sg (sf (Sub.cons (Has.at (HasG.cv (HasG.s rfl) (Cv.owM (T := [24]) (te := [22, 23]) rfl rfl))) (Sub.cons (Has.at (HasG.cv (HasG.s rfl) (Cv.trans Cv.nilOw (Cv.owM (T := []) (te := []) rfl rfl)))) (sf (sn (sn Sub.nil))))))))))))) ?_ ?_
  ·rintro ⟨s8, s9⟩ c10 hm
   replace hm : disk_Twin_L2 a0 s8 s9 = some c10 := hm
   unfold disk_Twin_L2 at hm
   show CWalk _ [.fact 2 (.isv 14), .fact 3 (.isv 18), .fact 27 (.rep [0] a0.Wait), .fact 28 (.rep [] (((a0.Wait).length : Int) : Int)), .fact 29 (.rep [] (s8 : Int)), .fact 100015 (.at 15 (.nilv)), .fact 100016 (.at 16 (.nilv)), .fact 100017 (.at 17 (.rep [] (false : Bool))), .fact 100019 (.at 19 (.ow [24] [22, 23] 28 (b7 : List (List UInt8)))), .fact 100020 (.at 20 (.ow [30] [28, 29] 59 (s9 : List Write))), .fact 100021 (.at 21 (.rep [] a0.Dead)), .fact 100014 (.obj 14 [(false, 1), (false, 1), (false, 1)]), .fact 100018 (.obj 18 [(false, 1), (false, 1), (false, 1)])] _ _
   refine CWalk.seq ?_
   refine CWalk.region ?_
   refine wo (Spec.lssI (Has.s rfl) (Has.s rfl)) ?_
   refine Walk.nil ?_
   refine Leaf.thenN ?_
   refine CWalk.seq ?_
   refine CWalk.cond rfl (fun hb => ?_) (fun hb => ?_)
   ·have hm := cond_t hb hm
    refine CWalk.skip ?_
    refine Leaf.thenN ?_
    refine CWalk.seq ?_
    refine CWalk.block ?_
    refine CWalk.seq ?_
    refine CWalk.region ?_
    obtain ⟨x11, hx11, hm⟩ := bind_some hm
    refine wo (Spec.indexAddr hx11 sl23 (Has.s rfl) (Has.s rfl)) ?_
    refine wo (Spec.load ty59 (Has.s rfl)) ?_
    refine ws (Step.allocObj (ls := [(false, 1, Fact.rep [] ((0 : Int) : Int)), (false, 1, Fact.nilv)]) 25 rfl rfl rfl rfl zl59) ?_
    refine ws (Step.storeObj (ls := [(false, 1, Fact.rep [] x11.At), (false, 1, Fact.rep [0] x11.Data)]) rfl ty59 rfl rfl (Has.s rfl) rfl (HasL.flds (Has.cv (Has.s rfl) (Cv.trans (Cv.opens (chWrite x11)) (Cv.flds (CvL.cons Cv.fl (CvL.cons Cv.refl CvL.nil)))))) rfl) ?_
    refine Walk.nil ?_
    refine Leaf.thenN ?_
    obtain ⟨x12, hx12, hm⟩ := bind_some hm
    obtain ⟨x13, hx13, hm⟩ := bind_some hm
    refine CWalk.drawM [[], [0], [], [2], [], [4], [4, 5], [2, 3, 4, 5, 6], [2, 3, 4, 5, 6, 7], [0, 1, 2, 3, 4, 5, 6, 7, 8], [0, 1, 2, 3, 4, 5, 6, 7, 8, 9], [0, 1, 2, 3, 4, 5, 6, 7, 8, 9, 10]] [[.fact 33 (.pto 18 1)], [.fact 34 (.ow [30] [28, 29] 59 (s9 : List Write))], [.fact 35 (.pto 25 0)], [.fact 36 (.rep [] x11.At)], [.fact 37 (.pto 25 1)], [.fact 38 (.rep [0] x11.Data)], [.fact 39 (.ow [28] [] 5 (x12 : List UInt8))], [.fact 40 (.flds [(false, 1, Fact.rep [] x11.At), (false, 1, Fact.ow [28] [] 5 (x12 : List UInt8))])], [.fact 41 (.rep [29, 28] ([(Write.mk x11.At x12)] : List Write))], [.fact 42 (.ow [30] [28, 29] 59 (x13 : List Write)), .kill 30], [.fact 43 (.pto 18 1)], [.fact 100020 (.at 20 (.ow [30] [28, 29] 59 (x13 : List Write))), .fact 100018 (.obj 18 [(false, 1), (false, 1), (false, 1)]), .kill 18, .killId 20]] mixed (by kernel_rfl) (ao (so (Spec.fieldAddrO fd25_1 (Has.cv (Has.s rfl) (Cv.isvP rfl)))) (ao (so (Spec.loadF (i := 1) ty23 rfl (Has.s rfl) rfl (HasG.s rfl))) (ao (so (Spec.fieldAddrO fd59_0 (Has.cv (Has.s rfl) (Cv.isvP rfl)))) (ao (so (Spec.loadF (i := 0) ty3 rfl (Has.s rfl) rfl (HasG.s rfl))) (ao (so (Spec.fieldAddrO fd59_1 (Has.cv (Has.s rfl) (Cv.isvP rfl)))) (ao (so (Spec.loadF (i := 1) ty28 rfl (Has.s rfl) rfl (HasG.s rfl))) (ao (so (Spec.callE [0] 28 rfl en42 (slices_Clone_byte_byte_c x11.Data hx12) (HasAll.cons (Has.m (Has.s rfl) rfl) HasAll.nil))) (ao (so (Spec.build (us := [(0, .tmp 36), (1, .tmp 39)]) (ls' := [(false, 1, Fact.rep [] x11.At), (false, 1, Fact.ow [28] [] 5 (x12 : List UInt8))]) bd59 rfl (BP.cons rfl rfl (Has.s rfl) (Has.s rfl) (BP.cons rfl rfl (Has.cv (Has.s rfl) (Cv.trans Cv.owSl (Cv.slRep (T' := [28]) rfl rfl))) (Has.s rfl) BP.nil)))) (ao (so (Spec.lit (xs := [.tmp 40]) (T := [28]) 29 rfl ow23 rfl rfl rfl rfl (HasEach.cons (Has.m (Has.cv (Has.s rfl) (Cv.trans (Cv.flds (CvL.cons Cv.fl (CvL.cons (Cv.trans (Cv.trans Cv.owSl (Cv.slRep (T' := [28]) rfl rfl)) (Cv.m rfl)) CvL.nil))) (Cv.close (T := [28]) (chWrite (Write.mk x11.At x12))))) rfl) HasEach.nil))) (ao (StepG.stE (Step.appendOw (T := [30]) (te' := [28, 29]) hx13 rfl rfl rfl ow23 (Has.s rfl) (Has.s rfl) (ElKeeps.tags rfl rfl) (ElKeeps.tags rfl rfl))) (ao (so (Spec.fieldAddrO fd25_1 (Has.cv (Has.s rfl) (Cv.isvP rfl)))) (ao (StepG.stE (Step.storeF (i := 1) (f := Fact.ow [30] [28, 29] 59 (x13 : List Write)) rfl ty23 rfl (Has.s rfl) rfl (Has.cv (Has.s rfl) (Cv.trans Cv.owSl (Cv.slRep (T' := [28, 29, 30]) rfl rfl))) (Has.s rfl) rfl)) AllM.nil)))))))))))) ?_
    refine Leaf.blockN ?_
    refine Leaf.thenN ?_
    refine CWalk.region ?_
    refine wo (Spec.addI (Has.s rfl) Has.int) ?_
    refine mv ?_
    refine Walk.nil ?_
    exact Leaf.next hm (sn (sn (su (st (st (sg (sg (sf (Sub.cons (Has.at (HasG.cv (HasG.s rfl) (Cv.owM (T := [24]) (te := [22, 23]) rfl rfl))) (Sub.cons (Has.at (HasG.cv (HasG.s rfl) (Cv.owM (T := [30]) (te := [28, 29]) rfl rfl))) (sf (sn (sn Sub.nil)))))))))))))
   ·have hm := cond_f hb hm
    refine CWalk.exit ?_
    refine Leaf.thenE ?_
    exact Leaf.brk hm (fun h => nomatch h) rfl (sn (sn (sg (sg (sf (Sub.cons (Has.at (HasG.cv (HasG.s rfl) (Cv.owM (T := [24]) (te := [22, 23]) rfl rfl))) (Sub.cons (Has.at (HasG.cv (HasG.s rfl) (Cv.owM (T := [30]) (te := [28, 29]) rfl rfl))) (sf (sn (sn Sub.nil))))))))))
  ·intro _
   refine Leaf.blockE ?_
   refine Leaf.thenN ?_
   refine CWalk.seq ?_
   refine CWalk.region ?_
   refine wo (Spec.loadObj (ls := [(false, 1, Fact.ow [24] [22, 23] 28 (b7 : List (List UInt8))), (false, 1, Fact.ow [30] [28, 29] 59 (b14 : List Write)), (false, 1, Fact.rep [] a0.Dead)]) ty25 rfl rfl (Has.s rfl) rfl (HasGs.cons (HasG.s rfl) (HasGs.cons (HasG.s rfl) (HasGs.cons (HasG.s rfl) HasGs.nil)))) ?_
   refine ws (Step.storeObj (ls := [(false, 1, Fact.ow [24] [22, 23] 28 (b7 : List (List UInt8))), (false, 1, Fact.ow [30] [28, 29] 59 (b14 : List Write)), (false, 1, Fact.rep [] a0.Dead)]) rfl ty25 rfl rfl (Has.s rfl) rfl (HasL.flds (Has.s rfl)) rfl) ?_
   refine Walk.nil ?_
   refine Leaf.thenN ?_
   refine CWalk.ret ?_
   obtain rfl := Option.some.inj hm
   exact Leaf.retC1 rfl (HasR.cv (HasR.obj (ls := [(false, 1, Fact.ow [24] [22, 23] 28 (b7 : List (List UInt8))), (false, 1, Fact.ow [30] [28, 29] 59 (b14 : List Write)), (false, 1, Fact.rep [] a0.Dead)]) ty25 rfl rfl (Has.s rfl) rfl (HasGs.cons (HasG.s rfl) (HasGs.cons (HasG.s rfl) (HasGs.cons (HasG.s rfl) HasGs.nil)))) (Cv.flds (CvL.cons (Cv.owM (T := [24]) (te := [22, 23]) rfl rfl) (CvL.cons (Cv.owM (T := [30]) (te := [28, 29]) rfl rfl) (CvL.cons Cv.fl CvL.nil)))))

/-- freeboard/disk.block -/
def disk_block (a0 : List UInt8) : Option ((List UInt8)) :=
  (bif (((a0).length : Int) == (0 : Int)) then Option.bind (makeL (0 : UInt8) (128 : Int)) (fun x1 => some x1) else Option.bind (slices_Clone_byte_byte a0) (fun x2 => some x2))
set_option maxRecDepth 100000 in
set_option maxHeartbeats 2000000 in
theorem disk_block_c (a0 : List UInt8) {r : (List UInt8)} (hm : disk_block a0 = some r) : Ctr Try.prog 37 [.rep 0 a0] (.own 0 none 5 r) [] := by
 refine ctr_of_walk [[10, 11]] 9 Try.func37 rfl rfl rfl rfl (fun w0 om => ?_)
 unfold disk_block at hm
 refine CWalk.sub (G' := [.fact 0 (.rep [0] (a0 : List UInt8))]) (sn Sub.nil) ?_
 refine CWalk.seq ?_
 refine CWalk.region ?_
 refine wo (Spec.assign Has.nilv) ?_
 refine Walk.nil ?_
 refine Leaf.thenN ?_
 refine CWalk.seq ?_
 refine CWalk.seq ?_
 refine CWalk.region ?_
 refine mv ?_
 refine wo (Spec.len (Has.s rfl) Try.underlying28) ?_
 refine wo (Spec.eqlI (Has.s rfl) Has.int) ?_
 refine Walk.nil ?_
 refine Leaf.thenN ?_
 refine CWalk.cond rfl (fun hb => ?_) (fun hb => ?_)
 ·have hm := cond_t hb hm
  refine CWalk.seq ?_
  refine CWalk.region ?_
  obtain ⟨x1, hx1, hm⟩ := bind_some hm
  refine ws (Step.makeOwn 10 hx1 rfl rfl ow28 zt5 Has.int) ?_
  refine wo (Spec.assign (Has.s rfl)) ?_
  refine Walk.nil ?_
  refine Leaf.thenN ?_
  refine CWalk.ret ?_
  refine Leaf.thenR ?_
  obtain rfl := Option.some.inj hm
  exact Leaf.retC1 rfl (HasR.cv (HasR.tmp (Has.s rfl)) (Cv.trans (Cv.isvOw rfl) (Cv.owF (T := [10]) (te := []) rfl)))
 ·have hm := cond_f hb hm
  refine CWalk.skip ?_
  refine Leaf.thenN ?_
  refine CWalk.seq ?_
  refine CWalk.region ?_
  refine mv ?_
  obtain ⟨x2, hx2, hm⟩ := bind_some hm
  refine wo (f := Fact.ow [11] [] 5 (x2 : List UInt8)) (Spec.callE [0] 11 rfl en42 (slices_Clone_byte_byte_c a0 hx2) (HasAll.cons (Has.m (Has.s rfl) rfl) HasAll.nil)) ?_
  refine wo (Spec.assign (Has.s rfl)) ?_
  refine Walk.nil ?_
  refine Leaf.thenN ?_
  refine CWalk.ret ?_
  obtain rfl := Option.some.inj hm
  exact Leaf.retC1 rfl (HasR.cv (HasR.tmp (Has.s rfl)) (Cv.owF (T := [11]) (te := []) rfl))

/-- freeboard/disk.Write -/
def disk_Write (a0 : Disk) (a1 : Int) (a2 : List UInt8) : Option (Disk × Int) :=
  Option.bind (disk_write a0 a1 a2) (fun x1 => (bif (x1 != (0 : Int)) then some ((Disk.mk ([] : List (List UInt8)) ([] : List Write) false), x1) else (bif (((a0.Wait).length : Int) == (1024 : Int)) then some ((Disk.mk ([] : List (List UInt8)) ([] : List Write) false), (9 : Int)) else Option.bind (disk_Twin a0) (fun x2 => Option.bind (disk_block a2) (fun x3 => Option.bind (app x2.Wait ([(Write.mk a1 x3)])) (fun x4 => some ((Disk.mk x2.Blocks x4 x2.Dead), (0 : Int))))))))
set_option maxRecDepth 100000 in
set_option maxHeartbeats 2000000 in
theorem disk_Write_c (a0 : Disk) (a1 : Int) (a2 : List UInt8) {r : Disk × Int} (hm : disk_Write a0 a1 a2 = some r) : Ctr Try.prog 23 [.rep 0 a0, .rep 0 a1, .rep 0 a2] (.tup2 (.flds [(false, 1, (.own 0 (some 1) 28 r.1.Blocks)), (false, 1, (.own 2 (some 3) 59 r.1.Wait)), (false, 1, (.fl r.1.Dead))]) (.fl r.2)) [] := by
 refine ctr_of_walk [[19], [20], [21], [22, 23, 24]] 34 Try.func23 rfl rfl rfl rfl (fun w0 om => ?_)
 unfold disk_Write at hm
 refine CWalk.sub (G' := [.fact 0 (.rep [0] (a0 : Disk)), .fact 1 (.rep [] (a1 : Int)), .fact 2 (.rep [0] (a2 : List UInt8))]) (sn (Sub.cons (Has.fl (Has.s rfl)) (sn Sub.nil))) ?_
 refine CWalk.seq ?_
 refine CWalk.region ?_
 refine ws (Step.boxObj (ls := [(false, 1, Fact.rep [0] a0.Blocks), (false, 1, Fact.rep [0] a0.Wait), (false, 1, Fact.rep [] a0.Dead)]) 10 rfl rfl rfl rfl (HasL.flds (Has.cv (Has.s rfl) (Cv.trans (Cv.opens (chDisk a0)) (Cv.flds (CvL.cons Cv.refl (CvL.cons Cv.refl (CvL.cons Cv.fl CvL.nil)))))))) ?_
 refine ws (Step.allocObj (ls := [(false, 1, Fact.nilv), (false, 1, Fact.nilv), (false, 1, Fact.rep [] (false : Bool))]) 14 rfl rfl rfl rfl zl25) ?_
 refine wo (Spec.assign Has.int) ?_
 refine Walk.nil ?_
 refine Leaf.thenN ?_
 refine CWalk.seq ?_
 refine CWalk.seq ?_
 refine CWalk.region ?_
 refine wo (Spec.loadObj (ls := [(false, 1, Fact.rep [0] a0.Blocks), (false, 1, Fact.rep [0] a0.Wait), (false, 1, Fact.rep [] a0.Dead)]) ty25 rfl rfl (Has.s rfl) rfl (HasGs.cons (HasG.s rfl) (HasGs.cons (HasG.s rfl) (HasGs.cons (HasG.s rfl) HasGs.nil)))) ?_
 refine mv ?_
 refine mv ?_
 obtain ⟨x1, hx1, hm⟩ := bind_some hm
 refine wo (f := Fact.rep [] (x1 : Int)) (Spec.callE [0] 18 rfl en55 (disk_write_c a0 a1 a2 hx1) (HasAll.cons (Has.m (Has.cv (Has.s rfl) (Cv.trans (Cv.flds (CvL.cons (Cv.m rfl) (CvL.cons (Cv.m rfl) (CvL.cons Cv.fl CvL.nil)))) (Cv.close (T := [0]) (chDisk a0)))) rfl) (HasAll.cons (Has.fl (Has.s rfl)) (HasAll.cons (Has.m (Has.s rfl) rfl) HasAll.nil)))) ?_
 refine wo (Spec.assign (Has.s rfl)) ?_
 refine Walk.nil ?_
 refine Leaf.thenN ?_
 refine CWalk.seq ?_
 refine CWalk.region ?_
 refine mv ?_
 refine wo (Spec.neqI (Has.s rfl) Has.int) ?_
 refine Walk.nil ?_
 refine Leaf.thenN ?_
 refine CWalk.cond rfl (fun hb => ?_) (fun hb => ?_)
 ·have hm := cond_t hb hm
  refine CWalk.seq ?_
  refine CWalk.region ?_
  refine wo (Spec.build (us := []) (ls' := [(false, 1, Fact.nilv), (false, 1, Fact.nilv), (false, 1, Fact.rep [] (false : Bool))]) bd25 rfl BP.nil) ?_
  refine mv ?_
  refine ws (Step.storeObj (ls := [(false, 1, Fact.nilv), (false, 1, Fact.nilv), (false, 1, Fact.rep [] (false : Bool))]) rfl ty25 rfl rfl (Has.s rfl) rfl (HasL.flds (Has.s rfl)) rfl) ?_
  refine wo (Spec.assign (Has.s rfl)) ?_
  refine Walk.nil ?_
  refine Leaf.thenN ?_
  refine CWalk.ret ?_
  refine Leaf.thenR ?_
  obtain rfl := Option.some.inj hm
  exact Leaf.retC2 rfl (HasR.cv (HasR.obj (ls := [(false, 1, Fact.nilv), (false, 1, Fact.nilv), (false, 1, Fact.rep [] (false : Bool))]) ty25 rfl rfl (Has.s rfl) rfl (HasGs.cons (HasG.s rfl) (HasGs.cons (HasG.s rfl) (HasGs.cons (HasG.s rfl) HasGs.nil)))) (Cv.flds (CvL.cons (Cv.trans Cv.nilOw (Cv.owM (T := []) (te := []) rfl rfl)) (CvL.cons (Cv.trans Cv.nilOw (Cv.owM (T := []) (te := []) rfl rfl)) (CvL.cons Cv.fl CvL.nil))))) (HasR.cv (HasR.tmp (Has.s rfl)) Cv.fl)
 ·have hm := cond_f hb hm
  refine CWalk.skip ?_
  refine Leaf.thenN ?_
  refine CWalk.seq ?_
  refine CWalk.seq ?_
  refine CWalk.region ?_
  refine wo (Spec.fieldAddrO fd25_1 (Has.cv (Has.s rfl) (Cv.isvP rfl))) ?_
  refine wo (Spec.loadF (i := 1) ty23 rfl (Has.s rfl) rfl (HasG.s rfl)) ?_
  refine wo (Spec.len (Has.s rfl) Try.underlying23) ?_
  refine wo (Spec.eqlI (Has.s rfl) Has.int) ?_
  refine Walk.nil ?_
  refine Leaf.thenN ?_
  refine CWalk.cond rfl (fun hb => ?_) (fun hb => ?_)
  ·have hm := cond_t hb hm
   refine CWalk.seq ?_
   refine CWalk.region ?_
   refine wo (Spec.build (us := []) (ls' := [(false, 1, Fact.nilv), (false, 1, Fact.nilv), (false, 1, Fact.rep [] (false : Bool))]) bd25 rfl BP.nil) ?_
   refine ws (Step.storeObj (ls := [(false, 1, Fact.nilv), (false, 1, Fact.nilv), (false, 1, Fact.rep [] (false : Bool))]) rfl ty25 rfl rfl (Has.s rfl) rfl (HasL.flds (Has.s rfl)) rfl) ?_
   refine wo (Spec.assign Has.int) ?_
   refine Walk.nil ?_
   refine Leaf.thenN ?_
   refine CWalk.ret ?_
   refine Leaf.thenR ?_
   obtain rfl := Option.some.inj hm
   exact Leaf.retC2 rfl (HasR.cv (HasR.obj (ls := [(false, 1, Fact.nilv), (false, 1, Fact.nilv), (false, 1, Fact.rep [] (false : Bool))]) ty25 rfl rfl (Has.s rfl) rfl (HasGs.cons (HasG.s rfl) (HasGs.cons (HasG.s rfl) (HasGs.cons (HasG.s rfl) HasGs.nil)))) (Cv.flds (CvL.cons (Cv.trans Cv.nilOw (Cv.owM (T := []) (te := []) rfl rfl)) (CvL.cons (Cv.trans Cv.nilOw (Cv.owM (T := []) (te := []) rfl rfl)) (CvL.cons Cv.fl CvL.nil))))) (HasR.cv (HasR.tmp (Has.s rfl)) Cv.fl)
  ·have hm := cond_f hb hm
   refine CWalk.skip ?_
   refine Leaf.thenN ?_
   refine CWalk.seq ?_
   refine CWalk.region ?_
   refine wo (Spec.loadObj (ls := [(false, 1, Fact.rep [0] a0.Blocks), (false, 1, Fact.rep [0] a0.Wait), (false, 1, Fact.rep [] a0.Dead)]) ty25 rfl rfl (Has.s rfl) rfl (HasGs.cons (HasG.s rfl) (HasGs.cons (HasG.s rfl) (HasGs.cons (HasG.s rfl) HasGs.nil)))) ?_
   obtain ⟨x2, hx2, hm⟩ := bind_some hm
   refine wo (f := Fact.flds [(false, 1, Fact.ow [19] [20] 28 (x2.Blocks : List (List UInt8))), (false, 1, Fact.ow [21] [22] 59 (x2.Wait : List Write)), (false, 1, Fact.rep [] x2.Dead)]) (Spec.callE [0] 19 rfl en17 (disk_Twin_c a0 hx2) (HasAll.cons (Has.m (Has.cv (Has.s rfl) (Cv.trans (Cv.flds (CvL.cons (Cv.m rfl) (CvL.cons (Cv.m rfl) (CvL.cons Cv.fl CvL.nil)))) (Cv.close (T := [0]) (chDisk a0)))) rfl) HasAll.nil)) ?_
   refine ws (Step.storeObj (ls := [(false, 1, Fact.ow [19] [20] 28 (x2.Blocks : List (List UInt8))), (false, 1, Fact.ow [21] [22] 59 (x2.Wait : List Write)), (false, 1, Fact.rep [] x2.Dead)]) rfl ty25 rfl rfl (Has.s rfl) rfl (HasL.flds (Has.s rfl)) rfl) ?_
   refine Walk.nil ?_
   refine Leaf.thenN ?_
   refine CWalk.seq ?_
   obtain ⟨x3, hx3, hm⟩ := bind_some hm
   obtain ⟨x4, hx4, hm⟩ := bind_some hm
   refine CWalk.drawM [[], [0], [], [], [3], [2, 3, 4], [2, 3, 4, 5], [0, 1, 2, 3, 4, 5, 6], [0, 1, 2, 3, 4, 5, 6, 7], [0, 1, 2, 3, 4, 5, 6, 7, 8]] [[.fact 24 (.pto 10 1)], [.fact 25 (.ow [21] [22] 59 (x2.Wait : List Write))], [.fact 26 (.rep [] (a1 : Int))], [.fact 27 (.rep [0] (a2 : List UInt8))], [.fact 28 (.ow [23] [] 5 (x3 : List UInt8))], [.fact 29 (.flds [(false, 1, Fact.rep [] (a1 : Int)), (false, 1, Fact.ow [23] [] 5 (x3 : List UInt8))])], [.fact 30 (.rep [24, 23] ([(Write.mk a1 x3)] : List Write))], [.fact 31 (.ow [21] [22, 23, 24] 59 (x4 : List Write)), .kill 21], [.fact 32 (.pto 10 1)], [.fact 100012 (.at 12 (.ow [21] [22, 23, 24] 59 (x4 : List Write))), .fact 100010 (.obj 10 [(false, 1), (false, 1), (false, 1)]), .kill 10, .killId 12]] mixed (by kernel_rfl) (ao (so (Spec.fieldAddrO fd25_1 (Has.cv (Has.s rfl) (Cv.isvP rfl)))) (ao (so (Spec.loadF (i := 1) ty23 rfl (Has.s rfl) rfl (HasG.s rfl))) (ao (so (Spec.move (Has.s rfl))) (ao (so (Spec.move (Has.s rfl))) (ao (so (Spec.callE [0] 23 rfl en37 (disk_block_c a2 hx3) (HasAll.cons (Has.m (Has.s rfl) rfl) HasAll.nil))) (ao (so (Spec.build (us := [(0, .tmp 26), (1, .tmp 28)]) (ls' := [(false, 1, Fact.rep [] (a1 : Int)), (false, 1, Fact.ow [23] [] 5 (x3 : List UInt8))]) bd59 rfl (BP.cons rfl rfl (Has.s rfl) (Has.s rfl) (BP.cons rfl rfl (Has.cv (Has.s rfl) (Cv.trans Cv.owSl (Cv.slRep (T' := [23]) rfl rfl))) (Has.s rfl) BP.nil)))) (ao (so (Spec.lit (xs := [.tmp 29]) (T := [23]) 24 rfl ow23 rfl rfl rfl rfl (HasEach.cons (Has.m (Has.cv (Has.s rfl) (Cv.trans (Cv.flds (CvL.cons Cv.fl (CvL.cons (Cv.trans (Cv.trans Cv.owSl (Cv.slRep (T' := [23]) rfl rfl)) (Cv.m rfl)) CvL.nil))) (Cv.close (T := [23]) (chWrite (Write.mk a1 x3))))) rfl) HasEach.nil))) (ao (StepG.stE (Step.appendOw (T := [21]) (te' := [22, 23, 24]) hx4 rfl rfl rfl ow23 (Has.s rfl) (Has.s rfl) (ElKeeps.tags rfl rfl) (ElKeeps.tags rfl rfl))) (ao (so (Spec.fieldAddrO fd25_1 (Has.cv (Has.s rfl) (Cv.isvP rfl)))) (ao (StepG.stE (Step.storeF (i := 1) (f := Fact.ow [21] [22, 23, 24] 59 (x4 : List Write)) rfl ty23 rfl (Has.s rfl) rfl (Has.cv (Has.s rfl) (Cv.trans Cv.owSl (Cv.slRep (T' := [21, 22, 23, 24]) rfl rfl))) (Has.s rfl) rfl)) AllM.nil)))))))))) ?_
   refine Leaf.thenN ?_
   refine CWalk.seq ?_
   refine CWalk.region ?_
   refine wo (Spec.loadObj (ls := [(false, 1, Fact.ow [19] [20] 28 (x2.Blocks : List (List UInt8))), (false, 1, Fact.ow [21] [22, 23, 24] 59 (x4 : List Write)), (false, 1, Fact.rep [] x2.Dead)]) ty25 rfl rfl (Has.s rfl) rfl (HasGs.cons (HasG.s rfl) (HasGs.cons (HasG.s rfl) (HasGs.cons (HasG.s rfl) HasGs.nil)))) ?_
   refine ws (Step.storeObj (ls := [(false, 1, Fact.ow [19] [20] 28 (x2.Blocks : List (List UInt8))), (false, 1, Fact.ow [21] [22, 23, 24] 59 (x4 : List Write)), (false, 1, Fact.rep [] x2.Dead)]) rfl ty25 rfl rfl (Has.s rfl) rfl (HasL.flds (Has.s rfl)) rfl) ?_
   refine wo (Spec.assign Has.int) ?_
   refine Walk.nil ?_
   refine Leaf.thenN ?_
   refine CWalk.ret ?_
   obtain rfl := Option.some.inj hm
   exact Leaf.retC2 rfl (HasR.cv (HasR.obj (ls := [(false, 1, Fact.ow [19] [20] 28 (x2.Blocks : List (List UInt8))), (false, 1, Fact.ow [21] [22, 23, 24] 59 (x4 : List Write)), (false, 1, Fact.rep [] x2.Dead)]) ty25 rfl rfl (Has.s rfl) rfl (HasGs.cons (HasG.s rfl) (HasGs.cons (HasG.s rfl) (HasGs.cons (HasG.s rfl) HasGs.nil)))) (Cv.flds (CvL.cons (Cv.owM (T := [19]) (te := [20]) rfl rfl) (CvL.cons (Cv.owM (T := [21]) (te := [22, 23, 24]) rfl rfl) (CvL.cons Cv.fl CvL.nil))))) (HasR.cv (HasR.tmp (Has.s rfl)) Cv.fl)

def disk_Flush_L1 (x2 : Disk) (s3 : Int) (s4 : List (List UInt8)) : Option (Ctl (Int × (List (List UInt8))) ((List (List UInt8)))) :=
  (bif (decide (s3 < ((x2.Wait).length : Int))) then Option.bind (idx x2.Wait s3) (fun x6 => Option.bind (bnd (s4).length x6.At) (fun x7 => some (Ctl.next ((wI (s3 + (1 : Int))), (s4).set x7 x6.Data)))) else some (Ctl.brk s4))
/-- freeboard/disk.Flush -/
def disk_Flush (a0 : Disk) : Option (Disk × Int) :=
  Option.bind (disk_Check a0) (fun x1 => (bif (x1 != (0 : Int)) then some ((Disk.mk ([] : List (List UInt8)) ([] : List Write) false), x1) else (bif a0.Dead then some ((Disk.mk ([] : List (List UInt8)) ([] : List Write) false), (40 : Int)) else Option.bind (disk_Twin a0) (fun x2 => Option.bind (loopM (fun s : Int × (List (List UInt8)) => disk_Flush_L1 x2 s.1 s.2) FUEL ((0 : Int), x2.Blocks)) (fun b8 => Option.bind (disk_Twin (Disk.mk b8 ([] : List Write) x2.Dead)) (fun x9 => some (x9, (0 : Int))))))))
set_option maxRecDepth 100000 in
set_option maxHeartbeats 2000000 in
theorem disk_Flush_c (a0 : Disk) {r : Disk × Int} (hm : disk_Flush a0 = some r) : Ctr Try.prog 27 [.rep 0 a0] (.tup2 (.flds [(false, 1, (.own 0 (some 1) 28 r.1.Blocks)), (false, 1, (.own 2 (some 3) 59 r.1.Wait)), (false, 1, (.fl r.1.Dead))]) (.fl r.2)) [] := by
 refine ctr_of_walk [[27], [28], [29], [30]] 36 Try.func27 rfl rfl rfl rfl (fun w0 om => ?_)
 unfold disk_Flush at hm
 refine CWalk.sub (G' := [.fact 0 (.rep [0] (a0 : Disk))]) (sn Sub.nil) ?_
 refine CWalk.seq ?_
 refine CWalk.region ?_
 refine ws (Step.boxObj (ls := [(false, 1, Fact.rep [0] a0.Blocks), (false, 1, Fact.rep [0] a0.Wait), (false, 1, Fact.rep [] a0.Dead)]) 10 rfl rfl rfl rfl (HasL.flds (Has.cv (Has.s rfl) (Cv.trans (Cv.opens (chDisk a0)) (Cv.flds (CvL.cons Cv.refl (CvL.cons Cv.refl (CvL.cons Cv.fl CvL.nil)))))))) ?_
 refine ws (Step.allocObj (ls := [(false, 1, Fact.nilv), (false, 1, Fact.nilv), (false, 1, Fact.rep [] (false : Bool))]) 14 rfl rfl rfl rfl zl25) ?_
 refine wo (Spec.assign Has.int) ?_
 refine Walk.nil ?_
 refine Leaf.thenN ?_
 refine CWalk.seq ?_
 refine CWalk.seq ?_
 refine CWalk.region ?_
 refine wo (Spec.loadObj (ls := [(false, 1, Fact.rep [0] a0.Blocks), (false, 1, Fact.rep [0] a0.Wait), (false, 1, Fact.rep [] a0.Dead)]) ty25 rfl rfl (Has.s rfl) rfl (HasGs.cons (HasG.s rfl) (HasGs.cons (HasG.s rfl) (HasGs.cons (HasG.s rfl) HasGs.nil)))) ?_
 obtain ⟨x1, hx1, hm⟩ := bind_some hm
 refine wo (f := Fact.rep [] (x1 : Int)) (Spec.callE [0] 18 rfl en19 (disk_Check_c a0 hx1) (HasAll.cons (Has.m (Has.cv (Has.s rfl) (Cv.trans (Cv.flds (CvL.cons (Cv.m rfl) (CvL.cons (Cv.m rfl) (CvL.cons Cv.fl CvL.nil)))) (Cv.close (T := [0]) (chDisk a0)))) rfl) HasAll.nil)) ?_
 refine wo (Spec.assign (Has.s rfl)) ?_
 refine Walk.nil ?_
 refine Leaf.thenN ?_
 refine CWalk.seq ?_
 refine CWalk.region ?_
 refine mv ?_
 refine wo (Spec.neqI (Has.s rfl) Has.int) ?_
 refine Walk.nil ?_
 refine Leaf.thenN ?_
 refine CWalk.cond rfl (fun hb => ?_) (fun hb => ?_)
 ·have hm := cond_t hb hm
  refine CWalk.seq ?_
  refine CWalk.region ?_
  refine wo (Spec.build (us := []) (ls' := [(false, 1, Fact.nilv), (false, 1, Fact.nilv), (false, 1, Fact.rep [] (false : Bool))]) bd25 rfl BP.nil) ?_
  refine mv ?_
  refine ws (Step.storeObj (ls := [(false, 1, Fact.nilv), (false, 1, Fact.nilv), (false, 1, Fact.rep [] (false : Bool))]) rfl ty25 rfl rfl (Has.s rfl) rfl (HasL.flds (Has.s rfl)) rfl) ?_
  refine wo (Spec.assign (Has.s rfl)) ?_
  refine Walk.nil ?_
  refine Leaf.thenN ?_
  refine CWalk.ret ?_
  refine Leaf.thenR ?_
  obtain rfl := Option.some.inj hm
  exact Leaf.retC2 rfl (HasR.cv (HasR.obj (ls := [(false, 1, Fact.nilv), (false, 1, Fact.nilv), (false, 1, Fact.rep [] (false : Bool))]) ty25 rfl rfl (Has.s rfl) rfl (HasGs.cons (HasG.s rfl) (HasGs.cons (HasG.s rfl) (HasGs.cons (HasG.s rfl) HasGs.nil)))) (Cv.flds (CvL.cons (Cv.trans Cv.nilOw (Cv.owM (T := []) (te := []) rfl rfl)) (CvL.cons (Cv.trans Cv.nilOw (Cv.owM (T := []) (te := []) rfl rfl)) (CvL.cons Cv.fl CvL.nil))))) (HasR.cv (HasR.tmp (Has.s rfl)) Cv.fl)
 ·have hm := cond_f hb hm
  refine CWalk.skip ?_
  refine Leaf.thenN ?_
  refine CWalk.seq ?_
  refine CWalk.seq ?_
  refine CWalk.region ?_
  refine wo (Spec.fieldAddrO fd25_2 (Has.cv (Has.s rfl) (Cv.isvP rfl))) ?_
  refine wo (Spec.loadF (i := 2) ty4 rfl (Has.s rfl) rfl (HasG.s rfl)) ?_
  refine Walk.nil ?_
  refine Leaf.thenN ?_
  refine CWalk.cond rfl (fun hb => ?_) (fun hb => ?_)
  ·have hm := cond_t hb hm
   refine CWalk.seq ?_
   refine CWalk.region ?_
   refine wo (Spec.build (us := []) (ls' := [(false, 1, Fact.nilv), (false, 1, Fact.nilv), (false, 1, Fact.rep [] (false : Bool))]) bd25 rfl BP.nil) ?_
   refine ws (Step.storeObj (ls := [(false, 1, Fact.nilv), (false, 1, Fact.nilv), (false, 1, Fact.rep [] (false : Bool))]) rfl ty25 rfl rfl (Has.s rfl) rfl (HasL.flds (Has.s rfl)) rfl) ?_
   refine wo (Spec.assign Has.int) ?_
   refine Walk.nil ?_
   refine Leaf.thenN ?_
   refine CWalk.ret ?_
   refine Leaf.thenR ?_
   obtain rfl := Option.some.inj hm
   exact Leaf.retC2 rfl (HasR.cv (HasR.obj (ls := [(false, 1, Fact.nilv), (false, 1, Fact.nilv), (false, 1, Fact.rep [] (false : Bool))]) ty25 rfl rfl (Has.s rfl) rfl (HasGs.cons (HasG.s rfl) (HasGs.cons (HasG.s rfl) (HasGs.cons (HasG.s rfl) HasGs.nil)))) (Cv.flds (CvL.cons (Cv.trans Cv.nilOw (Cv.owM (T := []) (te := []) rfl rfl)) (CvL.cons (Cv.trans Cv.nilOw (Cv.owM (T := []) (te := []) rfl rfl)) (CvL.cons Cv.fl CvL.nil))))) (HasR.cv (HasR.tmp (Has.s rfl)) Cv.fl)
  ·have hm := cond_f hb hm
   refine CWalk.skip ?_
   refine Leaf.thenN ?_
   refine CWalk.seq ?_
   refine CWalk.region ?_
   refine wo (Spec.loadObj (ls := [(false, 1, Fact.rep [0] a0.Blocks), (false, 1, Fact.rep [0] a0.Wait), (false, 1, Fact.rep [] a0.Dead)]) ty25 rfl rfl (Has.s rfl) rfl (HasGs.cons (HasG.s rfl) (HasGs.cons (HasG.s rfl) (HasGs.cons (HasG.s rfl) HasGs.nil)))) ?_
   obtain ⟨x2, hx2, hm⟩ := bind_some hm
   refine wo (f := Fact.flds [(false, 1, Fact.ow [19] [20] 28 (x2.Blocks : List (List UInt8))), (false, 1, Fact.ow [21] [22] 59 (x2.Wait : List Write)), (false, 1, Fact.rep [] x2.Dead)]) (Spec.callE [0] 19 rfl en17 (disk_Twin_c a0 hx2) (HasAll.cons (Has.m (Has.cv (Has.s rfl) (Cv.trans (Cv.flds (CvL.cons (Cv.m rfl) (CvL.cons (Cv.m rfl) (CvL.cons Cv.fl CvL.nil)))) (Cv.close (T := [0]) (chDisk a0)))) rfl) HasAll.nil)) ?_
   refine ws (Step.storeObj (ls := [(false, 1, Fact.ow [19] [20] 28 (x2.Blocks : List (List UInt8))), (false, 1, Fact.ow [21] [22] 59 (x2.Wait : List Write)), (false, 1, Fact.rep [] x2.Dead)]) rfl ty25 rfl rfl (Has.s rfl) rfl (HasL.flds (Has.s rfl)) rfl) ?_
   refine Walk.nil ?_
   refine Leaf.thenN ?_
   refine CWalk.seq ?_
   refine CWalk.seq ?_
   refine CWalk.region ?_
   refine wo (Spec.fieldAddrO fd25_1 (Has.cv (Has.s rfl) (Cv.isvP rfl))) ?_
   refine wo (Spec.loadF (i := 1) ty23 rfl (Has.s rfl) rfl (HasG.s rfl)) ?_
   refine wo (Spec.len (Has.cv (Has.s rfl) (Cv.trans Cv.owSl (Cv.slRep (T' := [21, 22]) rfl rfl))) Try.underlying23) ?_
   refine wo (Spec.move Has.int) ?_
   refine Walk.nil ?_
   refine Leaf.thenN ?_
   refine CWalk.block ?_
   obtain ⟨b8, hb8, hm⟩ := bind_some hm
   refine CWalk.loop (fun s : Int × (List (List UInt8)) => [.fact 1 (.isv 10), .fact 2 (.isv 14), .fact 19 (.ow [21] [22] 59 (x2.Wait : List Write)), .fact 20 (.rep [] (((x2.Wait).length : Int) : Int)), .fact 21 (.rep [] s.1), .fact 100011 (.at 11 (.ow [19, 26] [20, 22] 28 (s.2 : List (List UInt8)))), .fact 100012 (.at 12 (.ow [21] [22] 59 (x2.Wait : List Write))), .fact 100013 (.at 13 (.rep [] x2.Dead)), .fact 100015 (.at 15 (.nilv)), .fact 100016 (.at 16 (.nilv)), .fact 100017 (.at 17 (.rep [] (false : Bool))), .fact 100010 (.obj 10 [(false, 1), (false, 1), (false, 1)]), .fact 100014 (.obj 14 [(false, 1), (false, 1), (false, 1)])]) (fun b : (List (List UInt8)) => (Exit.exit 0, [.fact 1 (.isv 10), .fact 2 (.isv 14), .fact 100011 (.at 11 (.ow [19, 26] [20, 22] 28 (b : List (List UInt8)))), .fact 100012 (.at 12 (.ow [21] [22] 59 (x2.Wait : List Write))), .fact 100013 (.at 13 (.rep [] x2.Dead)), .fact 100015 (.at 15 (.nilv)), .fact 100016 (.at 16 (.nilv)), .fact 100017 (.at 17 (.rep [] (false : Bool))), .fact 100010 (.obj 10 [(false, 1), (false, 1), (false, 1)]), .fact 100014 (.obj 14 [(false, 1), (false, 1), (false, 1)])])) hb8 (sn (sn (Sub.cons (Has.cv (Has.s rfl) (Cv.owM (T := [21]) (te := [22]) rfl rfl)) (st (st (Sub.cons (Has.at (HasG.cv (HasG.s rfl) (Cv.owM (T := [19]) (te := [20]) rfl rfl))) (Sub.cons (Has.at (HasG.cv (HasG.s rfl) (Cv.owM (T := [21]) (te := [22]) rfl rfl))) (sf (sg (sg (sf (sn (sn Sub.nil))))))))))))) ?_ ?_
   ·rintro ⟨s3, s4⟩ c5 hm
    replace hm : disk_Flush_L1 x2 s3 s4 = some c5 := hm
    unfold disk_Flush_L1 at hm
    show CWalk _ [.fact 1 (.isv 10), .fact 2 (.isv 14), .fact 19 (.ow [21] [22] 59 (x2.Wait : List Write)), .fact 20 (.rep [] (((x2.Wait).length : Int) : Int)), .fact 21 (.rep [] (s3 : Int)), .fact 100011 (.at 11 (.ow [19, 26] [20, 22] 28 (s4 : List (List UInt8)))), .fact 100012 (.at 12 (.ow [21] [22] 59 (x2.Wait : List Write))), .fact 100013 (.at 13 (.rep [] x2.Dead)), .fact 100015 (.at 15 (.nilv)), .fact 100016 (.at 16 (.nilv)), .fact 100017 (.at 17 (.rep [] (false : Bool))), .fact 100010 (.obj 10 [(false, 1), (false, 1), (false, 1)]), .fact 100014 (.obj 14 [(false, 1), (false, 1), (false, 1)])] _ _
    refine CWalk.seq ?_
    refine CWalk.region ?_
    refine wo (Spec.lssI (Has.s rfl) (Has.s rfl)) ?_
    refine Walk.nil ?_
    refine Leaf.thenN ?_
    refine CWalk.seq ?_
    refine CWalk.cond rfl (fun hb => ?_) (fun hb => ?_)
    ·have hm := cond_t hb hm
     refine CWalk.skip ?_
     refine Leaf.thenN ?_
     refine CWalk.seq ?_
     refine CWalk.block ?_
     refine CWalk.seq ?_
     refine CWalk.region ?_
     obtain ⟨x6, hx6, hm⟩ := bind_some hm
     refine wo (Spec.indexSl hx6 sl23 (Has.cv (Has.s rfl) Cv.owSl) (Has.s rfl)) ?_
     refine wo (Spec.loadS ty59 (Has.s rfl)) ?_
     refine ws (Step.allocObj (ls := [(false, 1, Fact.rep [] ((0 : Int) : Int)), (false, 1, Fact.nilv)]) 23 rfl rfl rfl rfl zl59) ?_
     refine ws (Step.storeObj (ls := [(false, 1, Fact.rep [] x6.At), (false, 1, Fact.rep [22] x6.Data)]) rfl ty59 rfl rfl (Has.s rfl) rfl (HasL.flds (Has.cv (Has.s rfl) (Cv.trans (Cv.opens (chWrite x6)) (Cv.flds (CvL.cons Cv.fl (CvL.cons Cv.refl CvL.nil)))))) rfl) ?_
     refine Walk.nil ?_
     refine Leaf.thenN ?_
     refine CWalk.ad (Ad.owF (i := 11) 26 rfl rfl rfl (ElT.tags rfl) rfl (Cv.owM (T := [19, 26]) (te := [20, 22]) (T' := [19, 26]) (te' := [20, 22]) rfl rfl)) ?_
     refine CWalk.region ?_
     refine wo (Spec.fieldAddrO fd25_0 (Has.cv (Has.s rfl) (Cv.isvP rfl))) ?_
     refine wo (Spec.loadF (i := 0) ty22 rfl (Has.s rfl) rfl (HasG.s rfl)) ?_
     refine wo (Spec.fieldAddrO fd59_0 (Has.cv (Has.s rfl) (Cv.isvP rfl))) ?_
     refine wo (Spec.loadF (i := 0) ty3 rfl (Has.s rfl) rfl (HasG.s rfl)) ?_
     refine wo (Spec.fieldAddrO fd59_1 (Has.cv (Has.s rfl) (Cv.isvP rfl))) ?_
     refine wo (Spec.loadF (i := 1) ty28 rfl (Has.s rfl) rfl (HasG.s rfl)) ?_
     obtain ⟨x7, hx7, hm⟩ := bind_some hm
     refine wo (Spec.idxOwn hx7 ow22 (Has.s rfl) rfl (Has.s rfl)) ?_
     refine ws (Step.storeOwn (te' := [20, 22]) rfl (bnd_lt hx7 rfl) ty28 (Has.s rfl) rfl (Has.s rfl) (ElKeep.tags rfl rfl) (ElKeep.tags rfl rfl)) ?_
     refine Walk.nil ?_
     refine Leaf.blockN ?_
     refine Leaf.thenN ?_
     refine CWalk.region ?_
     refine wo (Spec.addI (Has.s rfl) Has.int) ?_
     refine mv ?_
     refine Walk.nil ?_
     exact Leaf.next hm (sn (sn (Sub.cons (Has.cv (Has.s rfl) (Cv.owM (T := [21]) (te := [22]) rfl rfl)) (st (st (Sub.cons (Has.at (HasG.cv (HasG.s rfl) (Cv.trans (Cv.isvOw rfl) (Cv.owM (T := [26]) (te := [20, 22]) rfl rfl)))) (Sub.cons (Has.at (HasG.cv (HasG.s rfl) (Cv.owM (T := [21]) (te := [22]) rfl rfl))) (sf (sg (sg (sf (sn (sn Sub.nil)))))))))))))
    ·have hm := cond_f hb hm
     refine CWalk.exit ?_
     refine Leaf.thenE ?_
     exact Leaf.brk hm (fun h => nomatch h) rfl (sn (sn (Sub.cons (Has.at (HasG.cv (HasG.s rfl) (Cv.owM (T := [19, 26]) (te := [20, 22]) rfl rfl))) (Sub.cons (Has.at (HasG.cv (HasG.s rfl) (Cv.owM (T := [21]) (te := [22]) rfl rfl))) (sf (sg (sg (sf (sn (sn Sub.nil))))))))))
   ·intro _
    refine Leaf.blockE ?_
    refine Leaf.thenN ?_
    refine CWalk.seq ?_
    refine CWalk.region ?_
    refine wo (Spec.fieldAddrO fd25_1 (Has.cv (Has.s rfl) (Cv.isvP rfl))) ?_
    refine ws (Step.storeF (i := 1) (f := Fact.nilv) rfl ty23 rfl (Has.s rfl) rfl (Has.cv Has.nilv (Cv.nil (T := []))) Has.nilv rfl) ?_
    refine Walk.nil ?_
    refine Leaf.thenN ?_
    refine CWalk.seq ?_
    refine CWalk.region ?_
    refine wo (Spec.loadObj (ls := [(false, 1, Fact.ow [19, 26] [20, 22] 28 (b8 : List (List UInt8))), (false, 1, Fact.nilv), (false, 1, Fact.rep [] x2.Dead)]) ty25 rfl rfl (Has.s rfl) rfl (HasGs.cons (HasG.s rfl) (HasGs.cons (HasG.s rfl) (HasGs.cons (HasG.s rfl) HasGs.nil)))) ?_
    obtain ⟨x9, hx9, hm⟩ := bind_some hm
    refine wo (f := Fact.flds [(false, 1, Fact.ow [27] [28] 28 (x9.Blocks : List (List UInt8))), (false, 1, Fact.ow [29] [30] 59 (x9.Wait : List Write)), (false, 1, Fact.rep [] x9.Dead)]) (Spec.callE [19, 20, 22, 26] 27 rfl en17 (disk_Twin_c (Disk.mk b8 ([] : List Write) x2.Dead) hx9) (HasAll.cons (Has.m (Has.cv (Has.s rfl) (Cv.trans (Cv.flds (CvL.cons (Cv.trans (Cv.trans Cv.owSl (Cv.slRep (T' := [19, 20, 22, 26]) rfl rfl)) (Cv.m rfl)) (CvL.cons (Cv.trans (Cv.nil (T := [])) (Cv.m rfl)) (CvL.cons Cv.fl CvL.nil)))) (Cv.close (T := [19, 20, 22, 26]) (chDisk (Disk.mk b8 ([] : List Write) x2.Dead))))) rfl) HasAll.nil)) ?_
    refine ws (Step.storeObj (ls := [(false, 1, Fact.ow [27] [28] 28 (x9.Blocks : List (List UInt8))), (false, 1, Fact.ow [29] [30] 59 (x9.Wait : List Write)), (false, 1, Fact.rep [] x9.Dead)]) rfl ty25 rfl rfl (Has.s rfl) rfl (HasL.flds (Has.s rfl)) rfl) ?_
    refine wo (Spec.assign Has.int) ?_
    refine Walk.nil ?_
    refine Leaf.thenN ?_
    refine CWalk.ret ?_
    obtain rfl := Option.some.inj hm
    exact Leaf.retC2 rfl (HasR.cv (HasR.obj (ls := [(false, 1, Fact.ow [27] [28] 28 (x9.Blocks : List (List UInt8))), (false, 1, Fact.ow [29] [30] 59 (x9.Wait : List Write)), (false, 1, Fact.rep [] x9.Dead)]) ty25 rfl rfl (Has.s rfl) rfl (HasGs.cons (HasG.s rfl) (HasGs.cons (HasG.s rfl) (HasGs.cons (HasG.s rfl) HasGs.nil)))) (Cv.flds (CvL.cons (Cv.owM (T := [27]) (te := [28]) rfl rfl) (CvL.cons (Cv.owM (T := [29]) (te := [30]) rfl rfl) (CvL.cons Cv.fl CvL.nil))))) (HasR.cv (HasR.tmp (Has.s rfl)) Cv.fl)

/-- freeboard/disk.Fua$1 -/
def disk_Fua_1 (a0 : Write) (a1 : Int) : Option (Bool) :=
  some (a0.At == a1)
set_option maxRecDepth 100000 in
set_option maxHeartbeats 2000000 in
theorem disk_Fua_1_c (a0 : Write) (a1 : Int) {r : Bool} (hm : disk_Fua_1 a0 a1 = some r) : Ctr Try.prog 59 [.rep 0 a0, .ptr 0 a1] (.fl r) [] := by
 refine ctr_of_walk [[]] 8 Try.func59 rfl rfl rfl rfl (fun w0 om => ?_)
 unfold disk_Fua_1 at hm
 refine CWalk.sub (G' := [.fact 0 (.rep [0] (a0 : Write)), .fact 1 (.ptr [0] (a1 : Int))]) (sn (sn Sub.nil)) ?_
 refine CWalk.seq ?_
 refine CWalk.region ?_
 refine ws (Step.boxObj (ls := [(false, 1, Fact.rep [] a0.At), (false, 1, Fact.rep [0] a0.Data)]) 10 rfl rfl rfl rfl (HasL.flds (Has.cv (Has.s rfl) (Cv.trans (Cv.opens (chWrite a0)) (Cv.flds (CvL.cons Cv.fl (CvL.cons Cv.refl CvL.nil))))))) ?_
 refine wo (Spec.assign Has.bool) ?_
 refine Walk.nil ?_
 refine Leaf.thenN ?_
 refine CWalk.seq ?_
 refine CWalk.region ?_
 refine wo (Spec.fieldAddrO fd59_0 (Has.cv (Has.s rfl) (Cv.isvP rfl))) ?_
 refine wo (Spec.loadF (i := 0) ty3 rfl (Has.s rfl) rfl (HasG.s rfl)) ?_
 refine wo ((Spec.load ty3 (Has.s rfl)).flat (T' := [])) ?_
 refine wo (Spec.eqlI (Has.s rfl) (Has.s rfl)) ?_
 refine wo (Spec.assign (Has.s rfl)) ?_
 refine Walk.nil ?_
 refine Leaf.thenN ?_
 refine CWalk.ret ?_
 obtain rfl := Option.some.inj hm
 exact Leaf.retC1 rfl (HasR.cv (HasR.tmp (Has.s rfl)) Cv.fl)

def disk_Fua_J1 (x2 : Disk) (x3 : (List UInt8)) (x4 : Nat) (j5 : List Write) : Option (Disk × Int) :=
  some ((Disk.mk ((x2.Blocks).set x4 x3) j5 x2.Dead), (0 : Int))
def disk_Fua_J3 (s9 : Int) (j11 : List Write) (j12 : Int) : Option (Ctl ((List Write) × Int × Int) ((List Write) × Int)) :=
  some (Ctl.next (j11, j12, (wI (s9 + (1 : Int)))))
def disk_Fua_J4 (a1 : Int) (s7 : List Write) (s8 : Int) (s9 : Int) (x13 : Write) : Option (Ctl ((List Write) × Int × Int) ((List Write) × Int)) :=
  (bif (!(x13.At == a1)) then Option.bind (bnd (s7).length s8) (fun x14 => (disk_Fua_J3 s9 ((s7).set x14 x13) (wI (s8 + (1 : Int))))) else (disk_Fua_J3 s9 s7 s8))
def disk_Fua_L2 (a1 : Int) (s7 : List Write) (s8 : Int) (s9 : Int) : Option (Ctl ((List Write) × Int × Int) ((List Write) × Int)) :=
  (bif (decide (s9 < ((s7).length : Int))) then Option.bind (idx s7 s9) (fun x13 => (disk_Fua_J4 a1 s7 s8 s9 x13)) else some (Ctl.brk (s7, s8)))
/-- freeboard/disk.Fua -/
def disk_Fua (a0 : Disk) (a1 : Int) (a2 : List UInt8) : Option (Disk × Int) :=
  Option.bind (disk_write a0 a1 a2) (fun x1 => (bif (x1 != (0 : Int)) then some ((Disk.mk ([] : List (List UInt8)) ([] : List Write) false), x1) else Option.bind (disk_Twin a0) (fun x2 => Option.bind (disk_block a2) (fun x3 => Option.bind (bnd (x2.Blocks).length a1) (fun x4 => Option.bind (slices_IndexFunc_api_Write_api_Write x2.Wait (fun y => disk_Fua_1 y a1)) (fun x6 => (bif (x6 == (-1 : Int)) then (disk_Fua_J1 x2 x3 x4 x2.Wait) else Option.bind (loopM (fun s : (List Write) × Int × Int => disk_Fua_L2 a1 s.1 s.2.1 s.2.2) FUEL (x2.Wait, x6, (wI (x6 + (1 : Int))))) (fun b15 => Option.bind (slc b15.1 b15.2 (b15.1).length) (fun x16 => Option.bind (slc ((b15.1).take (Int.toNat b15.2) ++ List.replicate ((b15.1).length - (Int.toNat b15.2)) (Write.mk (0 : Int) ([] : List UInt8))) 0 b15.2) (fun x17 => (disk_Fua_J1 x2 x3 x4 x17)))))))))))
set_option maxRecDepth 100000 in
set_option maxHeartbeats 2000000 in
theorem disk_Fua_c (a0 : Disk) (a1 : Int) (a2 : List UInt8) {r : Disk × Int} (hm : disk_Fua a0 a1 a2 = some r) : Ctr Try.prog 25 [.rep 0 a0, .rep 0 a1, .rep 0 a2] (.tup2 (.flds [(false, 1, (.own 0 (some 1) 28 r.1.Blocks)), (false, 1, (.own 2 (some 3) 59 r.1.Wait)), (false, 1, (.fl r.1.Dead))]) (.fl r.2)) [] := by
 refine ctr_of_walk [[25], [22, 26], [23, 35], [24]] 31 Try.func25 rfl rfl rfl rfl (fun w0 om => ?_)
 unfold disk_Fua at hm
 refine CWalk.sub (G' := [.fact 0 (.rep [0] (a0 : Disk)), .fact 1 (.rep [] (a1 : Int)), .fact 2 (.rep [0] (a2 : List UInt8))]) (sn (Sub.cons (Has.fl (Has.s rfl)) (sn Sub.nil))) ?_
 refine CWalk.seq ?_
 refine CWalk.region ?_
 refine ws (Step.boxObj (ls := [(false, 1, Fact.rep [0] a0.Blocks), (false, 1, Fact.rep [0] a0.Wait), (false, 1, Fact.rep [] a0.Dead)]) 10 rfl rfl rfl rfl (HasL.flds (Has.cv (Has.s rfl) (Cv.trans (Cv.opens (chDisk a0)) (Cv.flds (CvL.cons Cv.refl (CvL.cons Cv.refl (CvL.cons Cv.fl CvL.nil)))))))) ?_
 refine ws (Step.boxObj (ls := [(false, 1, Fact.rep [] (a1 : Int))]) 14 rfl rfl rfl rfl (HasL.one (Has.s rfl) rfl (Has.s rfl))) ?_
 refine ws (Step.allocObj (ls := [(false, 1, Fact.nilv), (false, 1, Fact.nilv), (false, 1, Fact.rep [] (false : Bool))]) 16 rfl rfl rfl rfl zl25) ?_
 refine wo (Spec.assign Has.int) ?_
 refine Walk.nil ?_
 refine Leaf.thenN ?_
 refine CWalk.seq ?_
 refine CWalk.seq ?_
 refine CWalk.region ?_
 refine wo (Spec.loadObj (ls := [(false, 1, Fact.rep [0] a0.Blocks), (false, 1, Fact.rep [0] a0.Wait), (false, 1, Fact.rep [] a0.Dead)]) ty25 rfl rfl (Has.s rfl) rfl (HasGs.cons (HasG.s rfl) (HasGs.cons (HasG.s rfl) (HasGs.cons (HasG.s rfl) HasGs.nil)))) ?_
 refine wo (Spec.loadF (i := 0) ty3 rfl (Has.cv (Has.s rfl) (Cv.isvP rfl)) rfl (HasG.s rfl)) ?_
 refine mv ?_
 obtain ⟨x1, hx1, hm⟩ := bind_some hm
 refine wo (f := Fact.rep [] (x1 : Int)) (Spec.callE [0] 20 rfl en55 (disk_write_c a0 a1 a2 hx1) (HasAll.cons (Has.m (Has.cv (Has.s rfl) (Cv.trans (Cv.flds (CvL.cons (Cv.m rfl) (CvL.cons (Cv.m rfl) (CvL.cons Cv.fl CvL.nil)))) (Cv.close (T := [0]) (chDisk a0)))) rfl) (HasAll.cons (Has.fl (Has.s rfl)) (HasAll.cons (Has.m (Has.s rfl) rfl) HasAll.nil)))) ?_
 refine wo (Spec.assign (Has.s rfl)) ?_
 refine Walk.nil ?_
 refine Leaf.thenN ?_
 refine CWalk.seq ?_
 refine CWalk.region ?_
 refine mv ?_
 refine wo (Spec.neqI (Has.s rfl) Has.int) ?_
 refine Walk.nil ?_
 refine Leaf.thenN ?_
 refine CWalk.cond rfl (fun hb => ?_) (fun hb => ?_)
 ·have hm := cond_t hb hm
  refine CWalk.seq ?_
  refine CWalk.region ?_
  refine wo (Spec.build (us := []) (ls' := [(false, 1, Fact.nilv), (false, 1, Fact.nilv), (false, 1, Fact.rep [] (false : Bool))]) bd25 rfl BP.nil) ?_
  refine mv ?_
  refine ws (Step.storeObj (ls := [(false, 1, Fact.nilv), (false, 1, Fact.nilv), (false, 1, Fact.rep [] (false : Bool))]) rfl ty25 rfl rfl (Has.s rfl) rfl (HasL.flds (Has.s rfl)) rfl) ?_
  refine wo (Spec.assign (Has.s rfl)) ?_
  refine Walk.nil ?_
  refine Leaf.thenN ?_
  refine CWalk.ret ?_
  refine Leaf.thenR ?_
  obtain rfl := Option.some.inj hm
  exact Leaf.retC2 rfl (HasR.cv (HasR.obj (ls := [(false, 1, Fact.nilv), (false, 1, Fact.nilv), (false, 1, Fact.rep [] (false : Bool))]) ty25 rfl rfl (Has.s rfl) rfl (HasGs.cons (HasG.s rfl) (HasGs.cons (HasG.s rfl) (HasGs.cons (HasG.s rfl) HasGs.nil)))) (Cv.flds (CvL.cons (Cv.trans Cv.nilOw (Cv.owM (T := []) (te := []) rfl rfl)) (CvL.cons (Cv.trans Cv.nilOw (Cv.owM (T := []) (te := []) rfl rfl)) (CvL.cons Cv.fl CvL.nil))))) (HasR.cv (HasR.tmp (Has.s rfl)) Cv.fl)
 ·have hm := cond_f hb hm
  refine CWalk.skip ?_
  refine Leaf.thenN ?_
  refine CWalk.seq ?_
  refine CWalk.region ?_
  refine wo (Spec.loadObj (ls := [(false, 1, Fact.rep [0] a0.Blocks), (false, 1, Fact.rep [0] a0.Wait), (false, 1, Fact.rep [] a0.Dead)]) ty25 rfl rfl (Has.s rfl) rfl (HasGs.cons (HasG.s rfl) (HasGs.cons (HasG.s rfl) (HasGs.cons (HasG.s rfl) HasGs.nil)))) ?_
  obtain ⟨x2, hx2, hm⟩ := bind_some hm
  refine wo (f := Fact.flds [(false, 1, Fact.ow [21] [22] 28 (x2.Blocks : List (List UInt8))), (false, 1, Fact.ow [23] [24] 59 (x2.Wait : List Write)), (false, 1, Fact.rep [] x2.Dead)]) (Spec.callE [0] 21 rfl en17 (disk_Twin_c a0 hx2) (HasAll.cons (Has.m (Has.cv (Has.s rfl) (Cv.trans (Cv.flds (CvL.cons (Cv.m rfl) (CvL.cons (Cv.m rfl) (CvL.cons Cv.fl CvL.nil)))) (Cv.close (T := [0]) (chDisk a0)))) rfl) HasAll.nil)) ?_
  refine ws (Step.storeObj (ls := [(false, 1, Fact.ow [21] [22] 28 (x2.Blocks : List (List UInt8))), (false, 1, Fact.ow [23] [24] 59 (x2.Wait : List Write)), (false, 1, Fact.rep [] x2.Dead)]) rfl ty25 rfl rfl (Has.s rfl) rfl (HasL.flds (Has.s rfl)) rfl) ?_
  refine Walk.nil ?_
  refine Leaf.thenN ?_
  refine CWalk.seq ?_
  refine CWalk.ad (Ad.owF (i := 11) 25 rfl rfl rfl (ElT.tags rfl) rfl (Cv.owM (T := [21]) (te := [22]) (T' := [21]) (te' := [22]) rfl rfl)) ?_
  obtain ⟨x3, hx3, hm⟩ := bind_some hm
  obtain ⟨x4, hx4, hm⟩ := bind_some hm
  refine CWalk.drawM [[], [0], [], [], [3], [0, 1, 2, 3, 4], [0, 1, 2, 3, 4, 5]] [[.fact 19 (.pto 10 0)], [.fact 20 (.isv 25)], [.fact 21 (.rep [] (a1 : Int))], [.fact 22 (.rep [0] (a2 : List UInt8))], [.fact 23 (.ow [26] [] 5 (x3 : List UInt8))], [.fact 24 (.pto 25 (x4 * Rp.n (List UInt8)))], [.fact 100025 (.own 25 [22, 26] 28 ((x2.Blocks).set x4 x3 : List (List UInt8))), .kill 25]] mixed (by kernel_rfl) (ao (so (Spec.fieldAddrO fd25_0 (Has.cv (Has.s rfl) (Cv.isvP rfl)))) (ao (so (Spec.loadF (i := 0) ty22 rfl (Has.s rfl) rfl (HasG.s rfl))) (ao (so (Spec.loadF (i := 0) ty3 rfl (Has.cv (Has.s rfl) (Cv.isvP rfl)) rfl (HasG.s rfl))) (ao (so (Spec.move (Has.s rfl))) (ao (so (Spec.callE [0] 26 rfl en37 (disk_block_c a2 hx3) (HasAll.cons (Has.m (Has.s rfl) rfl) HasAll.nil))) (ao (so (Spec.idxOwn hx4 ow22 (Has.s rfl) rfl (Has.s rfl))) (ao (StepG.stE (Step.storeOwn (te' := [22, 26]) rfl (bnd_lt hx4 rfl) ty28 (Has.s rfl) rfl (Has.cv (Has.s rfl) (Cv.trans Cv.owSl (Cv.slRep (T' := [26]) rfl rfl))) (ElKeep.tags rfl rfl) (ElKeep.tags rfl rfl))) AllM.nil))))))) ?_
  refine Leaf.thenN ?_
  refine CWalk.seq ?_
  refine CWalk.region ?_
  refine wo (Spec.fieldAddrO fd25_1 (Has.cv (Has.s rfl) (Cv.isvP rfl))) ?_
  refine wo (Spec.loadF (i := 1) ty23 rfl (Has.s rfl) rfl (HasG.s rfl)) ?_
  refine wo (Spec.makeFunc (xs := []) (ys := [.tmp 4]) rfl rfl HasF.nil (HasF.cons (Has.s rfl) HasF.nil) (fun _ _ _ => rfl)) ?_
  refine Walk.inline (S := (List Write)) (fun p : (List Write) => [.fact 3 (.isv 10), .fact 6 (.isv 16), .fact 28 (.ow [23, 35] [24] 59 (p : List Write)), .fact 100011 (.at 11 (.isv 25)), .fact 100013 (.at 13 (.rep [] x2.Dead)), .fact 100017 (.at 17 (.nilv)), .fact 100018 (.at 18 (.nilv)), .fact 100019 (.at 19 (.rep [] (false : Bool))), .fact 100010 (.obj 10 [(false, 1), (false, 1), (false, 1)]), .fact 100016 (.obj 16 [(false, 1), (false, 1), (false, 1)]), .fact 100025 (.own 25 [22, 26] 28 ((x2.Blocks).set x4 x3 : List (List UInt8)))]) (fun p : (List Write) => disk_Fua_J1 x2 x3 x4 p = some r) (fun u1 => [.fact 100011 (.at 11 (.isv 25)), .fact 100012 (.at 12 (.ow [23] [24] 59 (x2.Wait : List Write))), .fact 100013 (.at 13 (.rep [] x2.Dead)), .fact 100015 (.at 15 (.rep [] (a1 : Int))), .fact 100017 (.at 17 (.nilv)), .fact 100018 (.at 18 (.nilv)), .fact 100019 (.at 19 (.rep [] (false : Bool))), .fact 902003 (.cst (u1 3) (Fact.isv 10)), .fact 902006 (.cst (u1 6) (Fact.isv 16)), .fact 100014 (.obj 14 [(false, 1)]), .fact 100016 (.obj 16 [(false, 1), (false, 1), (false, 1)]), .fact 100010 (.obj 10 [(false, 1), (false, 1), (false, 1)]), .fact 100025 (.own 25 [22, 26] 28 ((x2.Blocks).set x4 x3 : List (List UInt8)))]) (FA := [Fact.ow [23] [24] 59 (x2.Wait : List Write), Fact.fnv 59 [] [Fact.isv 14]]) rfl Try.func58 rfl rfl rfl (CallOk.fn en58 (HasF.cons (Has.s rfl) (HasF.cons (Has.s rfl) HasF.nil))) (fun u1 => (ck (ck (ck (ck (ck (ck (ck (cs 902000 3 (cs 902000 6 (ck (ck (ck (ck Carry.nil)))))))))))))) (fun u1 => ?_) ?_
  ·refine CWalk.seq ?_
   refine CWalk.region ?_
   refine wo (Spec.assign Has.nilv) ?_
   refine Walk.nil ?_
   refine Leaf.thenN ?_
   refine CWalk.seq ?_
   refine CWalk.region ?_
   refine mv ?_
   refine mv ?_
   obtain ⟨x6, hx6, hm⟩ := bind_some hm
   refine wo (f := Fact.rep [] (x6 : Int)) (Spec.callE [14, 23, 24] 27 rfl en64 (slices_IndexFunc_api_Write_api_Write_c x2.Wait (fun y => disk_Fua_1 y a1) hx6) (HasAll.cons (Has.m (Has.cv (Has.s rfl) (Cv.trans Cv.owSl (Cv.slRep (T' := [23, 24]) rfl rfl))) rfl) (HasAll.cons (Has.cv (Has.s rfl) (Cv.fn (pu := []) (pc := [.ptr 0 a1]) (shc := []) en59 CvF.nil (CvF.cons (Cv.trans (Cv.objPtr1 (f := Fact.rep [] (a1 : Int)) rfl rfl (HasG.s rfl) (Cv.fl (T' := []))) (Cv.ptrM rfl)) CvF.nil) (fun y r h => disk_Fua_1_c y a1 h))) HasAll.nil))) ?_
   refine wo (Spec.assign (Has.s rfl)) ?_
   refine Walk.nil ?_
   refine Leaf.thenN ?_
   refine CWalk.seq ?_
   refine CWalk.seq ?_
   refine CWalk.region ?_
   refine mv ?_
   refine wo (Spec.eqlI (Has.s rfl) Has.int) ?_
   refine Walk.nil ?_
   refine Leaf.thenN ?_
   refine CWalk.cond rfl (fun hb => ?_) (fun hb => ?_)
   ·have hm := cond_t hb hm
    refine CWalk.seq ?_
    refine CWalk.region ?_
    refine mv ?_
    refine wo (Spec.assign (Has.s rfl)) ?_
    refine Walk.nil ?_
    refine Leaf.thenN ?_
    refine CWalk.ret ?_
    refine Leaf.thenR ?_
    exact Leaf.in1 x2.Wait hm rfl rfl (HasR.cv (HasR.tmp (Has.s rfl)) (Cv.owM (T := [23]) (te := [24]) rfl rfl)) (ls 902003 (ls 902006 (Low.res (lg (lf (lg (lg (lf (lo (lo (Low.keepR (fun _ _ _ _ h => h) (Has.ownM (Has.s rfl) rfl) Low.nil)))))))))))
   ·have hm := cond_f hb hm
    refine CWalk.skip ?_
    refine Leaf.thenN ?_
    refine CWalk.seq ?_
    refine CWalk.seq ?_
    refine CWalk.region ?_
    refine mv ?_
    refine wo (Spec.addI (Has.s rfl) Has.int) ?_
    refine wo (Spec.assign (Has.s rfl)) ?_
    refine Walk.nil ?_
    refine Leaf.thenN ?_
    refine CWalk.block ?_
    obtain ⟨b15, hb15, hm⟩ := bind_some hm
    refine CWalk.loop (fun s : (List Write) × Int × Int => [.fact 0 (.ow [23, 34] [24] 59 (s.1 : List Write)), .fact 1 (.fnv 59 [] [Fact.isv 14]), .fact 5 (.rep [] s.2.1), .fact 6 (.rep [] s.2.2), .fact 902003 (.cst (u1 3) (Fact.isv 10)), .fact 902006 (.cst (u1 6) (Fact.isv 16)), .fact 100015 (.at 15 (.rep [] (a1 : Int))), .fact 100011 (.at 11 (.isv 25)), .fact 100013 (.at 13 (.rep [] x2.Dead)), .fact 100017 (.at 17 (.nilv)), .fact 100018 (.at 18 (.nilv)), .fact 100019 (.at 19 (.rep [] (false : Bool))), .fact 100014 (.obj 14 [(false, 1)]), .fact 100010 (.obj 10 [(false, 1), (false, 1), (false, 1)]), .fact 100016 (.obj 16 [(false, 1), (false, 1), (false, 1)]), .fact 100025 (.own 25 [22, 26] 28 ((x2.Blocks).set x4 x3 : List (List UInt8)))]) (fun b : (List Write) × Int => (Exit.exit 0, [.fact 0 (.ow [23, 34] [24] 59 (b.1 : List Write)), .fact 5 (.rep [] b.2), .fact 902003 (.cst (u1 3) (Fact.isv 10)), .fact 902006 (.cst (u1 6) (Fact.isv 16)), .fact 100011 (.at 11 (.isv 25)), .fact 100013 (.at 13 (.rep [] x2.Dead)), .fact 100017 (.at 17 (.nilv)), .fact 100018 (.at 18 (.nilv)), .fact 100019 (.at 19 (.rep [] (false : Bool))), .fact 100010 (.obj 10 [(false, 1), (false, 1), (false, 1)]), .fact 100016 (.obj 16 [(false, 1), (false, 1), (false, 1)]), .fact 100025 (.own 25 [22, 26] 28 ((x2.Blocks).set x4 x3 : List (List UInt8)))])) hb15 (Sub.cons (Has.cv (Has.s rfl) (Cv.owM (T := [23]) (te := [24]) rfl rfl)) (sn (st (st (sc (sc (sf (sg (sf (sg (sg (sf (sn (sn (sn (Sub.cons (Has.ownM (Has.s rfl) rfl) Sub.nil)))))))))))))))) ?_ ?_
    ·rintro ⟨s7, s8, s9⟩ c10 hm
     replace hm : disk_Fua_L2 a1 s7 s8 s9 = some c10 := hm
     unfold disk_Fua_L2 at hm
     show CWalk _ [.fact 0 (.ow [23, 34] [24] 59 (s7 : List Write)), .fact 1 (.fnv 59 [] [Fact.isv 14]), .fact 5 (.rep [] (s8 : Int)), .fact 6 (.rep [] (s9 : Int)), .fact 902003 (.cst (u1 3) (Fact.isv 10)), .fact 902006 (.cst (u1 6) (Fact.isv 16)), .fact 100015 (.at 15 (.rep [] (a1 : Int))), .fact 100011 (.at 11 (.isv 25)), .fact 100013 (.at 13 (.rep [] x2.Dead)), .fact 100017 (.at 17 (.nilv)), .fact 100018 (.at 18 (.nilv)), .fact 100019 (.at 19 (.rep [] (false : Bool))), .fact 100014 (.obj 14 [(false, 1)]), .fact 100010 (.obj 10 [(false, 1), (false, 1), (false, 1)]), .fact 100016 (.obj 16 [(false, 1), (false, 1), (false, 1)]), .fact 100025 (.own 25 [22, 26] 28 ((x2.Blocks).set x4 x3 : List (List UInt8)))] _ _
     refine CWalk.seq ?_
     refine CWalk.seq ?_
     refine CWalk.region ?_
     refine mv ?_
     refine mv ?_
     refine wo (Spec.len (Has.cv (Has.s rfl) (Cv.trans Cv.owSl (Cv.slRep (T' := [23, 24, 34]) rfl rfl))) Try.underlying23) ?_
     refine wo (Spec.lssI (Has.s rfl) (Has.s rfl)) ?_
     refine Walk.nil ?_
     refine Leaf.thenN ?_
     refine CWalk.cond rfl (fun hb => ?_) (fun hb => ?_)
     ·have hm := cond_t hb hm
      refine CWalk.skip ?_
      refine Leaf.thenN ?_
      refine CWalk.seqJ (fun p : (List Write) × Int => [.fact 0 (.ow [23, 34] [24] 59 (p.1 : List Write)), .fact 1 (.fnv 59 [] [Fact.isv 14]), .fact 5 (.rep [] p.2), .fact 6 (.rep [] (s9 : Int)), .fact 902003 (.cst (u1 3) (Fact.isv 10)), .fact 902006 (.cst (u1 6) (Fact.isv 16)), .fact 100015 (.at 15 (.rep [] (a1 : Int))), .fact 100011 (.at 11 (.isv 25)), .fact 100013 (.at 13 (.rep [] x2.Dead)), .fact 100017 (.at 17 (.nilv)), .fact 100018 (.at 18 (.nilv)), .fact 100019 (.at 19 (.rep [] (false : Bool))), .fact 100014 (.obj 14 [(false, 1)]), .fact 100010 (.obj 10 [(false, 1), (false, 1), (false, 1)]), .fact 100016 (.obj 16 [(false, 1), (false, 1), (false, 1)]), .fact 100025 (.own 25 [22, 26] 28 ((x2.Blocks).set x4 x3 : List (List UInt8)))]) (fun p : (List Write) × Int => disk_Fua_J3 s9 p.1 p.2 = some c10) ?_ ?_
      ·rintro ⟨j11, j12⟩ hm
       replace hm : disk_Fua_J3 s9 j11 j12 = some c10 := hm
       unfold disk_Fua_J3 at hm
       show CWalk _ [.fact 0 (.ow [23, 34] [24] 59 (j11 : List Write)), .fact 1 (.fnv 59 [] [Fact.isv 14]), .fact 5 (.rep [] (j12 : Int)), .fact 6 (.rep [] (s9 : Int)), .fact 902003 (.cst (u1 3) (Fact.isv 10)), .fact 902006 (.cst (u1 6) (Fact.isv 16)), .fact 100015 (.at 15 (.rep [] (a1 : Int))), .fact 100011 (.at 11 (.isv 25)), .fact 100013 (.at 13 (.rep [] x2.Dead)), .fact 100017 (.at 17 (.nilv)), .fact 100018 (.at 18 (.nilv)), .fact 100019 (.at 19 (.rep [] (false : Bool))), .fact 100014 (.obj 14 [(false, 1)]), .fact 100010 (.obj 10 [(false, 1), (false, 1), (false, 1)]), .fact 100016 (.obj 16 [(false, 1), (false, 1), (false, 1)]), .fact 100025 (.own 25 [22, 26] 28 ((x2.Blocks).set x4 x3 : List (List UInt8)))] _ _
       refine CWalk.region ?_
       refine mv ?_
       refine wo (Spec.addI (Has.s rfl) Has.int) ?_
       refine wo (Spec.assign (Has.s rfl)) ?_
       refine Walk.nil ?_
       exact Leaf.next hm (Sub.cons (Has.cv (Has.s rfl) (Cv.owM (T := [23, 34]) (te := [24]) rfl rfl)) (sn (st (st (sc (sc (sf (sg (sf (sg (sg (sf (sn (sn (sn (Sub.cons (Has.ownM (Has.s rfl) rfl) Sub.nil))))))))))))))))
      ·refine CWalk.block ?_
       refine CWalk.seq ?_
       refine CWalk.region ?_
       refine mv ?_
       refine mv ?_
       obtain ⟨x13, hx13, hm⟩ := bind_some hm
       refine wo (Spec.indexSl hx13 sl23 (Has.cv (Has.s rfl) Cv.owSl) (Has.s rfl)) ?_
       refine wo (Spec.loadS ty59 (Has.s rfl)) ?_
       refine ws (Step.allocObj (ls := [(false, 1, Fact.rep [] ((0 : Int) : Int)), (false, 1, Fact.nilv)]) 28 rfl rfl rfl rfl zl59) ?_
       refine ws (Step.storeObj (ls := [(false, 1, Fact.rep [] x13.At), (false, 1, Fact.rep [24] x13.Data)]) rfl ty59 rfl rfl (Has.s rfl) rfl (HasL.flds (Has.cv (Has.s rfl) (Cv.trans (Cv.opens (chWrite x13)) (Cv.flds (CvL.cons Cv.fl (CvL.cons Cv.refl CvL.nil)))))) rfl) ?_
       refine Walk.nil ?_
       refine Leaf.thenN ?_
       refine CWalk.seq ?_
       refine CWalk.region ?_
       refine mv ?_
       refine wo (Spec.loadObj (ls := [(false, 1, Fact.rep [] x13.At), (false, 1, Fact.rep [24] x13.Data)]) ty59 rfl rfl (Has.s rfl) rfl (HasGs.cons (HasG.s rfl) (HasGs.cons (HasG.s rfl) HasGs.nil))) ?_
       refine Walk.inline (S := Unit) (fun p : Unit => [.fact 0 (.ow [23, 34] [24] 59 (s7 : List Write)), .fact 1 (.fnv 59 [] [Fact.isv 14]), .fact 5 (.rep [] (s8 : Int)), .fact 6 (.rep [] (s9 : Int)), .fact 7 (.isv 28), .fact 28 (.rep [] ((x13.At == a1) : Bool)), .fact 902003 (.cst (u1 3) (Fact.isv 10)), .fact 902006 (.cst (u1 6) (Fact.isv 16)), .fact 100015 (.at 15 (.rep [] (a1 : Int))), .fact 100029 (.at 29 (.rep [] x13.At)), .fact 100030 (.at 30 (.rep [24] x13.Data)), .fact 100011 (.at 11 (.isv 25)), .fact 100013 (.at 13 (.rep [] x2.Dead)), .fact 100017 (.at 17 (.nilv)), .fact 100018 (.at 18 (.nilv)), .fact 100019 (.at 19 (.rep [] (false : Bool))), .fact 100014 (.obj 14 [(false, 1)]), .fact 100028 (.obj 28 [(false, 1), (false, 1)]), .fact 100010 (.obj 10 [(false, 1), (false, 1), (false, 1)]), .fact 100016 (.obj 16 [(false, 1), (false, 1), (false, 1)]), .fact 100025 (.own 25 [22, 26] 28 ((x2.Blocks).set x4 x3 : List (List UInt8)))]) (fun p : Unit => disk_Fua_J4 a1 s7 s8 s9 x13 = some c10) (fun u2 => [.fact 100011 (.at 11 (.isv 25)), .fact 100013 (.at 13 (.rep [] x2.Dead)), .fact 100015 (.at 15 (.rep [] (a1 : Int))), .fact 100017 (.at 17 (.nilv)), .fact 100018 (.at 18 (.nilv)), .fact 100019 (.at 19 (.rep [] (false : Bool))), .fact 100029 (.at 29 (.rep [] x13.At)), .fact 100030 (.at 30 (.rep [24] x13.Data)), .fact 902003 (.cst (u1 3) (Fact.isv 10)), .fact 902006 (.cst (u1 6) (Fact.isv 16)), .fact 904000 (.cst (u2 0) (Fact.ow [23, 34] [24] 59 (s7 : List Write))), .fact 904001 (.cst (u2 1) (Fact.fnv 59 [] [Fact.isv 14])), .fact 904005 (.cst (u2 5) (Fact.rep [] (s8 : Int))), .fact 904006 (.cst (u2 6) (Fact.rep [] (s9 : Int))), .fact 904007 (.cst (u2 7) (Fact.isv 28)), .fact 100014 (.obj 14 [(false, 1)]), .fact 100010 (.obj 10 [(false, 1), (false, 1), (false, 1)]), .fact 100016 (.obj 16 [(false, 1), (false, 1), (false, 1)]), .fact 100025 (.own 25 [22, 26] 28 ((x2.Blocks).set x4 x3 : List (List UInt8))), .fact 100028 (.obj 28 [(false, 1), (false, 1)])]) (FA := [Fact.flds [(false, 1, Fact.rep [] x13.At), (false, 1, Fact.rep [24] x13.Data)], Fact.isv 14]) rfl Try.func59 rfl rfl rfl (CallOk.valE en59 (Has.s rfl) (HasF.cons (Has.s rfl) HasF.nil)) (fun u2 => (ck (ck (ck (ck (ck (ck (ck (ck (ck (ck (cs 904000 0 (cs 904000 1 (cs 904000 5 (cs 904000 6 (cs 904000 7 (ck (ck (ck (ck (ck Carry.nil))))))))))))))))))))) (fun u2 => ?_) ?_
       ·refine CWalk.seq ?_
        refine CWalk.region ?_
        refine ws (Step.boxObj (ls := [(false, 1, Fact.rep [] x13.At), (false, 1, Fact.rep [24] x13.Data)]) 31 rfl rfl rfl rfl (HasL.flds (Has.s rfl))) ?_
        refine wo (Spec.assign Has.bool) ?_
        refine Walk.nil ?_
        refine Leaf.thenN ?_
        refine CWalk.seq ?_
        refine CWalk.region ?_
        refine wo (Spec.fieldAddrO fd59_0 (Has.cv (Has.s rfl) (Cv.isvP rfl))) ?_
        refine wo (Spec.loadF (i := 0) ty3 rfl (Has.s rfl) rfl (HasG.s rfl)) ?_
        refine wo (Spec.loadF (i := 0) ty3 rfl (Has.cv (Has.s rfl) (Cv.isvP rfl)) rfl (HasG.s rfl)) ?_
        refine wo (Spec.eqlI (Has.s rfl) (Has.s rfl)) ?_
        refine wo (Spec.assign (Has.s rfl)) ?_
        refine Walk.nil ?_
        refine Leaf.thenN ?_
        refine CWalk.ret ?_
        exact Leaf.in1 () hm rfl rfl (HasR.cv (HasR.tmp (Has.s rfl)) Cv.fl) (Low.slot rfl (HasC.cv (HasC.s (s := 904000) rfl) (Cv.owM (T := [23, 34]) (te := [24]) rfl rfl)) (ls 904001 (Low.slot rfl (HasC.cv (HasC.s (s := 904005) rfl) Cv.fl) (Low.slot rfl (HasC.cv (HasC.s (s := 904006) rfl) Cv.fl) (ls 904007 (Low.res (lc (lc (lf (lf (lm (lg (lf (lg (lg (lf (lo (lo (lo (lo (Low.keepR (fun _ _ _ _ h => h) (Has.ownM (Has.s rfl) rfl) Low.nil)))))))))))))))))))))
       ·rintro _ hm
        replace hm : disk_Fua_J4 a1 s7 s8 s9 x13 = some c10 := hm
        unfold disk_Fua_J4 at hm
        show Walk _ _ _ [.fact 0 (.ow [23, 34] [24] 59 (s7 : List Write)), .fact 1 (.fnv 59 [] [Fact.isv 14]), .fact 5 (.rep [] (s8 : Int)), .fact 6 (.rep [] (s9 : Int)), .fact 7 (.isv 28), .fact 28 (.rep [] ((x13.At == a1) : Bool)), .fact 902003 (.cst (u1 3) (Fact.isv 10)), .fact 902006 (.cst (u1 6) (Fact.isv 16)), .fact 100015 (.at 15 (.rep [] (a1 : Int))), .fact 100029 (.at 29 (.rep [] x13.At)), .fact 100030 (.at 30 (.rep [24] x13.Data)), .fact 100011 (.at 11 (.isv 25)), .fact 100013 (.at 13 (.rep [] x2.Dead)), .fact 100017 (.at 17 (.nilv)), .fact 100018 (.at 18 (.nilv)), .fact 100019 (.at 19 (.rep [] (false : Bool))), .fact 100014 (.obj 14 [(false, 1)]), .fact 100028 (.obj 28 [(false, 1), (false, 1)]), .fact 100010 (.obj 10 [(false, 1), (false, 1), (false, 1)]), .fact 100016 (.obj 16 [(false, 1), (false, 1), (false, 1)]), .fact 100025 (.own 25 [22, 26] 28 ((x2.Blocks).set x4 x3 : List (List UInt8)))] _
        refine wo (Spec.not (Has.s rfl)) ?_
        refine Walk.nil ?_
        refine Leaf.thenN ?_
        refine CWalk.cond rfl (fun hb => ?_) (fun hb => ?_)
        ·have hm := cond_t hb hm
         refine CWalk.seq ?_
         refine CWalk.ad (Ad.ow (s := 0) 34 rfl rfl (ElT.tags rfl) rfl (Cv.owM (T := [23, 34]) (te := [24]) (T' := [23, 34]) (te' := [24]) rfl rfl)) ?_
         refine CWalk.region ?_
         refine mv ?_
         refine mv ?_
         refine wo (Spec.loadObj (ls := [(false, 1, Fact.rep [] x13.At), (false, 1, Fact.rep [24] x13.Data)]) ty59 rfl rfl (Has.s rfl) rfl (HasGs.cons (HasG.s rfl) (HasGs.cons (HasG.s rfl) HasGs.nil))) ?_
         obtain ⟨x14, hx14, hm⟩ := bind_some hm
         refine wo (Spec.idxOwn hx14 ow23 (Has.s rfl) rfl (Has.s rfl)) ?_
         refine ws (Step.storeOwn (te' := [24]) rfl (bnd_lt hx14 rfl) ty59 (Has.s rfl) rfl (Has.cv (Has.s rfl) (Cv.trans (Cv.flds (CvL.cons Cv.fl (CvL.cons (Cv.m rfl) CvL.nil))) (Cv.close (T := [24]) (chWrite x13)))) (ElKeep.tags rfl rfl) (ElKeep.tags rfl rfl)) ?_
         refine Walk.nil ?_
         refine Leaf.thenN ?_
         refine CWalk.region ?_
         refine mv ?_
         refine wo (Spec.addI (Has.s rfl) Has.int) ?_
         refine wo (Spec.assign (Has.s rfl)) ?_
         refine Walk.nil ?_
         refine Leaf.blockN ?_
         exact Leaf.join ((s7).set x14 x13, (wI (s8 + (1 : Int)))) hm (Sub.cons (Has.cv (Has.s rfl) (Cv.trans (Cv.isvOw rfl) (Cv.owM (T := [34]) (te := [24]) rfl rfl))) (sn (st (st (sc (sc (sf (sg (sf (sg (sg (sf (sn (sn (sn (Sub.cons (Has.ownM (Has.s rfl) rfl) Sub.nil))))))))))))))))
        ·have hm := cond_f hb hm
         refine CWalk.skip ?_
         refine Leaf.blockN ?_
         exact Leaf.join (s7, s8) hm (Sub.cons (Has.cv (Has.s rfl) (Cv.owM (T := [23, 34]) (te := [24]) rfl rfl)) (sn (st (st (sc (sc (sf (sg (sf (sg (sg (sf (sn (sn (sn (Sub.cons (Has.ownM (Has.s rfl) rfl) Sub.nil))))))))))))))))
     ·have hm := cond_f hb hm
      refine CWalk.exit ?_
      refine Leaf.thenE ?_
      exact Leaf.brk hm (fun h => nomatch h) rfl (Sub.cons (Has.cv (Has.s rfl) (Cv.owM (T := [23, 34]) (te := [24]) rfl rfl)) (st (sc (sc (sg (sf (sg (sg (sf (sn (sn (Sub.cons (Has.ownM (Has.s rfl) rfl) Sub.nil))))))))))))
    ·intro _
     refine Leaf.blockE ?_
     refine Leaf.thenN ?_
     refine CWalk.seq ?_
     refine CWalk.ad (Ad.ow (s := 0) 35 rfl rfl (ElT.tags rfl) rfl (Cv.owM (T := [23, 34]) (te := [24]) (T' := [23, 34]) (te' := [24]) rfl rfl)) ?_
     refine CWalk.region ?_
     refine mv ?_
     refine mv ?_
     obtain ⟨x16, hx16, hm⟩ := bind_some hm
     refine wo (Spec.slcWin hx16 ow23 (Has.s rfl) rfl (Has.s rfl)) ?_
     refine ws (Step.clearWin (te' := [24]) ow23 zt59 rfl (Has.s rfl) rfl (ElKeep.tags rfl rfl)) ?_
     refine Walk.nil ?_
     refine Leaf.thenN ?_
     refine CWalk.seq ?_
     refine CWalk.region ?_
     refine mv ?_
     refine mv ?_
     obtain ⟨x17, hx17, hm⟩ := bind_some hm
     refine wo (Spec.slcHiOw hx17 ow23 (Has.cv (Has.s rfl) (Cv.isvOw rfl)) (Has.s rfl)) ?_
     refine wo (Spec.assign (Has.s rfl)) ?_
     refine Walk.nil ?_
     refine Leaf.thenN ?_
     refine CWalk.ret ?_
     exact Leaf.in1 x17 hm rfl rfl (HasR.cv (HasR.tmp (Has.s rfl)) (Cv.owM (T := [35]) (te := [24]) rfl rfl)) (ls 902003 (ls 902006 (Low.res (lg (lf (lg (lg (lf (lo (lo (Low.keepR (fun _ _ _ _ h => h) (Has.ownM (Has.s rfl) rfl) Low.nil)))))))))))
  ·rintro j5 hm
   replace hm : disk_Fua_J1 x2 x3 x4 j5 = some r := hm
   unfold disk_Fua_J1 at hm
   show Walk _ _ _ [.fact 3 (.isv 10), .fact 6 (.isv 16), .fact 28 (.ow [23, 35] [24] 59 (j5 : List Write)), .fact 100011 (.at 11 (.isv 25)), .fact 100013 (.at 13 (.rep [] x2.Dead)), .fact 100017 (.at 17 (.nilv)), .fact 100018 (.at 18 (.nilv)), .fact 100019 (.at 19 (.rep [] (false : Bool))), .fact 100010 (.obj 10 [(false, 1), (false, 1), (false, 1)]), .fact 100016 (.obj 16 [(false, 1), (false, 1), (false, 1)]), .fact 100025 (.own 25 [22, 26] 28 ((x2.Blocks).set x4 x3 : List (List UInt8)))] _
   refine wo (Spec.fieldAddrO fd25_1 (Has.cv (Has.s rfl) (Cv.isvP rfl))) ?_
   refine ws (Step.storeF (i := 1) (f := Fact.ow [23, 35] [24] 59 (j5 : List Write)) rfl ty23 rfl (Has.s rfl) rfl (Has.cv (Has.s rfl) (Cv.trans Cv.owSl (Cv.slRep (T' := [23, 24, 35]) rfl rfl))) (Has.s rfl) rfl) ?_
   refine Walk.nil ?_
   refine Leaf.thenN ?_
   refine CWalk.seq ?_
   refine CWalk.region ?_
   refine wo (Spec.loadObj (ls := [(false, 1, Fact.isv 25), (false, 1, Fact.ow [23, 35] [24] 59 (j5 : List Write)), (false, 1, Fact.rep [] x2.Dead)]) ty25 rfl rfl (Has.s rfl) rfl (HasGs.cons (HasG.s rfl) (HasGs.cons (HasG.s rfl) (HasGs.cons (HasG.s rfl) HasGs.nil)))) ?_
   refine ws (Step.storeObj (ls := [(false, 1, Fact.isv 25), (false, 1, Fact.ow [23, 35] [24] 59 (j5 : List Write)), (false, 1, Fact.rep [] x2.Dead)]) rfl ty25 rfl rfl (Has.s rfl) rfl (HasL.flds (Has.s rfl)) rfl) ?_
   refine wo (Spec.assign Has.int) ?_
   refine Walk.nil ?_
   refine Leaf.thenN ?_
   refine CWalk.ret ?_
   obtain rfl := Option.some.inj hm
   exact Leaf.retC2 rfl (HasR.cv (HasR.obj (ls := [(false, 1, Fact.isv 25), (false, 1, Fact.ow [23, 35] [24] 59 (j5 : List Write)), (false, 1, Fact.rep [] x2.Dead)]) ty25 rfl rfl (Has.s rfl) rfl (HasGs.cons (HasG.s rfl) (HasGs.cons (HasG.s rfl) (HasGs.cons (HasG.s rfl) HasGs.nil)))) (Cv.flds (CvL.cons (Cv.trans (Cv.isvOw rfl) (Cv.owM (T := [25]) (te := [22, 26]) rfl rfl)) (CvL.cons (Cv.owM (T := [23, 35]) (te := [24]) rfl rfl) (CvL.cons Cv.fl CvL.nil))))) (HasR.cv (HasR.tmp (Has.s rfl)) Cv.fl)

/-- freeboard/disk.Lasting -/
def disk_Lasting (a0 : Disk) (a1 : Int) : Option ((List UInt8) × Int) :=
  Option.bind (disk_place a0 a1) (fun x1 => (bif (x1 != (0 : Int)) then some (([] : List UInt8), x1) else (bif a0.Dead then some (([] : List UInt8), (40 : Int)) else Option.bind (idx a0.Blocks a1) (fun x2 => Option.bind (disk_block x2) (fun x3 => some (x3, (0 : Int)))))))
set_option maxRecDepth 100000 in
set_option maxHeartbeats 2000000 in
theorem disk_Lasting_c (a0 : Disk) (a1 : Int) {r : (List UInt8) × Int} (hm : disk_Lasting a0 a1 = some r) : Ctr Try.prog 13 [.rep 0 a0, .rep 0 a1] (.tup2 (.own 0 none 5 r.1) (.fl r.2)) [] := by
 refine ctr_of_walk [[15]] 21 Try.func13 rfl rfl rfl rfl (fun w0 om => ?_)
 unfold disk_Lasting at hm
 refine CWalk.sub (G' := [.fact 0 (.rep [0] (a0 : Disk)), .fact 1 (.rep [] (a1 : Int))]) (sn (Sub.cons (Has.fl (Has.s rfl)) Sub.nil)) ?_
 refine CWalk.seq ?_
 refine CWalk.region ?_
 refine ws (Step.boxObj (ls := [(false, 1, Fact.rep [0] a0.Blocks), (false, 1, Fact.rep [0] a0.Wait), (false, 1, Fact.rep [] a0.Dead)]) 10 rfl rfl rfl rfl (HasL.flds (Has.cv (Has.s rfl) (Cv.trans (Cv.opens (chDisk a0)) (Cv.flds (CvL.cons Cv.refl (CvL.cons Cv.refl (CvL.cons Cv.fl CvL.nil)))))))) ?_
 refine wo (Spec.assign Has.nilv) ?_
 refine wo (Spec.assign Has.int) ?_
 refine Walk.nil ?_
 refine Leaf.thenN ?_
 refine CWalk.seq ?_
 refine CWalk.seq ?_
 refine CWalk.region ?_
 refine wo (Spec.loadObj (ls := [(false, 1, Fact.rep [0] a0.Blocks), (false, 1, Fact.rep [0] a0.Wait), (false, 1, Fact.rep [] a0.Dead)]) ty25 rfl rfl (Has.s rfl) rfl (HasGs.cons (HasG.s rfl) (HasGs.cons (HasG.s rfl) (HasGs.cons (HasG.s rfl) HasGs.nil)))) ?_
 refine mv ?_
 obtain ⟨x1, hx1, hm⟩ := bind_some hm
 refine wo (f := Fact.rep [] (x1 : Int)) (Spec.callE [0] 14 rfl en40 (disk_place_c a0 a1 hx1) (HasAll.cons (Has.m (Has.cv (Has.s rfl) (Cv.trans (Cv.flds (CvL.cons (Cv.m rfl) (CvL.cons (Cv.m rfl) (CvL.cons Cv.fl CvL.nil)))) (Cv.close (T := [0]) (chDisk a0)))) rfl) (HasAll.cons (Has.fl (Has.s rfl)) HasAll.nil))) ?_
 refine wo (Spec.assign (Has.s rfl)) ?_
 refine Walk.nil ?_
 refine Leaf.thenN ?_
 refine CWalk.seq ?_
 refine CWalk.region ?_
 refine mv ?_
 refine wo (Spec.neqI (Has.s rfl) Has.int) ?_
 refine Walk.nil ?_
 refine Leaf.thenN ?_
 refine CWalk.cond rfl (fun hb => ?_) (fun hb => ?_)
 ·have hm := cond_t hb hm
  refine CWalk.seq ?_
  refine CWalk.region ?_
  refine mv ?_
  refine wo (Spec.assign Has.nilv) ?_
  refine wo (Spec.assign (Has.s rfl)) ?_
  refine Walk.nil ?_
  refine Leaf.thenN ?_
  refine CWalk.ret ?_
  refine Leaf.thenR ?_
  obtain rfl := Option.some.inj hm
  exact Leaf.retC2 rfl (HasR.cv (HasR.tmp (Has.s rfl)) (Cv.trans Cv.nilOw (Cv.owF (T := []) (te := []) rfl))) (HasR.cv (HasR.tmp (Has.s rfl)) Cv.fl)
 ·have hm := cond_f hb hm
  refine CWalk.skip ?_
  refine Leaf.thenN ?_
  refine CWalk.seq ?_
  refine CWalk.seq ?_
  refine CWalk.region ?_
  refine wo (Spec.fieldAddrO fd25_2 (Has.cv (Has.s rfl) (Cv.isvP rfl))) ?_
  refine wo (Spec.loadF (i := 2) ty4 rfl (Has.s rfl) rfl (HasG.s rfl)) ?_
  refine Walk.nil ?_
  refine Leaf.thenN ?_
  refine CWalk.cond rfl (fun hb => ?_) (fun hb => ?_)
  ·have hm := cond_t hb hm
   refine CWalk.seq ?_
   refine CWalk.region ?_
   refine wo (Spec.assign Has.nilv) ?_
   refine wo (Spec.assign Has.int) ?_
   refine Walk.nil ?_
   refine Leaf.thenN ?_
   refine CWalk.ret ?_
   refine Leaf.thenR ?_
   obtain rfl := Option.some.inj hm
   exact Leaf.retC2 rfl (HasR.cv (HasR.tmp (Has.s rfl)) (Cv.trans Cv.nilOw (Cv.owF (T := []) (te := []) rfl))) (HasR.cv (HasR.tmp (Has.s rfl)) Cv.fl)
  ·have hm := cond_f hb hm
   refine CWalk.skip ?_
   refine Leaf.thenN ?_
   refine CWalk.seq ?_
   refine CWalk.region ?_
   refine wo (Spec.fieldAddrO fd25_0 (Has.cv (Has.s rfl) (Cv.isvP rfl))) ?_
   refine wo (Spec.loadF (i := 0) ty22 rfl (Has.s rfl) rfl (HasG.s rfl)) ?_
   refine mv ?_
   obtain ⟨x2, hx2, hm⟩ := bind_some hm
   refine wo (Spec.indexAddr hx2 sl22 (Has.s rfl) (Has.s rfl)) ?_
   refine wo (Spec.load ty28 (Has.s rfl)) ?_
   obtain ⟨x3, hx3, hm⟩ := bind_some hm
   refine wo (f := Fact.ow [15] [] 5 (x3 : List UInt8)) (Spec.callE [0] 15 rfl en37 (disk_block_c x2 hx3) (HasAll.cons (Has.m (Has.s rfl) rfl) HasAll.nil)) ?_
   refine wo (Spec.assign (Has.s rfl)) ?_
   refine wo (Spec.assign Has.int) ?_
   refine Walk.nil ?_
   refine Leaf.thenN ?_
   refine CWalk.ret ?_
   obtain rfl := Option.some.inj hm
   exact Leaf.retC2 rfl (HasR.cv (HasR.tmp (Has.s rfl)) (Cv.owF (T := [15]) (te := []) rfl)) (HasR.cv (HasR.tmp (Has.s rfl)) Cv.fl)

def disk_Read_L2 (a0 : Disk) (a1 : Int) (s2 : Int) : Option (Ctl (Int) ((Unit) ⊕ ((List UInt8)))) :=
  (bif (decide (s2 ≥ (0 : Int))) then Option.bind (idx a0.Wait s2) (fun x4 => (bif (x4.At == a1) then Option.bind (disk_block x4.Data) (fun x5 => some (Ctl.brk (Sum.inr x5))) else some (Ctl.next (wI (s2 - (1 : Int)))))) else some (Ctl.brk (Sum.inl ())))
def disk_Read_J1 (a0 : Disk) (a1 : Int) (x1 : (List UInt8) × Int) : Option ((List UInt8) × Int) :=
  Option.bind (loopM (fun s : Int => disk_Read_L2 a0 a1 s) FUEL (wI (((a0.Wait).length : Int) - (1 : Int)))) (fun b6 => Sum.elim (fun b7 => some (x1.1, (0 : Int))) (fun b8 => some (b8, (0 : Int))) b6)
/-- freeboard/disk.Read -/
def disk_Read (a0 : Disk) (a1 : Int) : Option ((List UInt8) × Int) :=
  Option.bind (disk_Lasting a0 a1) (fun x1 => (bif (x1.2 != (0 : Int)) then some (([] : List UInt8), x1.2) else (disk_Read_J1 a0 a1 x1)))
set_option maxRecDepth 100000 in
set_option maxHeartbeats 2000000 in
theorem disk_Read_c (a0 : Disk) (a1 : Int) {r : (List UInt8) × Int} (hm : disk_Read a0 a1 = some r) : Ctr Try.prog 11 [.rep 0 a0, .rep 0 a1] (.tup2 (.own 0 none 5 r.1) (.fl r.2)) [] := by
 refine ctr_of_walkM [[20, 28]] 32 Try.func11 rfl rfl rfl rfl (fun w0 om => ?_)
 unfold disk_Read at hm
 refine CWalk.sub (G' := [.fact 0 (.rep [0] (a0 : Disk)), .fact 1 (.rep [] (a1 : Int))]) (sn (Sub.cons (Has.fl (Has.s rfl)) Sub.nil)) ?_
 refine CWalk.seq ?_
 refine CWalk.region ?_
 refine ws (Step.boxObj (ls := [(false, 1, Fact.rep [0] a0.Blocks), (false, 1, Fact.rep [0] a0.Wait), (false, 1, Fact.rep [] a0.Dead)]) 10 rfl rfl rfl rfl (HasL.flds (Has.cv (Has.s rfl) (Cv.trans (Cv.opens (chDisk a0)) (Cv.flds (CvL.cons Cv.refl (CvL.cons Cv.refl (CvL.cons Cv.fl CvL.nil)))))))) ?_
 refine ws (Step.boxObj (ls := [(false, 1, Fact.rep [] (a1 : Int))]) 14 rfl rfl rfl rfl (HasL.one (Has.s rfl) rfl (Has.s rfl))) ?_
 refine ws (Step.allocObj (ls := [(false, 1, Fact.nilv)]) 16 rfl rfl rfl rfl zl28) ?_
 refine ws (Step.allocObj (ls := [(false, 1, Fact.rep [] ((0 : Int) : Int))]) 18 rfl rfl rfl rfl zl29) ?_
 refine Walk.nil ?_
 refine Leaf.thenN ?_
 refine CWalk.seq ?_
 refine CWalk.region ?_
 refine wo (Spec.loadObj (ls := [(false, 1, Fact.rep [0] a0.Blocks), (false, 1, Fact.rep [0] a0.Wait), (false, 1, Fact.rep [] a0.Dead)]) ty25 rfl rfl (Has.s rfl) rfl (HasGs.cons (HasG.s rfl) (HasGs.cons (HasG.s rfl) (HasGs.cons (HasG.s rfl) HasGs.nil)))) ?_
 refine wo (Spec.loadF (i := 0) ty3 rfl (Has.cv (Has.s rfl) (Cv.isvP rfl)) rfl (HasG.s rfl)) ?_
 obtain ⟨x1, hx1, hm⟩ := bind_some hm
 refine wo (f := Fact.tup2 (Fact.ow [20] [] 5 (x1.1 : List UInt8)) (Fact.rep [] x1.2)) (Spec.callE [0] 20 rfl en13 (disk_Lasting_c a0 a1 hx1) (HasAll.cons (Has.m (Has.cv (Has.s rfl) (Cv.trans (Cv.flds (CvL.cons (Cv.m rfl) (CvL.cons (Cv.m rfl) (CvL.cons Cv.fl CvL.nil)))) (Cv.close (T := [0]) (chDisk a0)))) rfl) (HasAll.cons (Has.fl (Has.s rfl)) HasAll.nil))) ?_
 refine mv ?_
 refine wo (Spec.ext0 (Has.s rfl)) ?_
 refine wo (Spec.ext1 (Has.s rfl)) ?_
 refine wo (Spec.assign (Has.s rfl)) ?_
 refine wo (Spec.assign (Has.s rfl)) ?_
 refine Walk.nil ?_
 refine Leaf.thenN ?_
 refine CWalk.seq ?_
 refine CWalk.seq ?_
 refine CWalk.region ?_
 refine mv ?_
 refine wo (Spec.neqI (Has.s rfl) Has.int) ?_
 refine Walk.nil ?_
 refine Leaf.thenN ?_
 refine CWalk.cond rfl (fun hb => ?_) (fun hb => ?_)
 ·have hm := cond_t hb hm
  refine CWalk.seq ?_
  refine CWalk.region ?_
  refine mv ?_
  refine ws (Step.storeF (i := 0) (f := Fact.nilv) rfl ty28 rfl (Has.cv (Has.s rfl) (Cv.isvP rfl)) rfl (Has.cv Has.nilv (Cv.nil (T := []))) Has.nilv rfl) ?_
  refine ws (Step.storeF (i := 0) (f := Fact.rep [] x1.2) rfl ty29 rfl (Has.cv (Has.s rfl) (Cv.isvP rfl)) rfl (Has.s rfl) (Has.s rfl) rfl) ?_
  refine Walk.nil ?_
  refine Leaf.thenN ?_
  refine CWalk.ret ?_
  refine Leaf.thenR ?_
  obtain rfl := Option.some.inj hm
  exact Leaf.retM (Leaf.retC2 rfl (HasR.cv (HasR.cell1 ty28 rfl (Has.s rfl) rfl (HasG.s rfl)) (Cv.trans Cv.nilOw (Cv.owF (T := []) (te := []) rfl))) (HasR.cv (HasR.cell1 ty29 rfl (Has.s rfl) rfl (HasG.s rfl)) Cv.fl))
 ·have hm := cond_f hb hm
  refine CWalk.skip ?_
  refine Leaf.thenN ?_
  refine CWalk.seq ?_
  refine CWalk.seq ?_
  refine CWalk.region ?_
  refine wo (Spec.fieldAddrO fd25_1 (Has.cv (Has.s rfl) (Cv.isvP rfl))) ?_
  refine wo (Spec.loadF (i := 1) ty23 rfl (Has.s rfl) rfl (HasG.s rfl)) ?_
  refine Walk.inline (S := Unit) (fun p : Unit => [.fact 3 (.isv 14), .fact 4 (.isv 16), .fact 5 (.isv 18), .fact 6 (.ow [20] [] 5 (x1.1 : List UInt8)), .fact 21 (.fnv 62 [] [Fact.isv 21]), .fact 100015 (.at 15 (.rep [] (a1 : Int))), .fact 100017 (.at 17 (.nilv)), .fact 100019 (.at 19 (.rep [] ((0 : Int) : Int))), .fact 100022 (.at 22 (.rep [0] a0.Wait)), .fact 100014 (.obj 14 [(false, 1)]), .fact 100016 (.obj 16 [(false, 1)]), .fact 100018 (.obj 18 [(false, 1)]), .fact 100021 (.obj 21 [(false, 1)])]) (fun p : Unit => disk_Read_J1 a0 a1 x1 = some r) (fun u1 => [.fact 100015 (.at 15 (.rep [] (a1 : Int))), .fact 100017 (.at 17 (.nilv)), .fact 100019 (.at 19 (.rep [] ((0 : Int) : Int))), .fact 902003 (.cst (u1 3) (Fact.isv 14)), .fact 902004 (.cst (u1 4) (Fact.isv 16)), .fact 902005 (.cst (u1 5) (Fact.isv 18)), .fact 902006 (.cst (u1 6) (Fact.ow [20] [] 5 (x1.1 : List UInt8))), .fact 100014 (.obj 14 [(false, 1)]), .fact 100016 (.obj 16 [(false, 1)]), .fact 100018 (.obj 18 [(false, 1)])]) (FA := [Fact.rep [0] a0.Wait]) rfl Try.func36 rfl rfl rfl (CallOk.fn en36 (HasF.cons (Has.s rfl) HasF.nil)) (fun u1 => (ck (ck (ck (cs 902000 3 (cs 902000 4 (cs 902000 5 (cs 902000 6 (ck (ck (ck Carry.nil))))))))))) (fun u1 => ?_) ?_
  ·refine CWalk.seq ?_
   refine CWalk.region ?_
   refine ws (Step.boxObj (ls := [(false, 1, Fact.rep [0] a0.Wait)]) 21 rfl rfl rfl rfl (HasL.one (Has.s rfl) rfl (Has.s rfl))) ?_
   refine wo (Spec.assign Has.top) ?_
   refine Walk.nil ?_
   refine Leaf.thenN ?_
   refine CWalk.seq ?_
   refine CWalk.region ?_
   refine wo (Spec.makeFunc (xs := []) (ys := [.tmp 1]) rfl rfl HasF.nil (HasF.cons (Has.s rfl) HasF.nil) (fun _ _ _ => rfl)) ?_
   refine wo (Spec.assign (Has.s rfl)) ?_
   refine Walk.nil ?_
   refine Leaf.thenN ?_
   refine CWalk.ret ?_
   exact Leaf.in1 () hm rfl rfl (HasR.tmp (Has.s rfl)) (ls 902003 (ls 902004 (ls 902005 (Low.slot rfl (HasC.cv (HasC.s (s := 902006) rfl) (Cv.owF (T := [20]) (te := []) rfl)) (Low.res (lf (lg (lf (lm (lo (lo (lo (lo Low.nil)))))))))))))
  ·rintro _ hm
   replace hm : disk_Read_J1 a0 a1 x1 = some r := hm
   unfold disk_Read_J1 at hm
   show Walk _ _ _ [.fact 3 (.isv 14), .fact 4 (.isv 16), .fact 5 (.isv 18), .fact 6 (.ow [20] [] 5 (x1.1 : List UInt8)), .fact 21 (.fnv 62 [] [Fact.isv 21]), .fact 100015 (.at 15 (.rep [] (a1 : Int))), .fact 100017 (.at 17 (.nilv)), .fact 100019 (.at 19 (.rep [] ((0 : Int) : Int))), .fact 100022 (.at 22 (.rep [0] a0.Wait)), .fact 100014 (.obj 14 [(false, 1)]), .fact 100016 (.obj 16 [(false, 1)]), .fact 100018 (.obj 18 [(false, 1)]), .fact 100021 (.obj 21 [(false, 1)])] _
   refine Walk.nil ?_
   refine Leaf.thenN ?_
   refine CWalk.block ?_
   refine CWalk.rangeFunc (cs := [Fact.isv 21]) 23 (fun u1 => [.fact 902003 (.cst (u1 3) (Fact.isv 14)), .fact 902004 (.cst (u1 4) (Fact.isv 16)), .fact 902005 (.cst (u1 5) (Fact.isv 18)), .fact 902006 (.cst (u1 6) (Fact.ow [20] [] 5 (x1.1 : List UInt8))), .fact 902021 (.cst (u1 21) (Fact.fnv 62 [] [Fact.isv 21])), .fact 100015 (.at 15 (.rep [] (a1 : Int))), .fact 100017 (.at 17 (.nilv)), .fact 100019 (.at 19 (.rep [] ((0 : Int) : Int))), .fact 100022 (.at 22 (.rep [0] a0.Wait)), .fact 100014 (.obj 14 [(false, 1)]), .fact 100016 (.obj 16 [(false, 1)]), .fact 100018 (.obj 18 [(false, 1)]), .fact 100021 (.obj 21 [(false, 1)])]) rfl rfl rfl rfl Try.func62 rfl rfl en62 rfl (fun u1 => (cs 902000 3 (cs 902000 4 (cs 902000 5 (cs 902000 6 (cs 902000 21 (ck (ck (ck (ck (ck (ck (ck (ck Carry.nil)))))))))))))) (fun u1 rr1 hrr1 => ?_)
   refine CWalk.seq ?_
   refine CWalk.region ?_
   refine wo (Spec.loadF (i := 0) ty23 rfl (Has.cv (Has.s rfl) (Cv.isvP rfl)) rfl (HasG.s rfl)) ?_
   refine wo (Spec.len (Has.s rfl) Try.underlying23) ?_
   refine wo (Spec.subI (Has.s rfl) Has.int) ?_
   refine wo (Spec.assign (Has.s rfl)) ?_
   refine Walk.nil ?_
   refine Leaf.thenN ?_
   refine CWalk.block ?_
   obtain ⟨b6, hb6, hm⟩ := bind_some hm
   refine CWalk.loop (fun s : Int => [.fact 0 (.yv rr1.l), .fact 1 (.isv 21), .fact 3 (.rep [] (s : Int)), .fact 902003 (.cst (u1 3) (Fact.isv 14)), .fact 902004 (.cst (u1 4) (Fact.isv 16)), .fact 902005 (.cst (u1 5) (Fact.isv 18)), .fact 902006 (.cst (u1 6) (Fact.ow [20] [] 5 (x1.1 : List UInt8))), .fact 902021 (.cst (u1 21) (Fact.fnv 62 [] [Fact.isv 21])), .fact 100022 (.at 22 (.rep [0] a0.Wait)), .fact 100015 (.at 15 (.rep [] (a1 : Int))), .fact 100017 (.at 17 (.nilv)), .fact 100019 (.at 19 (.rep [] ((0 : Int) : Int))), .fact 100021 (.obj 21 [(false, 1)]), .fact 100014 (.obj 14 [(false, 1)]), .fact 100016 (.obj 16 [(false, 1)]), .fact 100018 (.obj 18 [(false, 1)]), .fact 100023 (.rc 23 rr1 .ready none), .fact 100024 (.dm 24 rr1.D)]) (fun b : (Unit) ⊕ ((List UInt8)) => Sum.elim (fun b => (Exit.exit 0, [.fact 902003 (.cst (u1 3) (Fact.isv 14)), .fact 902004 (.cst (u1 4) (Fact.isv 16)), .fact 902005 (.cst (u1 5) (Fact.isv 18)), .fact 902006 (.cst (u1 6) (Fact.ow [20] [] 5 (x1.1 : List UInt8))), .fact 902021 (.cst (u1 21) (Fact.fnv 62 [] [Fact.isv 21])), .fact 100015 (.at 15 (.rep [] (a1 : Int))), .fact 100017 (.at 17 (.nilv)), .fact 100019 (.at 19 (.rep [] ((0 : Int) : Int))), .fact 100022 (.at 22 (.rep [0] a0.Wait)), .fact 100014 (.obj 14 [(false, 1)]), .fact 100016 (.obj 16 [(false, 1)]), .fact 100018 (.obj 18 [(false, 1)]), .fact 100021 (.obj 21 [(false, 1)]), .fact 100023 (.rc 23 rr1 .ready none), .fact 100024 (.dm 24 rr1.D)])) (fun b => (Exit.ret, [.fact 902003 (.cst (u1 3) (Fact.isv 14)), .fact 902004 (.cst (u1 4) (Fact.isv 16)), .fact 902005 (.cst (u1 5) (Fact.isv 18)), .fact 902006 (.cst (u1 6) (Fact.ow [20] [] 5 (x1.1 : List UInt8))), .fact 902021 (.cst (u1 21) (Fact.fnv 62 [] [Fact.isv 21])), .fact 100015 (.at 15 (.rep [] (a1 : Int))), .fact 100017 (.at 17 (.ow [28] [] 5 (b : List UInt8))), .fact 100019 (.at 19 (.rep [] ((0 : Int) : Int))), .fact 100022 (.at 22 (.rep [0] a0.Wait)), .fact 100014 (.obj 14 [(false, 1)]), .fact 100016 (.obj 16 [(false, 1)]), .fact 100018 (.obj 18 [(false, 1)]), .fact 100021 (.obj 21 [(false, 1)]), .fact 100023 (.rc 23 rr1 (.done) (some .ret)), .fact 100024 (.dm 24 rr1.D)])) b) hb6 (sn (sn (st (sc (sc (sc (Sub.cons (Has.cst (HasC.cv (HasC.s (s := 902006) rfl) (Cv.owF (T := [20]) (te := []) rfl))) (sc (sm (sf (sg (sf (sn (sn (sn (sn (sn (sn Sub.nil)))))))))))))))))) ?_ ?_
   ·rintro s2 c3 hm
    replace hm : disk_Read_L2 a0 a1 s2 = some c3 := hm
    unfold disk_Read_L2 at hm
    show CWalk _ [.fact 0 (.yv rr1.l), .fact 1 (.isv 21), .fact 3 (.rep [] (s2 : Int)), .fact 902003 (.cst (u1 3) (Fact.isv 14)), .fact 902004 (.cst (u1 4) (Fact.isv 16)), .fact 902005 (.cst (u1 5) (Fact.isv 18)), .fact 902006 (.cst (u1 6) (Fact.ow [20] [] 5 (x1.1 : List UInt8))), .fact 902021 (.cst (u1 21) (Fact.fnv 62 [] [Fact.isv 21])), .fact 100022 (.at 22 (.rep [0] a0.Wait)), .fact 100015 (.at 15 (.rep [] (a1 : Int))), .fact 100017 (.at 17 (.nilv)), .fact 100019 (.at 19 (.rep [] ((0 : Int) : Int))), .fact 100021 (.obj 21 [(false, 1)]), .fact 100014 (.obj 14 [(false, 1)]), .fact 100016 (.obj 16 [(false, 1)]), .fact 100018 (.obj 18 [(false, 1)]), .fact 100023 (.rc 23 rr1 .ready none), .fact 100024 (.dm 24 rr1.D)] _ _
    refine CWalk.seq ?_
    refine CWalk.seq ?_
    refine CWalk.region ?_
    refine mv ?_
    refine wo (Spec.geqI (Has.s rfl) Has.int) ?_
    refine Walk.nil ?_
    refine Leaf.thenN ?_
    refine CWalk.cond rfl (fun hb => ?_) (fun hb => ?_)
    ·have hm := cond_t hb hm
     refine CWalk.skip ?_
     refine Leaf.thenN ?_
     refine CWalk.seq ?_
     refine CWalk.block ?_
     refine CWalk.seq ?_
     refine CWalk.region ?_
     refine mv ?_
     refine mv ?_
     refine wo (Spec.loadF (i := 0) ty23 rfl (Has.cv (Has.s rfl) (Cv.isvP rfl)) rfl (HasG.s rfl)) ?_
     refine mv ?_
     obtain ⟨x4, hx4, hm⟩ := bind_some hm
     refine wo (Spec.indexAddr hx4 sl23 (Has.s rfl) (Has.s rfl)) ?_
     refine wo (Spec.load ty59 (Has.s rfl)) ?_
     refine Walk.yieldH (t := 23) (fs := [Fact.rep [] (s2 : Int), Fact.rep [0] (x4 : Write)]) (fun u2 => [.fact 904000 (.cst (u2 0) (Fact.yv rr1.l)), .fact 904001 (.cst (u2 1) (Fact.isv 21)), .fact 904003 (.cst (u2 3) (Fact.rep [] (s2 : Int))), .fact 100015 (.at 15 (.rep [] (a1 : Int))), .fact 100017 (.at 17 (.nilv)), .fact 100019 (.at 19 (.rep [] ((0 : Int) : Int))), .fact 100022 (.at 22 (.rep [0] a0.Wait)), .fact 902003 (.cst (u1 3) (Fact.isv 14)), .fact 902004 (.cst (u1 4) (Fact.isv 16)), .fact 902005 (.cst (u1 5) (Fact.isv 18)), .fact 902006 (.cst (u1 6) (Fact.ow [20] [] 5 (x1.1 : List UInt8))), .fact 902021 (.cst (u1 21) (Fact.fnv 62 [] [Fact.isv 21])), .fact 3 (.isv 14), .fact 4 (.isv 16), .fact 5 (.isv 18), .fact 6 (.ow [20] [] 5 (x1.1 : List UInt8)), .fact 21 (.fnv 62 [] [Fact.isv 21]), .fact 100014 (.obj 14 [(false, 1)]), .fact 100016 (.obj 16 [(false, 1)]), .fact 100018 (.obj 18 [(false, 1)]), .fact 100021 (.obj 21 [(false, 1)]), .fact 100023 (.rc 23 rr1 .ready none), .fact 100024 (.dm 24 rr1.D)]) hrr1 rfl rfl (Has.s rfl) rfl rfl (HasF.cons (Has.s rfl) (HasF.cons (Has.s rfl) HasF.nil)) rfl rfl (fun u2 => (Carry2.slot 904000 0 (Carry2.slot 904000 1 (Carry2.slot 904000 3 (Carry2.keep (Carry2.keep (Carry2.keep (Carry2.keep (Carry2.keep (Carry2.keep (Carry2.keep (Carry2.keep (Carry2.keep (Carry2.low 902003 3 (Carry2.low 902004 4 (Carry2.low 902005 5 (Carry2.low 902006 6 (Carry2.low 902021 21 (Carry2.keep (Carry2.keep (Carry2.keep (Carry2.keep (Carry2.keep (Carry2.keep Carry2.nil)))))))))))))))))))))))) (fun u2 => ?_)
     refine CWalk.region ?_
     refine ws (Step.allocObj (ls := [(false, 1, Fact.rep [] ((0 : Int) : Int)), (false, 1, Fact.nilv)]) 25 rfl rfl rfl rfl zl59) ?_
     refine ws (Step.storeObj (ls := [(false, 1, Fact.rep [] x4.At), (false, 1, Fact.rep [0] x4.Data)]) rfl ty59 rfl rfl (Has.s rfl) rfl (HasL.flds (Has.cv (Has.s rfl) (Cv.trans (Cv.opens (chWrite x4)) (Cv.flds (CvL.cons Cv.fl (CvL.cons Cv.refl CvL.nil)))))) rfl) ?_
     refine Walk.nil ?_
     refine Leaf.begin (t := 23) rfl rfl ?_
     refine CWalk.block ?_
     refine CWalk.seq ?_
     refine CWalk.region ?_
     refine wo (Spec.fieldAddrO fd59_0 (Has.cv (Has.s rfl) (Cv.isvP rfl))) ?_
     refine wo (Spec.loadF (i := 0) ty3 rfl (Has.s rfl) rfl (HasG.s rfl)) ?_
     refine wo (Spec.loadF (i := 0) ty3 rfl (Has.cv (Has.s rfl) (Cv.isvP rfl)) rfl (HasG.s rfl)) ?_
     refine wo (Spec.eqlI (Has.s rfl) (Has.s rfl)) ?_
     refine Walk.nil ?_
     refine Leaf.thenN ?_
     refine CWalk.cond rfl (fun hb => ?_) (fun hb => ?_)
     ·have hm := cond_t hb hm
      refine CWalk.seq ?_
      refine CWalk.region ?_
      refine wo (Spec.fieldAddrO fd59_1 (Has.cv (Has.s rfl) (Cv.isvP rfl))) ?_
      refine wo (Spec.loadF (i := 1) ty28 rfl (Has.s rfl) rfl (HasG.s rfl)) ?_
      obtain ⟨x5, hx5, hm⟩ := bind_some hm
      refine wo (f := Fact.ow [28] [] 5 (x5 : List UInt8)) (Spec.callE [0] 28 rfl en37 (disk_block_c x4.Data hx5) (HasAll.cons (Has.m (Has.s rfl) rfl) HasAll.nil)) ?_
      refine ws (Step.storeF (i := 0) (f := Fact.ow [28] [] 5 (x5 : List UInt8)) rfl ty28 rfl (Has.cv (Has.s rfl) (Cv.isvP rfl)) rfl (Has.cv (Has.s rfl) (Cv.trans Cv.owSl (Cv.slRep (T' := [28]) rfl rfl))) (Has.s rfl) rfl) ?_
      refine ws (Step.storeF (i := 0) (f := Fact.rep [] ((0 : Int) : Int)) rfl ty29 rfl (Has.cv (Has.s rfl) (Cv.isvP rfl)) rfl Has.int Has.int rfl) ?_
      refine Walk.nil ?_
      refine Leaf.thenN ?_
      refine CWalk.ret ?_
      refine Leaf.blockR ?_
      refine Leaf.rdR (t := 23) (J := [.fact 17 (.rep [] (false : Bool)), .fact 100015 (.at 15 (.rep [] (a1 : Int))), .fact 100017 (.at 17 (.ow [28] [] 5 (x5 : List UInt8))), .fact 100019 (.at 19 (.rep [] ((0 : Int) : Int))), .fact 100022 (.at 22 (.rep [0] a0.Wait)), .fact 100026 (.at 26 (.rep [] x4.At)), .fact 100027 (.at 27 (.rep [0] x4.Data)), .fact 902003 (.cst (u1 3) (Fact.isv 14)), .fact 902004 (.cst (u1 4) (Fact.isv 16)), .fact 902005 (.cst (u1 5) (Fact.isv 18)), .fact 902006 (.cst (u1 6) (Fact.ow [20] [] 5 (x1.1 : List UInt8))), .fact 902021 (.cst (u1 21) (Fact.fnv 62 [] [Fact.isv 21])), .fact 0 (.yv rr1.l), .fact 1 (.isv 21), .fact 3 (.rep [] (s2 : Int)), .fact 100014 (.obj 14 [(false, 1)]), .fact 100016 (.obj 16 [(false, 1)]), .fact 100018 (.obj 18 [(false, 1)]), .fact 100021 (.obj 21 [(false, 1)]), .fact 100024 (.dm 24 rr1.D), .fact 100025 (.obj 25 [(false, 1), (false, 1)])]) rfl rfl rfl (Low.res (lg (lg (lg (lg (lg (lg (lc (lc (lc (lc (lc (ls 904000 (ls 904001 (ls 904003 (lo (lo (lo (lo (lk (lo Low.nil))))))))))))))))))))) ?_
      refine wo (Spec.not (Has.s rfl)) ?_
      refine Walk.nil ?_
      refine Leaf.thenN ?_
      refine CWalk.cond rfl (fun hb => ?_) (fun hb => ?_)
      ·skip
       refine CWalk.ret ?_
       refine Leaf.blockR ?_
       refine Leaf.thenR ?_
       exact Leaf.brk hm (fun h => nomatch h) rfl (sc (sc (sc (Sub.cons (Has.cst (HasC.cv (HasC.s (s := 902006) rfl) (Cv.owF (T := [20]) (te := []) rfl))) (sc (sf (Sub.cons (Has.at (HasG.cv (HasG.s rfl) (Cv.owF (T := [28]) (te := []) rfl))) (sf (sm (sn (sn (sn (sn (sn (sn Sub.nil)))))))))))))))
      ·exact absurd hb (by decide)
     ·have hm := cond_f hb hm
      refine CWalk.skip ?_
      refine Leaf.blockN ?_
      refine Leaf.rdN (t := 23) (J := [.fact 17 (.rep [] (true : Bool)), .fact 100015 (.at 15 (.rep [] (a1 : Int))), .fact 100017 (.at 17 (.nilv)), .fact 100019 (.at 19 (.rep [] ((0 : Int) : Int))), .fact 100022 (.at 22 (.rep [0] a0.Wait)), .fact 100026 (.at 26 (.rep [] x4.At)), .fact 100027 (.at 27 (.rep [0] x4.Data)), .fact 902003 (.cst (u1 3) (Fact.isv 14)), .fact 902004 (.cst (u1 4) (Fact.isv 16)), .fact 902005 (.cst (u1 5) (Fact.isv 18)), .fact 902006 (.cst (u1 6) (Fact.ow [20] [] 5 (x1.1 : List UInt8))), .fact 902021 (.cst (u1 21) (Fact.fnv 62 [] [Fact.isv 21])), .fact 0 (.yv rr1.l), .fact 1 (.isv 21), .fact 3 (.rep [] (s2 : Int)), .fact 100014 (.obj 14 [(false, 1)]), .fact 100016 (.obj 16 [(false, 1)]), .fact 100018 (.obj 18 [(false, 1)]), .fact 100021 (.obj 21 [(false, 1)]), .fact 100024 (.dm 24 rr1.D), .fact 100025 (.obj 25 [(false, 1), (false, 1)])]) rfl rfl rfl (Low.res (lg (lg (lg (lg (lg (lg (lc (lc (lc (lc (lc (ls 904000 (ls 904001 (ls 904003 (lo (lo (lo (lo (lk (lo Low.nil))))))))))))))))))))) ?_
      refine wo (Spec.not (Has.s rfl)) ?_
      refine Walk.nil ?_
      refine Leaf.thenN ?_
      refine CWalk.cond rfl (fun hb => ?_) (fun hb => ?_)
      ·exact absurd hb (by decide)
      ·skip
       refine CWalk.skip ?_
       refine Leaf.blockN ?_
       refine Leaf.thenN ?_
       refine CWalk.region ?_
       refine mv ?_
       refine wo (Spec.subI (Has.s rfl) Has.int) ?_
       refine wo (Spec.assign (Has.s rfl)) ?_
       refine Walk.nil ?_
       exact Leaf.next hm (sn (sn (st (sc (sc (sc (Sub.cons (Has.cst (HasC.cv (HasC.s (s := 902006) rfl) (Cv.owF (T := [20]) (te := []) rfl))) (sc (sm (sf (sg (sf (sn (sn (sn (sn (sn (sn Sub.nil))))))))))))))))))
    ·have hm := cond_f hb hm
     refine CWalk.exit ?_
     refine Leaf.thenE ?_
     exact Leaf.brk hm (fun h => nomatch h) rfl (sc (sc (sc (Sub.cons (Has.cst (HasC.cv (HasC.s (s := 902006) rfl) (Cv.owF (T := [20]) (te := []) rfl))) (sc (sf (sg (sf (sm (sn (sn (sn (sn (sn (sn Sub.nil)))))))))))))))
   ·intro _
    rcases b6 with b7 | b8
    ·have hm := selim_l hm
     refine Leaf.blockE ?_
     refine Leaf.rfe ?_
     refine Leaf.rfN (t := 23) (st := .ready) (J := [.fact 100015 (.at 15 (.rep [] (a1 : Int))), .fact 100017 (.at 17 (.nilv)), .fact 100019 (.at 19 (.rep [] ((0 : Int) : Int))), .fact 100022 (.at 22 (.rep [0] a0.Wait)), .fact 3 (.isv 14), .fact 4 (.isv 16), .fact 5 (.isv 18), .fact 6 (.ow [20] [] 5 (x1.1 : List UInt8)), .fact 21 (.fnv 62 [] [Fact.isv 21]), .fact 100014 (.obj 14 [(false, 1)]), .fact 100016 (.obj 16 [(false, 1)]), .fact 100018 (.obj 18 [(false, 1)]), .fact 100021 (.obj 21 [(false, 1)]), .fact 100024 (.dm 24 rr1.D)]) rfl rfl rfl (fun h => nomatch h) (lg (lg (lg (lg (ls 902003 (ls 902004 (ls 902005 (ls 902006 (ls 902021 (lo (lo (lo (lo (lk Low.nil)))))))))))))) ?_
     refine Leaf.blockN ?_
     refine Leaf.thenN ?_
     refine CWalk.seq ?_
     refine CWalk.region ?_
     refine mv ?_
     refine ws (Step.storeF (i := 0) (f := Fact.ow [20] [] 5 (x1.1 : List UInt8)) rfl ty28 rfl (Has.cv (Has.s rfl) (Cv.isvP rfl)) rfl (Has.cv (Has.s rfl) (Cv.trans Cv.owSl (Cv.slRep (T' := [20]) rfl rfl))) (Has.s rfl) rfl) ?_
     refine ws (Step.storeF (i := 0) (f := Fact.rep [] ((0 : Int) : Int)) rfl ty29 rfl (Has.cv (Has.s rfl) (Cv.isvP rfl)) rfl Has.int Has.int rfl) ?_
     refine Walk.nil ?_
     refine Leaf.thenN ?_
     refine CWalk.ret ?_
     obtain rfl := Option.some.inj hm
     exact Leaf.unmark (t := 24) rfl rfl (Leaf.retC2 rfl (HasR.cv (HasR.cell1 ty28 rfl (Has.s rfl) rfl (HasG.s rfl)) (Cv.owF (T := [20]) (te := []) rfl)) (HasR.cv (HasR.cell1 ty29 rfl (Has.s rfl) rfl (HasG.s rfl)) Cv.fl))
    ·have hm := selim_r hm
     refine Leaf.blockR ?_
     refine Leaf.rfJ (t := 23) (st := (.done)) (J := [.fact 100015 (.at 15 (.rep [] (a1 : Int))), .fact 100017 (.at 17 (.ow [28] [] 5 (b8 : List UInt8))), .fact 100019 (.at 19 (.rep [] ((0 : Int) : Int))), .fact 100022 (.at 22 (.rep [0] a0.Wait)), .fact 3 (.isv 14), .fact 4 (.isv 16), .fact 5 (.isv 18), .fact 6 (.ow [20] [] 5 (x1.1 : List UInt8)), .fact 21 (.fnv 62 [] [Fact.isv 21]), .fact 100014 (.obj 14 [(false, 1)]), .fact 100016 (.obj 16 [(false, 1)]), .fact 100018 (.obj 18 [(false, 1)]), .fact 100021 (.obj 21 [(false, 1)]), .fact 100024 (.dm 24 rr1.D)]) rfl rfl rfl (fun h => nomatch h) (lg (lg (lg (lg (ls 902003 (ls 902004 (ls 902005 (ls 902006 (ls 902021 (lo (lo (lo (lo (lk Low.nil)))))))))))))) ?_
     refine CWalk.ret ?_
     refine Leaf.blockR ?_
     refine Leaf.thenR ?_
     obtain rfl := Option.some.inj hm
     exact Leaf.unmark (t := 24) rfl rfl (Leaf.retC2 rfl (HasR.cv (HasR.cell1 ty28 rfl (Has.s rfl) rfl (HasG.s rfl)) (Cv.owF (T := [28]) (te := []) rfl)) (HasR.cv (HasR.cell1 ty29 rfl (Has.s rfl) rfl (HasG.s rfl)) Cv.fl))

/-- freeboard/freeboardlaw04.reads -/
def law04_reads (a0 : Disk) (a1 : Int) (a2 : UInt8) : Option (Bool) :=
  Option.bind (disk_Read a0 a1) (fun x1 => Option.bind (gO ((x1.2 == (0 : Int))) (law04_full a2)) (fun x2 => some ((x1.2 == (0 : Int)) && ((Str.mk x1.1).s == (Str.mk x2).s))))
set_option maxRecDepth 100000 in
set_option maxHeartbeats 2000000 in
theorem law04_reads_c (a0 : Disk) (a1 : Int) (a2 : UInt8) {r : Bool} (hm : law04_reads a0 a1 a2 = some r) : Ctr Try.prog 33 [.rep 0 a0, .rep 0 a1, .rep 0 a2] (.fl r) [] := by
 refine ctr_of_walk [[]] 25 Try.func33 rfl rfl rfl rfl (fun w0 om => ?_)
 unfold law04_reads at hm
 refine CWalk.sub (G' := [.fact 0 (.rep [0] (a0 : Disk)), .fact 1 (.rep [] (a1 : Int)), .fact 2 (.rep [] (a2 : UInt8))]) (sn (Sub.cons (Has.fl (Has.s rfl)) (Sub.cons (Has.fl (Has.s rfl)) Sub.nil))) ?_
 refine CWalk.seq ?_
 refine CWalk.region ?_
 refine ws (Step.boxObj (ls := [(false, 1, Fact.rep [0] a0.Blocks), (false, 1, Fact.rep [0] a0.Wait), (false, 1, Fact.rep [] a0.Dead)]) 10 rfl rfl rfl rfl (HasL.flds (Has.cv (Has.s rfl) (Cv.trans (Cv.opens (chDisk a0)) (Cv.flds (CvL.cons Cv.refl (CvL.cons Cv.refl (CvL.cons Cv.fl CvL.nil)))))))) ?_
 refine wo (Spec.assign Has.bool) ?_
 refine Walk.nil ?_
 refine Leaf.thenN ?_
 refine CWalk.seq ?_
 refine CWalk.region ?_
 refine wo (Spec.loadObj (ls := [(false, 1, Fact.rep [0] a0.Blocks), (false, 1, Fact.rep [0] a0.Wait), (false, 1, Fact.rep [] a0.Dead)]) ty25 rfl rfl (Has.s rfl) rfl (HasGs.cons (HasG.s rfl) (HasGs.cons (HasG.s rfl) (HasGs.cons (HasG.s rfl) HasGs.nil)))) ?_
 refine mv ?_
 obtain ⟨x1, hx1, hm⟩ := bind_some hm
 refine wo (f := Fact.tup2 (Fact.ow [14] [] 5 (x1.1 : List UInt8)) (Fact.rep [] x1.2)) (Spec.callE [0] 14 rfl en11 (disk_Read_c a0 a1 hx1) (HasAll.cons (Has.m (Has.cv (Has.s rfl) (Cv.trans (Cv.flds (CvL.cons (Cv.m rfl) (CvL.cons (Cv.m rfl) (CvL.cons Cv.fl CvL.nil)))) (Cv.close (T := [0]) (chDisk a0)))) rfl) (HasAll.cons (Has.fl (Has.s rfl)) HasAll.nil))) ?_
 refine mv ?_
 refine wo (Spec.ext0 (Has.s rfl)) ?_
 refine wo (Spec.ext1 (Has.s rfl)) ?_
 refine wo (Spec.assign (Has.s rfl)) ?_
 refine wo (Spec.assign (Has.s rfl)) ?_
 refine Walk.nil ?_
 refine Leaf.thenN ?_
 refine CWalk.seq ?_
 obtain ⟨x2, hx2, hm⟩ := bind_some hm
 refine CWalk.drawM [[], [0], [0, 1], [0, 1, 2], [0, 1, 2, 3], [0, 1, 2], [0, 1, 2, 5], [0, 1, 2, 5, 6], [0, 1, 2, 3, 4, 5, 6, 7], [0, 1, 2, 3, 4, 5, 6, 7, 8], [0, 1, 2, 3, 4, 5, 6, 7, 8, 9]] [[.fact 15 (.rep [] x1.2)], [.fact 16 (.rep [] ((x1.2 == (0 : Int)) : Bool))], [.fact 17 (.rep [] ((x1.2 == (0 : Int)) : Bool))], [.fact 18 (.under ((x1.2 == (0 : Int)) = true) (.ow [14] [] 5 (x1.1 : List UInt8)))], [.fact 19 (.under ((x1.2 == (0 : Int)) = true) (.rep [] ((Str.mk x1.1) : Str)))], [.fact 20 (.under ((x1.2 == (0 : Int)) = true) (.rep [] (a2 : UInt8)))], [.fact 21 (.under ((x1.2 == (0 : Int)) = true) (.ow [15] [] 5 (x2 : List UInt8)))], [.fact 22 (.under ((x1.2 == (0 : Int)) = true) (.rep [] ((Str.mk x2) : Str)))], [.fact 23 (.under ((x1.2 == (0 : Int)) = true) (.rep [] (((Str.mk x1.1).s == (Str.mk x2).s) : Bool)))], [.fact 24 (.rep [] (((x1.2 == (0 : Int)) && ((Str.mk x1.1).s == (Str.mk x2).s)) : Bool))], [.fact 6 (.rep [] (((x1.2 == (0 : Int)) && ((Str.mk x1.1).s == (Str.mk x2).s)) : Bool))]] mixed (by kernel_rfl) (ao (so (Spec.move (Has.s rfl))) (ao (so (Spec.eqlI (Has.s rfl) Has.int)) (ao (so (Spec.move (Has.s rfl))) (ao (StepG.opg rfl rfl rfl (fun hb => Spec.move (Has.s rfl))) (ao (StepG.opg rfl rfl rfl (fun hb => Spec.toStr Try.underlying28 Try.underlying5 Try.underlying9 (Has.cv (Has.u rfl hb) (Cv.trans Cv.owSl (Cv.slRep (T' := [14]) rfl rfl))))) (ao (StepG.opg rfl rfl rfl (fun hb => Spec.move (Has.s rfl))) (ao (StepG.opg rfl rfl rfl (fun hb => Spec.callE [] 15 rfl en32 (law04_full_c a2 (gO_t hx2 hb)) (HasAll.cons (Has.fl (Has.u rfl hb)) HasAll.nil))) (ao (StepG.opg rfl rfl rfl (fun hb => Spec.toStr Try.underlying28 Try.underlying5 Try.underlying9 (Has.cv (Has.u rfl hb) (Cv.trans Cv.owSl (Cv.slRep (T' := [15]) rfl rfl))))) (ao (StepG.opg rfl rfl rfl (fun hb => Spec.eqlS (Has.u rfl hb) (Has.u rfl hb))) (ao (so (Spec.and (Has.s rfl) (fun h => Has.u rfl h))) (ao (so (Spec.assign (Has.s rfl))) AllM.nil))))))))))) ?_
 refine Leaf.thenN ?_
 refine CWalk.ret ?_
 obtain rfl := Option.some.inj hm
 exact Leaf.retC1 rfl (HasR.cv (HasR.tmp (Has.s rfl)) Cv.fl)

/-- freeboard/freeboardlaw04.lasts -/
def law04_lasts (a0 : Disk) (a1 : Int) (a2 : UInt8) : Option (Bool) :=
  Option.bind (disk_Lasting a0 a1) (fun x1 => Option.bind (gO ((x1.2 == (0 : Int))) (law04_full a2)) (fun x2 => some ((x1.2 == (0 : Int)) && ((Str.mk x1.1).s == (Str.mk x2).s))))
set_option maxRecDepth 100000 in
set_option maxHeartbeats 2000000 in
theorem law04_lasts_c (a0 : Disk) (a1 : Int) (a2 : UInt8) {r : Bool} (hm : law04_lasts a0 a1 a2 = some r) : Ctr Try.prog 34 [.rep 0 a0, .rep 0 a1, .rep 0 a2] (.fl r) [] := by
 refine ctr_of_walk [[]] 25 Try.func34 rfl rfl rfl rfl (fun w0 om => ?_)
 unfold law04_lasts at hm
 refine CWalk.sub (G' := [.fact 0 (.rep [0] (a0 : Disk)), .fact 1 (.rep [] (a1 : Int)), .fact 2 (.rep [] (a2 : UInt8))]) (sn (Sub.cons (Has.fl (Has.s rfl)) (Sub.cons (Has.fl (Has.s rfl)) Sub.nil))) ?_
 refine CWalk.seq ?_
 refine CWalk.region ?_
 refine ws (Step.boxObj (ls := [(false, 1, Fact.rep [0] a0.Blocks), (false, 1, Fact.rep [0] a0.Wait), (false, 1, Fact.rep [] a0.Dead)]) 10 rfl rfl rfl rfl (HasL.flds (Has.cv (Has.s rfl) (Cv.trans (Cv.opens (chDisk a0)) (Cv.flds (CvL.cons Cv.refl (CvL.cons Cv.refl (CvL.cons Cv.fl CvL.nil)))))))) ?_
 refine wo (Spec.assign Has.bool) ?_
 refine Walk.nil ?_
 refine Leaf.thenN ?_
 refine CWalk.seq ?_
 refine CWalk.region ?_
 refine wo (Spec.loadObj (ls := [(false, 1, Fact.rep [0] a0.Blocks), (false, 1, Fact.rep [0] a0.Wait), (false, 1, Fact.rep [] a0.Dead)]) ty25 rfl rfl (Has.s rfl) rfl (HasGs.cons (HasG.s rfl) (HasGs.cons (HasG.s rfl) (HasGs.cons (HasG.s rfl) HasGs.nil)))) ?_
 refine mv ?_
 obtain ⟨x1, hx1, hm⟩ := bind_some hm
 refine wo (f := Fact.tup2 (Fact.ow [14] [] 5 (x1.1 : List UInt8)) (Fact.rep [] x1.2)) (Spec.callE [0] 14 rfl en13 (disk_Lasting_c a0 a1 hx1) (HasAll.cons (Has.m (Has.cv (Has.s rfl) (Cv.trans (Cv.flds (CvL.cons (Cv.m rfl) (CvL.cons (Cv.m rfl) (CvL.cons Cv.fl CvL.nil)))) (Cv.close (T := [0]) (chDisk a0)))) rfl) (HasAll.cons (Has.fl (Has.s rfl)) HasAll.nil))) ?_
 refine mv ?_
 refine wo (Spec.ext0 (Has.s rfl)) ?_
 refine wo (Spec.ext1 (Has.s rfl)) ?_
 refine wo (Spec.assign (Has.s rfl)) ?_
 refine wo (Spec.assign (Has.s rfl)) ?_
 refine Walk.nil ?_
 refine Leaf.thenN ?_
 refine CWalk.seq ?_
 obtain ⟨x2, hx2, hm⟩ := bind_some hm
 refine CWalk.drawM [[], [0], [0, 1], [0, 1, 2], [0, 1, 2, 3], [0, 1, 2], [0, 1, 2, 5], [0, 1, 2, 5, 6], [0, 1, 2, 3, 4, 5, 6, 7], [0, 1, 2, 3, 4, 5, 6, 7, 8], [0, 1, 2, 3, 4, 5, 6, 7, 8, 9]] [[.fact 15 (.rep [] x1.2)], [.fact 16 (.rep [] ((x1.2 == (0 : Int)) : Bool))], [.fact 17 (.rep [] ((x1.2 == (0 : Int)) : Bool))], [.fact 18 (.under ((x1.2 == (0 : Int)) = true) (.ow [14] [] 5 (x1.1 : List UInt8)))], [.fact 19 (.under ((x1.2 == (0 : Int)) = true) (.rep [] ((Str.mk x1.1) : Str)))], [.fact 20 (.under ((x1.2 == (0 : Int)) = true) (.rep [] (a2 : UInt8)))], [.fact 21 (.under ((x1.2 == (0 : Int)) = true) (.ow [15] [] 5 (x2 : List UInt8)))], [.fact 22 (.under ((x1.2 == (0 : Int)) = true) (.rep [] ((Str.mk x2) : Str)))], [.fact 23 (.under ((x1.2 == (0 : Int)) = true) (.rep [] (((Str.mk x1.1).s == (Str.mk x2).s) : Bool)))], [.fact 24 (.rep [] (((x1.2 == (0 : Int)) && ((Str.mk x1.1).s == (Str.mk x2).s)) : Bool))], [.fact 6 (.rep [] (((x1.2 == (0 : Int)) && ((Str.mk x1.1).s == (Str.mk x2).s)) : Bool))]] mixed (by kernel_rfl) (ao (so (Spec.move (Has.s rfl))) (ao (so (Spec.eqlI (Has.s rfl) Has.int)) (ao (so (Spec.move (Has.s rfl))) (ao (StepG.opg rfl rfl rfl (fun hb => Spec.move (Has.s rfl))) (ao (StepG.opg rfl rfl rfl (fun hb => Spec.toStr Try.underlying28 Try.underlying5 Try.underlying9 (Has.cv (Has.u rfl hb) (Cv.trans Cv.owSl (Cv.slRep (T' := [14]) rfl rfl))))) (ao (StepG.opg rfl rfl rfl (fun hb => Spec.move (Has.s rfl))) (ao (StepG.opg rfl rfl rfl (fun hb => Spec.callE [] 15 rfl en32 (law04_full_c a2 (gO_t hx2 hb)) (HasAll.cons (Has.fl (Has.u rfl hb)) HasAll.nil))) (ao (StepG.opg rfl rfl rfl (fun hb => Spec.toStr Try.underlying28 Try.underlying5 Try.underlying9 (Has.cv (Has.u rfl hb) (Cv.trans Cv.owSl (Cv.slRep (T' := [15]) rfl rfl))))) (ao (StepG.opg rfl rfl rfl (fun hb => Spec.eqlS (Has.u rfl hb) (Has.u rfl hb))) (ao (so (Spec.and (Has.s rfl) (fun h => Has.u rfl h))) (ao (so (Spec.assign (Has.s rfl))) AllM.nil))))))))))) ?_
 refine Leaf.thenN ?_
 refine CWalk.ret ?_
 obtain rfl := Option.some.inj hm
 exact Leaf.retC1 rfl (HasR.cv (HasR.tmp (Has.s rfl)) Cv.fl)

/-- freeboard/freeboardlaw04.alive -/
def law04_alive : Option (Bool) :=
  Option.bind (disk_New (2 : Int)) (fun x1 => Option.bind (law04_full (120 : UInt8)) (fun x2 => Option.bind (disk_Write x1.1 (1 : Int) x2) (fun x3 => Option.bind (disk_Flush x3.1) (fun x4 => Option.bind (disk_Fua x3.1 (1 : Int) ([] : List UInt8)) (fun x5 => Option.bind (gO (((((x1.2 == (0 : Int)) && (x3.2 == (0 : Int))) && (x4.2 == (0 : Int))) && (x5.2 == (0 : Int)))) (law04_reads x3.1 (1 : Int) (120 : UInt8))) (fun x6 => Option.bind (gO ((((((x1.2 == (0 : Int)) && (x3.2 == (0 : Int))) && (x4.2 == (0 : Int))) && (x5.2 == (0 : Int))) && x6)) (law04_lasts x3.1 (1 : Int) (0 : UInt8))) (fun x7 => Option.bind (gO (((((((x1.2 == (0 : Int)) && (x3.2 == (0 : Int))) && (x4.2 == (0 : Int))) && (x5.2 == (0 : Int))) && x6) && x7)) (law04_lasts x4.1 (1 : Int) (120 : UInt8))) (fun x8 => Option.bind (gO ((((((((x1.2 == (0 : Int)) && (x3.2 == (0 : Int))) && (x4.2 == (0 : Int))) && (x5.2 == (0 : Int))) && x6) && x7) && x8)) (law04_reads x5.1 (1 : Int) (0 : UInt8))) (fun x9 => some (((((((((x1.2 == (0 : Int)) && (x3.2 == (0 : Int))) && (x4.2 == (0 : Int))) && (x5.2 == (0 : Int))) && x6) && x7) && x8) && x9) && (((x5.1.Wait).length : Int) == (0 : Int))))))))))))
set_option maxRecDepth 100000 in
set_option maxHeartbeats 2000000 in
theorem law04_alive_c {r : Bool} (hm : law04_alive = some r) : Ctr Try.prog 31 [] (.fl r) [] := by
 refine ctr_of_walk [[]] 65 Try.func31 rfl rfl rfl rfl (fun w0 om => ?_)
 unfold law04_alive at hm
 refine CWalk.sub (G' := []) (Sub.nil) ?_
 refine CWalk.seq ?_
 refine CWalk.region ?_
 refine wo (Spec.assign Has.bool) ?_
 refine Walk.nil ?_
 refine Leaf.thenN ?_
 refine CWalk.seq ?_
 refine CWalk.region ?_
 obtain ⟨x1, hx1, hm⟩ := bind_some hm
 refine wo (f := Fact.tup2 (Fact.flds [(false, 1, Fact.ow [10] [] 28 (x1.1.Blocks : List (List UInt8))), (false, 1, Fact.ow [10] [] 59 (x1.1.Wait : List Write)), (false, 1, Fact.rep [] x1.1.Dead)]) (Fact.rep [] x1.2)) (Spec.callE [] 10 rfl en15 (disk_New_c (2 : Int) hx1) (HasAll.cons (Has.fl Has.int) HasAll.nil)) ?_
 refine mv ?_
 refine wo (Spec.ext0 (Has.s rfl)) ?_
 refine wo (Spec.ext1 (Has.s rfl)) ?_
 refine ws (Step.allocObj (ls := [(false, 1, Fact.nilv), (false, 1, Fact.nilv), (false, 1, Fact.rep [] (false : Bool))]) 11 rfl rfl rfl rfl zl25) ?_
 refine ws (Step.storeObj (ls := [(false, 1, Fact.ow [10] [] 28 (x1.1.Blocks : List (List UInt8))), (false, 1, Fact.ow [10] [] 59 (x1.1.Wait : List Write)), (false, 1, Fact.rep [] x1.1.Dead)]) rfl ty25 rfl rfl (Has.s rfl) rfl (HasL.flds (Has.s rfl)) rfl) ?_
 refine wo (Spec.assign (Has.s rfl)) ?_
 refine Walk.nil ?_
 refine Leaf.thenN ?_
 refine CWalk.seq ?_
 obtain ⟨x2, hx2, hm⟩ := bind_some hm
 obtain ⟨x3, hx3, hm⟩ := bind_some hm
 refine CWalk.drawM [[], [], [0, 1], [0, 1, 2], [0, 1, 2, 3], [0, 1, 2, 3], [], [0, 1, 2, 3, 4, 6], [0, 1, 2, 3, 4, 5, 6, 7]] [[.fact 14 (.flds [(false, 1, Fact.ow [10] [] 28 (x1.1.Blocks : List (List UInt8))), (false, 1, Fact.ow [10] [] 59 (x1.1.Wait : List Write)), (false, 1, Fact.rep [] x1.1.Dead)])], [.fact 15 (.ow [15] [] 5 (x2 : List UInt8))], [.fact 16 (.tup2 (Fact.flds [(false, 1, Fact.ow [16] [17] 28 (x3.1.Blocks : List (List UInt8))), (false, 1, Fact.ow [18] [19] 59 (x3.1.Wait : List Write)), (false, 1, Fact.rep [] x3.1.Dead)]) (Fact.rep [] x3.2))], [.fact 13 (.tup2 (Fact.flds [(false, 1, Fact.ow [16] [17] 28 (x3.1.Blocks : List (List UInt8))), (false, 1, Fact.ow [18] [19] 59 (x3.1.Wait : List Write)), (false, 1, Fact.rep [] x3.1.Dead)]) (Fact.rep [] x3.2))], [.fact 17 (.flds [(false, 1, Fact.ow [16] [17] 28 (x3.1.Blocks : List (List UInt8))), (false, 1, Fact.ow [18] [19] 59 (x3.1.Wait : List Write)), (false, 1, Fact.rep [] x3.1.Dead)])], [.fact 18 (.rep [] x3.2)], [.fact 3 (.isv 20), .fact 100020 (.obj 20 [(false, 1), (false, 1), (false, 1)]), .fact 100021 (.at 21 (.nilv)), .fact 100022 (.at 22 (.nilv)), .fact 100023 (.at 23 (.rep [] (false : Bool))), .killId 20, .killId 21, .killId 22, .killId 23], [.fact 100020 (.obj 20 [(false, 1), (false, 1), (false, 1)]), .fact 100021 (.at 21 (.ow [16] [17] 28 (x3.1.Blocks : List (List UInt8)))), .fact 100022 (.at 22 (.ow [18] [19] 59 (x3.1.Wait : List Write))), .fact 100023 (.at 23 (.rep [] x3.1.Dead)), .kill 20, .killId 21, .killId 22, .killId 23], [.fact 4 (.rep [] x3.2)]] mixed (by kernel_rfl) (ao (so (Spec.loadObj (ls := [(false, 1, Fact.ow [10] [] 28 (x1.1.Blocks : List (List UInt8))), (false, 1, Fact.ow [10] [] 59 (x1.1.Wait : List Write)), (false, 1, Fact.rep [] x1.1.Dead)]) ty25 rfl rfl (Has.s rfl) rfl (HasGs.cons (HasG.s rfl) (HasGs.cons (HasG.s rfl) (HasGs.cons (HasG.s rfl) HasGs.nil))))) (ao (so (Spec.callE [] 15 rfl en32 (law04_full_c (120 : UInt8) hx2) (HasAll.cons (Has.fl (Has.u8 120 rfl)) HasAll.nil))) (ao (so (Spec.callE [10, 15] 16 rfl en23 (disk_Write_c x1.1 (1 : Int) x2 hx3) (HasAll.cons (Has.m (Has.cv (Has.s rfl) (Cv.trans (Cv.flds (CvL.cons (Cv.trans (Cv.trans Cv.owSl (Cv.slRep (T' := [10]) rfl rfl)) (Cv.m rfl)) (CvL.cons (Cv.trans (Cv.trans Cv.owSl (Cv.slRep (T' := [10]) rfl rfl)) (Cv.m rfl)) (CvL.cons Cv.fl CvL.nil)))) (Cv.close (T := [10]) (chDisk x1.1)))) rfl) (HasAll.cons (Has.fl Has.int) (HasAll.cons (Has.m (Has.cv (Has.s rfl) (Cv.trans Cv.owSl (Cv.slRep (T' := [15]) rfl rfl))) rfl) HasAll.nil))))) (ao (so (Spec.move (Has.s rfl))) (ao (so (Spec.ext0 (Has.s rfl))) (ao (so (Spec.ext1 (Has.s rfl))) (ao (StepG.stE (Step.allocObj (ls := [(false, 1, Fact.nilv), (false, 1, Fact.nilv), (false, 1, Fact.rep [] (false : Bool))]) 20 rfl rfl rfl rfl zl25)) (ao (StepG.stE (Step.storeObj (ls := [(false, 1, Fact.ow [16] [17] 28 (x3.1.Blocks : List (List UInt8))), (false, 1, Fact.ow [18] [19] 59 (x3.1.Wait : List Write)), (false, 1, Fact.rep [] x3.1.Dead)]) rfl ty25 rfl rfl (Has.s rfl) rfl (HasL.flds (Has.s rfl)) rfl)) (ao (so (Spec.assign (Has.s rfl))) AllM.nil))))))))) ?_
 refine Leaf.thenN ?_
 refine CWalk.seq ?_
 refine CWalk.region ?_
 refine wo (Spec.loadObj (ls := [(false, 1, Fact.ow [16] [17] 28 (x3.1.Blocks : List (List UInt8))), (false, 1, Fact.ow [18] [19] 59 (x3.1.Wait : List Write)), (false, 1, Fact.rep [] x3.1.Dead)]) ty25 rfl rfl (Has.s rfl) rfl (HasGs.cons (HasG.s rfl) (HasGs.cons (HasG.s rfl) (HasGs.cons (HasG.s rfl) HasGs.nil)))) ?_
 obtain ⟨x4, hx4, hm⟩ := bind_some hm
 refine wo (f := Fact.tup2 (Fact.flds [(false, 1, Fact.ow [24] [25] 28 (x4.1.Blocks : List (List UInt8))), (false, 1, Fact.ow [26] [27] 59 (x4.1.Wait : List Write)), (false, 1, Fact.rep [] x4.1.Dead)]) (Fact.rep [] x4.2)) (Spec.callE [16, 17, 18, 19] 24 rfl en27 (disk_Flush_c x3.1 hx4) (HasAll.cons (Has.m (Has.cv (Has.s rfl) (Cv.trans (Cv.flds (CvL.cons (Cv.trans (Cv.trans Cv.owSl (Cv.slRep (T' := [16, 17]) rfl rfl)) (Cv.m rfl)) (CvL.cons (Cv.trans (Cv.trans Cv.owSl (Cv.slRep (T' := [18, 19]) rfl rfl)) (Cv.m rfl)) (CvL.cons Cv.fl CvL.nil)))) (Cv.close (T := [16, 17, 18, 19]) (chDisk x3.1)))) rfl) HasAll.nil)) ?_
 refine mv ?_
 refine wo (Spec.ext0 (Has.s rfl)) ?_
 refine wo (Spec.ext1 (Has.s rfl)) ?_
 refine ws (Step.allocObj (ls := [(false, 1, Fact.nilv), (false, 1, Fact.nilv), (false, 1, Fact.rep [] (false : Bool))]) 28 rfl rfl rfl rfl zl25) ?_
 refine ws (Step.storeObj (ls := [(false, 1, Fact.ow [24] [25] 28 (x4.1.Blocks : List (List UInt8))), (false, 1, Fact.ow [26] [27] 59 (x4.1.Wait : List Write)), (false, 1, Fact.rep [] x4.1.Dead)]) rfl ty25 rfl rfl (Has.s rfl) rfl (HasL.flds (Has.s rfl)) rfl) ?_
 refine wo (Spec.assign (Has.s rfl)) ?_
 refine Walk.nil ?_
 refine Leaf.thenN ?_
 refine CWalk.seq ?_
 refine CWalk.region ?_
 refine wo (Spec.loadObj (ls := [(false, 1, Fact.ow [16] [17] 28 (x3.1.Blocks : List (List UInt8))), (false, 1, Fact.ow [18] [19] 59 (x3.1.Wait : List Write)), (false, 1, Fact.rep [] x3.1.Dead)]) ty25 rfl rfl (Has.s rfl) rfl (HasGs.cons (HasG.s rfl) (HasGs.cons (HasG.s rfl) (HasGs.cons (HasG.s rfl) HasGs.nil)))) ?_
 obtain ⟨x5, hx5, hm⟩ := bind_some hm
 refine wo (f := Fact.tup2 (Fact.flds [(false, 1, Fact.ow [32] [33] 28 (x5.1.Blocks : List (List UInt8))), (false, 1, Fact.ow [34] [35] 59 (x5.1.Wait : List Write)), (false, 1, Fact.rep [] x5.1.Dead)]) (Fact.rep [] x5.2)) (Spec.callE [16, 17, 18, 19] 32 rfl en25 (disk_Fua_c x3.1 (1 : Int) ([] : List UInt8) hx5) (HasAll.cons (Has.m (Has.cv (Has.s rfl) (Cv.trans (Cv.flds (CvL.cons (Cv.trans (Cv.trans Cv.owSl (Cv.slRep (T' := [16, 17]) rfl rfl)) (Cv.m rfl)) (CvL.cons (Cv.trans (Cv.trans Cv.owSl (Cv.slRep (T' := [18, 19]) rfl rfl)) (Cv.m rfl)) (CvL.cons Cv.fl CvL.nil)))) (Cv.close (T := [16, 17, 18, 19]) (chDisk x3.1)))) rfl) (HasAll.cons (Has.fl Has.int) (HasAll.cons (Has.m (Has.nil UInt8) rfl) HasAll.nil)))) ?_
 refine mv ?_
 refine wo (Spec.ext0 (Has.s rfl)) ?_
 refine wo (Spec.ext1 (Has.s rfl)) ?_
 refine ws (Step.allocObj (ls := [(false, 1, Fact.nilv), (false, 1, Fact.nilv), (false, 1, Fact.rep [] (false : Bool))]) 36 rfl rfl rfl rfl zl25) ?_
 refine ws (Step.storeObj (ls := [(false, 1, Fact.ow [32] [33] 28 (x5.1.Blocks : List (List UInt8))), (false, 1, Fact.ow [34] [35] 59 (x5.1.Wait : List Write)), (false, 1, Fact.rep [] x5.1.Dead)]) rfl ty25 rfl rfl (Has.s rfl) rfl (HasL.flds (Has.s rfl)) rfl) ?_
 refine wo (Spec.assign (Has.s rfl)) ?_
 refine Walk.nil ?_
 refine Leaf.thenN ?_
 refine CWalk.seq ?_
 refine CWalk.region ?_
 refine mv ?_
 refine wo (Spec.eqlI (Has.s rfl) Has.int) ?_
 refine mv ?_
 refine wg rfl rfl (fun hb => Spec.move (Has.s rfl)) ?_
 refine wg rfl rfl (fun hb => Spec.eqlI (Has.u rfl hb) Has.int) ?_
 refine wo (Spec.and (Has.s rfl) (fun h => Has.u rfl h)) ?_
 refine mv ?_
 refine wg rfl rfl (fun hb => Spec.move (Has.s rfl)) ?_
 refine wg rfl rfl (fun hb => Spec.eqlI (Has.u rfl hb) Has.int) ?_
 refine wo (Spec.and (Has.s rfl) (fun h => Has.u rfl h)) ?_
 refine mv ?_
 refine wg rfl rfl (fun hb => Spec.move (Has.s rfl)) ?_
 refine wg rfl rfl (fun hb => Spec.eqlI (Has.u rfl hb) Has.int) ?_
 refine wo (Spec.and (Has.s rfl) (fun h => Has.u rfl h)) ?_
 refine mv ?_
 refine wg rfl rfl (fun hb => Spec.loadObj (ls := [(false, 1, Fact.ow [16] [17] 28 (x3.1.Blocks : List (List UInt8))), (false, 1, Fact.ow [18] [19] 59 (x3.1.Wait : List Write)), (false, 1, Fact.rep [] x3.1.Dead)]) ty25 rfl rfl (Has.s rfl) rfl (HasGs.cons (HasG.s rfl) (HasGs.cons (HasG.s rfl) (HasGs.cons (HasG.s rfl) HasGs.nil)))) ?_
 obtain ⟨x6, hx6, hm⟩ := bind_some hm
 refine wg (f := Fact.rep [] (x6 : Bool)) rfl rfl (fun hb => Spec.callE [16, 17, 18, 19] 40 rfl en33 (law04_reads_c x3.1 (1 : Int) (120 : UInt8) (gO_t hx6 hb)) (HasAll.cons (Has.m (Has.cv (Has.u rfl hb) (Cv.trans (Cv.flds (CvL.cons (Cv.trans (Cv.trans Cv.owSl (Cv.slRep (T' := [16, 17]) rfl rfl)) (Cv.m rfl)) (CvL.cons (Cv.trans (Cv.trans Cv.owSl (Cv.slRep (T' := [18, 19]) rfl rfl)) (Cv.m rfl)) (CvL.cons Cv.fl CvL.nil)))) (Cv.close (T := [16, 17, 18, 19]) (chDisk x3.1)))) rfl) (HasAll.cons (Has.fl Has.int) (HasAll.cons (Has.fl (Has.u8 120 rfl)) HasAll.nil)))) ?_
 refine wo (Spec.and (Has.s rfl) (fun h => Has.u rfl h)) ?_
 refine mv ?_
 refine wg rfl rfl (fun hb => Spec.loadObj (ls := [(false, 1, Fact.ow [16] [17] 28 (x3.1.Blocks : List (List UInt8))), (false, 1, Fact.ow [18] [19] 59 (x3.1.Wait : List Write)), (false, 1, Fact.rep [] x3.1.Dead)]) ty25 rfl rfl (Has.s rfl) rfl (HasGs.cons (HasG.s rfl) (HasGs.cons (HasG.s rfl) (HasGs.cons (HasG.s rfl) HasGs.nil)))) ?_
 obtain ⟨x7, hx7, hm⟩ := bind_some hm
 refine wg (f := Fact.rep [] (x7 : Bool)) rfl rfl (fun hb => Spec.callE [16, 17, 18, 19] 41 rfl en34 (law04_lasts_c x3.1 (1 : Int) (0 : UInt8) (gO_t hx7 hb)) (HasAll.cons (Has.m (Has.cv (Has.u rfl hb) (Cv.trans (Cv.flds (CvL.cons (Cv.trans (Cv.trans Cv.owSl (Cv.slRep (T' := [16, 17]) rfl rfl)) (Cv.m rfl)) (CvL.cons (Cv.trans (Cv.trans Cv.owSl (Cv.slRep (T' := [18, 19]) rfl rfl)) (Cv.m rfl)) (CvL.cons Cv.fl CvL.nil)))) (Cv.close (T := [16, 17, 18, 19]) (chDisk x3.1)))) rfl) (HasAll.cons (Has.fl Has.int) (HasAll.cons (Has.fl (Has.u8 0 rfl)) HasAll.nil)))) ?_
 refine wo (Spec.and (Has.s rfl) (fun h => Has.u rfl h)) ?_
 refine mv ?_
 refine wg rfl rfl (fun hb => Spec.loadObj (ls := [(false, 1, Fact.ow [24] [25] 28 (x4.1.Blocks : List (List UInt8))), (false, 1, Fact.ow [26] [27] 59 (x4.1.Wait : List Write)), (false, 1, Fact.rep [] x4.1.Dead)]) ty25 rfl rfl (Has.s rfl) rfl (HasGs.cons (HasG.s rfl) (HasGs.cons (HasG.s rfl) (HasGs.cons (HasG.s rfl) HasGs.nil)))) ?_
 obtain ⟨x8, hx8, hm⟩ := bind_some hm
 refine wg (f := Fact.rep [] (x8 : Bool)) rfl rfl (fun hb => Spec.callE [24, 25, 26, 27] 42 rfl en34 (law04_lasts_c x4.1 (1 : Int) (120 : UInt8) (gO_t hx8 hb)) (HasAll.cons (Has.m (Has.cv (Has.u rfl hb) (Cv.trans (Cv.flds (CvL.cons (Cv.trans (Cv.trans Cv.owSl (Cv.slRep (T' := [24, 25]) rfl rfl)) (Cv.m rfl)) (CvL.cons (Cv.trans (Cv.trans Cv.owSl (Cv.slRep (T' := [26, 27]) rfl rfl)) (Cv.m rfl)) (CvL.cons Cv.fl CvL.nil)))) (Cv.close (T := [24, 25, 26, 27]) (chDisk x4.1)))) rfl) (HasAll.cons (Has.fl Has.int) (HasAll.cons (Has.fl (Has.u8 120 rfl)) HasAll.nil)))) ?_
 refine wo (Spec.and (Has.s rfl) (fun h => Has.u rfl h)) ?_
 refine mv ?_
 refine wg rfl rfl (fun hb => Spec.loadObj (ls := [(false, 1, Fact.ow [32] [33] 28 (x5.1.Blocks : List (List UInt8))), (false, 1, Fact.ow [34] [35] 59 (x5.1.Wait : List Write)), (false, 1, Fact.rep [] x5.1.Dead)]) ty25 rfl rfl (Has.s rfl) rfl (HasGs.cons (HasG.s rfl) (HasGs.cons (HasG.s rfl) (HasGs.cons (HasG.s rfl) HasGs.nil)))) ?_
 obtain ⟨x9, hx9, hm⟩ := bind_some hm
 refine wg (f := Fact.rep [] (x9 : Bool)) rfl rfl (fun hb => Spec.callE [32, 33, 34, 35] 43 rfl en33 (law04_reads_c x5.1 (1 : Int) (0 : UInt8) (gO_t hx9 hb)) (HasAll.cons (Has.m (Has.cv (Has.u rfl hb) (Cv.trans (Cv.flds (CvL.cons (Cv.trans (Cv.trans Cv.owSl (Cv.slRep (T' := [32, 33]) rfl rfl)) (Cv.m rfl)) (CvL.cons (Cv.trans (Cv.trans Cv.owSl (Cv.slRep (T' := [34, 35]) rfl rfl)) (Cv.m rfl)) (CvL.cons Cv.fl CvL.nil)))) (Cv.close (T := [32, 33, 34, 35]) (chDisk x5.1)))) rfl) (HasAll.cons (Has.fl Has.int) (HasAll.cons (Has.fl (Has.u8 0 rfl)) HasAll.nil)))) ?_
 refine wo (Spec.and (Has.s rfl) (fun h => Has.u rfl h)) ?_
 refine mv ?_
 refine wg rfl rfl (fun hb => Spec.fieldAddrO fd25_1 (Has.cv (Has.s rfl) (Cv.isvP rfl))) ?_
 refine wg rfl rfl (fun hb => Spec.loadF (i := 1) ty23 rfl (Has.u rfl hb) rfl (HasG.s rfl)) ?_
 refine wg rfl rfl (fun hb => Spec.len (Has.cv (Has.u rfl hb) (Cv.trans Cv.owSl (Cv.slRep (T' := [34, 35]) rfl rfl))) Try.underlying23) ?_
 refine wg rfl rfl (fun hb => Spec.eqlI (Has.u rfl hb) Has.int) ?_
 refine wo (Spec.and (Has.s rfl) (fun h => Has.u rfl h)) ?_
 refine wo (Spec.assign (Has.s rfl)) ?_
 refine Walk.nil ?_
 refine Leaf.thenN ?_
 refine CWalk.ret ?_
 obtain rfl := Option.some.inj hm
 exact Leaf.retC1 rfl (HasR.cv (HasR.tmp (Has.s rfl)) Cv.fl)

/-- freeboard/disk.Kill -/
def disk_Kill (a0 : Disk) : Option (Disk × Int) :=
  Option.bind (disk_Check a0) (fun x1 => (bif (x1 != (0 : Int)) then some ((Disk.mk ([] : List (List UInt8)) ([] : List Write) false), x1) else Option.bind (makeL ([] : List UInt8) ((a0.Blocks).length : Int)) (fun x2 => some ((Disk.mk x2 ([] : List Write) true), (0 : Int)))))
set_option maxRecDepth 100000 in
set_option maxHeartbeats 2000000 in
theorem disk_Kill_c (a0 : Disk) {r : Disk × Int} (hm : disk_Kill a0 = some r) : Ctr Try.prog 29 [.rep 0 a0] (.tup2 (.flds [(false, 1, (.own 0 none 28 r.1.Blocks)), (false, 1, (.own 0 none 59 r.1.Wait)), (false, 1, (.fl r.1.Dead))]) (.fl r.2)) [] := by
 refine ctr_of_walk [[19]] 16 Try.func29 rfl rfl rfl rfl (fun w0 om => ?_)
 unfold disk_Kill at hm
 refine CWalk.sub (G' := [.fact 0 (.rep [0] (a0 : Disk))]) (sn Sub.nil) ?_
 refine CWalk.seq ?_
 refine CWalk.region ?_
 refine ws (Step.boxObj (ls := [(false, 1, Fact.rep [0] a0.Blocks), (false, 1, Fact.rep [0] a0.Wait), (false, 1, Fact.rep [] a0.Dead)]) 10 rfl rfl rfl rfl (HasL.flds (Has.cv (Has.s rfl) (Cv.trans (Cv.opens (chDisk a0)) (Cv.flds (CvL.cons Cv.refl (CvL.cons Cv.refl (CvL.cons Cv.fl CvL.nil)))))))) ?_
 refine ws (Step.allocObj (ls := [(false, 1, Fact.nilv), (false, 1, Fact.nilv), (false, 1, Fact.rep [] (false : Bool))]) 14 rfl rfl rfl rfl zl25) ?_
 refine wo (Spec.assign Has.int) ?_
 refine Walk.nil ?_
 refine Leaf.thenN ?_
 refine CWalk.seq ?_
 refine CWalk.seq ?_
 refine CWalk.region ?_
 refine wo (Spec.loadObj (ls := [(false, 1, Fact.rep [0] a0.Blocks), (false, 1, Fact.rep [0] a0.Wait), (false, 1, Fact.rep [] a0.Dead)]) ty25 rfl rfl (Has.s rfl) rfl (HasGs.cons (HasG.s rfl) (HasGs.cons (HasG.s rfl) (HasGs.cons (HasG.s rfl) HasGs.nil)))) ?_
 obtain ⟨x1, hx1, hm⟩ := bind_some hm
 refine wo (f := Fact.rep [] (x1 : Int)) (Spec.callE [0] 18 rfl en19 (disk_Check_c a0 hx1) (HasAll.cons (Has.m (Has.cv (Has.s rfl) (Cv.trans (Cv.flds (CvL.cons (Cv.m rfl) (CvL.cons (Cv.m rfl) (CvL.cons Cv.fl CvL.nil)))) (Cv.close (T := [0]) (chDisk a0)))) rfl) HasAll.nil)) ?_
 refine wo (Spec.assign (Has.s rfl)) ?_
 refine Walk.nil ?_
 refine Leaf.thenN ?_
 refine CWalk.seq ?_
 refine CWalk.region ?_
 refine mv ?_
 refine wo (Spec.neqI (Has.s rfl) Has.int) ?_
 refine Walk.nil ?_
 refine Leaf.thenN ?_
 refine CWalk.cond rfl (fun hb => ?_) (fun hb => ?_)
 ·have hm := cond_t hb hm
  refine CWalk.seq ?_
  refine CWalk.region ?_
  refine wo (Spec.build (us := []) (ls' := [(false, 1, Fact.nilv), (false, 1, Fact.nilv), (false, 1, Fact.rep [] (false : Bool))]) bd25 rfl BP.nil) ?_
  refine mv ?_
  refine ws (Step.storeObj (ls := [(false, 1, Fact.nilv), (false, 1, Fact.nilv), (false, 1, Fact.rep [] (false : Bool))]) rfl ty25 rfl rfl (Has.s rfl) rfl (HasL.flds (Has.s rfl)) rfl) ?_
  refine wo (Spec.assign (Has.s rfl)) ?_
  refine Walk.nil ?_
  refine Leaf.thenN ?_
  refine CWalk.ret ?_
  refine Leaf.thenR ?_
  obtain rfl := Option.some.inj hm
  exact Leaf.retC2 rfl (HasR.cv (HasR.obj (ls := [(false, 1, Fact.nilv), (false, 1, Fact.nilv), (false, 1, Fact.rep [] (false : Bool))]) ty25 rfl rfl (Has.s rfl) rfl (HasGs.cons (HasG.s rfl) (HasGs.cons (HasG.s rfl) (HasGs.cons (HasG.s rfl) HasGs.nil)))) (Cv.flds (CvL.cons (Cv.trans Cv.nilOw (Cv.owM (T := []) (te := []) rfl rfl)) (CvL.cons (Cv.trans Cv.nilOw (Cv.owM (T := []) (te := []) rfl rfl)) (CvL.cons Cv.fl CvL.nil))))) (HasR.cv (HasR.tmp (Has.s rfl)) Cv.fl)
 ·have hm := cond_f hb hm
  refine CWalk.skip ?_
  refine Leaf.thenN ?_
  refine CWalk.seq ?_
  refine CWalk.region ?_
  refine wo (Spec.fieldAddrO fd25_0 (Has.cv (Has.s rfl) (Cv.isvP rfl))) ?_
  refine wo (Spec.loadF (i := 0) ty22 rfl (Has.s rfl) rfl (HasG.s rfl)) ?_
  refine wo (Spec.len (Has.s rfl) Try.underlying22) ?_
  obtain ⟨x2, hx2, hm⟩ := bind_some hm
  refine ws (Step.makeOwn 19 hx2 rfl rfl ow22 zt28 (Has.s rfl)) ?_
  refine wo (Spec.build (us := [(0, .tmp 14), (2, .const (.bool true))]) (ls' := [(false, 1, Fact.isv 19), (false, 1, Fact.nilv), (false, 1, Fact.rep [] (true : Bool))]) bd25 rfl (BP.cons rfl rfl (Has.cv (Has.s rfl) (Cv.own rfl)) (Has.s rfl) (BP.cons rfl rfl Has.bool Has.bool BP.nil))) ?_
  refine ws (Step.storeObj (ls := [(false, 1, Fact.isv 19), (false, 1, Fact.nilv), (false, 1, Fact.rep [] (true : Bool))]) rfl ty25 rfl rfl (Has.s rfl) rfl (HasL.flds (Has.s rfl)) rfl) ?_
  refine wo (Spec.assign Has.int) ?_
  refine Walk.nil ?_
  refine Leaf.thenN ?_
  refine CWalk.ret ?_
  obtain rfl := Option.some.inj hm
  exact Leaf.retC2 rfl (HasR.cv (HasR.obj (ls := [(false, 1, Fact.isv 19), (false, 1, Fact.nilv), (false, 1, Fact.rep [] (true : Bool))]) ty25 rfl rfl (Has.s rfl) rfl (HasGs.cons (HasG.s rfl) (HasGs.cons (HasG.s rfl) (HasGs.cons (HasG.s rfl) HasGs.nil)))) (Cv.flds (CvL.cons (Cv.trans (Cv.isvOw rfl) (Cv.owM (T := [19]) (te := []) rfl rfl)) (CvL.cons (Cv.trans Cv.nilOw (Cv.owM (T := []) (te := []) rfl rfl)) (CvL.cons Cv.fl CvL.nil))))) (HasR.cv (HasR.tmp (Has.s rfl)) Cv.fl)

def slices_EqualFunc_byte_byte_byte_byte_L1 (a0 : List (List UInt8)) (a1 : List (List UInt8)) (a2 : ((List UInt8) × (List UInt8)) → Option Bool) (s1 : Int) : Option (Ctl (Int) ((Unit) ⊕ (Unit))) :=
  (bif (decide (s1 < ((a0).length : Int))) then Option.bind (idx a0 s1) (fun x3 => Option.bind (idx a1 s1) (fun x4 => Option.bind (a2 (x3, x4)) (fun x5 => (bif (!x5) then some (Ctl.brk (Sum.inr ())) else some (Ctl.next (wI (s1 + (1 : Int)))))))) else some (Ctl.brk (Sum.inl ())))
/-- slices.EqualFunc[[][]byte,[][]byte,[]byte,[]byte] -/
def slices_EqualFunc_byte_byte_byte_byte (a0 : List (List UInt8)) (a1 : List (List UInt8)) (a2 : ((List UInt8) × (List UInt8)) → Option Bool) : Option (Bool) :=
  (bif (((a0).length : Int) != ((a1).length : Int)) then some false else Option.bind (loopM (fun s : Int => slices_EqualFunc_byte_byte_byte_byte_L1 a0 a1 a2 s) FUEL (0 : Int)) (fun b6 => Sum.elim (fun b7 => some true) (fun b8 => some false) b6))
set_option maxRecDepth 100000 in
set_option maxHeartbeats 2000000 in
theorem slices_EqualFunc_byte_byte_byte_byte_c (a0 : List (List UInt8)) (a1 : List (List UInt8)) (a2 : ((List UInt8) × (List UInt8)) → Option Bool) {r : Bool} (hm : slices_EqualFunc_byte_byte_byte_byte a0 a1 a2 = some r) : Ctr Try.prog 53 [.rep 0 a0, .rep 0 a1, .fn Try.prog pre2 0 a2] (.fl r) [] := by
 refine ctr_of_walk [[]] 32 Try.func53 rfl rfl rfl rfl (fun w0 om => ?_)
 unfold slices_EqualFunc_byte_byte_byte_byte at hm
 refine CWalk.sub (G' := [.fact 0 (.rep [0] (a0 : List (List UInt8))), .fact 1 (.rep [0] (a1 : List (List UInt8))), .fact 2 (.fn Try.prog pre2 [0] (a2))]) (sn (sn (sn Sub.nil))) ?_
 refine CWalk.seq ?_
 refine CWalk.region ?_
 refine wo (Spec.assign Has.bool) ?_
 refine Walk.nil ?_
 refine Leaf.thenN ?_
 refine CWalk.seq ?_
 refine CWalk.seq ?_
 refine CWalk.region ?_
 refine mv ?_
 refine wo (Spec.len (Has.s rfl) Try.underlying22) ?_
 refine mv ?_
 refine wo (Spec.len (Has.s rfl) Try.underlying22) ?_
 refine wo (Spec.neqI (Has.s rfl) (Has.s rfl)) ?_
 refine Walk.nil ?_
 refine Leaf.thenN ?_
 refine CWalk.cond rfl (fun hb => ?_) (fun hb => ?_)
 ·have hm := cond_t hb hm
  refine CWalk.seq ?_
  refine CWalk.region ?_
  refine wo (Spec.assign Has.bool) ?_
  refine Walk.nil ?_
  refine Leaf.thenN ?_
  refine CWalk.ret ?_
  refine Leaf.thenR ?_
  obtain rfl := Option.some.inj hm
  exact Leaf.retC1 rfl (HasR.cv (HasR.tmp (Has.s rfl)) Cv.fl)
 ·have hm := cond_f hb hm
  refine CWalk.skip ?_
  refine Leaf.thenN ?_
  refine CWalk.seq ?_
  refine CWalk.seq ?_
  refine CWalk.region ?_
  refine mv ?_
  refine wo (Spec.len (Has.s rfl) Try.underlying22) ?_
  refine wo (Spec.move Has.int) ?_
  refine Walk.nil ?_
  refine Leaf.thenN ?_
  refine CWalk.block ?_
  obtain ⟨b6, hb6, hm⟩ := bind_some hm
  refine CWalk.loop (fun s : Int => [.fact 1 (.rep [0] (a1 : List (List UInt8))), .fact 2 (.fn Try.prog pre2 [0] (a2)), .fact 15 (.rep [0] (a0 : List (List UInt8))), .fact 16 (.rep [] (((a0).length : Int) : Int)), .fact 17 (.rep [] (s : Int))]) (fun b : (Unit) ⊕ (Unit) => Sum.elim (fun b => (Exit.exit 0, [])) (fun b => (Exit.ret, [.fact 6 (.rep [] (false : Bool))])) b) hb6 (su (sn (su (st (st Sub.nil))))) ?_ ?_
  ·rintro s1 c2 hm
   replace hm : slices_EqualFunc_byte_byte_byte_byte_L1 a0 a1 a2 s1 = some c2 := hm
   unfold slices_EqualFunc_byte_byte_byte_byte_L1 at hm
   show CWalk _ [.fact 1 (.rep [0] (a1 : List (List UInt8))), .fact 2 (.fn Try.prog pre2 [0] (a2)), .fact 15 (.rep [0] (a0 : List (List UInt8))), .fact 16 (.rep [] (((a0).length : Int) : Int)), .fact 17 (.rep [] (s1 : Int))] _ _
   refine CWalk.seq ?_
   refine CWalk.region ?_
   refine wo (Spec.lssI (Has.s rfl) (Has.s rfl)) ?_
   refine Walk.nil ?_
   refine Leaf.thenN ?_
   refine CWalk.seq ?_
   refine CWalk.cond rfl (fun hb => ?_) (fun hb => ?_)
   ·have hm := cond_t hb hm
    refine CWalk.skip ?_
    refine Leaf.thenN ?_
    refine CWalk.seq ?_
    refine CWalk.block ?_
    refine CWalk.seq ?_
    refine CWalk.region ?_
    refine mv ?_
    obtain ⟨x3, hx3, hm⟩ := bind_some hm
    refine wo (Spec.indexAddr hx3 sl22 (Has.s rfl) (Has.s rfl)) ?_
    refine wo (Spec.load ty28 (Has.s rfl)) ?_
    refine wo (Spec.assign (Has.s rfl)) ?_
    refine wo (Spec.assign (Has.s rfl)) ?_
    refine Walk.nil ?_
    refine Leaf.thenN ?_
    refine CWalk.seq ?_
    refine CWalk.region ?_
    refine mv ?_
    refine mv ?_
    obtain ⟨x4, hx4, hm⟩ := bind_some hm
    refine wo (Spec.indexAddr hx4 sl22 (Has.s rfl) (Has.s rfl)) ?_
    refine wo (Spec.load ty28 (Has.s rfl)) ?_
    refine wo (Spec.assign (Has.s rfl)) ?_
    refine Walk.nil ?_
    refine Leaf.thenN ?_
    refine CWalk.seq ?_
    refine CWalk.region ?_
    refine mv ?_
    refine mv ?_
    refine mv ?_
    obtain ⟨x5, hx5, hm⟩ := bind_some hm
    refine wo (Spec.callFn (xs := [.tmp 27, .tmp 28]) (x := (x3, x4)) [0] 10 rfl hx5 (Has.s rfl) (HasAll.cons (Has.m (Has.s rfl) rfl) (HasAll.cons (Has.m (Has.s rfl) rfl) HasAll.nil))) ?_
    refine wo (Spec.not (Has.s rfl)) ?_
    refine Walk.nil ?_
    refine Leaf.thenN ?_
    refine CWalk.cond rfl (fun hb => ?_) (fun hb => ?_)
    ·have hm := cond_t hb hm
     refine CWalk.seq ?_
     refine CWalk.region ?_
     refine wo (Spec.assign Has.bool) ?_
     refine Walk.nil ?_
     refine Leaf.thenN ?_
     refine CWalk.ret ?_
     refine Leaf.blockR ?_
     refine Leaf.thenR ?_
     exact Leaf.brk hm (fun h => nomatch h) rfl (st Sub.nil)
    ·have hm := cond_f hb hm
     refine CWalk.skip ?_
     refine Leaf.blockN ?_
     refine Leaf.thenN ?_
     refine CWalk.region ?_
     refine wo (Spec.addI (Has.s rfl) Has.int) ?_
     refine mv ?_
     refine Walk.nil ?_
     exact Leaf.next hm (su (sn (su (st (st Sub.nil)))))
   ·have hm := cond_f hb hm
    refine CWalk.exit ?_
    refine Leaf.thenE ?_
    exact Leaf.brk hm (fun h => nomatch h) rfl (Sub.nil)
  ·intro _
   rcases b6 with b7 | b8
   ·have hm := selim_l hm
    refine Leaf.blockE ?_
    refine Leaf.thenN ?_
    refine CWalk.seq ?_
    refine CWalk.region ?_
    refine wo (Spec.assign Has.bool) ?_
    refine Walk.nil ?_
    refine Leaf.thenN ?_
    refine CWalk.ret ?_
    obtain rfl := Option.some.inj hm
    exact Leaf.retC1 rfl (HasR.cv (HasR.tmp (Has.s rfl)) Cv.fl)
   ·have hm := selim_r hm
    refine Leaf.blockR ?_
    refine Leaf.thenR ?_
    obtain rfl := Option.some.inj hm
    exact Leaf.retC1 rfl (HasR.cv (HasR.tmp (Has.s rfl)) Cv.fl)

/-- bytes.Equal -/
def bytes_Equal (a0 : List UInt8) (a1 : List UInt8) : Option (Bool) :=
  some ((Str.mk a0).s == (Str.mk a1).s)
set_option maxRecDepth 100000 in
set_option maxHeartbeats 2000000 in
theorem bytes_Equal_c (a0 : List UInt8) (a1 : List UInt8) {r : Bool} (hm : bytes_Equal a0 a1 = some r) : Ctr Try.prog 51 [.rep 0 a0, .rep 0 a1] (.fl r) [] := by
 refine ctr_of_walk [[]] 10 Try.func51 rfl rfl rfl rfl (fun w0 om => ?_)
 unfold bytes_Equal at hm
 refine CWalk.sub (G' := [.fact 0 (.rep [0] (a0 : List UInt8)), .fact 1 (.rep [0] (a1 : List UInt8))]) (sn (sn Sub.nil)) ?_
 refine CWalk.seq ?_
 refine CWalk.region ?_
 refine wo (Spec.assign Has.bool) ?_
 refine Walk.nil ?_
 refine Leaf.thenN ?_
 refine CWalk.seq ?_
 refine CWalk.region ?_
 refine mv ?_
 refine wo (Spec.toStr Try.underlying28 Try.underlying5 Try.underlying9 (Has.s rfl)) ?_
 refine mv ?_
 refine wo (Spec.toStr Try.underlying28 Try.underlying5 Try.underlying9 (Has.s rfl)) ?_
 refine wo (Spec.eqlS (Has.s rfl) (Has.s rfl)) ?_
 refine wo (Spec.assign (Has.s rfl)) ?_
 refine Walk.nil ?_
 refine Leaf.thenN ?_
 refine CWalk.ret ?_
 obtain rfl := Option.some.inj hm
 exact Leaf.retC1 rfl (HasR.cv (HasR.tmp (Has.s rfl)) Cv.fl)

/-- freeboard/disk.Same$1 -/
def disk_Same_1 (a0 : List UInt8) (a1 : List UInt8) : Option (Bool) :=
  Option.bind (disk_block a0) (fun x1 => Option.bind (disk_block a1) (fun x2 => Option.bind (bytes_Equal x1 x2) (fun x3 => some x3)))
set_option maxRecDepth 100000 in
set_option maxHeartbeats 2000000 in
theorem disk_Same_1_c (a0 : List UInt8) (a1 : List UInt8) {r : Bool} (hm : disk_Same_1 a0 a1 = some r) : Ctr Try.prog 50 [.rep 0 a0, .rep 0 a1] (.fl r) [] := by
 refine ctr_of_walk [[]] 10 Try.func50 rfl rfl rfl rfl (fun w0 om => ?_)
 unfold disk_Same_1 at hm
 refine CWalk.sub (G' := [.fact 0 (.rep [0] (a0 : List UInt8)), .fact 1 (.rep [0] (a1 : List UInt8))]) (sn (sn Sub.nil)) ?_
 refine CWalk.seq ?_
 refine CWalk.region ?_
 refine wo (Spec.assign Has.bool) ?_
 refine Walk.nil ?_
 refine Leaf.thenN ?_
 refine CWalk.seq ?_
 refine CWalk.region ?_
 refine mv ?_
 obtain ⟨x1, hx1, hm⟩ := bind_some hm
 refine wo (f := Fact.ow [10] [] 5 (x1 : List UInt8)) (Spec.callE [0] 10 rfl en37 (disk_block_c a0 hx1) (HasAll.cons (Has.m (Has.s rfl) rfl) HasAll.nil)) ?_
 refine mv ?_
 obtain ⟨x2, hx2, hm⟩ := bind_some hm
 refine wo (f := Fact.ow [11] [] 5 (x2 : List UInt8)) (Spec.callE [0] 11 rfl en37 (disk_block_c a1 hx2) (HasAll.cons (Has.m (Has.s rfl) rfl) HasAll.nil)) ?_
 obtain ⟨x3, hx3, hm⟩ := bind_some hm
 refine wo (f := Fact.rep [] (x3 : Bool)) (Spec.callE [10, 11] 12 rfl en51 (bytes_Equal_c x1 x2 hx3) (HasAll.cons (Has.m (Has.cv (Has.s rfl) (Cv.trans Cv.owSl (Cv.slRep (T' := [10]) rfl rfl))) rfl) (HasAll.cons (Has.m (Has.cv (Has.s rfl) (Cv.trans Cv.owSl (Cv.slRep (T' := [11]) rfl rfl))) rfl) HasAll.nil))) ?_
 refine wo (Spec.assign (Has.s rfl)) ?_
 refine Walk.nil ?_
 refine Leaf.thenN ?_
 refine CWalk.ret ?_
 obtain rfl := Option.some.inj hm
 exact Leaf.retC1 rfl (HasR.cv (HasR.tmp (Has.s rfl)) Cv.fl)

def slices_EqualFunc_api_Write_api_Write_api_Write_api_Write_L1 (a0 : List Write) (a1 : List Write) (a2 : (Write × Write) → Option Bool) (s1 : Int) : Option (Ctl (Int) ((Unit) ⊕ (Unit))) :=
  (bif (decide (s1 < ((a0).length : Int))) then Option.bind (idx a0 s1) (fun x3 => Option.bind (idx a1 s1) (fun x4 => Option.bind (a2 (x3, x4)) (fun x5 => (bif (!x5) then some (Ctl.brk (Sum.inr ())) else some (Ctl.next (wI (s1 + (1 : Int)))))))) else some (Ctl.brk (Sum.inl ())))
/-- slices.EqualFunc[[]freeboard/api.Write,[]freeboard/api.Write,freeboard/api.Write,freeboard/api.Write] -/
def slices_EqualFunc_api_Write_api_Write_api_Write_api_Write (a0 : List Write) (a1 : List Write) (a2 : (Write × Write) → Option Bool) : Option (Bool) :=
  (bif (((a0).length : Int) != ((a1).length : Int)) then some false else Option.bind (loopM (fun s : Int => slices_EqualFunc_api_Write_api_Write_api_Write_api_Write_L1 a0 a1 a2 s) FUEL (0 : Int)) (fun b6 => Sum.elim (fun b7 => some true) (fun b8 => some false) b6))
set_option maxRecDepth 100000 in
set_option maxHeartbeats 2000000 in
theorem slices_EqualFunc_api_Write_api_Write_api_Write_api_Write_c (a0 : List Write) (a1 : List Write) (a2 : (Write × Write) → Option Bool) {r : Bool} (hm : slices_EqualFunc_api_Write_api_Write_api_Write_api_Write a0 a1 a2 = some r) : Ctr Try.prog 54 [.rep 0 a0, .rep 0 a1, .fn Try.prog pre2 0 a2] (.fl r) [] := by
 refine ctr_of_walk [[]] 32 Try.func54 rfl rfl rfl rfl (fun w0 om => ?_)
 unfold slices_EqualFunc_api_Write_api_Write_api_Write_api_Write at hm
 refine CWalk.sub (G' := [.fact 0 (.rep [0] (a0 : List Write)), .fact 1 (.rep [0] (a1 : List Write)), .fact 2 (.fn Try.prog pre2 [0] (a2))]) (sn (sn (sn Sub.nil))) ?_
 refine CWalk.seq ?_
 refine CWalk.region ?_
 refine wo (Spec.assign Has.bool) ?_
 refine Walk.nil ?_
 refine Leaf.thenN ?_
 refine CWalk.seq ?_
 refine CWalk.seq ?_
 refine CWalk.region ?_
 refine mv ?_
 refine wo (Spec.len (Has.s rfl) Try.underlying23) ?_
 refine mv ?_
 refine wo (Spec.len (Has.s rfl) Try.underlying23) ?_
 refine wo (Spec.neqI (Has.s rfl) (Has.s rfl)) ?_
 refine Walk.nil ?_
 refine Leaf.thenN ?_
 refine CWalk.cond rfl (fun hb => ?_) (fun hb => ?_)
 ·have hm := cond_t hb hm
  refine CWalk.seq ?_
  refine CWalk.region ?_
  refine wo (Spec.assign Has.bool) ?_
  refine Walk.nil ?_
  refine Leaf.thenN ?_
  refine CWalk.ret ?_
  refine Leaf.thenR ?_
  obtain rfl := Option.some.inj hm
  exact Leaf.retC1 rfl (HasR.cv (HasR.tmp (Has.s rfl)) Cv.fl)
 ·have hm := cond_f hb hm
  refine CWalk.skip ?_
  refine Leaf.thenN ?_
  refine CWalk.seq ?_
  refine CWalk.seq ?_
  refine CWalk.region ?_
  refine mv ?_
  refine wo (Spec.len (Has.s rfl) Try.underlying23) ?_
  refine wo (Spec.move Has.int) ?_
  refine Walk.nil ?_
  refine Leaf.thenN ?_
  refine CWalk.block ?_
  obtain ⟨b6, hb6, hm⟩ := bind_some hm
  refine CWalk.loop (fun s : Int => [.fact 1 (.rep [0] (a1 : List Write)), .fact 2 (.fn Try.prog pre2 [0] (a2)), .fact 15 (.rep [0] (a0 : List Write)), .fact 16 (.rep [] (((a0).length : Int) : Int)), .fact 17 (.rep [] (s : Int))]) (fun b : (Unit) ⊕ (Unit) => Sum.elim (fun b => (Exit.exit 0, [])) (fun b => (Exit.ret, [.fact 6 (.rep [] (false : Bool))])) b) hb6 (su (sn (su (st (st Sub.nil))))) ?_ ?_
  ·rintro s1 c2 hm
   replace hm : slices_EqualFunc_api_Write_api_Write_api_Write_api_Write_L1 a0 a1 a2 s1 = some c2 := hm
   unfold slices_EqualFunc_api_Write_api_Write_api_Write_api_Write_L1 at hm
   show CWalk _ [.fact 1 (.rep [0] (a1 : List Write)), .fact 2 (.fn Try.prog pre2 [0] (a2)), .fact 15 (.rep [0] (a0 : List Write)), .fact 16 (.rep [] (((a0).length : Int) : Int)), .fact 17 (.rep [] (s1 : Int))] _ _
   refine CWalk.seq ?_
   refine CWalk.region ?_
   refine wo (Spec.lssI (Has.s rfl) (Has.s rfl)) ?_
   refine Walk.nil ?_
   refine Leaf.thenN ?_
   refine CWalk.seq ?_
   refine CWalk.cond rfl (fun hb => ?_) (fun hb => ?_)
   ·have hm := cond_t hb hm
    refine CWalk.skip ?_
    refine Leaf.thenN ?_
    refine CWalk.seq ?_
    refine CWalk.block ?_
    refine CWalk.seq ?_
    refine CWalk.region ?_
    refine mv ?_
    obtain ⟨x3, hx3, hm⟩ := bind_some hm
    refine wo (Spec.indexAddr hx3 sl23 (Has.s rfl) (Has.s rfl)) ?_
    refine wo (Spec.load ty59 (Has.s rfl)) ?_
    refine ws (Step.allocObj (ls := [(false, 1, Fact.rep [] ((0 : Int) : Int)), (false, 1, Fact.nilv)]) 10 rfl rfl rfl rfl zl59) ?_
    refine wo (Spec.assign (Has.s rfl)) ?_
    refine ws (Step.storeObj (ls := [(false, 1, Fact.rep [] x3.At), (false, 1, Fact.rep [0] x3.Data)]) rfl ty59 rfl rfl (Has.s rfl) rfl (HasL.flds (Has.cv (Has.s rfl) (Cv.trans (Cv.opens (chWrite x3)) (Cv.flds (CvL.cons Cv.fl (CvL.cons Cv.refl CvL.nil)))))) rfl) ?_
    refine Walk.nil ?_
    refine Leaf.thenN ?_
    refine CWalk.seq ?_
    refine CWalk.region ?_
    refine mv ?_
    refine mv ?_
    obtain ⟨x4, hx4, hm⟩ := bind_some hm
    refine wo (Spec.indexAddr hx4 sl23 (Has.s rfl) (Has.s rfl)) ?_
    refine wo (Spec.load ty59 (Has.s rfl)) ?_
    refine ws (Step.allocObj (ls := [(false, 1, Fact.rep [] ((0 : Int) : Int)), (false, 1, Fact.nilv)]) 13 rfl rfl rfl rfl zl59) ?_
    refine ws (Step.storeObj (ls := [(false, 1, Fact.rep [] x4.At), (false, 1, Fact.rep [0] x4.Data)]) rfl ty59 rfl rfl (Has.s rfl) rfl (HasL.flds (Has.cv (Has.s rfl) (Cv.trans (Cv.opens (chWrite x4)) (Cv.flds (CvL.cons Cv.fl (CvL.cons Cv.refl CvL.nil)))))) rfl) ?_
    refine Walk.nil ?_
    refine Leaf.thenN ?_
    refine CWalk.seq ?_
    refine CWalk.region ?_
    refine mv ?_
    refine wo (Spec.loadObj (ls := [(false, 1, Fact.rep [] x3.At), (false, 1, Fact.rep [0] x3.Data)]) ty59 rfl rfl (Has.s rfl) rfl (HasGs.cons (HasG.s rfl) (HasGs.cons (HasG.s rfl) HasGs.nil))) ?_
    refine wo (Spec.loadObj (ls := [(false, 1, Fact.rep [] x4.At), (false, 1, Fact.rep [0] x4.Data)]) ty59 rfl rfl (Has.s rfl) rfl (HasGs.cons (HasG.s rfl) (HasGs.cons (HasG.s rfl) HasGs.nil))) ?_
    obtain ⟨x5, hx5, hm⟩ := bind_some hm
    refine wo (Spec.callFn (xs := [.tmp 27, .tmp 28]) (x := (x3, x4)) [0] 16 rfl hx5 (Has.s rfl) (HasAll.cons (Has.m (Has.cv (Has.s rfl) (Cv.trans (Cv.flds (CvL.cons Cv.fl (CvL.cons (Cv.m rfl) CvL.nil))) (Cv.close (T := [0]) (chWrite x3)))) rfl) (HasAll.cons (Has.m (Has.cv (Has.s rfl) (Cv.trans (Cv.flds (CvL.cons Cv.fl (CvL.cons (Cv.m rfl) CvL.nil))) (Cv.close (T := [0]) (chWrite x4)))) rfl) HasAll.nil))) ?_
    refine wo (Spec.not (Has.s rfl)) ?_
    refine Walk.nil ?_
    refine Leaf.thenN ?_
    refine CWalk.cond rfl (fun hb => ?_) (fun hb => ?_)
    ·have hm := cond_t hb hm
     refine CWalk.seq ?_
     refine CWalk.region ?_
     refine wo (Spec.assign Has.bool) ?_
     refine Walk.nil ?_
     refine Leaf.thenN ?_
     refine CWalk.ret ?_
     refine Leaf.blockR ?_
     refine Leaf.thenR ?_
     exact Leaf.brk hm (fun h => nomatch h) rfl (st Sub.nil)
    ·have hm := cond_f hb hm
     refine CWalk.skip ?_
     refine Leaf.blockN ?_
     refine Leaf.thenN ?_
     refine CWalk.region ?_
     refine wo (Spec.addI (Has.s rfl) Has.int) ?_
     refine mv ?_
     refine Walk.nil ?_
     exact Leaf.next hm (su (sn (su (st (st Sub.nil)))))
   ·have hm := cond_f hb hm
    refine CWalk.exit ?_
    refine Leaf.thenE ?_
    exact Leaf.brk hm (fun h => nomatch h) rfl (Sub.nil)
  ·intro _
   rcases b6 with b7 | b8
   ·have hm := selim_l hm
    refine Leaf.blockE ?_
    refine Leaf.thenN ?_
    refine CWalk.seq ?_
    refine CWalk.region ?_
    refine wo (Spec.assign Has.bool) ?_
    refine Walk.nil ?_
    refine Leaf.thenN ?_
    refine CWalk.ret ?_
    obtain rfl := Option.some.inj hm
    exact Leaf.retC1 rfl (HasR.cv (HasR.tmp (Has.s rfl)) Cv.fl)
   ·have hm := selim_r hm
    refine Leaf.blockR ?_
    refine Leaf.thenR ?_
    obtain rfl := Option.some.inj hm
    exact Leaf.retC1 rfl (HasR.cv (HasR.tmp (Has.s rfl)) Cv.fl)

def disk_Same_J1 (a0 : Disk) (a1 : Disk) (x1 : Bool) (j4 : Bool) : Option (Bool) :=
  some (((a0.Dead == a1.Dead) && x1) && j4)
def disk_Same_J3 (s5 : Int) (j9 : Bool) : Option (Ctl (Int) ((Unit) ⊕ (Unit))) :=
  (bif (!j9) then some (Ctl.brk (Sum.inr ())) else some (Ctl.next (wI (s5 + (1 : Int)))))
def disk_Same_J4 (s5 : Int) (x7 : Write) (x8 : Write) (j12 : Bool) : Option (Ctl (Int) ((Unit) ⊕ (Unit))) :=
  (disk_Same_J3 s5 ((x7.At == x8.At) && j12))
def disk_Same_L2 (a0 : Disk) (a1 : Disk) (s5 : Int) : Option (Ctl (Int) ((Unit) ⊕ (Unit))) :=
  (bif (decide (s5 < ((a0.Wait).length : Int))) then Option.bind (idx a0.Wait s5) (fun x7 => Option.bind (idx a1.Wait s5) (fun x8 => (bif (x7.At == x8.At) then Option.bind (disk_block x7.Data) (fun x13 => Option.bind (disk_block x8.Data) (fun x14 => Option.bind (bytes_Equal x13 x14) (fun x15 => (disk_Same_J4 s5 x7 x8 x15)))) else (disk_Same_J4 s5 x7 x8 default)))) else some (Ctl.brk (Sum.inl ())))
/-- freeboard/disk.Same -/
def disk_Same (a0 : Disk) (a1 : Disk) : Option (Bool) :=
  Option.bind (gO ((a0.Dead == a1.Dead)) (slices_EqualFunc_byte_byte_byte_byte a0.Blocks a1.Blocks (fun y => disk_Same_1 y.1 y.2))) (fun x1 => (bif ((a0.Dead == a1.Dead) && x1) then (bif (((a0.Wait).length : Int) != ((a1.Wait).length : Int)) then (disk_Same_J1 a0 a1 x1 false) else Option.bind (loopM (fun s : Int => disk_Same_L2 a0 a1 s) FUEL (0 : Int)) (fun b16 => Sum.elim (fun b17 => (disk_Same_J1 a0 a1 x1 true)) (fun b18 => (disk_Same_J1 a0 a1 x1 false)) b16)) else (disk_Same_J1 a0 a1 x1 default)))
set_option maxRecDepth 100000 in
set_option maxHeartbeats 2000000 in
theorem disk_Same_c (a0 : Disk) (a1 : Disk) {r : Bool} (hm : disk_Same a0 a1 = some r) : Ctr Try.prog 21 [.rep 0 a0, .rep 0 a1] (.fl r) [] := by
 refine ctr_of_walk [[]] 29 Try.func21 rfl rfl rfl rfl (fun w0 om => ?_)
 unfold disk_Same at hm
 refine CWalk.sub (G' := [.fact 0 (.rep [0] (a0 : Disk)), .fact 1 (.rep [0] (a1 : Disk))]) (sn (sn Sub.nil)) ?_
 refine CWalk.seq ?_
 refine CWalk.region ?_
 refine ws (Step.boxObj (ls := [(false, 1, Fact.rep [0] a0.Blocks), (false, 1, Fact.rep [0] a0.Wait), (false, 1, Fact.rep [] a0.Dead)]) 10 rfl rfl rfl rfl (HasL.flds (Has.cv (Has.s rfl) (Cv.trans (Cv.opens (chDisk a0)) (Cv.flds (CvL.cons Cv.refl (CvL.cons Cv.refl (CvL.cons Cv.fl CvL.nil)))))))) ?_
 refine ws (Step.boxObj (ls := [(false, 1, Fact.rep [0] a1.Blocks), (false, 1, Fact.rep [0] a1.Wait), (false, 1, Fact.rep [] a1.Dead)]) 14 rfl rfl rfl rfl (HasL.flds (Has.cv (Has.s rfl) (Cv.trans (Cv.opens (chDisk a1)) (Cv.flds (CvL.cons Cv.refl (CvL.cons Cv.refl (CvL.cons Cv.fl CvL.nil)))))))) ?_
 refine wo (Spec.assign Has.bool) ?_
 refine Walk.nil ?_
 refine Leaf.thenN ?_
 refine CWalk.seq ?_
 refine CWalk.region ?_
 refine ws (Step.allocObj (ls := [(false, 1, Fact.top)]) 18 rfl rfl rfl rfl zl71) ?_
 refine ws (Step.storeFn (i := 0) (f := Fact.fnv 50 [] []) rfl tc71 rfl (Has.cv (Has.s rfl) (Cv.isvP rfl)) rfl OneC.fnv Has.func rfl) ?_
 refine Walk.nil ?_
 refine Leaf.thenN ?_
 refine CWalk.seq ?_
 refine CWalk.region ?_
 refine wo (Spec.makeFunc (xs := []) (ys := [.tmp 5]) rfl rfl HasF.nil (HasF.cons (Has.s rfl) HasF.nil) (fun _ _ _ => rfl)) ?_
 refine wo (Spec.assign (Has.s rfl)) ?_
 refine Walk.nil ?_
 refine Leaf.thenN ?_
 refine CWalk.seq ?_
 refine CWalk.region ?_
 refine wo (Spec.fieldAddrO fd25_2 (Has.cv (Has.s rfl) (Cv.isvP rfl))) ?_
 refine wo (Spec.loadF (i := 2) ty4 rfl (Has.s rfl) rfl (HasG.s rfl)) ?_
 refine wo (Spec.fieldAddrO fd25_2 (Has.cv (Has.s rfl) (Cv.isvP rfl))) ?_
 refine wo (Spec.loadF (i := 2) ty4 rfl (Has.s rfl) rfl (HasG.s rfl)) ?_
 refine wo (Spec.eqlT (Has.s rfl) (Has.s rfl) Try.underlying4) ?_
 refine mv ?_
 refine wg rfl rfl (fun hb => Spec.fieldAddrO fd25_0 (Has.cv (Has.s rfl) (Cv.isvP rfl))) ?_
 refine wg rfl rfl (fun hb => Spec.loadF (i := 0) ty22 rfl (Has.u rfl hb) rfl (HasG.s rfl)) ?_
 refine wg rfl rfl (fun hb => Spec.fieldAddrO fd25_0 (Has.cv (Has.s rfl) (Cv.isvP rfl))) ?_
 refine wg rfl rfl (fun hb => Spec.loadF (i := 0) ty22 rfl (Has.u rfl hb) rfl (HasG.s rfl)) ?_
 refine wg rfl rfl (fun hb => Spec.loadF (α := Int) (i := 0) ty71 rfl (Has.cv (Has.s rfl) (Cv.isvP rfl)) rfl (HasG.s rfl)) ?_
 obtain ⟨x1, hx1, hm⟩ := bind_some hm
 refine wg (f := Fact.rep [] (x1 : Bool)) rfl rfl (fun hb => Spec.callE [0] 20 rfl en53 (slices_EqualFunc_byte_byte_byte_byte_c a0.Blocks a1.Blocks (fun y => disk_Same_1 y.1 y.2) (gO_t hx1 hb)) (HasAll.cons (Has.m (Has.u rfl hb) rfl) (HasAll.cons (Has.m (Has.u rfl hb) rfl) (HasAll.cons (Has.cv (Has.u rfl hb) (Cv.fn (pu := []) (pc := []) (shc := []) en50 CvF.nil CvF.nil (fun y r h => disk_Same_1_c y.1 y.2 h))) HasAll.nil)))) ?_
 refine wo (Spec.and (Has.s rfl) (fun h => Has.u rfl h)) ?_
 refine mv ?_
 refine wg rfl rfl (fun hb => Spec.fieldAddrO fd25_1 (Has.cv (Has.s rfl) (Cv.isvP rfl))) ?_
 refine wg rfl rfl (fun hb => Spec.loadF (i := 1) ty23 rfl (Has.u rfl hb) rfl (HasG.s rfl)) ?_
 refine wg rfl rfl (fun hb => Spec.fieldAddrO fd25_1 (Has.cv (Has.s rfl) (Cv.isvP rfl))) ?_
 refine wg rfl rfl (fun hb => Spec.loadF (i := 1) ty23 rfl (Has.u rfl hb) rfl (HasG.s rfl)) ?_
 refine wg rfl rfl (fun hb => Spec.move (Has.s rfl)) ?_
 refine Walk.inlineG (S := Bool) (gp := (((a0.Dead == a1.Dead) && x1) = true)) (fun p : Bool => [.fact 21 (.rep [] (((a0.Dead == a1.Dead) && x1) : Bool)), .fact 27 (.under (((a0.Dead == a1.Dead) && x1) = true) (.rep [] (p : Bool)))]) (fun p : Bool => disk_Same_J1 a0 a1 x1 p = some r) (fun u1 => [.fact 100019 (.at 19 (.fnv 50 [] [])), .fact 902021 (.cst (u1 21) (Fact.rep [] (((a0.Dead == a1.Dead) && x1) : Bool))), .fact 100018 (.obj 18 [(false, 1)])]) (FA := [Fact.rep [0] a0.Wait, Fact.rep [0] a1.Wait, Fact.fnv 52 [] [Fact.isv 18]]) rfl (GOk.one rfl rfl) Try.func54 rfl rfl rfl (fun hb => CallOk.fn en54 (HasF.cons (Has.u rfl hb) (HasF.cons (Has.u rfl hb) (HasF.cons (Has.u rfl hb) HasF.nil)))) (fun u1 => (ck (cs 902000 21 (ck Carry.nil)))) (fun hg2 u1 => ?_) (fun hg2 => ?_) ?_
 ·have hm := cond_t hg2 hm
  refine CWalk.seq ?_
  refine CWalk.region ?_
  refine wo (Spec.assign Has.bool) ?_
  refine Walk.nil ?_
  refine Leaf.thenN ?_
  refine CWalk.seq ?_
  refine CWalk.seq ?_
  refine CWalk.region ?_
  refine mv ?_
  refine wo (Spec.len (Has.s rfl) Try.underlying23) ?_
  refine mv ?_
  refine wo (Spec.len (Has.s rfl) Try.underlying23) ?_
  refine wo (Spec.neqI (Has.s rfl) (Has.s rfl)) ?_
  refine Walk.nil ?_
  refine Leaf.thenN ?_
  refine CWalk.cond rfl (fun hb => ?_) (fun hb => ?_)
  ·have hm := cond_t hb hm
   refine CWalk.seq ?_
   refine CWalk.region ?_
   refine wo (Spec.assign Has.bool) ?_
   refine Walk.nil ?_
   refine Leaf.thenN ?_
   refine CWalk.ret ?_
   refine Leaf.thenR ?_
   exact Leaf.in1 false hm rfl rfl (HasR.cv (HasR.tmp (Has.s rfl)) (Cv.trans Cv.fl (Cv.under hg2))) (Low.slot rfl (HasC.cv (HasC.s (s := 902021) rfl) Cv.fl) (Low.res Low.nil))
  ·have hm := cond_f hb hm
   refine CWalk.skip ?_
   refine Leaf.thenN ?_
   refine CWalk.seq ?_
   refine CWalk.seq ?_
   refine CWalk.region ?_
   refine mv ?_
   refine wo (Spec.len (Has.s rfl) Try.underlying23) ?_
   refine wo (Spec.move Has.int) ?_
   refine Walk.nil ?_
   refine Leaf.thenN ?_
   refine CWalk.block ?_
   obtain ⟨b16, hb16, hm⟩ := bind_some hm
   refine CWalk.loop (fun s : Int => [.fact 1 (.rep [0] a1.Wait), .fact 2 (.fnv 52 [] [Fact.isv 18]), .fact 15 (.rep [0] a0.Wait), .fact 16 (.rep [] (((a0.Wait).length : Int) : Int)), .fact 17 (.rep [] (s : Int)), .fact 902021 (.cst (u1 21) (Fact.rep [] (((a0.Dead == a1.Dead) && x1) : Bool))), .fact 100019 (.at 19 (.fnv 50 [] [])), .fact 100018 (.obj 18 [(false, 1)])]) (fun b : (Unit) ⊕ (Unit) => Sum.elim (fun b => (Exit.exit 0, [.fact 902021 (.cst (u1 21) (Fact.rep [] (((a0.Dead == a1.Dead) && x1) : Bool)))])) (fun b => (Exit.ret, [.fact 6 (.rep [] (false : Bool)), .fact 902021 (.cst (u1 21) (Fact.rep [] (((a0.Dead == a1.Dead) && x1) : Bool)))])) b) hb16 (su (sn (su (st (st (Sub.cons (Has.cst (HasC.cv (HasC.s (s := 902021) rfl) Cv.fl)) (sg (sn Sub.nil)))))))) ?_ ?_
   ·rintro s5 c6 hm
    replace hm : disk_Same_L2 a0 a1 s5 = some c6 := hm
    unfold disk_Same_L2 at hm
    show CWalk _ [.fact 1 (.rep [0] a1.Wait), .fact 2 (.fnv 52 [] [Fact.isv 18]), .fact 15 (.rep [0] a0.Wait), .fact 16 (.rep [] (((a0.Wait).length : Int) : Int)), .fact 17 (.rep [] (s5 : Int)), .fact 902021 (.cst (u1 21) (Fact.rep [] (((a0.Dead == a1.Dead) && x1) : Bool))), .fact 100019 (.at 19 (.fnv 50 [] [])), .fact 100018 (.obj 18 [(false, 1)])] _ _
    refine CWalk.seq ?_
    refine CWalk.region ?_
    refine wo (Spec.lssI (Has.s rfl) (Has.s rfl)) ?_
    refine Walk.nil ?_
    refine Leaf.thenN ?_
    refine CWalk.seq ?_
    refine CWalk.cond rfl (fun hb => ?_) (fun hb => ?_)
    ·have hm := cond_t hb hm
     refine CWalk.skip ?_
     refine Leaf.thenN ?_
     refine CWalk.seq ?_
     refine CWalk.block ?_
     refine CWalk.seq ?_
     refine CWalk.region ?_
     refine mv ?_
     obtain ⟨x7, hx7, hm⟩ := bind_some hm
     refine wo (Spec.indexAddr hx7 sl23 (Has.s rfl) (Has.s rfl)) ?_
     refine wo (Spec.load ty59 (Has.s rfl)) ?_
     refine ws (Step.allocObj (ls := [(false, 1, Fact.rep [] ((0 : Int) : Int)), (false, 1, Fact.nilv)]) 21 rfl rfl rfl rfl zl59) ?_
     refine wo (Spec.assign (Has.s rfl)) ?_
     refine ws (Step.storeObj (ls := [(false, 1, Fact.rep [] x7.At), (false, 1, Fact.rep [0] x7.Data)]) rfl ty59 rfl rfl (Has.s rfl) rfl (HasL.flds (Has.cv (Has.s rfl) (Cv.trans (Cv.opens (chWrite x7)) (Cv.flds (CvL.cons Cv.fl (CvL.cons Cv.refl CvL.nil)))))) rfl) ?_
     refine Walk.nil ?_
     refine Leaf.thenN ?_
     refine CWalk.seq ?_
     refine CWalk.region ?_
     refine mv ?_
     refine mv ?_
     obtain ⟨x8, hx8, hm⟩ := bind_some hm
     refine wo (Spec.indexAddr hx8 sl23 (Has.s rfl) (Has.s rfl)) ?_
     refine wo (Spec.load ty59 (Has.s rfl)) ?_
     refine ws (Step.allocObj (ls := [(false, 1, Fact.rep [] ((0 : Int) : Int)), (false, 1, Fact.nilv)]) 24 rfl rfl rfl rfl zl59) ?_
     refine ws (Step.storeObj (ls := [(false, 1, Fact.rep [] x8.At), (false, 1, Fact.rep [0] x8.Data)]) rfl ty59 rfl rfl (Has.s rfl) rfl (HasL.flds (Has.cv (Has.s rfl) (Cv.trans (Cv.opens (chWrite x8)) (Cv.flds (CvL.cons Cv.fl (CvL.cons Cv.refl CvL.nil)))))) rfl) ?_
     refine Walk.nil ?_
     refine Leaf.thenN ?_
     refine CWalk.seq ?_
     refine CWalk.region ?_
     refine mv ?_
     refine wo (Spec.loadObj (ls := [(false, 1, Fact.rep [] x7.At), (false, 1, Fact.rep [0] x7.Data)]) ty59 rfl rfl (Has.s rfl) rfl (HasGs.cons (HasG.s rfl) (HasGs.cons (HasG.s rfl) HasGs.nil))) ?_
     refine wo (Spec.loadObj (ls := [(false, 1, Fact.rep [] x8.At), (false, 1, Fact.rep [0] x8.Data)]) ty59 rfl rfl (Has.s rfl) rfl (HasGs.cons (HasG.s rfl) (HasGs.cons (HasG.s rfl) HasGs.nil))) ?_
     refine Walk.inline (S := Bool) (fun p : Bool => [.fact 1 (.rep [0] a1.Wait), .fact 2 (.fnv 52 [] [Fact.isv 18]), .fact 15 (.rep [0] a0.Wait), .fact 16 (.rep [] (((a0.Wait).length : Int) : Int)), .fact 17 (.rep [] (s5 : Int)), .fact 29 (.rep [] (p : Bool)), .fact 902021 (.cst (u1 21) (Fact.rep [] (((a0.Dead == a1.Dead) && x1) : Bool))), .fact 100019 (.at 19 (.fnv 50 [] [])), .fact 100018 (.obj 18 [(false, 1)])]) (fun p : Bool => disk_Same_J3 s5 p = some c6) (fun u2 => [.fact 100019 (.at 19 (.fnv 50 [] [])), .fact 902021 (.cst (u1 21) (Fact.rep [] (((a0.Dead == a1.Dead) && x1) : Bool))), .fact 904001 (.cst (u2 1) (Fact.rep [0] a1.Wait)), .fact 904002 (.cst (u2 2) (Fact.fnv 52 [] [Fact.isv 18])), .fact 904015 (.cst (u2 15) (Fact.rep [0] a0.Wait)), .fact 904016 (.cst (u2 16) (Fact.rep [] (((a0.Wait).length : Int) : Int))), .fact 904017 (.cst (u2 17) (Fact.rep [] (s5 : Int))), .fact 100018 (.obj 18 [(false, 1)])]) (FA := [Fact.flds [(false, 1, Fact.rep [] x7.At), (false, 1, Fact.rep [0] x7.Data)], Fact.flds [(false, 1, Fact.rep [] x8.At), (false, 1, Fact.rep [0] x8.Data)], Fact.isv 18]) rfl Try.func52 rfl rfl rfl (CallOk.valE en52 (Has.s rfl) (HasF.cons (Has.s rfl) (HasF.cons (Has.s rfl) HasF.nil))) (fun u2 => (ck (ck (cs 904000 1 (cs 904000 2 (cs 904000 15 (cs 904000 16 (cs 904000 17 (ck Carry.nil))))))))) (fun u2 => ?_) ?_
     ·refine CWalk.seq ?_
      refine CWalk.region ?_
      refine ws (Step.boxObj (ls := [(false, 1, Fact.rep [] x7.At), (false, 1, Fact.rep [0] x7.Data)]) 27 rfl rfl rfl rfl (HasL.flds (Has.s rfl))) ?_
      refine ws (Step.boxObj (ls := [(false, 1, Fact.rep [] x8.At), (false, 1, Fact.rep [0] x8.Data)]) 30 rfl rfl rfl rfl (HasL.flds (Has.s rfl))) ?_
      refine wo (Spec.assign Has.bool) ?_
      refine Walk.nil ?_
      refine Leaf.thenN ?_
      refine CWalk.seq ?_
      refine CWalk.region ?_
      refine wo (Spec.fieldAddrO fd59_0 (Has.cv (Has.s rfl) (Cv.isvP rfl))) ?_
      refine wo (Spec.loadF (i := 0) ty3 rfl (Has.s rfl) rfl (HasG.s rfl)) ?_
      refine wo (Spec.fieldAddrO fd59_0 (Has.cv (Has.s rfl) (Cv.isvP rfl))) ?_
      refine wo (Spec.loadF (i := 0) ty3 rfl (Has.s rfl) rfl (HasG.s rfl)) ?_
      refine wo (Spec.eqlI (Has.s rfl) (Has.s rfl)) ?_
      refine mv ?_
      refine wg rfl rfl (fun hb => Spec.loadF (α := Int) (i := 0) ty71 rfl (Has.cv (Has.s rfl) (Cv.isvP rfl)) rfl (HasG.s rfl)) ?_
      refine wg rfl rfl (fun hb => Spec.fieldAddrO fd59_1 (Has.cv (Has.s rfl) (Cv.isvP rfl))) ?_
      refine wg rfl rfl (fun hb => Spec.loadF (i := 1) ty28 rfl (Has.u rfl hb) rfl (HasG.s rfl)) ?_
      refine wg rfl rfl (fun hb => Spec.fieldAddrO fd59_1 (Has.cv (Has.s rfl) (Cv.isvP rfl))) ?_
      refine wg rfl rfl (fun hb => Spec.loadF (i := 1) ty28 rfl (Has.u rfl hb) rfl (HasG.s rfl)) ?_
      refine Walk.inlineG (S := Bool) (gp := ((x7.At == x8.At) = true)) (fun p : Bool => [.fact 11 (.rep [] ((x7.At == x8.At) : Bool)), .fact 17 (.under ((x7.At == x8.At) = true) (.rep [] (p : Bool))), .fact 902021 (.cst (u1 21) (Fact.rep [] (((a0.Dead == a1.Dead) && x1) : Bool))), .fact 904001 (.cst (u2 1) (Fact.rep [0] a1.Wait)), .fact 904002 (.cst (u2 2) (Fact.fnv 52 [] [Fact.isv 18])), .fact 904015 (.cst (u2 15) (Fact.rep [0] a0.Wait)), .fact 904016 (.cst (u2 16) (Fact.rep [] (((a0.Wait).length : Int) : Int))), .fact 904017 (.cst (u2 17) (Fact.rep [] (s5 : Int))), .fact 100019 (.at 19 (.fnv 50 [] [])), .fact 100018 (.obj 18 [(false, 1)])]) (fun p : Bool => disk_Same_J4 s5 x7 x8 p = some c6) (fun u3 => [.fact 100019 (.at 19 (.fnv 50 [] [])), .fact 902021 (.cst (u1 21) (Fact.rep [] (((a0.Dead == a1.Dead) && x1) : Bool))), .fact 904001 (.cst (u2 1) (Fact.rep [0] a1.Wait)), .fact 904002 (.cst (u2 2) (Fact.fnv 52 [] [Fact.isv 18])), .fact 904015 (.cst (u2 15) (Fact.rep [0] a0.Wait)), .fact 904016 (.cst (u2 16) (Fact.rep [] (((a0.Wait).length : Int) : Int))), .fact 904017 (.cst (u2 17) (Fact.rep [] (s5 : Int))), .fact 906011 (.cst (u3 11) (Fact.rep [] ((x7.At == x8.At) : Bool))), .fact 100018 (.obj 18 [(false, 1)])]) (FA := [Fact.rep [0] x7.Data, Fact.rep [0] x8.Data]) rfl (GOk.one rfl rfl) Try.func50 rfl rfl rfl (fun hb => CallOk.valE en50 (Has.u rfl hb) (HasF.cons (Has.u rfl hb) (HasF.cons (Has.u rfl hb) HasF.nil))) (fun u3 => (ck (ck (ck (ck (ck (ck (ck (cs 906000 11 (ck Carry.nil)))))))))) (fun hg10 u3 => ?_) (fun hg10 => ?_) ?_
      ·have hm := cond_t hg10 hm
       refine CWalk.seq ?_
       refine CWalk.region ?_
       refine wo (Spec.assign Has.bool) ?_
       refine Walk.nil ?_
       refine Leaf.thenN ?_
       refine CWalk.seq ?_
       refine CWalk.region ?_
       refine mv ?_
       obtain ⟨x13, hx13, hm⟩ := bind_some hm
       refine wo (f := Fact.ow [33] [] 5 (x13 : List UInt8)) (Spec.callE [0] 33 rfl en37 (disk_block_c x7.Data hx13) (HasAll.cons (Has.m (Has.s rfl) rfl) HasAll.nil)) ?_
       refine mv ?_
       obtain ⟨x14, hx14, hm⟩ := bind_some hm
       refine wo (f := Fact.ow [34] [] 5 (x14 : List UInt8)) (Spec.callE [0] 34 rfl en37 (disk_block_c x8.Data hx14) (HasAll.cons (Has.m (Has.s rfl) rfl) HasAll.nil)) ?_
       obtain ⟨x15, hx15, hm⟩ := bind_some hm
       refine wo (f := Fact.rep [] (x15 : Bool)) (Spec.callE [33, 34] 35 rfl en51 (bytes_Equal_c x13 x14 hx15) (HasAll.cons (Has.m (Has.cv (Has.s rfl) (Cv.trans Cv.owSl (Cv.slRep (T' := [33]) rfl rfl))) rfl) (HasAll.cons (Has.m (Has.cv (Has.s rfl) (Cv.trans Cv.owSl (Cv.slRep (T' := [34]) rfl rfl))) rfl) HasAll.nil))) ?_
       refine wo (Spec.assign (Has.s rfl)) ?_
       refine Walk.nil ?_
       refine Leaf.thenN ?_
       refine CWalk.ret ?_
       exact Leaf.in1 x15 hm rfl rfl (HasR.cv (HasR.tmp (Has.s rfl)) (Cv.trans Cv.fl (Cv.under hg10))) (Low.slot rfl (HasC.cv (HasC.s (s := 906011) rfl) Cv.fl) (Low.res (Low.keepC (HasC.cv (HasC.s (s := 902021) rfl) Cv.fl) (Low.keepC (HasC.cv (HasC.s (s := 904001) rfl) (Cv.m rfl)) (lc (Low.keepC (HasC.cv (HasC.s (s := 904015) rfl) (Cv.m rfl)) (Low.keepC (HasC.cv (HasC.s (s := 904016) rfl) Cv.fl) (Low.keepC (HasC.cv (HasC.s (s := 904017) rfl) Cv.fl) (lg (lo Low.nil))))))))))
      ·have hm := cond_f (ne_f hg10) hm
       exact ⟨default, hm, (st (Sub.cons (Has.und rfl hg10) (Sub.cons (Has.cst (HasC.cv (HasC.s (s := 902021) rfl) Cv.fl)) (Sub.cons (Has.cst (HasC.cv (HasC.s (s := 904001) rfl) (Cv.m rfl))) (sc (Sub.cons (Has.cst (HasC.cv (HasC.s (s := 904015) rfl) (Cv.m rfl))) (Sub.cons (Has.cst (HasC.cv (HasC.s (s := 904016) rfl) Cv.fl)) (Sub.cons (Has.cst (HasC.cv (HasC.s (s := 904017) rfl) Cv.fl)) (sg (sn Sub.nil))))))))))⟩
      ·rintro j12 hm
       replace hm : disk_Same_J4 s5 x7 x8 j12 = some c6 := hm
       unfold disk_Same_J4 at hm
       show Walk _ _ _ [.fact 11 (.rep [] ((x7.At == x8.At) : Bool)), .fact 17 (.under ((x7.At == x8.At) = true) (.rep [] (j12 : Bool))), .fact 902021 (.cst (u1 21) (Fact.rep [] (((a0.Dead == a1.Dead) && x1) : Bool))), .fact 904001 (.cst (u2 1) (Fact.rep [0] a1.Wait)), .fact 904002 (.cst (u2 2) (Fact.fnv 52 [] [Fact.isv 18])), .fact 904015 (.cst (u2 15) (Fact.rep [0] a0.Wait)), .fact 904016 (.cst (u2 16) (Fact.rep [] (((a0.Wait).length : Int) : Int))), .fact 904017 (.cst (u2 17) (Fact.rep [] (s5 : Int))), .fact 100019 (.at 19 (.fnv 50 [] [])), .fact 100018 (.obj 18 [(false, 1)])] _
       refine wo (Spec.and (Has.s rfl) (fun h => Has.u rfl h)) ?_
       refine wo (Spec.assign (Has.s rfl)) ?_
       refine Walk.nil ?_
       refine Leaf.thenN ?_
       refine CWalk.ret ?_
       exact Leaf.in1 ((x7.At == x8.At) && j12) hm rfl rfl (HasR.cv (HasR.tmp (Has.s rfl)) Cv.fl) (Low.slot rfl (HasC.cv (HasC.s (s := 904001) rfl) (Cv.m rfl)) (ls 904002 (Low.slot rfl (HasC.cv (HasC.s (s := 904015) rfl) (Cv.m rfl)) (Low.slot rfl (HasC.cv (HasC.s (s := 904016) rfl) Cv.fl) (Low.slot rfl (HasC.cv (HasC.s (s := 904017) rfl) Cv.fl) (Low.res (Low.keepC (HasC.cv (HasC.s (s := 902021) rfl) Cv.fl) (lg (lo Low.nil)))))))))
     ·rintro j9 hm
      replace hm : disk_Same_J3 s5 j9 = some c6 := hm
      unfold disk_Same_J3 at hm
      show Walk _ _ _ [.fact 1 (.rep [0] a1.Wait), .fact 2 (.fnv 52 [] [Fact.isv 18]), .fact 15 (.rep [0] a0.Wait), .fact 16 (.rep [] (((a0.Wait).length : Int) : Int)), .fact 17 (.rep [] (s5 : Int)), .fact 29 (.rep [] (j9 : Bool)), .fact 902021 (.cst (u1 21) (Fact.rep [] (((a0.Dead == a1.Dead) && x1) : Bool))), .fact 100019 (.at 19 (.fnv 50 [] [])), .fact 100018 (.obj 18 [(false, 1)])] _
      refine wo (Spec.not (Has.s rfl)) ?_
      refine Walk.nil ?_
      refine Leaf.thenN ?_
      refine CWalk.cond rfl (fun hb => ?_) (fun hb => ?_)
      ·have hm := cond_t hb hm
       refine CWalk.seq ?_
       refine CWalk.region ?_
       refine wo (Spec.assign Has.bool) ?_
       refine Walk.nil ?_
       refine Leaf.thenN ?_
       refine CWalk.ret ?_
       refine Leaf.blockR ?_
       refine Leaf.thenR ?_
       exact Leaf.brk hm (fun h => nomatch h) rfl (st (Sub.cons (Has.cst (HasC.cv (HasC.s (s := 902021) rfl) Cv.fl)) Sub.nil))
      ·have hm := cond_f hb hm
       refine CWalk.skip ?_
       refine Leaf.blockN ?_
       refine Leaf.thenN ?_
       refine CWalk.region ?_
       refine wo (Spec.addI (Has.s rfl) Has.int) ?_
       refine mv ?_
       refine Walk.nil ?_
       exact Leaf.next hm (su (sn (su (st (st (Sub.cons (Has.cst (HasC.cv (HasC.s (s := 902021) rfl) Cv.fl)) (sg (sn Sub.nil))))))))
    ·have hm := cond_f hb hm
     refine CWalk.exit ?_
     refine Leaf.thenE ?_
     exact Leaf.brk hm (fun h => nomatch h) rfl (Sub.cons (Has.cst (HasC.cv (HasC.s (s := 902021) rfl) Cv.fl)) Sub.nil)
   ·intro _
    rcases b16 with b17 | b18
    ·have hm := selim_l hm
     refine Leaf.blockE ?_
     refine Leaf.thenN ?_
     refine CWalk.seq ?_
     refine CWalk.region ?_
     refine wo (Spec.assign Has.bool) ?_
     refine Walk.nil ?_
     refine Leaf.thenN ?_
     refine CWalk.ret ?_
     exact Leaf.in1 true hm rfl rfl (HasR.cv (HasR.tmp (Has.s rfl)) (Cv.trans Cv.fl (Cv.under hg2))) (Low.slot rfl (HasC.cv (HasC.s (s := 902021) rfl) Cv.fl) (Low.res Low.nil))
    ·have hm := selim_r hm
     refine Leaf.blockR ?_
     refine Leaf.thenR ?_
     exact Leaf.in1 false hm rfl rfl (HasR.cv (HasR.tmp (Has.s rfl)) (Cv.trans Cv.fl (Cv.under hg2))) (Low.slot rfl (HasC.cv (HasC.s (s := 902021) rfl) Cv.fl) (Low.res Low.nil))
 ·have hm := cond_f (ne_f hg2) hm
  exact ⟨default, hm, (st (Sub.cons (Has.und rfl hg2) Sub.nil))⟩
 ·rintro j4 hm
  replace hm : disk_Same_J1 a0 a1 x1 j4 = some r := hm
  unfold disk_Same_J1 at hm
  show Walk _ _ _ [.fact 21 (.rep [] (((a0.Dead == a1.Dead) && x1) : Bool)), .fact 27 (.under (((a0.Dead == a1.Dead) && x1) = true) (.rep [] (j4 : Bool)))] _
  refine wo (Spec.and (Has.s rfl) (fun h => Has.u rfl h)) ?_
  refine wo (Spec.assign (Has.s rfl)) ?_
  refine Walk.nil ?_
  refine Leaf.thenN ?_
  refine CWalk.ret ?_
  obtain rfl := Option.some.inj hm
  exact Leaf.retC1 rfl (HasR.cv (HasR.tmp (Has.s rfl)) Cv.fl)

/-- freeboard/freeboardlaw04.gone -/
def law04_gone (a0 : Disk) : Option (Bool) :=
  Option.bind (disk_Kill a0) (fun x1 => Option.bind (disk_Write x1.1 (0 : Int) ([] : List UInt8)) (fun x2 => Option.bind (disk_Fua x1.1 (0 : Int) ([] : List UInt8)) (fun x3 => Option.bind (disk_Flush x1.1) (fun x4 => Option.bind (disk_Lasting x1.1 (0 : Int)) (fun x5 => Option.bind (disk_Kill x1.1) (fun x6 => Option.bind (gO ((((((((x1.2 == (0 : Int)) && x1.1.Dead) && (x2.2 == (40 : Int))) && (x3.2 == (40 : Int))) && (x4.2 == (40 : Int))) && (x5.2 == (40 : Int))) && (x6.2 == (0 : Int)))) (disk_Same x1.1 x6.1)) (fun x7 => some (((((((((x1.2 == (0 : Int)) && x1.1.Dead) && (x2.2 == (40 : Int))) && (x3.2 == (40 : Int))) && (x4.2 == (40 : Int))) && (x5.2 == (40 : Int))) && (x6.2 == (0 : Int))) && x7) && (((x1.1.Blocks).length : Int) == ((a0.Blocks).length : Int))))))))))
set_option maxRecDepth 100000 in
set_option maxHeartbeats 2000000 in
theorem law04_gone_c (a0 : Disk) {r : Bool} (hm : law04_gone a0 = some r) : Ctr Try.prog 35 [.rep 0 a0] (.fl r) [] := by
 refine ctr_of_walk [[]] 85 Try.func35 rfl rfl rfl rfl (fun w0 om => ?_)
 unfold law04_gone at hm
 refine CWalk.sub (G' := [.fact 0 (.rep [0] (a0 : Disk))]) (sn Sub.nil) ?_
 refine CWalk.seq ?_
 refine CWalk.region ?_
 refine ws (Step.boxObj (ls := [(false, 1, Fact.rep [0] a0.Blocks), (false, 1, Fact.rep [0] a0.Wait), (false, 1, Fact.rep [] a0.Dead)]) 10 rfl rfl rfl rfl (HasL.flds (Has.cv (Has.s rfl) (Cv.trans (Cv.opens (chDisk a0)) (Cv.flds (CvL.cons Cv.refl (CvL.cons Cv.refl (CvL.cons Cv.fl CvL.nil)))))))) ?_
 refine wo (Spec.assign Has.bool) ?_
 refine Walk.nil ?_
 refine Leaf.thenN ?_
 refine CWalk.seq ?_
 refine CWalk.region ?_
 refine wo (Spec.loadObj (ls := [(false, 1, Fact.rep [0] a0.Blocks), (false, 1, Fact.rep [0] a0.Wait), (false, 1, Fact.rep [] a0.Dead)]) ty25 rfl rfl (Has.s rfl) rfl (HasGs.cons (HasG.s rfl) (HasGs.cons (HasG.s rfl) (HasGs.cons (HasG.s rfl) HasGs.nil)))) ?_
 obtain ⟨x1, hx1, hm⟩ := bind_some hm
 refine wo (f := Fact.tup2 (Fact.flds [(false, 1, Fact.ow [14] [] 28 (x1.1.Blocks : List (List UInt8))), (false, 1, Fact.ow [14] [] 59 (x1.1.Wait : List Write)), (false, 1, Fact.rep [] x1.1.Dead)]) (Fact.rep [] x1.2)) (Spec.callE [0] 14 rfl en29 (disk_Kill_c a0 hx1) (HasAll.cons (Has.m (Has.cv (Has.s rfl) (Cv.trans (Cv.flds (CvL.cons (Cv.m rfl) (CvL.cons (Cv.m rfl) (CvL.cons Cv.fl CvL.nil)))) (Cv.close (T := [0]) (chDisk a0)))) rfl) HasAll.nil)) ?_
 refine mv ?_
 refine wo (Spec.ext0 (Has.s rfl)) ?_
 refine wo (Spec.ext1 (Has.s rfl)) ?_
 refine ws (Step.allocObj (ls := [(false, 1, Fact.nilv), (false, 1, Fact.nilv), (false, 1, Fact.rep [] (false : Bool))]) 15 rfl rfl rfl rfl zl25) ?_
 refine ws (Step.storeObj (ls := [(false, 1, Fact.ow [14] [] 28 (x1.1.Blocks : List (List UInt8))), (false, 1, Fact.ow [14] [] 59 (x1.1.Wait : List Write)), (false, 1, Fact.rep [] x1.1.Dead)]) rfl ty25 rfl rfl (Has.s rfl) rfl (HasL.flds (Has.s rfl)) rfl) ?_
 refine wo (Spec.assign (Has.s rfl)) ?_
 refine Walk.nil ?_
 refine Leaf.thenN ?_
 refine CWalk.seq ?_
 refine CWalk.region ?_
 refine wo (Spec.loadObj (ls := [(false, 1, Fact.ow [14] [] 28 (x1.1.Blocks : List (List UInt8))), (false, 1, Fact.ow [14] [] 59 (x1.1.Wait : List Write)), (false, 1, Fact.rep [] x1.1.Dead)]) ty25 rfl rfl (Has.s rfl) rfl (HasGs.cons (HasG.s rfl) (HasGs.cons (HasG.s rfl) (HasGs.cons (HasG.s rfl) HasGs.nil)))) ?_
 obtain ⟨x2, hx2, hm⟩ := bind_some hm
 refine wo (f := Fact.tup2 (Fact.flds [(false, 1, Fact.ow [19] [20] 28 (x2.1.Blocks : List (List UInt8))), (false, 1, Fact.ow [21] [22] 59 (x2.1.Wait : List Write)), (false, 1, Fact.rep [] x2.1.Dead)]) (Fact.rep [] x2.2)) (Spec.callE [14] 19 rfl en23 (disk_Write_c x1.1 (0 : Int) ([] : List UInt8) hx2) (HasAll.cons (Has.m (Has.cv (Has.s rfl) (Cv.trans (Cv.flds (CvL.cons (Cv.trans (Cv.trans Cv.owSl (Cv.slRep (T' := [14]) rfl rfl)) (Cv.m rfl)) (CvL.cons (Cv.trans (Cv.trans Cv.owSl (Cv.slRep (T' := [14]) rfl rfl)) (Cv.m rfl)) (CvL.cons Cv.fl CvL.nil)))) (Cv.close (T := [14]) (chDisk x1.1)))) rfl) (HasAll.cons (Has.fl Has.int) (HasAll.cons (Has.m (Has.nil UInt8) rfl) HasAll.nil)))) ?_
 refine mv ?_
 refine wo (Spec.ext0 (Has.s rfl)) ?_
 refine wo (Spec.ext1 (Has.s rfl)) ?_
 refine ws (Step.allocObj (ls := [(false, 1, Fact.nilv), (false, 1, Fact.nilv), (false, 1, Fact.rep [] (false : Bool))]) 23 rfl rfl rfl rfl zl25) ?_
 refine ws (Step.storeObj (ls := [(false, 1, Fact.ow [19] [20] 28 (x2.1.Blocks : List (List UInt8))), (false, 1, Fact.ow [21] [22] 59 (x2.1.Wait : List Write)), (false, 1, Fact.rep [] x2.1.Dead)]) rfl ty25 rfl rfl (Has.s rfl) rfl (HasL.flds (Has.s rfl)) rfl) ?_
 refine wo (Spec.assign (Has.s rfl)) ?_
 refine Walk.nil ?_
 refine Leaf.thenN ?_
 refine CWalk.seq ?_
 refine CWalk.region ?_
 refine wo (Spec.loadObj (ls := [(false, 1, Fact.ow [14] [] 28 (x1.1.Blocks : List (List UInt8))), (false, 1, Fact.ow [14] [] 59 (x1.1.Wait : List Write)), (false, 1, Fact.rep [] x1.1.Dead)]) ty25 rfl rfl (Has.s rfl) rfl (HasGs.cons (HasG.s rfl) (HasGs.cons (HasG.s rfl) (HasGs.cons (HasG.s rfl) HasGs.nil)))) ?_
 obtain ⟨x3, hx3, hm⟩ := bind_some hm
 refine wo (f := Fact.tup2 (Fact.flds [(false, 1, Fact.ow [27] [28] 28 (x3.1.Blocks : List (List UInt8))), (false, 1, Fact.ow [29] [30] 59 (x3.1.Wait : List Write)), (false, 1, Fact.rep [] x3.1.Dead)]) (Fact.rep [] x3.2)) (Spec.callE [14] 27 rfl en25 (disk_Fua_c x1.1 (0 : Int) ([] : List UInt8) hx3) (HasAll.cons (Has.m (Has.cv (Has.s rfl) (Cv.trans (Cv.flds (CvL.cons (Cv.trans (Cv.trans Cv.owSl (Cv.slRep (T' := [14]) rfl rfl)) (Cv.m rfl)) (CvL.cons (Cv.trans (Cv.trans Cv.owSl (Cv.slRep (T' := [14]) rfl rfl)) (Cv.m rfl)) (CvL.cons Cv.fl CvL.nil)))) (Cv.close (T := [14]) (chDisk x1.1)))) rfl) (HasAll.cons (Has.fl Has.int) (HasAll.cons (Has.m (Has.nil UInt8) rfl) HasAll.nil)))) ?_
 refine mv ?_
 refine wo (Spec.ext0 (Has.s rfl)) ?_
 refine wo (Spec.ext1 (Has.s rfl)) ?_
 refine ws (Step.allocObj (ls := [(false, 1, Fact.nilv), (false, 1, Fact.nilv), (false, 1, Fact.rep [] (false : Bool))]) 31 rfl rfl rfl rfl zl25) ?_
 refine ws (Step.storeObj (ls := [(false, 1, Fact.ow [27] [28] 28 (x3.1.Blocks : List (List UInt8))), (false, 1, Fact.ow [29] [30] 59 (x3.1.Wait : List Write)), (false, 1, Fact.rep [] x3.1.Dead)]) rfl ty25 rfl rfl (Has.s rfl) rfl (HasL.flds (Has.s rfl)) rfl) ?_
 refine wo (Spec.assign (Has.s rfl)) ?_
 refine Walk.nil ?_
 refine Leaf.thenN ?_
 refine CWalk.seq ?_
 refine CWalk.region ?_
 refine wo (Spec.loadObj (ls := [(false, 1, Fact.ow [14] [] 28 (x1.1.Blocks : List (List UInt8))), (false, 1, Fact.ow [14] [] 59 (x1.1.Wait : List Write)), (false, 1, Fact.rep [] x1.1.Dead)]) ty25 rfl rfl (Has.s rfl) rfl (HasGs.cons (HasG.s rfl) (HasGs.cons (HasG.s rfl) (HasGs.cons (HasG.s rfl) HasGs.nil)))) ?_
 obtain ⟨x4, hx4, hm⟩ := bind_some hm
 refine wo (f := Fact.tup2 (Fact.flds [(false, 1, Fact.ow [35] [36] 28 (x4.1.Blocks : List (List UInt8))), (false, 1, Fact.ow [37] [38] 59 (x4.1.Wait : List Write)), (false, 1, Fact.rep [] x4.1.Dead)]) (Fact.rep [] x4.2)) (Spec.callE [14] 35 rfl en27 (disk_Flush_c x1.1 hx4) (HasAll.cons (Has.m (Has.cv (Has.s rfl) (Cv.trans (Cv.flds (CvL.cons (Cv.trans (Cv.trans Cv.owSl (Cv.slRep (T' := [14]) rfl rfl)) (Cv.m rfl)) (CvL.cons (Cv.trans (Cv.trans Cv.owSl (Cv.slRep (T' := [14]) rfl rfl)) (Cv.m rfl)) (CvL.cons Cv.fl CvL.nil)))) (Cv.close (T := [14]) (chDisk x1.1)))) rfl) HasAll.nil)) ?_
 refine mv ?_
 refine wo (Spec.ext0 (Has.s rfl)) ?_
 refine wo (Spec.ext1 (Has.s rfl)) ?_
 refine ws (Step.allocObj (ls := [(false, 1, Fact.nilv), (false, 1, Fact.nilv), (false, 1, Fact.rep [] (false : Bool))]) 39 rfl rfl rfl rfl zl25) ?_
 refine ws (Step.storeObj (ls := [(false, 1, Fact.ow [35] [36] 28 (x4.1.Blocks : List (List UInt8))), (false, 1, Fact.ow [37] [38] 59 (x4.1.Wait : List Write)), (false, 1, Fact.rep [] x4.1.Dead)]) rfl ty25 rfl rfl (Has.s rfl) rfl (HasL.flds (Has.s rfl)) rfl) ?_
 refine wo (Spec.assign (Has.s rfl)) ?_
 refine Walk.nil ?_
 refine Leaf.thenN ?_
 refine CWalk.seq ?_
 refine CWalk.region ?_
 refine wo (Spec.loadObj (ls := [(false, 1, Fact.ow [14] [] 28 (x1.1.Blocks : List (List UInt8))), (false, 1, Fact.ow [14] [] 59 (x1.1.Wait : List Write)), (false, 1, Fact.rep [] x1.1.Dead)]) ty25 rfl rfl (Has.s rfl) rfl (HasGs.cons (HasG.s rfl) (HasGs.cons (HasG.s rfl) (HasGs.cons (HasG.s rfl) HasGs.nil)))) ?_
 obtain ⟨x5, hx5, hm⟩ := bind_some hm
 refine wo (f := Fact.tup2 (Fact.ow [43] [] 5 (x5.1 : List UInt8)) (Fact.rep [] x5.2)) (Spec.callE [14] 43 rfl en13 (disk_Lasting_c x1.1 (0 : Int) hx5) (HasAll.cons (Has.m (Has.cv (Has.s rfl) (Cv.trans (Cv.flds (CvL.cons (Cv.trans (Cv.trans Cv.owSl (Cv.slRep (T' := [14]) rfl rfl)) (Cv.m rfl)) (CvL.cons (Cv.trans (Cv.trans Cv.owSl (Cv.slRep (T' := [14]) rfl rfl)) (Cv.m rfl)) (CvL.cons Cv.fl CvL.nil)))) (Cv.close (T := [14]) (chDisk x1.1)))) rfl) (HasAll.cons (Has.fl Has.int) HasAll.nil))) ?_
 refine mv ?_
 refine wo (Spec.ext0 (Has.s rfl)) ?_
 refine wo (Spec.ext1 (Has.s rfl)) ?_
 refine wo (Spec.assign (Has.s rfl)) ?_
 refine wo (Spec.assign (Has.s rfl)) ?_
 refine Walk.nil ?_
 refine Leaf.thenN ?_
 refine CWalk.seq ?_
 refine CWalk.region ?_
 refine wo (Spec.loadObj (ls := [(false, 1, Fact.ow [14] [] 28 (x1.1.Blocks : List (List UInt8))), (false, 1, Fact.ow [14] [] 59 (x1.1.Wait : List Write)), (false, 1, Fact.rep [] x1.1.Dead)]) ty25 rfl rfl (Has.s rfl) rfl (HasGs.cons (HasG.s rfl) (HasGs.cons (HasG.s rfl) (HasGs.cons (HasG.s rfl) HasGs.nil)))) ?_
 obtain ⟨x6, hx6, hm⟩ := bind_some hm
 refine wo (f := Fact.tup2 (Fact.flds [(false, 1, Fact.ow [44] [] 28 (x6.1.Blocks : List (List UInt8))), (false, 1, Fact.ow [44] [] 59 (x6.1.Wait : List Write)), (false, 1, Fact.rep [] x6.1.Dead)]) (Fact.rep [] x6.2)) (Spec.callE [14] 44 rfl en29 (disk_Kill_c x1.1 hx6) (HasAll.cons (Has.m (Has.cv (Has.s rfl) (Cv.trans (Cv.flds (CvL.cons (Cv.trans (Cv.trans Cv.owSl (Cv.slRep (T' := [14]) rfl rfl)) (Cv.m rfl)) (CvL.cons (Cv.trans (Cv.trans Cv.owSl (Cv.slRep (T' := [14]) rfl rfl)) (Cv.m rfl)) (CvL.cons Cv.fl CvL.nil)))) (Cv.close (T := [14]) (chDisk x1.1)))) rfl) HasAll.nil)) ?_
 refine mv ?_
 refine wo (Spec.ext0 (Has.s rfl)) ?_
 refine wo (Spec.ext1 (Has.s rfl)) ?_
 refine ws (Step.allocObj (ls := [(false, 1, Fact.nilv), (false, 1, Fact.nilv), (false, 1, Fact.rep [] (false : Bool))]) 45 rfl rfl rfl rfl zl25) ?_
 refine ws (Step.storeObj (ls := [(false, 1, Fact.ow [44] [] 28 (x6.1.Blocks : List (List UInt8))), (false, 1, Fact.ow [44] [] 59 (x6.1.Wait : List Write)), (false, 1, Fact.rep [] x6.1.Dead)]) rfl ty25 rfl rfl (Has.s rfl) rfl (HasL.flds (Has.s rfl)) rfl) ?_
 refine wo (Spec.assign (Has.s rfl)) ?_
 refine Walk.nil ?_
 refine Leaf.thenN ?_
 refine CWalk.seq ?_
 refine CWalk.region ?_
 refine mv ?_
 refine wo (Spec.eqlI (Has.s rfl) Has.int) ?_
 refine mv ?_
 refine wg rfl rfl (fun hb => Spec.fieldAddrO fd25_2 (Has.cv (Has.s rfl) (Cv.isvP rfl))) ?_
 refine wg rfl rfl (fun hb => Spec.loadF (i := 2) ty4 rfl (Has.u rfl hb) rfl (HasG.s rfl)) ?_
 refine wo (Spec.and (Has.s rfl) (fun h => Has.u rfl h)) ?_
 refine mv ?_
 refine wg rfl rfl (fun hb => Spec.move (Has.s rfl)) ?_
 refine wg rfl rfl (fun hb => Spec.eqlI (Has.u rfl hb) Has.int) ?_
 refine wo (Spec.and (Has.s rfl) (fun h => Has.u rfl h)) ?_
 refine mv ?_
 refine wg rfl rfl (fun hb => Spec.move (Has.s rfl)) ?_
 refine wg rfl rfl (fun hb => Spec.eqlI (Has.u rfl hb) Has.int) ?_
 refine wo (Spec.and (Has.s rfl) (fun h => Has.u rfl h)) ?_
 refine mv ?_
 refine wg rfl rfl (fun hb => Spec.move (Has.s rfl)) ?_
 refine wg rfl rfl (fun hb => Spec.eqlI (Has.u rfl hb) Has.int) ?_
 refine wo (Spec.and (Has.s rfl) (fun h => Has.u rfl h)) ?_
 refine mv ?_
 refine wg rfl rfl (fun hb => Spec.move (Has.s rfl)) ?_
 refine wg rfl rfl (fun hb => Spec.eqlI (Has.u rfl hb) Has.int) ?_
 refine wo (Spec.and (Has.s rfl) (fun h => Has.u rfl h)) ?_
 refine mv ?_
 refine wg rfl rfl (fun hb => Spec.move (Has.s rfl)) ?_
 refine wg rfl rfl (fun hb => Spec.eqlI (Has.u rfl hb) Has.int) ?_
 refine wo (Spec.and (Has.s rfl) (fun h => Has.u rfl h)) ?_
 refine mv ?_
 refine wg rfl rfl (fun hb => Spec.loadObj (ls := [(false, 1, Fact.ow [14] [] 28 (x1.1.Blocks : List (List UInt8))), (false, 1, Fact.ow [14] [] 59 (x1.1.Wait : List Write)), (false, 1, Fact.rep [] x1.1.Dead)]) ty25 rfl rfl (Has.s rfl) rfl (HasGs.cons (HasG.s rfl) (HasGs.cons (HasG.s rfl) (HasGs.cons (HasG.s rfl) HasGs.nil)))) ?_
 refine wg rfl rfl (fun hb => Spec.loadObj (ls := [(false, 1, Fact.ow [44] [] 28 (x6.1.Blocks : List (List UInt8))), (false, 1, Fact.ow [44] [] 59 (x6.1.Wait : List Write)), (false, 1, Fact.rep [] x6.1.Dead)]) ty25 rfl rfl (Has.s rfl) rfl (HasGs.cons (HasG.s rfl) (HasGs.cons (HasG.s rfl) (HasGs.cons (HasG.s rfl) HasGs.nil)))) ?_
 obtain ⟨x7, hx7, hm⟩ := bind_some hm
 refine wg (f := Fact.rep [] (x7 : Bool)) rfl rfl (fun hb => Spec.callE [14, 44] 49 rfl en21 (disk_Same_c x1.1 x6.1 (gO_t hx7 hb)) (HasAll.cons (Has.m (Has.cv (Has.u rfl hb) (Cv.trans (Cv.flds (CvL.cons (Cv.trans (Cv.trans Cv.owSl (Cv.slRep (T' := [14]) rfl rfl)) (Cv.m rfl)) (CvL.cons (Cv.trans (Cv.trans Cv.owSl (Cv.slRep (T' := [14]) rfl rfl)) (Cv.m rfl)) (CvL.cons Cv.fl CvL.nil)))) (Cv.close (T := [14]) (chDisk x1.1)))) rfl) (HasAll.cons (Has.m (Has.cv (Has.u rfl hb) (Cv.trans (Cv.flds (CvL.cons (Cv.trans (Cv.trans Cv.owSl (Cv.slRep (T' := [44]) rfl rfl)) (Cv.m rfl)) (CvL.cons (Cv.trans (Cv.trans Cv.owSl (Cv.slRep (T' := [44]) rfl rfl)) (Cv.m rfl)) (CvL.cons Cv.fl CvL.nil)))) (Cv.close (T := [44]) (chDisk x6.1)))) rfl) HasAll.nil))) ?_
 refine wo (Spec.and (Has.s rfl) (fun h => Has.u rfl h)) ?_
 refine mv ?_
 refine wg rfl rfl (fun hb => Spec.fieldAddrO fd25_0 (Has.cv (Has.s rfl) (Cv.isvP rfl))) ?_
 refine wg rfl rfl (fun hb => Spec.loadF (i := 0) ty22 rfl (Has.u rfl hb) rfl (HasG.s rfl)) ?_
 refine wg rfl rfl (fun hb => Spec.len (Has.cv (Has.u rfl hb) (Cv.trans Cv.owSl (Cv.slRep (T' := [14]) rfl rfl))) Try.underlying22) ?_
 refine wg rfl rfl (fun hb => Spec.fieldAddrO fd25_0 (Has.cv (Has.s rfl) (Cv.isvP rfl))) ?_
 refine wg rfl rfl (fun hb => Spec.loadF (i := 0) ty22 rfl (Has.u rfl hb) rfl (HasG.s rfl)) ?_
 refine wg rfl rfl (fun hb => Spec.len (Has.u rfl hb) Try.underlying22) ?_
 refine wg rfl rfl (fun hb => Spec.eqlI (Has.u rfl hb) (Has.u rfl hb)) ?_
 refine wo (Spec.and (Has.s rfl) (fun h => Has.u rfl h)) ?_
 refine wo (Spec.assign (Has.s rfl)) ?_
 refine Walk.nil ?_
 refine Leaf.thenN ?_
 refine CWalk.ret ?_
 obtain rfl := Option.some.inj hm
 exact Leaf.retC1 rfl (HasR.cv (HasR.tmp (Has.s rfl)) Cv.fl)

end Go.Proofs.Ytdkmkalddgplmaa
