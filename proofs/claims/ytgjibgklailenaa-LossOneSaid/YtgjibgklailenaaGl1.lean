/- Printed by a program of ours: models of functions, and that calls do what they say. -/
import Derived.Test.YtgjibgklailenaaProg
import Derived.Test.YtgjibgklailenaaCore29
import Derived.KernelRfl
namespace Go.Proofs.Ytgjibgklailenaa
open Go GL
set_option linter.unusedVariables false

structure Config where
  Id : UInt32
  Members : Int
  Chunk : Int
  Rows : Int
  Log : Int
  Heads : Int
  deriving Inhabited, DecidableEq
instance : Rp Config := Rp.via (inferInstance : Rp (UInt32 × Int × Int × Int × Int × Int)) (fun x => (x.Id, x.Members, x.Chunk, x.Rows, x.Log, x.Heads))
theorem chConfig (x : Config) : Ch x [⟨inferInstance, x.Id⟩, ⟨inferInstance, x.Members⟩, ⟨inferInstance, x.Chunk⟩, ⟨inferInstance, x.Rows⟩, ⟨inferInstance, x.Log⟩, ⟨inferInstance, x.Heads⟩] := Ch.via (ChT.cons (ChT.cons (ChT.cons (ChT.cons (ChT.cons (ChT.one _))))))
instance : Flat Config := ⟨fun F F' x cs w w' h => Flat.flat (α := UInt32 × Int × Int × Int × Int × Int) F F' ((x.Id, x.Members, x.Chunk, x.Rows, x.Log, x.Heads)) cs w w' h⟩

structure Loss where
  Events : UInt32
  Lost : Int
  Spare : Bool
  Pos : Int
  Done : Int
  NoLog : Bool
  Broken : Bool
  deriving Inhabited, DecidableEq
instance : Rp Loss := Rp.via (inferInstance : Rp (UInt32 × Int × Bool × Int × Int × Bool × Bool)) (fun x => (x.Events, x.Lost, x.Spare, x.Pos, x.Done, x.NoLog, x.Broken))
theorem chLoss (x : Loss) : Ch x [⟨inferInstance, x.Events⟩, ⟨inferInstance, x.Lost⟩, ⟨inferInstance, x.Spare⟩, ⟨inferInstance, x.Pos⟩, ⟨inferInstance, x.Done⟩, ⟨inferInstance, x.NoLog⟩, ⟨inferInstance, x.Broken⟩] := Ch.via (ChT.cons (ChT.cons (ChT.cons (ChT.cons (ChT.cons (ChT.cons (ChT.one _)))))))
instance : Flat Loss := ⟨fun F F' x cs w w' h => Flat.flat (α := UInt32 × Int × Bool × Int × Int × Bool × Bool) F F' ((x.Events, x.Lost, x.Spare, x.Pos, x.Done, x.NoLog, x.Broken)) cs w w' h⟩

structure Arr3_Int where
  e0 : Int
  e1 : Int
  e2 : Int
  deriving Inhabited, DecidableEq
instance : Rp Arr3_Int := Rp.via (inferInstance : Rp (Int × Int × Int)) (fun x => (x.e0, x.e1, x.e2))
theorem chArr3_Int (x : Arr3_Int) : Ch x [⟨inferInstance, x.e0⟩, ⟨inferInstance, x.e1⟩, ⟨inferInstance, x.e2⟩] := Ch.via (ChT.cons (ChT.cons (ChT.one _)))
instance : Flat Arr3_Int := ⟨fun F F' x cs w w' h => Flat.flat (α := Int × Int × Int) F F' ((x.e0, x.e1, x.e2)) cs w w' h⟩

structure Op45 where
  Kind : UInt8
  At : UInt8
  deriving Inhabited, DecidableEq
instance : Rp Op45 := Rp.via (inferInstance : Rp (UInt8 × UInt8)) (fun x => (x.Kind, x.At))
theorem chOp45 (x : Op45) : Ch x [⟨inferInstance, x.Kind⟩, ⟨inferInstance, x.At⟩] := Ch.via (ChT.cons (ChT.one _))
instance : Flat Op45 := ⟨fun F F' x cs w w' h => Flat.flat (α := UInt8 × UInt8) F F' ((x.Kind, x.At)) cs w w' h⟩

theorem ty24 : Ty Try.prog 24 (Config) := Ty.of (by kernel_rfl)
theorem ty26 : Ty Try.prog 26 (Loss) := Ty.of (by kernel_rfl)
theorem fd24_2 : FieldTy Try.prog 24 2 2 1 := FieldTy.of Try.underlying24 (by kernel_rfl) rfl
theorem ty3 : Ty Try.prog 3 (Int) := Ty.of (by kernel_rfl)
theorem fd24_3 : FieldTy Try.prog 24 3 3 1 := FieldTy.of Try.underlying24 (by kernel_rfl) rfl
theorem fd24_1 : FieldTy Try.prog 24 1 1 1 := FieldTy.of Try.underlying24 (by kernel_rfl) rfl
theorem bd133 : BuildTyA Try.prog 133 [(0, 1), (1, 1), (2, 1)] [(false, 1, Fact.rep [] ((0 : Int) : Int)), (false, 1, Fact.rep [] ((0 : Int) : Int)), (false, 1, Fact.rep [] ((0 : Int) : Int))] := ⟨⟨_, _, 1, [.int .i64 0, .int .i64 0, .int .i64 0], by kernel_rfl, Try.underlying133, by kernel_rfl, (fun g w => FldRel.zr (fun _ _ => rfl) (FldRel.zr (fun _ _ => rfl) (FldRel.zr (fun _ _ => rfl) (rfl)))), rfl⟩⟩
theorem fd24_5 : FieldTy Try.prog 24 5 5 1 := FieldTy.of Try.underlying24 (by kernel_rfl) rfl
theorem ow145 : OwnTy Try.prog 145 133 (Arr3_Int) := OwnTy.of Try.underlying145 (by kernel_rfl) rfl (by kernel_rfl)
theorem sl145 : SlTy Try.prog 145 133 (Arr3_Int) := SlTy.of Try.underlying145 (by kernel_rfl) rfl
theorem ty133 : Ty Try.prog 133 (Arr3_Int) := Ty.of (by kernel_rfl)
theorem zl133 : ZeroLs Try.prog 133 [(false, 1, Fact.rep [] ((0 : Int) : Int)), (false, 1, Fact.rep [] ((0 : Int) : Int)), (false, 1, Fact.rep [] ((0 : Int) : Int))] := ⟨⟨[.int .i64 0, .int .i64 0, .int .i64 0], by kernel_rfl, fun g w => FldRel.zr (fun _ _ => rfl) (FldRel.zr (fun _ _ => rfl) (FldRel.zr (fun _ _ => rfl) (rfl)))⟩⟩
theorem sm133 : SmTy Try.prog 133 3 3 1 := ⟨Try.underlying133, by kernel_rfl⟩
theorem en82 : enters Try.prog 82 = true := by kernel_rfl
theorem fd24_4 : FieldTy Try.prog 24 4 4 1 := FieldTy.of Try.underlying24 (by kernel_rfl) rfl
theorem en72 : enters Try.prog 72 = true := by kernel_rfl
theorem en53 : enters Try.prog 53 = true := by kernel_rfl
theorem en32 : enters Try.prog 32 = true := by kernel_rfl
theorem fd26_0 : FieldTy Try.prog 26 0 0 1 := FieldTy.of Try.underlying26 (by kernel_rfl) rfl
theorem ty22 : Ty Try.prog 22 (UInt32) := Ty.of (by kernel_rfl)
theorem fd26_1 : FieldTy Try.prog 26 1 1 1 := FieldTy.of Try.underlying26 (by kernel_rfl) rfl
theorem fd26_4 : FieldTy Try.prog 26 4 4 1 := FieldTy.of Try.underlying26 (by kernel_rfl) rfl
theorem fd26_3 : FieldTy Try.prog 26 3 3 1 := FieldTy.of Try.underlying26 (by kernel_rfl) rfl
theorem fd26_2 : FieldTy Try.prog 26 2 2 1 := FieldTy.of Try.underlying26 (by kernel_rfl) rfl
theorem ty4 : Ty Try.prog 4 (Bool) := Ty.of (by kernel_rfl)
theorem en18 : enters Try.prog 18 = true := by kernel_rfl
theorem en8 : enters Try.prog 8 = true := by kernel_rfl
theorem en54 : enters Try.prog 54 = true := by kernel_rfl
theorem en55 : enters Try.prog 55 = true := by kernel_rfl
theorem mixed : Try.prog.follows .mixedOrders = true := by kernel_rfl
theorem en39 : enters Try.prog 39 = true := by kernel_rfl
theorem en33 : enters Try.prog 33 = true := by kernel_rfl
theorem en40 : enters Try.prog 40 = true := by kernel_rfl
theorem en19 : enters Try.prog 19 = true := by kernel_rfl
theorem en34 : enters Try.prog 34 = true := by kernel_rfl
theorem en9 : enters Try.prog 9 = true := by kernel_rfl
theorem zl26 : ZeroLs Try.prog 26 [(false, 1, Fact.rep [] ((0 : UInt32) : UInt32)), (false, 1, Fact.rep [] ((0 : Int) : Int)), (false, 1, Fact.rep [] (false : Bool)), (false, 1, Fact.rep [] ((0 : Int) : Int)), (false, 1, Fact.rep [] ((0 : Int) : Int)), (false, 1, Fact.rep [] (false : Bool)), (false, 1, Fact.rep [] (false : Bool))] := ⟨⟨[.int .u32 0, .int .i64 0, .bool false, .int .i64 0, .int .i64 0, .bool false, .bool false], by kernel_rfl, fun g w => FldRel.zr (fun _ _ => rfl) (FldRel.zr (fun _ _ => rfl) (FldRel.zr (fun _ _ => rfl) (FldRel.zr (fun _ _ => rfl) (FldRel.zr (fun _ _ => rfl) (FldRel.zr (fun _ _ => rfl) (FldRel.zr (fun _ _ => rfl) (rfl)))))))⟩⟩
theorem bd26 : BuildTy Try.prog 26 [(0, 1), (1, 1), (2, 1), (3, 1), (4, 1), (5, 1), (6, 1)] [(false, 1, Fact.rep [] ((0 : UInt32) : UInt32)), (false, 1, Fact.rep [] ((0 : Int) : Int)), (false, 1, Fact.rep [] (false : Bool)), (false, 1, Fact.rep [] ((0 : Int) : Int)), (false, 1, Fact.rep [] ((0 : Int) : Int)), (false, 1, Fact.rep [] (false : Bool)), (false, 1, Fact.rep [] (false : Bool))] := ⟨⟨_, [.int .u32 0, .int .i64 0, .bool false, .int .i64 0, .int .i64 0, .bool false, .bool false], by kernel_rfl, Try.underlying26, (fun g w => FldRel.zr (fun _ _ => rfl) (FldRel.zr (fun _ _ => rfl) (FldRel.zr (fun _ _ => rfl) (FldRel.zr (fun _ _ => rfl) (FldRel.zr (fun _ _ => rfl) (FldRel.zr (fun _ _ => rfl) (FldRel.zr (fun _ _ => rfl) (rfl)))))))), by kernel_rfl⟩⟩
theorem bd80 : BuildTy Try.prog 80 [(0, 7)] [(true, 7, Fact.flds [(false, 1, Fact.rep [] ((0 : UInt32) : UInt32)), (false, 1, Fact.rep [] ((0 : Int) : Int)), (false, 1, Fact.rep [] (false : Bool)), (false, 1, Fact.rep [] ((0 : Int) : Int)), (false, 1, Fact.rep [] ((0 : Int) : Int)), (false, 1, Fact.rep [] (false : Bool)), (false, 1, Fact.rep [] (false : Bool))])] := ⟨⟨_, [.int .u32 0, .int .i64 0, .bool false, .int .i64 0, .int .i64 0, .bool false, .bool false], by kernel_rfl, Try.underlying80, (fun g w => FldRel.zs (c1 := [.int .u32 0, .int .i64 0, .bool false, .int .i64 0, .int .i64 0, .bool false, .bool false]) (FldRel.zr (fun _ _ => rfl) (FldRel.zr (fun _ _ => rfl) (FldRel.zr (fun _ _ => rfl) (FldRel.zr (fun _ _ => rfl) (FldRel.zr (fun _ _ => rfl) (FldRel.zr (fun _ _ => rfl) (FldRel.zr (fun _ _ => rfl) (rfl)))))))) (rfl)), by kernel_rfl⟩⟩
theorem en35 : enters Try.prog 35 = true := by kernel_rfl
theorem fd80_0 : FieldTy Try.prog 80 0 0 7 := FieldTy.of Try.underlying80 (by kernel_rfl) rfl
theorem fd26_5 : FieldTy Try.prog 26 5 5 1 := FieldTy.of Try.underlying26 (by kernel_rfl) rfl
theorem fd26_6 : FieldTy Try.prog 26 6 6 1 := FieldTy.of Try.underlying26 (by kernel_rfl) rfl
theorem en37 : enters Try.prog 37 = true := by kernel_rfl
theorem en10 : enters Try.prog 10 = true := by kernel_rfl
theorem en36 : enters Try.prog 36 = true := by kernel_rfl
theorem en11 : enters Try.prog 11 = true := by kernel_rfl
theorem en12 : enters Try.prog 12 = true := by kernel_rfl
theorem en13 : enters Try.prog 13 = true := by kernel_rfl
theorem en14 : enters Try.prog 14 = true := by kernel_rfl
theorem en15 : enters Try.prog 15 = true := by kernel_rfl
theorem en16 : enters Try.prog 16 = true := by kernel_rfl
theorem en38 : enters Try.prog 38 = true := by kernel_rfl
theorem en17 : enters Try.prog 17 = true := by kernel_rfl
theorem eqg26 : Try.prog.eqGuardType Try.prog.depth 26 = false := by kernel_rfl
theorem zl24 : ZeroLs Try.prog 24 [(false, 1, Fact.rep [] ((0 : UInt32) : UInt32)), (false, 1, Fact.rep [] ((0 : Int) : Int)), (false, 1, Fact.rep [] ((0 : Int) : Int)), (false, 1, Fact.rep [] ((0 : Int) : Int)), (false, 1, Fact.rep [] ((0 : Int) : Int)), (false, 1, Fact.rep [] ((0 : Int) : Int))] := ⟨⟨[.int .u32 0, .int .i64 0, .int .i64 0, .int .i64 0, .int .i64 0, .int .i64 0], by kernel_rfl, fun g w => FldRel.zr (fun _ _ => rfl) (FldRel.zr (fun _ _ => rfl) (FldRel.zr (fun _ _ => rfl) (FldRel.zr (fun _ _ => rfl) (FldRel.zr (fun _ _ => rfl) (FldRel.zr (fun _ _ => rfl) (rfl))))))⟩⟩
theorem bd24 : BuildTy Try.prog 24 [(0, 1), (1, 1), (2, 1), (3, 1), (4, 1), (5, 1)] [(false, 1, Fact.rep [] ((0 : UInt32) : UInt32)), (false, 1, Fact.rep [] ((0 : Int) : Int)), (false, 1, Fact.rep [] ((0 : Int) : Int)), (false, 1, Fact.rep [] ((0 : Int) : Int)), (false, 1, Fact.rep [] ((0 : Int) : Int)), (false, 1, Fact.rep [] ((0 : Int) : Int))] := ⟨⟨_, [.int .u32 0, .int .i64 0, .int .i64 0, .int .i64 0, .int .i64 0, .int .i64 0], by kernel_rfl, Try.underlying24, (fun g w => FldRel.zr (fun _ _ => rfl) (FldRel.zr (fun _ _ => rfl) (FldRel.zr (fun _ _ => rfl) (FldRel.zr (fun _ _ => rfl) (FldRel.zr (fun _ _ => rfl) (FldRel.zr (fun _ _ => rfl) (rfl))))))), by kernel_rfl⟩⟩
theorem en24 : enters Try.prog 24 = true := by kernel_rfl
theorem en21 : enters Try.prog 21 = true := by kernel_rfl
theorem en23 : enters Try.prog 23 = true := by kernel_rfl
theorem en20 : enters Try.prog 20 = true := by kernel_rfl
theorem sl41 : SlTy Try.prog 41 45 (Op45) := SlTy.of Try.underlying41 (by kernel_rfl) rfl
theorem fd45_1 : FieldTy Try.prog 45 1 1 1 := FieldTy.of Try.underlying45 (by kernel_rfl) rfl
theorem ty5 : Ty Try.prog 5 (UInt8) := Ty.of (by kernel_rfl)
theorem fd45_0 : FieldTy Try.prog 45 0 0 1 := FieldTy.of Try.underlying45 (by kernel_rfl) rfl
theorem en22 : enters Try.prog 22 = true := by kernel_rfl
theorem eqs26 : EqV Try.prog 2 26 (Loss) := (EqV.viaU Try.underlying26 (by kernel_rfl) (EqF.cons (EqV.mono (k' := 1) (EqV.u32 Try.underlying22) (by decide)) ty22 rfl rfl (EqF.cons (EqV.mono (k' := 1) (EqV.i64 Try.underlying3) (by decide)) ty3 rfl rfl (EqF.cons (EqV.mono (k' := 1) (EqV.bool Try.underlying4) (by decide)) ty4 rfl rfl (EqF.cons (EqV.mono (k' := 1) (EqV.i64 Try.underlying3) (by decide)) ty3 rfl rfl (EqF.cons (EqV.mono (k' := 1) (EqV.i64 Try.underlying3) (by decide)) ty3 rfl rfl (EqF.cons (EqV.mono (k' := 1) (EqV.bool Try.underlying4) (by decide)) ty4 rfl rfl (EqF.one (EqV.mono (k' := 1) (EqV.bool Try.underlying4) (by decide)) ty4 rfl rfl))))))) (fun x y h => by cases x; cases y; simpa using h))

def shape_bounds_L1 (a0 : List Arr3_Int) (s1 : Int) : Option (Ctl (Int) ((Unit) ⊕ (Unit))) :=
  (bif (decide (s1 < ((a0).length : Int))) then Option.bind (idx a0 s1) (fun x3 => (bif ((decide (x3.e0 < x3.e1)) || (decide (x3.e0 > x3.e2))) then some (Ctl.brk (Sum.inr ())) else some (Ctl.next (wI (s1 + (1 : Int)))))) else some (Ctl.brk (Sum.inl ())))
/-- freeboard/shape.bounds -/
def shape_bounds (a0 : List Arr3_Int) : Option (Bool) :=
  Option.bind (loopM (fun s : Int => shape_bounds_L1 a0 s) FUEL (0 : Int)) (fun b4 => Sum.elim (fun b5 => some true) (fun b6 => some false) b4)
set_option maxRecDepth 100000 in
set_option maxHeartbeats 2000000 in
theorem shape_bounds_c (a0 : List Arr3_Int) {r : Bool} (hm : shape_bounds a0 = some r) : Ctr Try.prog 82 [.rep 0 a0] (.fl r) [] := by
 refine ctr_of_walk [[]] 24 Try.func82 rfl rfl rfl rfl (fun w0 om => ?_)
 unfold shape_bounds at hm
 refine CWalk.sub (G' := [.fact 0 (Fact.rep [0] (a0 : List Arr3_Int))]) (sn Sub.nil) ?_
 refine CWalk.seq ?_
 refine CWalk.region ?_
 refine wo (Spec.assign Has.bool) ?_
 refine Walk.nil ?_
 refine Leaf.thenN ?_
 refine CWalk.seq ?_
 refine CWalk.seq ?_
 refine CWalk.region ?_
 refine mv ?_
 refine wo (Spec.len (Has.s rfl) Try.underlying145) ?_
 refine wo (Spec.move Has.int) ?_
 refine Walk.nil ?_
 refine Leaf.thenN ?_
 refine CWalk.block ?_
 obtain ⟨b4, hb4, hm⟩ := bind_some hm
 refine CWalk.loop (fun s : Int => [.fact 5 (Fact.rep [0] (a0 : List Arr3_Int)), .fact 6 (Fact.rep [] (((a0).length : Int) : Int)), .fact 7 (Fact.rep [] (s : Int))]) (fun b : (Unit) ⊕ (Unit) => Sum.elim (fun b => (Exit.exit 0, [])) (fun b => (Exit.ret, [.fact 2 (Fact.rep [] (false : Bool))])) b) hb4 (su (st (st Sub.nil))) ?_ ?_
 ·rintro s1 c2 hm
  replace hm : shape_bounds_L1 a0 s1 = some c2 := hm
  unfold shape_bounds_L1 at hm
  show CWalk _ [.fact 5 (Fact.rep [0] (a0 : List Arr3_Int)), .fact 6 (Fact.rep [] (((a0).length : Int) : Int)), .fact 7 (Fact.rep [] (s1 : Int))] _ _
  refine CWalk.seq ?_
  refine CWalk.region ?_
  refine wo (Spec.lssI (Has.s rfl) (Has.s rfl)) ?_
  refine Walk.nil ?_
  refine Leaf.thenN ?_
  refine CWalk.seq ?_
  refine CWalk.cond rfl (fun hb => ?_) (fun hb => ?_)
  ·have hm := cond_t hb hm
   refine CWalk.skip ?_
   refine Leaf.thenN ?_
   refine CWalk.seq ?_
   refine CWalk.block ?_
   refine CWalk.seq ?_
   refine CWalk.region ?_
   obtain ⟨x3, hx3, hm⟩ := bind_some hm
   refine wo (Spec.indexAddr hx3 sl145 (Has.s rfl) (Has.s rfl)) ?_
   refine wo ((Spec.load ty133 (Has.s rfl)).flat (T' := [])) ?_
   refine ws (Step.allocObj (ls := [(false, 1, Fact.rep [] ((0 : Int) : Int)), (false, 1, Fact.rep [] ((0 : Int) : Int)), (false, 1, Fact.rep [] ((0 : Int) : Int))]) 10 rfl rfl rfl rfl zl133) ?_
   refine ws (Step.storeObj (ls := [(false, 1, Fact.rep [] (x3.e0 : Int)), (false, 1, Fact.rep [] (x3.e1 : Int)), (false, 1, Fact.rep [] (x3.e2 : Int))]) rfl ty133 rfl rfl (Has.s rfl) rfl (HasL.flds (Has.cv (Has.s rfl) (Cv.trans (Cv.opens (chArr3_Int x3)) (Cv.flds (CvL.cons Cv.fl (CvL.cons Cv.fl (CvL.cons Cv.fl CvL.nil))))))) rfl) ?_
   refine Walk.nil ?_
   refine Leaf.thenN ?_
   refine CWalk.seq ?_
   refine CWalk.region ?_
   refine wo (Spec.idxC (i := 0) sm133 rfl (Has.cv (Has.s rfl) (Cv.isvP rfl))) ?_
   refine wo (Spec.loadF (i := 0) ty3 rfl (Has.s rfl) rfl (HasG.s rfl)) ?_
   refine wo (Spec.idxC (i := 1) sm133 rfl (Has.cv (Has.s rfl) (Cv.isvP rfl))) ?_
   refine wo (Spec.loadF (i := 1) ty3 rfl (Has.s rfl) rfl (HasG.s rfl)) ?_
   refine wo (Spec.lssI (Has.s rfl) (Has.s rfl)) ?_
   refine mv ?_
   refine wg rfl rfl (fun hb => Spec.idxC (i := 0) sm133 rfl (Has.cv (Has.s rfl) (Cv.isvP rfl))) ?_
   refine wg rfl rfl (fun hb => Spec.loadF (i := 0) ty3 rfl (Has.u rfl hb) rfl (HasG.s rfl)) ?_
   refine wg rfl rfl (fun hb => Spec.idxC (i := 2) sm133 rfl (Has.cv (Has.s rfl) (Cv.isvP rfl))) ?_
   refine wg rfl rfl (fun hb => Spec.loadF (i := 2) ty3 rfl (Has.u rfl hb) rfl (HasG.s rfl)) ?_
   refine wg rfl rfl (fun hb => Spec.gtrI (Has.u rfl hb) (Has.u rfl hb)) ?_
   refine wo (Spec.or (Has.s rfl) (fun h => Has.u rfl h)) ?_
   refine Walk.nil ?_
   refine Leaf.thenN ?_
   refine CWalk.cond rfl (fun hb => ?_) (fun hb => ?_)
   ·have hm := cond_t hb hm
    refine CWalk.seq ?_
    refine CWalk.region ?_
    refine wo (Spec.assign Has.bool) ?_
    refine Walk.nil ?_
    refine Leaf.thenN ?_
    refine CWalk.ret ?_
    refine Leaf.blockR ?_
    refine Leaf.thenR ?_
    exact Leaf.brk hm (fun h => nomatch h) rfl (st Sub.nil)
   ·have hm := cond_f hb hm
    refine CWalk.skip ?_
    refine Leaf.blockN ?_
    refine Leaf.thenN ?_
    refine CWalk.region ?_
    refine wo (Spec.addI (Has.s rfl) Has.int) ?_
    refine mv ?_
    refine Walk.nil ?_
    exact Leaf.next hm (su (st (st Sub.nil)))
  ·have hm := cond_f hb hm
   refine CWalk.exit ?_
   refine Leaf.thenE ?_
   exact Leaf.brk hm (fun h => nomatch h) rfl (Sub.nil)
 ·intro _
  rcases b4 with b5 | b6
  ·have hm := selim_l hm
   refine Leaf.blockE ?_
   refine Leaf.thenN ?_
   refine CWalk.seq ?_
   refine CWalk.region ?_
   refine wo (Spec.assign Has.bool) ?_
   refine Walk.nil ?_
   refine Leaf.thenN ?_
   refine CWalk.ret ?_
   obtain rfl := Option.some.inj hm
   exact Leaf.retC1 rfl (HasR.cv (HasR.tmp (Has.s rfl)) Cv.fl)
  ·have hm := selim_r hm
   refine Leaf.blockR ?_
   refine Leaf.thenR ?_
   obtain rfl := Option.some.inj hm
   exact Leaf.retC1 rfl (HasR.cv (HasR.tmp (Has.s rfl)) Cv.fl)

/-- freeboard/shape.Check -/
def shape_Check (a0 : Config) : Option (Int) :=
  Option.bind (shape_bounds ([(Arr3_Int.mk a0.Members (3 : Int) (16 : Int)), (Arr3_Int.mk a0.Chunk (1 : Int) (8 : Int)), (Arr3_Int.mk a0.Rows (1 : Int) (8 : Int)), (Arr3_Int.mk a0.Heads (2 : Int) (8 : Int))])) (fun x1 => Option.bind (gO (!(!x1)) (shape_bounds ([(Arr3_Int.mk a0.Log (wI ((wI (a0.Members + (1 : Int))) * (wI (a0.Heads + (1 : Int))))) (255 : Int))]))) (fun x2 => (bif ((!x1) || (!x2)) then some (8 : Int) else some (0 : Int))))
set_option maxRecDepth 100000 in
set_option maxHeartbeats 2000000 in
theorem shape_Check_c (a0 : Config) {r : Int} (hm : shape_Check a0 = some r) : Ctr Try.prog 72 [.rep 0 a0] (.fl r) [] := by
 refine ctr_of_walk [[]] 35 Try.func72 rfl rfl rfl rfl (fun w0 om => ?_)
 unfold shape_Check at hm
 refine CWalk.sub (G' := [.fact 0 (Fact.rep [] (a0 : Config))]) (Sub.cons (Has.fl (Has.s rfl)) Sub.nil) ?_
 refine CWalk.seq ?_
 refine CWalk.region ?_
 refine ws (Step.boxObj (ls := [(false, 1, Fact.rep [] (a0.Id : UInt32)), (false, 1, Fact.rep [] (a0.Members : Int)), (false, 1, Fact.rep [] (a0.Chunk : Int)), (false, 1, Fact.rep [] (a0.Rows : Int)), (false, 1, Fact.rep [] (a0.Log : Int)), (false, 1, Fact.rep [] (a0.Heads : Int))]) 10 rfl rfl rfl rfl (HasL.flds (Has.cv (Has.s rfl) (Cv.trans (Cv.opens (chConfig a0)) (Cv.flds (CvL.cons Cv.fl (CvL.cons Cv.fl (CvL.cons Cv.fl (CvL.cons Cv.fl (CvL.cons Cv.fl (CvL.cons Cv.fl CvL.nil))))))))))) ?_
 refine wo (Spec.assign Has.int) ?_
 refine Walk.nil ?_
 refine Leaf.thenN ?_
 refine CWalk.seq ?_
 refine CWalk.region ?_
 refine wo (Spec.fieldAddrO fd24_1 (Has.cv (Has.s rfl) (Cv.isvP rfl))) ?_
 refine wo (Spec.loadF (i := 1) ty3 rfl (Has.s rfl) rfl (HasG.s rfl)) ?_
 refine wo (Spec.buildA (us := [(0, .tmp 5), (1, .const (.int .i64 3)), (2, .const (.int .i64 16))]) (ls' := [(false, 1, Fact.rep [] (a0.Members : Int)), (false, 1, Fact.rep [] ((3 : Int) : Int)), (false, 1, Fact.rep [] ((16 : Int) : Int))]) bd133 rfl (BP.cons rfl rfl (Has.s rfl) (Has.s rfl) (BP.cons rfl rfl Has.int Has.int (BP.cons rfl rfl Has.int Has.int BP.nil)))) ?_
 refine wo (Spec.fieldAddrO fd24_2 (Has.cv (Has.s rfl) (Cv.isvP rfl))) ?_
 refine wo (Spec.loadF (i := 2) ty3 rfl (Has.s rfl) rfl (HasG.s rfl)) ?_
 refine wo (Spec.buildA (us := [(0, .tmp 8), (1, .const (.int .i64 1)), (2, .const (.int .i64 8))]) (ls' := [(false, 1, Fact.rep [] (a0.Chunk : Int)), (false, 1, Fact.rep [] ((1 : Int) : Int)), (false, 1, Fact.rep [] ((8 : Int) : Int))]) bd133 rfl (BP.cons rfl rfl (Has.s rfl) (Has.s rfl) (BP.cons rfl rfl Has.int Has.int (BP.cons rfl rfl Has.int Has.int BP.nil)))) ?_
 refine wo (Spec.fieldAddrO fd24_3 (Has.cv (Has.s rfl) (Cv.isvP rfl))) ?_
 refine wo (Spec.loadF (i := 3) ty3 rfl (Has.s rfl) rfl (HasG.s rfl)) ?_
 refine wo (Spec.buildA (us := [(0, .tmp 11), (1, .const (.int .i64 1)), (2, .const (.int .i64 8))]) (ls' := [(false, 1, Fact.rep [] (a0.Rows : Int)), (false, 1, Fact.rep [] ((1 : Int) : Int)), (false, 1, Fact.rep [] ((8 : Int) : Int))]) bd133 rfl (BP.cons rfl rfl (Has.s rfl) (Has.s rfl) (BP.cons rfl rfl Has.int Has.int (BP.cons rfl rfl Has.int Has.int BP.nil)))) ?_
 refine wo (Spec.fieldAddrO fd24_5 (Has.cv (Has.s rfl) (Cv.isvP rfl))) ?_
 refine wo (Spec.loadF (i := 5) ty3 rfl (Has.s rfl) rfl (HasG.s rfl)) ?_
 refine wo (Spec.buildA (us := [(0, .tmp 14), (1, .const (.int .i64 2)), (2, .const (.int .i64 8))]) (ls' := [(false, 1, Fact.rep [] (a0.Heads : Int)), (false, 1, Fact.rep [] ((2 : Int) : Int)), (false, 1, Fact.rep [] ((8 : Int) : Int))]) bd133 rfl (BP.cons rfl rfl (Has.s rfl) (Has.s rfl) (BP.cons rfl rfl Has.int Has.int (BP.cons rfl rfl Has.int Has.int BP.nil)))) ?_
 refine wo (Spec.lit (xs := [.tmp 6, .tmp 9, .tmp 12, .tmp 15]) (T := []) 17 rfl ow145 rfl rfl rfl rfl (HasEach.cons (Has.fl (Has.cv (Has.s rfl) (Cv.trans (Cv.flds (CvL.cons Cv.fl (CvL.cons Cv.fl (CvL.cons Cv.fl CvL.nil)))) (Cv.close (T := []) (chArr3_Int (Arr3_Int.mk a0.Members (3 : Int) (16 : Int))))))) (HasEach.cons (Has.fl (Has.cv (Has.s rfl) (Cv.trans (Cv.flds (CvL.cons Cv.fl (CvL.cons Cv.fl (CvL.cons Cv.fl CvL.nil)))) (Cv.close (T := []) (chArr3_Int (Arr3_Int.mk a0.Chunk (1 : Int) (8 : Int))))))) (HasEach.cons (Has.fl (Has.cv (Has.s rfl) (Cv.trans (Cv.flds (CvL.cons Cv.fl (CvL.cons Cv.fl (CvL.cons Cv.fl CvL.nil)))) (Cv.close (T := []) (chArr3_Int (Arr3_Int.mk a0.Rows (1 : Int) (8 : Int))))))) (HasEach.cons (Has.fl (Has.cv (Has.s rfl) (Cv.trans (Cv.flds (CvL.cons Cv.fl (CvL.cons Cv.fl (CvL.cons Cv.fl CvL.nil)))) (Cv.close (T := []) (chArr3_Int (Arr3_Int.mk a0.Heads (2 : Int) (8 : Int))))))) HasEach.nil))))) ?_
 obtain ⟨x1, hx1, hm⟩ := bind_some hm
 refine wo (f := Fact.rep [] (x1 : Bool)) (Spec.callE [17] 18 rfl en82 (shape_bounds_c ([(Arr3_Int.mk a0.Members (3 : Int) (16 : Int)), (Arr3_Int.mk a0.Chunk (1 : Int) (8 : Int)), (Arr3_Int.mk a0.Rows (1 : Int) (8 : Int)), (Arr3_Int.mk a0.Heads (2 : Int) (8 : Int))]) hx1) (HasAll.cons (Has.m (Has.s rfl) rfl) HasAll.nil)) ?_
 refine wo (Spec.assign (Has.s rfl)) ?_
 refine Walk.nil ?_
 refine Leaf.thenN ?_
 refine CWalk.seq ?_
 refine CWalk.seq ?_
 refine CWalk.region ?_
 refine mv ?_
 refine wo (Spec.not (Has.s rfl)) ?_
 refine mv ?_
 refine wg rfl rfl (fun hb => Spec.fieldAddrO fd24_4 (Has.cv (Has.s rfl) (Cv.isvP rfl))) ?_
 refine wg rfl rfl (fun hb => Spec.loadF (i := 4) ty3 rfl (Has.u rfl hb) rfl (HasG.s rfl)) ?_
 refine wg rfl rfl (fun hb => Spec.fieldAddrO fd24_1 (Has.cv (Has.s rfl) (Cv.isvP rfl))) ?_
 refine wg rfl rfl (fun hb => Spec.loadF (i := 1) ty3 rfl (Has.u rfl hb) rfl (HasG.s rfl)) ?_
 refine wg rfl rfl (fun hb => Spec.addI (Has.u rfl hb) Has.int) ?_
 refine wg rfl rfl (fun hb => Spec.fieldAddrO fd24_5 (Has.cv (Has.s rfl) (Cv.isvP rfl))) ?_
 refine wg rfl rfl (fun hb => Spec.loadF (i := 5) ty3 rfl (Has.u rfl hb) rfl (HasG.s rfl)) ?_
 refine wg rfl rfl (fun hb => Spec.addI (Has.u rfl hb) Has.int) ?_
 refine wg rfl rfl (fun hb => Spec.mulI (Has.u rfl hb) (Has.u rfl hb)) ?_
 refine wg rfl rfl (fun hb => Spec.buildA (us := [(0, .tmp 22), (1, .tmp 29), (2, .const (.int .i64 255))]) (ls' := [(false, 1, Fact.rep [] (a0.Log : Int)), (false, 1, Fact.rep [] ((wI ((wI (a0.Members + (1 : Int))) * (wI (a0.Heads + (1 : Int))))) : Int)), (false, 1, Fact.rep [] ((255 : Int) : Int))]) bd133 rfl (BP.cons rfl rfl (Has.u rfl hb) (Has.u rfl hb) (BP.cons rfl rfl (Has.u rfl hb) (Has.u rfl hb) (BP.cons rfl rfl Has.int Has.int BP.nil)))) ?_
 refine wg rfl rfl (fun hb => Spec.lit (xs := [.tmp 30]) (T := []) 19 rfl ow145 rfl rfl rfl rfl (HasEach.cons (Has.fl (Has.cv (Has.u rfl hb) (Cv.trans (Cv.flds (CvL.cons Cv.fl (CvL.cons Cv.fl (CvL.cons Cv.fl CvL.nil)))) (Cv.close (T := []) (chArr3_Int (Arr3_Int.mk a0.Log (wI ((wI (a0.Members + (1 : Int))) * (wI (a0.Heads + (1 : Int))))) (255 : Int))))))) HasEach.nil)) ?_
 obtain ⟨x2, hx2, hm⟩ := bind_some hm
 refine wg (f := Fact.rep [] (x2 : Bool)) rfl rfl (fun hb => Spec.callE [19] 20 rfl en82 (shape_bounds_c ([(Arr3_Int.mk a0.Log (wI ((wI (a0.Members + (1 : Int))) * (wI (a0.Heads + (1 : Int))))) (255 : Int))]) (gO_t hx2 (not_t hb))) (HasAll.cons (Has.m (Has.u rfl hb) rfl) HasAll.nil)) ?_
 refine wg rfl rfl (fun hb => Spec.not (Has.u rfl hb)) ?_
 refine wo (Spec.or (Has.s rfl) (fun h => Has.u rfl h)) ?_
 refine Walk.nil ?_
 refine Leaf.thenN ?_
 refine CWalk.cond rfl (fun hb => ?_) (fun hb => ?_)
 ·have hm := cond_t hb hm
  refine CWalk.seq ?_
  refine CWalk.region ?_
  refine wo (Spec.assign Has.int) ?_
  refine Walk.nil ?_
  refine Leaf.thenN ?_
  refine CWalk.ret ?_
  refine Leaf.thenR ?_
  obtain rfl := Option.some.inj hm
  exact Leaf.retC1 rfl (HasR.cv (HasR.tmp (Has.s rfl)) Cv.fl)
 ·have hm := cond_f hb hm
  refine CWalk.skip ?_
  refine Leaf.thenN ?_
  refine CWalk.seq ?_
  refine CWalk.region ?_
  refine wo (Spec.assign Has.int) ?_
  refine Walk.nil ?_
  refine Leaf.thenN ?_
  refine CWalk.ret ?_
  obtain rfl := Option.some.inj hm
  exact Leaf.retC1 rfl (HasR.cv (HasR.tmp (Has.s rfl)) Cv.fl)

/-- freeboard/shape.told -/
def shape_told (a0 : Config) (a1 : Int) : Option (Int × Int) :=
  Option.bind (shape_Check a0) (fun x1 => (bif (x1 != (0 : Int)) then some ((0 : Int), x1) else some (a1, (0 : Int))))
set_option maxRecDepth 100000 in
set_option maxHeartbeats 2000000 in
theorem shape_told_c (a0 : Config) (a1 : Int) {r : Int × Int} (hm : shape_told a0 a1 = some r) : Ctr Try.prog 53 [.rep 0 a0, .rep 0 a1] (.tup2 (.fl r.1) (.fl r.2)) [] := by
 refine ctr_of_walk [[]] 13 Try.func53 rfl rfl rfl rfl (fun w0 om => ?_)
 unfold shape_told at hm
 refine CWalk.sub (G' := [.fact 0 (Fact.rep [] (a0 : Config)), .fact 1 (Fact.rep [] (a1 : Int))]) (Sub.cons (Has.fl (Has.s rfl)) (Sub.cons (Has.fl (Has.s rfl)) Sub.nil)) ?_
 refine CWalk.seq ?_
 refine CWalk.region ?_
 refine ws (Step.boxObj (ls := [(false, 1, Fact.rep [] (a0.Id : UInt32)), (false, 1, Fact.rep [] (a0.Members : Int)), (false, 1, Fact.rep [] (a0.Chunk : Int)), (false, 1, Fact.rep [] (a0.Rows : Int)), (false, 1, Fact.rep [] (a0.Log : Int)), (false, 1, Fact.rep [] (a0.Heads : Int))]) 10 rfl rfl rfl rfl (HasL.flds (Has.cv (Has.s rfl) (Cv.trans (Cv.opens (chConfig a0)) (Cv.flds (CvL.cons Cv.fl (CvL.cons Cv.fl (CvL.cons Cv.fl (CvL.cons Cv.fl (CvL.cons Cv.fl (CvL.cons Cv.fl CvL.nil))))))))))) ?_
 refine wo (Spec.assign Has.int) ?_
 refine wo (Spec.assign Has.int) ?_
 refine Walk.nil ?_
 refine Leaf.thenN ?_
 refine CWalk.seq ?_
 refine CWalk.seq ?_
 refine CWalk.region ?_
 refine wo (Spec.loadObj (ls := [(false, 1, Fact.rep [] (a0.Id : UInt32)), (false, 1, Fact.rep [] (a0.Members : Int)), (false, 1, Fact.rep [] (a0.Chunk : Int)), (false, 1, Fact.rep [] (a0.Rows : Int)), (false, 1, Fact.rep [] (a0.Log : Int)), (false, 1, Fact.rep [] (a0.Heads : Int))]) ty24 rfl rfl (Has.s rfl) rfl (HasGs.cons (HasG.s rfl) (HasGs.cons (HasG.s rfl) (HasGs.cons (HasG.s rfl) (HasGs.cons (HasG.s rfl) (HasGs.cons (HasG.s rfl) (HasGs.cons (HasG.s rfl) HasGs.nil))))))) ?_
 obtain ⟨x1, hx1, hm⟩ := bind_some hm
 refine wo (f := Fact.rep [] (x1 : Int)) (Spec.callE [] 17 rfl en72 (shape_Check_c a0 hx1) (HasAll.cons (Has.fl (Has.cv (Has.s rfl) (Cv.trans (Cv.flds (CvL.cons Cv.fl (CvL.cons Cv.fl (CvL.cons Cv.fl (CvL.cons Cv.fl (CvL.cons Cv.fl (CvL.cons Cv.fl CvL.nil))))))) (Cv.close (T := []) (chConfig a0))))) HasAll.nil)) ?_
 refine wo (Spec.assign (Has.s rfl)) ?_
 refine Walk.nil ?_
 refine Leaf.thenN ?_
 refine CWalk.seq ?_
 refine CWalk.region ?_
 refine mv ?_
 refine wo (Spec.neqI (Has.s rfl) Has.int) ?_
 refine Walk.nil ?_
 refine Leaf.thenN ?_
 refine CWalk.cond rfl (fun hb => ?_) (fun hb => ?_)
 ·have hm := cond_t hb hm
  refine CWalk.seq ?_
  refine CWalk.region ?_
  refine mv ?_
  refine wo (Spec.assign Has.int) ?_
  refine wo (Spec.assign (Has.s rfl)) ?_
  refine Walk.nil ?_
  refine Leaf.thenN ?_
  refine CWalk.ret ?_
  refine Leaf.thenR ?_
  obtain rfl := Option.some.inj hm
  exact Leaf.retC2 rfl (HasR.cv (HasR.tmp (Has.s rfl)) Cv.fl) (HasR.cv (HasR.tmp (Has.s rfl)) Cv.fl)
 ·have hm := cond_f hb hm
  refine CWalk.skip ?_
  refine Leaf.thenN ?_
  refine CWalk.seq ?_
  refine CWalk.region ?_
  refine mv ?_
  refine wo (Spec.assign (Has.s rfl)) ?_
  refine wo (Spec.assign Has.int) ?_
  refine Walk.nil ?_
  refine Leaf.thenN ?_
  refine CWalk.ret ?_
  obtain rfl := Option.some.inj hm
  exact Leaf.retC2 rfl (HasR.cv (HasR.tmp (Has.s rfl)) Cv.fl) (HasR.cv (HasR.tmp (Has.s rfl)) Cv.fl)

/-- freeboard/shape.Stripes -/
def shape_Stripes (a0 : Config) : Option (Int × Int) :=
  Option.bind (shape_told a0 (wI (a0.Chunk * a0.Rows))) (fun x1 => some (x1.1, x1.2))
set_option maxRecDepth 100000 in
set_option maxHeartbeats 2000000 in
theorem shape_Stripes_c (a0 : Config) {r : Int × Int} (hm : shape_Stripes a0 = some r) : Ctr Try.prog 32 [.rep 0 a0] (.tup2 (.fl r.1) (.fl r.2)) [] := by
 refine ctr_of_walk [[]] 13 Try.func32 rfl rfl rfl rfl (fun w0 om => ?_)
 unfold shape_Stripes at hm
 refine CWalk.sub (G' := [.fact 0 (Fact.rep [] (a0 : Config))]) (Sub.cons (Has.fl (Has.s rfl)) Sub.nil) ?_
 refine CWalk.seq ?_
 refine CWalk.region ?_
 refine ws (Step.boxObj (ls := [(false, 1, Fact.rep [] (a0.Id : UInt32)), (false, 1, Fact.rep [] (a0.Members : Int)), (false, 1, Fact.rep [] (a0.Chunk : Int)), (false, 1, Fact.rep [] (a0.Rows : Int)), (false, 1, Fact.rep [] (a0.Log : Int)), (false, 1, Fact.rep [] (a0.Heads : Int))]) 10 rfl rfl rfl rfl (HasL.flds (Has.cv (Has.s rfl) (Cv.trans (Cv.opens (chConfig a0)) (Cv.flds (CvL.cons Cv.fl (CvL.cons Cv.fl (CvL.cons Cv.fl (CvL.cons Cv.fl (CvL.cons Cv.fl (CvL.cons Cv.fl CvL.nil))))))))))) ?_
 refine wo (Spec.assign Has.int) ?_
 refine wo (Spec.assign Has.int) ?_
 refine Walk.nil ?_
 refine Leaf.thenN ?_
 refine CWalk.seq ?_
 refine CWalk.region ?_
 refine wo (Spec.loadObj (ls := [(false, 1, Fact.rep [] (a0.Id : UInt32)), (false, 1, Fact.rep [] (a0.Members : Int)), (false, 1, Fact.rep [] (a0.Chunk : Int)), (false, 1, Fact.rep [] (a0.Rows : Int)), (false, 1, Fact.rep [] (a0.Log : Int)), (false, 1, Fact.rep [] (a0.Heads : Int))]) ty24 rfl rfl (Has.s rfl) rfl (HasGs.cons (HasG.s rfl) (HasGs.cons (HasG.s rfl) (HasGs.cons (HasG.s rfl) (HasGs.cons (HasG.s rfl) (HasGs.cons (HasG.s rfl) (HasGs.cons (HasG.s rfl) HasGs.nil))))))) ?_
 refine wo (Spec.fieldAddrO fd24_2 (Has.cv (Has.s rfl) (Cv.isvP rfl))) ?_
 refine wo (Spec.loadF (i := 2) ty3 rfl (Has.s rfl) rfl (HasG.s rfl)) ?_
 refine wo (Spec.fieldAddrO fd24_3 (Has.cv (Has.s rfl) (Cv.isvP rfl))) ?_
 refine wo (Spec.loadF (i := 3) ty3 rfl (Has.s rfl) rfl (HasG.s rfl)) ?_
 refine wo (Spec.mulI (Has.s rfl) (Has.s rfl)) ?_
 obtain ⟨x1, hx1, hm⟩ := bind_some hm
 refine wo (f := Fact.tup2 (Fact.rep [] (x1.1 : Int)) (Fact.rep [] (x1.2 : Int))) (Spec.callE [] 17 rfl en53 (shape_told_c a0 (wI (a0.Chunk * a0.Rows)) hx1) (HasAll.cons (Has.fl (Has.cv (Has.s rfl) (Cv.trans (Cv.flds (CvL.cons Cv.fl (CvL.cons Cv.fl (CvL.cons Cv.fl (CvL.cons Cv.fl (CvL.cons Cv.fl (CvL.cons Cv.fl CvL.nil))))))) (Cv.close (T := []) (chConfig a0))))) (HasAll.cons (Has.fl (Has.s rfl)) HasAll.nil))) ?_
 refine wo (Spec.ext0 (Has.s rfl)) ?_
 refine wo (Spec.ext1 (Has.s rfl)) ?_
 refine wo (Spec.assign (Has.s rfl)) ?_
 refine wo (Spec.assign (Has.s rfl)) ?_
 refine Walk.nil ?_
 refine Leaf.thenN ?_
 refine CWalk.ret ?_
 obtain rfl := Option.some.inj hm
 exact Leaf.retC2 rfl (HasR.cv (HasR.tmp (Has.s rfl)) Cv.fl) (HasR.cv (HasR.tmp (Has.s rfl)) Cv.fl)

/-- freeboard/loss.Check -/
def loss_Check (a0 : Config) (a1 : Loss) : Option (Int) :=
  Option.bind (shape_Stripes a0) (fun x1 => (bif (((((((x1.2 != (0 : Int)) || (decide ((a1.Events.toNat : Int) > ((2147483648 : UInt32).toNat : Int)))) || (decide (a1.Lost < (-1 : Int)))) || (decide (a1.Lost ≥ a0.Members))) || (decide (a1.Done < (0 : Int)))) || (decide (a1.Done > a1.Pos))) || (decide (a1.Pos > x1.1))) then some (8 : Int) else (bif ((a1.Spare && (a1.Lost == (-1 : Int))) || ((!a1.Spare) && (decide (a1.Pos > (0 : Int))))) then some (8 : Int) else some (0 : Int))))
set_option maxRecDepth 100000 in
set_option maxHeartbeats 2000000 in
theorem loss_Check_c (a0 : Config) (a1 : Loss) {r : Int} (hm : loss_Check a0 a1 = some r) : Ctr Try.prog 18 [.rep 0 a0, .rep 0 a1] (.fl r) [] := by
 refine ctr_of_walk [[]] 66 Try.func18 rfl rfl rfl rfl (fun w0 om => ?_)
 unfold loss_Check at hm
 refine CWalk.sub (G' := [.fact 0 (Fact.rep [] (a0 : Config)), .fact 1 (Fact.rep [] (a1 : Loss))]) (Sub.cons (Has.fl (Has.s rfl)) (Sub.cons (Has.fl (Has.s rfl)) Sub.nil)) ?_
 refine CWalk.seq ?_
 refine CWalk.region ?_
 refine ws (Step.boxObj (ls := [(false, 1, Fact.rep [] (a0.Id : UInt32)), (false, 1, Fact.rep [] (a0.Members : Int)), (false, 1, Fact.rep [] (a0.Chunk : Int)), (false, 1, Fact.rep [] (a0.Rows : Int)), (false, 1, Fact.rep [] (a0.Log : Int)), (false, 1, Fact.rep [] (a0.Heads : Int))]) 10 rfl rfl rfl rfl (HasL.flds (Has.cv (Has.s rfl) (Cv.trans (Cv.opens (chConfig a0)) (Cv.flds (CvL.cons Cv.fl (CvL.cons Cv.fl (CvL.cons Cv.fl (CvL.cons Cv.fl (CvL.cons Cv.fl (CvL.cons Cv.fl CvL.nil))))))))))) ?_
 refine ws (Step.boxObj (ls := [(false, 1, Fact.rep [] (a1.Events : UInt32)), (false, 1, Fact.rep [] (a1.Lost : Int)), (false, 1, Fact.rep [] (a1.Spare : Bool)), (false, 1, Fact.rep [] (a1.Pos : Int)), (false, 1, Fact.rep [] (a1.Done : Int)), (false, 1, Fact.rep [] (a1.NoLog : Bool)), (false, 1, Fact.rep [] (a1.Broken : Bool))]) 17 rfl rfl rfl rfl (HasL.flds (Has.cv (Has.s rfl) (Cv.trans (Cv.opens (chLoss a1)) (Cv.flds (CvL.cons Cv.fl (CvL.cons Cv.fl (CvL.cons Cv.fl (CvL.cons Cv.fl (CvL.cons Cv.fl (CvL.cons Cv.fl (CvL.cons Cv.fl CvL.nil)))))))))))) ?_
 refine wo (Spec.assign Has.int) ?_
 refine Walk.nil ?_
 refine Leaf.thenN ?_
 refine CWalk.seq ?_
 refine CWalk.region ?_
 refine wo (Spec.loadObj (ls := [(false, 1, Fact.rep [] (a0.Id : UInt32)), (false, 1, Fact.rep [] (a0.Members : Int)), (false, 1, Fact.rep [] (a0.Chunk : Int)), (false, 1, Fact.rep [] (a0.Rows : Int)), (false, 1, Fact.rep [] (a0.Log : Int)), (false, 1, Fact.rep [] (a0.Heads : Int))]) ty24 rfl rfl (Has.s rfl) rfl (HasGs.cons (HasG.s rfl) (HasGs.cons (HasG.s rfl) (HasGs.cons (HasG.s rfl) (HasGs.cons (HasG.s rfl) (HasGs.cons (HasG.s rfl) (HasGs.cons (HasG.s rfl) HasGs.nil))))))) ?_
 obtain ⟨x1, hx1, hm⟩ := bind_some hm
 refine wo (f := Fact.tup2 (Fact.rep [] (x1.1 : Int)) (Fact.rep [] (x1.2 : Int))) (Spec.callE [] 25 rfl en32 (shape_Stripes_c a0 hx1) (HasAll.cons (Has.fl (Has.cv (Has.s rfl) (Cv.trans (Cv.flds (CvL.cons Cv.fl (CvL.cons Cv.fl (CvL.cons Cv.fl (CvL.cons Cv.fl (CvL.cons Cv.fl (CvL.cons Cv.fl CvL.nil))))))) (Cv.close (T := []) (chConfig a0))))) HasAll.nil)) ?_
 refine mv ?_
 refine wo (Spec.ext0 (Has.s rfl)) ?_
 refine wo (Spec.ext1 (Has.s rfl)) ?_
 refine wo (Spec.assign (Has.s rfl)) ?_
 refine wo (Spec.assign (Has.s rfl)) ?_
 refine Walk.nil ?_
 refine Leaf.thenN ?_
 refine CWalk.seq ?_
 refine CWalk.seq ?_
 refine CWalk.region ?_
 refine mv ?_
 refine wo (Spec.neqI (Has.s rfl) Has.int) ?_
 refine mv ?_
 refine wg rfl rfl (fun hb => Spec.fieldAddrO fd26_0 (Has.cv (Has.s rfl) (Cv.isvP rfl))) ?_
 refine wg rfl rfl (fun hb => Spec.loadF (i := 0) ty22 rfl (Has.u rfl hb) rfl (HasG.s rfl)) ?_
 refine wg rfl rfl (fun hb => Spec.gtrN (α := UInt32) (Has.u rfl hb) (Has.u32 2147483648 rfl)) ?_
 refine wo (Spec.or (Has.s rfl) (fun h => Has.u rfl h)) ?_
 refine mv ?_
 refine wg rfl rfl (fun hb => Spec.fieldAddrO fd26_1 (Has.cv (Has.s rfl) (Cv.isvP rfl))) ?_
 refine wg rfl rfl (fun hb => Spec.loadF (i := 1) ty3 rfl (Has.u rfl hb) rfl (HasG.s rfl)) ?_
 refine wg rfl rfl (fun hb => Spec.lssI (Has.u rfl hb) Has.int) ?_
 refine wo (Spec.or (Has.s rfl) (fun h => Has.u rfl h)) ?_
 refine mv ?_
 refine wg rfl rfl (fun hb => Spec.fieldAddrO fd26_1 (Has.cv (Has.s rfl) (Cv.isvP rfl))) ?_
 refine wg rfl rfl (fun hb => Spec.loadF (i := 1) ty3 rfl (Has.u rfl hb) rfl (HasG.s rfl)) ?_
 refine wg rfl rfl (fun hb => Spec.fieldAddrO fd24_1 (Has.cv (Has.s rfl) (Cv.isvP rfl))) ?_
 refine wg rfl rfl (fun hb => Spec.loadF (i := 1) ty3 rfl (Has.u rfl hb) rfl (HasG.s rfl)) ?_
 refine wg rfl rfl (fun hb => Spec.geqI (Has.u rfl hb) (Has.u rfl hb)) ?_
 refine wo (Spec.or (Has.s rfl) (fun h => Has.u rfl h)) ?_
 refine mv ?_
 refine wg rfl rfl (fun hb => Spec.fieldAddrO fd26_4 (Has.cv (Has.s rfl) (Cv.isvP rfl))) ?_
 refine wg rfl rfl (fun hb => Spec.loadF (i := 4) ty3 rfl (Has.u rfl hb) rfl (HasG.s rfl)) ?_
 refine wg rfl rfl (fun hb => Spec.lssI (Has.u rfl hb) Has.int) ?_
 refine wo (Spec.or (Has.s rfl) (fun h => Has.u rfl h)) ?_
 refine mv ?_
 refine wg rfl rfl (fun hb => Spec.fieldAddrO fd26_4 (Has.cv (Has.s rfl) (Cv.isvP rfl))) ?_
 refine wg rfl rfl (fun hb => Spec.loadF (i := 4) ty3 rfl (Has.u rfl hb) rfl (HasG.s rfl)) ?_
 refine wg rfl rfl (fun hb => Spec.fieldAddrO fd26_3 (Has.cv (Has.s rfl) (Cv.isvP rfl))) ?_
 refine wg rfl rfl (fun hb => Spec.loadF (i := 3) ty3 rfl (Has.u rfl hb) rfl (HasG.s rfl)) ?_
 refine wg rfl rfl (fun hb => Spec.gtrI (Has.u rfl hb) (Has.u rfl hb)) ?_
 refine wo (Spec.or (Has.s rfl) (fun h => Has.u rfl h)) ?_
 refine mv ?_
 refine wg rfl rfl (fun hb => Spec.fieldAddrO fd26_3 (Has.cv (Has.s rfl) (Cv.isvP rfl))) ?_
 refine wg rfl rfl (fun hb => Spec.loadF (i := 3) ty3 rfl (Has.u rfl hb) rfl (HasG.s rfl)) ?_
 refine wg rfl rfl (fun hb => Spec.move (Has.s rfl)) ?_
 refine wg rfl rfl (fun hb => Spec.gtrI (Has.u rfl hb) (Has.u rfl hb)) ?_
 refine wo (Spec.or (Has.s rfl) (fun h => Has.u rfl h)) ?_
 refine Walk.nil ?_
 refine Leaf.thenN ?_
 refine CWalk.cond rfl (fun hb => ?_) (fun hb => ?_)
 ·have hm := cond_t hb hm
  refine CWalk.seq ?_
  refine CWalk.region ?_
  refine wo (Spec.assign Has.int) ?_
  refine Walk.nil ?_
  refine Leaf.thenN ?_
  refine CWalk.ret ?_
  refine Leaf.thenR ?_
  obtain rfl := Option.some.inj hm
  exact Leaf.retC1 rfl (HasR.cv (HasR.tmp (Has.s rfl)) Cv.fl)
 ·have hm := cond_f hb hm
  refine CWalk.skip ?_
  refine Leaf.thenN ?_
  refine CWalk.seq ?_
  refine CWalk.seq ?_
  refine CWalk.region ?_
  refine wo (Spec.fieldAddrO fd26_2 (Has.cv (Has.s rfl) (Cv.isvP rfl))) ?_
  refine wo (Spec.loadF (i := 2) ty4 rfl (Has.s rfl) rfl (HasG.s rfl)) ?_
  refine mv ?_
  refine wg rfl rfl (fun hb => Spec.fieldAddrO fd26_1 (Has.cv (Has.s rfl) (Cv.isvP rfl))) ?_
  refine wg rfl rfl (fun hb => Spec.loadF (i := 1) ty3 rfl (Has.u rfl hb) rfl (HasG.s rfl)) ?_
  refine wg rfl rfl (fun hb => Spec.eqlI (Has.u rfl hb) Has.int) ?_
  refine wo (Spec.and (Has.s rfl) (fun h => Has.u rfl h)) ?_
  refine mv ?_
  refine wg rfl rfl (fun hb => Spec.fieldAddrO fd26_2 (Has.cv (Has.s rfl) (Cv.isvP rfl))) ?_
  refine wg rfl rfl (fun hb => Spec.loadF (i := 2) ty4 rfl (Has.u rfl hb) rfl (HasG.s rfl)) ?_
  refine wg rfl rfl (fun hb => Spec.not (Has.u rfl hb)) ?_
  refine wg rfl rfl (fun hb => Spec.move (Has.u rfl hb)) ?_
  refine Walk.opgu rfl rfl rfl (fun hb => Spec.fieldAddrO fd26_3 (Has.cv (Has.s rfl) (Cv.isvP rfl))) ?_
  refine Walk.opgu rfl rfl rfl (fun hb => Spec.loadF (i := 3) ty3 rfl (Has.u rfl hb) rfl (HasG.s rfl)) ?_
  refine Walk.opgu rfl rfl rfl (fun hb => Spec.gtrI (Has.u rfl hb) Has.int) ?_
  refine wg rfl rfl (fun hb => Spec.and (Has.u rfl hb) (fun h => Has.u rfl ⟨hb, h⟩)) ?_
  refine wo (Spec.or (Has.s rfl) (fun h => Has.u rfl h)) ?_
  refine Walk.nil ?_
  refine Leaf.thenN ?_
  refine CWalk.cond rfl (fun hb => ?_) (fun hb => ?_)
  ·have hm := cond_t hb hm
   refine CWalk.seq ?_
   refine CWalk.region ?_
   refine wo (Spec.assign Has.int) ?_
   refine Walk.nil ?_
   refine Leaf.thenN ?_
   refine CWalk.ret ?_
   refine Leaf.thenR ?_
   obtain rfl := Option.some.inj hm
   exact Leaf.retC1 rfl (HasR.cv (HasR.tmp (Has.s rfl)) Cv.fl)
  ·have hm := cond_f hb hm
   refine CWalk.skip ?_
   refine Leaf.thenN ?_
   refine CWalk.seq ?_
   refine CWalk.region ?_
   refine wo (Spec.assign Has.int) ?_
   refine Walk.nil ?_
   refine Leaf.thenN ?_
   refine CWalk.ret ?_
   obtain rfl := Option.some.inj hm
   exact Leaf.retC1 rfl (HasR.cv (HasR.tmp (Has.s rfl)) Cv.fl)

def loss_Missing_J1 (a1 : Loss) (a2 : Int) (j3 : Bool) : Option (Int × Int) :=
  (bif j3 then some ((0 : Int), (2 : Int)) else (bif (a1.Spare && (decide (a2 < a1.Pos))) then some ((-1 : Int), (0 : Int)) else some (a1.Lost, (0 : Int))))
/-- freeboard/loss.Missing -/
def loss_Missing (a0 : Config) (a1 : Loss) (a2 : Int) : Option (Int × Int) :=
  Option.bind (loss_Check a0 a1) (fun x1 => (bif (x1 != (0 : Int)) then some ((0 : Int), x1) else Option.bind (shape_Stripes a0) (fun x2 => (bif (decide (a2 < (0 : Int))) then (loss_Missing_J1 a1 a2 (decide (a2 < (0 : Int)))) else (loss_Missing_J1 a1 a2 (decide (a2 ≥ x2.1)))))))
set_option maxRecDepth 100000 in
set_option maxHeartbeats 2000000 in
theorem loss_Missing_c (a0 : Config) (a1 : Loss) (a2 : Int) {r : Int × Int} (hm : loss_Missing a0 a1 a2 = some r) : Ctr Try.prog 8 [.rep 0 a0, .rep 0 a1, .rep 0 a2] (.tup2 (.fl r.1) (.fl r.2)) [] := by
 refine ctr_of_walk [[]] 39 Try.func8 rfl rfl rfl rfl (fun w0 om => ?_)
 unfold loss_Missing at hm
 refine CWalk.sub (G' := [.fact 0 (Fact.rep [] (a0 : Config)), .fact 1 (Fact.rep [] (a1 : Loss)), .fact 2 (Fact.rep [] (a2 : Int))]) (Sub.cons (Has.fl (Has.s rfl)) (Sub.cons (Has.fl (Has.s rfl)) (Sub.cons (Has.fl (Has.s rfl)) Sub.nil))) ?_
 refine CWalk.seq ?_
 refine CWalk.region ?_
 refine ws (Step.boxObj (ls := [(false, 1, Fact.rep [] (a0.Id : UInt32)), (false, 1, Fact.rep [] (a0.Members : Int)), (false, 1, Fact.rep [] (a0.Chunk : Int)), (false, 1, Fact.rep [] (a0.Rows : Int)), (false, 1, Fact.rep [] (a0.Log : Int)), (false, 1, Fact.rep [] (a0.Heads : Int))]) 10 rfl rfl rfl rfl (HasL.flds (Has.cv (Has.s rfl) (Cv.trans (Cv.opens (chConfig a0)) (Cv.flds (CvL.cons Cv.fl (CvL.cons Cv.fl (CvL.cons Cv.fl (CvL.cons Cv.fl (CvL.cons Cv.fl (CvL.cons Cv.fl CvL.nil))))))))))) ?_
 refine ws (Step.boxObj (ls := [(false, 1, Fact.rep [] (a1.Events : UInt32)), (false, 1, Fact.rep [] (a1.Lost : Int)), (false, 1, Fact.rep [] (a1.Spare : Bool)), (false, 1, Fact.rep [] (a1.Pos : Int)), (false, 1, Fact.rep [] (a1.Done : Int)), (false, 1, Fact.rep [] (a1.NoLog : Bool)), (false, 1, Fact.rep [] (a1.Broken : Bool))]) 17 rfl rfl rfl rfl (HasL.flds (Has.cv (Has.s rfl) (Cv.trans (Cv.opens (chLoss a1)) (Cv.flds (CvL.cons Cv.fl (CvL.cons Cv.fl (CvL.cons Cv.fl (CvL.cons Cv.fl (CvL.cons Cv.fl (CvL.cons Cv.fl (CvL.cons Cv.fl CvL.nil)))))))))))) ?_
 refine wo (Spec.assign Has.int) ?_
 refine wo (Spec.assign Has.int) ?_
 refine Walk.nil ?_
 refine Leaf.thenN ?_
 refine CWalk.seq ?_
 refine CWalk.seq ?_
 refine CWalk.region ?_
 refine wo (Spec.loadObj (ls := [(false, 1, Fact.rep [] (a0.Id : UInt32)), (false, 1, Fact.rep [] (a0.Members : Int)), (false, 1, Fact.rep [] (a0.Chunk : Int)), (false, 1, Fact.rep [] (a0.Rows : Int)), (false, 1, Fact.rep [] (a0.Log : Int)), (false, 1, Fact.rep [] (a0.Heads : Int))]) ty24 rfl rfl (Has.s rfl) rfl (HasGs.cons (HasG.s rfl) (HasGs.cons (HasG.s rfl) (HasGs.cons (HasG.s rfl) (HasGs.cons (HasG.s rfl) (HasGs.cons (HasG.s rfl) (HasGs.cons (HasG.s rfl) HasGs.nil))))))) ?_
 refine wo (Spec.loadObj (ls := [(false, 1, Fact.rep [] (a1.Events : UInt32)), (false, 1, Fact.rep [] (a1.Lost : Int)), (false, 1, Fact.rep [] (a1.Spare : Bool)), (false, 1, Fact.rep [] (a1.Pos : Int)), (false, 1, Fact.rep [] (a1.Done : Int)), (false, 1, Fact.rep [] (a1.NoLog : Bool)), (false, 1, Fact.rep [] (a1.Broken : Bool))]) ty26 rfl rfl (Has.s rfl) rfl (HasGs.cons (HasG.s rfl) (HasGs.cons (HasG.s rfl) (HasGs.cons (HasG.s rfl) (HasGs.cons (HasG.s rfl) (HasGs.cons (HasG.s rfl) (HasGs.cons (HasG.s rfl) (HasGs.cons (HasG.s rfl) HasGs.nil)))))))) ?_
 obtain ⟨x1, hx1, hm⟩ := bind_some hm
 refine wo (f := Fact.rep [] (x1 : Int)) (Spec.callE [] 25 rfl en18 (loss_Check_c a0 a1 hx1) (HasAll.cons (Has.fl (Has.cv (Has.s rfl) (Cv.trans (Cv.flds (CvL.cons Cv.fl (CvL.cons Cv.fl (CvL.cons Cv.fl (CvL.cons Cv.fl (CvL.cons Cv.fl (CvL.cons Cv.fl CvL.nil))))))) (Cv.close (T := []) (chConfig a0))))) (HasAll.cons (Has.fl (Has.cv (Has.s rfl) (Cv.trans (Cv.flds (CvL.cons Cv.fl (CvL.cons Cv.fl (CvL.cons Cv.fl (CvL.cons Cv.fl (CvL.cons Cv.fl (CvL.cons Cv.fl (CvL.cons Cv.fl CvL.nil)))))))) (Cv.close (T := []) (chLoss a1))))) HasAll.nil))) ?_
 refine wo (Spec.assign (Has.s rfl)) ?_
 refine Walk.nil ?_
 refine Leaf.thenN ?_
 refine CWalk.seq ?_
 refine CWalk.region ?_
 refine mv ?_
 refine wo (Spec.neqI (Has.s rfl) Has.int) ?_
 refine Walk.nil ?_
 refine Leaf.thenN ?_
 refine CWalk.cond rfl (fun hb => ?_) (fun hb => ?_)
 ·have hm := cond_t hb hm
  refine CWalk.seq ?_
  refine CWalk.region ?_
  refine mv ?_
  refine wo (Spec.assign Has.int) ?_
  refine wo (Spec.assign (Has.s rfl)) ?_
  refine Walk.nil ?_
  refine Leaf.thenN ?_
  refine CWalk.ret ?_
  refine Leaf.thenR ?_
  obtain rfl := Option.some.inj hm
  exact Leaf.retC2 rfl (HasR.cv (HasR.tmp (Has.s rfl)) Cv.fl) (HasR.cv (HasR.tmp (Has.s rfl)) Cv.fl)
 ·have hm := cond_f hb hm
  refine CWalk.skip ?_
  refine Leaf.thenN ?_
  refine CWalk.seq ?_
  refine CWalk.region ?_
  refine wo (Spec.loadObj (ls := [(false, 1, Fact.rep [] (a0.Id : UInt32)), (false, 1, Fact.rep [] (a0.Members : Int)), (false, 1, Fact.rep [] (a0.Chunk : Int)), (false, 1, Fact.rep [] (a0.Rows : Int)), (false, 1, Fact.rep [] (a0.Log : Int)), (false, 1, Fact.rep [] (a0.Heads : Int))]) ty24 rfl rfl (Has.s rfl) rfl (HasGs.cons (HasG.s rfl) (HasGs.cons (HasG.s rfl) (HasGs.cons (HasG.s rfl) (HasGs.cons (HasG.s rfl) (HasGs.cons (HasG.s rfl) (HasGs.cons (HasG.s rfl) HasGs.nil))))))) ?_
  obtain ⟨x2, hx2, hm⟩ := bind_some hm
  refine wo (f := Fact.tup2 (Fact.rep [] (x2.1 : Int)) (Fact.rep [] (x2.2 : Int))) (Spec.callE [] 26 rfl en32 (shape_Stripes_c a0 hx2) (HasAll.cons (Has.fl (Has.cv (Has.s rfl) (Cv.trans (Cv.flds (CvL.cons Cv.fl (CvL.cons Cv.fl (CvL.cons Cv.fl (CvL.cons Cv.fl (CvL.cons Cv.fl (CvL.cons Cv.fl CvL.nil))))))) (Cv.close (T := []) (chConfig a0))))) HasAll.nil)) ?_
  refine mv ?_
  refine wo (Spec.ext0 (Has.s rfl)) ?_
  refine wo (Spec.ext1 (Has.s rfl)) ?_
  refine wo (Spec.assign (Has.s rfl)) ?_
  refine wo (Spec.assign (Has.s rfl)) ?_
  refine Walk.nil ?_
  refine Leaf.thenN ?_
  refine CWalk.seq ?_
  refine CWalk.block ?_
  refine CWalk.seqJ (fun p : Bool => [.fact 2 (Fact.rep [] (a2 : Int)), .fact 4 (Fact.isv 17), .fact 22 (Fact.rep [] (p : Bool)), .fact 100018 (Fact.at 18 (Fact.rep [] (a1.Events : UInt32))), .fact 100019 (Fact.at 19 (Fact.rep [] (a1.Lost : Int))), .fact 100020 (Fact.at 20 (Fact.rep [] (a1.Spare : Bool))), .fact 100021 (Fact.at 21 (Fact.rep [] (a1.Pos : Int))), .fact 100022 (Fact.at 22 (Fact.rep [] (a1.Done : Int))), .fact 100023 (Fact.at 23 (Fact.rep [] (a1.NoLog : Bool))), .fact 100024 (Fact.at 24 (Fact.rep [] (a1.Broken : Bool))), .fact 100017 (Fact.obj 17 [(false, 1), (false, 1), (false, 1), (false, 1), (false, 1), (false, 1), (false, 1)])]) (fun p : Bool => loss_Missing_J1 a1 a2 p = some r) ?_ ?_
  ·rintro j3 hm
   replace hm : loss_Missing_J1 a1 a2 j3 = some r := hm
   unfold loss_Missing_J1 at hm
   show CWalk _ [.fact 2 (Fact.rep [] (a2 : Int)), .fact 4 (Fact.isv 17), .fact 22 (Fact.rep [] (j3 : Bool)), .fact 100018 (Fact.at 18 (Fact.rep [] (a1.Events : UInt32))), .fact 100019 (Fact.at 19 (Fact.rep [] (a1.Lost : Int))), .fact 100020 (Fact.at 20 (Fact.rep [] (a1.Spare : Bool))), .fact 100021 (Fact.at 21 (Fact.rep [] (a1.Pos : Int))), .fact 100022 (Fact.at 22 (Fact.rep [] (a1.Done : Int))), .fact 100023 (Fact.at 23 (Fact.rep [] (a1.NoLog : Bool))), .fact 100024 (Fact.at 24 (Fact.rep [] (a1.Broken : Bool))), .fact 100017 (Fact.obj 17 [(false, 1), (false, 1), (false, 1), (false, 1), (false, 1), (false, 1), (false, 1)])] _ _
   refine CWalk.cond rfl (fun hb => ?_) (fun hb => ?_)
   ·have hm := cond_t hb hm
    refine CWalk.seq ?_
    refine CWalk.region ?_
    refine wo (Spec.assign Has.int) ?_
    refine wo (Spec.assign Has.int) ?_
    refine Walk.nil ?_
    refine Leaf.thenN ?_
    refine CWalk.ret ?_
    refine Leaf.blockR ?_
    refine Leaf.thenR ?_
    obtain rfl := Option.some.inj hm
    exact Leaf.retC2 rfl (HasR.cv (HasR.tmp (Has.s rfl)) Cv.fl) (HasR.cv (HasR.tmp (Has.s rfl)) Cv.fl)
   ·have hm := cond_f hb hm
    refine CWalk.seq ?_
    refine CWalk.region ?_
    refine wo (Spec.fieldAddrO fd26_2 (Has.cv (Has.s rfl) (Cv.isvP rfl))) ?_
    refine wo (Spec.loadF (i := 2) ty4 rfl (Has.s rfl) rfl (HasG.s rfl)) ?_
    refine mv ?_
    refine wg rfl rfl (fun hb => Spec.move (Has.s rfl)) ?_
    refine wg rfl rfl (fun hb => Spec.fieldAddrO fd26_3 (Has.cv (Has.s rfl) (Cv.isvP rfl))) ?_
    refine wg rfl rfl (fun hb => Spec.loadF (i := 3) ty3 rfl (Has.u rfl hb) rfl (HasG.s rfl)) ?_
    refine wg rfl rfl (fun hb => Spec.lssI (Has.u rfl hb) (Has.u rfl hb)) ?_
    refine wo (Spec.and (Has.s rfl) (fun h => Has.u rfl h)) ?_
    refine wo (Spec.assign (Has.s rfl)) ?_
    refine Walk.nil ?_
    refine Leaf.thenN ?_
    refine CWalk.cond rfl (fun hb => ?_) (fun hb => ?_)
    ·have hm := cond_t hb hm
     refine CWalk.seq ?_
     refine CWalk.region ?_
     refine wo (Spec.assign Has.int) ?_
     refine wo (Spec.assign Has.int) ?_
     refine Walk.nil ?_
     refine Leaf.thenN ?_
     refine CWalk.ret ?_
     refine Leaf.blockR ?_
     refine Leaf.thenR ?_
     obtain rfl := Option.some.inj hm
     exact Leaf.retC2 rfl (HasR.cv (HasR.tmp (Has.s rfl)) Cv.fl) (HasR.cv (HasR.tmp (Has.s rfl)) Cv.fl)
    ·have hm := cond_f hb hm
     refine CWalk.skip ?_
     refine Leaf.blockN ?_
     refine Leaf.thenN ?_
     refine CWalk.seq ?_
     refine CWalk.region ?_
     refine wo (Spec.fieldAddrO fd26_1 (Has.cv (Has.s rfl) (Cv.isvP rfl))) ?_
     refine wo (Spec.loadF (i := 1) ty3 rfl (Has.s rfl) rfl (HasG.s rfl)) ?_
     refine wo (Spec.assign (Has.s rfl)) ?_
     refine wo (Spec.assign Has.int) ?_
     refine Walk.nil ?_
     refine Leaf.thenN ?_
     refine CWalk.ret ?_
     obtain rfl := Option.some.inj hm
     exact Leaf.retC2 rfl (HasR.cv (HasR.tmp (Has.s rfl)) Cv.fl) (HasR.cv (HasR.tmp (Has.s rfl)) Cv.fl)
  ·refine CWalk.seq ?_
   refine CWalk.region ?_
   refine mv ?_
   refine wo (Spec.lssI (Has.s rfl) Has.int) ?_
   refine wo (Spec.assign (Has.s rfl)) ?_
   refine Walk.nil ?_
   refine Leaf.thenN ?_
   refine CWalk.cond rfl (fun hb => ?_) (fun hb => ?_)
   ·have hm := cond_t hb hm
    refine CWalk.skip ?_
    exact Leaf.join (decide (a2 < (0 : Int))) hm (st (sn (st (sf (sf (sf (sf (sf (sf (sf (sn Sub.nil)))))))))))
   ·have hm := cond_f hb hm
    refine CWalk.region ?_
    refine mv ?_
    refine mv ?_
    refine wo (Spec.geqI (Has.s rfl) (Has.s rfl)) ?_
    refine wo (Spec.assign (Has.s rfl)) ?_
    refine Walk.nil ?_
    exact Leaf.join (decide (a2 ≥ x2.1)) hm (st (sn (st (sf (sf (sf (sf (sf (sf (sf (sn Sub.nil)))))))))))

/-- freeboard/freeboardref06.in -/
def ref06_in (a0 : Int) (a1 : Int) (a2 : Int) : Option (Bool) :=
  some ((decide (a0 ≥ a1)) && (decide (a0 ≤ a2)))
set_option maxRecDepth 100000 in
set_option maxHeartbeats 2000000 in
theorem ref06_in_c (a0 : Int) (a1 : Int) (a2 : Int) {r : Bool} (hm : ref06_in a0 a1 a2 = some r) : Ctr Try.prog 54 [.rep 0 a0, .rep 0 a1, .rep 0 a2] (.fl r) [] := by
 refine ctr_of_walk [[]] 15 Try.func54 rfl rfl rfl rfl (fun w0 om => ?_)
 unfold ref06_in at hm
 refine CWalk.sub (G' := [.fact 0 (Fact.rep [] (a0 : Int)), .fact 1 (Fact.rep [] (a1 : Int)), .fact 2 (Fact.rep [] (a2 : Int))]) (Sub.cons (Has.fl (Has.s rfl)) (Sub.cons (Has.fl (Has.s rfl)) (Sub.cons (Has.fl (Has.s rfl)) Sub.nil))) ?_
 refine CWalk.seq ?_
 refine CWalk.region ?_
 refine wo (Spec.assign Has.bool) ?_
 refine Walk.nil ?_
 refine Leaf.thenN ?_
 refine CWalk.seq ?_
 refine CWalk.region ?_
 refine mv ?_
 refine mv ?_
 refine wo (Spec.geqI (Has.s rfl) (Has.s rfl)) ?_
 refine mv ?_
 refine wg rfl rfl (fun hb => Spec.move (Has.s rfl)) ?_
 refine wg rfl rfl (fun hb => Spec.move (Has.s rfl)) ?_
 refine wg rfl rfl (fun hb => Spec.leqI (Has.u rfl hb) (Has.u rfl hb)) ?_
 refine wo (Spec.and (Has.s rfl) (fun h => Has.u rfl h)) ?_
 refine wo (Spec.assign (Has.s rfl)) ?_
 refine Walk.nil ?_
 refine Leaf.thenN ?_
 refine CWalk.ret ?_
 obtain rfl := Option.some.inj hm
 exact Leaf.retC1 rfl (HasR.cv (HasR.tmp (Has.s rfl)) Cv.fl)

/-- freeboard/freeboardref06.Need -/
def ref06_Need (a0 : Config) : Option (Int) :=
  some (wI (a0.Members + (1 : Int)))
set_option maxRecDepth 100000 in
set_option maxHeartbeats 2000000 in
theorem ref06_Need_c (a0 : Config) {r : Int} (hm : ref06_Need a0 = some r) : Ctr Try.prog 55 [.rep 0 a0] (.fl r) [] := by
 refine ctr_of_walk [[]] 6 Try.func55 rfl rfl rfl rfl (fun w0 om => ?_)
 unfold ref06_Need at hm
 refine CWalk.sub (G' := [.fact 0 (Fact.rep [] (a0 : Config))]) (Sub.cons (Has.fl (Has.s rfl)) Sub.nil) ?_
 refine CWalk.seq ?_
 refine CWalk.region ?_
 refine ws (Step.boxObj (ls := [(false, 1, Fact.rep [] (a0.Id : UInt32)), (false, 1, Fact.rep [] (a0.Members : Int)), (false, 1, Fact.rep [] (a0.Chunk : Int)), (false, 1, Fact.rep [] (a0.Rows : Int)), (false, 1, Fact.rep [] (a0.Log : Int)), (false, 1, Fact.rep [] (a0.Heads : Int))]) 10 rfl rfl rfl rfl (HasL.flds (Has.cv (Has.s rfl) (Cv.trans (Cv.opens (chConfig a0)) (Cv.flds (CvL.cons Cv.fl (CvL.cons Cv.fl (CvL.cons Cv.fl (CvL.cons Cv.fl (CvL.cons Cv.fl (CvL.cons Cv.fl CvL.nil))))))))))) ?_
 refine wo (Spec.assign Has.int) ?_
 refine Walk.nil ?_
 refine Leaf.thenN ?_
 refine CWalk.seq ?_
 refine CWalk.region ?_
 refine wo (Spec.fieldAddrO fd24_1 (Has.cv (Has.s rfl) (Cv.isvP rfl))) ?_
 refine wo (Spec.loadF (i := 1) ty3 rfl (Has.s rfl) rfl (HasG.s rfl)) ?_
 refine wo (Spec.addI (Has.s rfl) Has.int) ?_
 refine wo (Spec.assign (Has.s rfl)) ?_
 refine Walk.nil ?_
 refine Leaf.thenN ?_
 refine CWalk.ret ?_
 obtain rfl := Option.some.inj hm
 exact Leaf.retC1 rfl (HasR.cv (HasR.tmp (Has.s rfl)) Cv.fl)

/-- freeboard/freeboardref06.May -/
def ref06_May (a0 : Config) : Option (Bool) :=
  Option.bind (ref06_in a0.Members (3 : Int) (16 : Int)) (fun x1 => Option.bind (gO (!(!x1)) (ref06_in a0.Chunk (1 : Int) (8 : Int))) (fun x2 => Option.bind (gO (!((!x1) || (!x2))) (ref06_in a0.Rows (1 : Int) (8 : Int))) (fun x3 => Option.bind (gO (!(((!x1) || (!x2)) || (!x3))) (ref06_in a0.Heads (2 : Int) (8 : Int))) (fun x4 => (bif ((((!x1) || (!x2)) || (!x3)) || (!x4)) then some false else Option.bind (ref06_Need a0) (fun x5 => Option.bind (ref06_in a0.Log (wI (x5 * (wI (a0.Heads + (1 : Int))))) (255 : Int)) (fun x6 => some x6)))))))
set_option maxRecDepth 100000 in
set_option maxHeartbeats 2000000 in
theorem ref06_May_c (a0 : Config) {r : Bool} (hm : ref06_May a0 = some r) : Ctr Try.prog 39 [.rep 0 a0] (.fl r) [] := by
 refine ctr_of_walk [[]] 34 Try.func39 rfl rfl rfl rfl (fun w0 om => ?_)
 unfold ref06_May at hm
 refine CWalk.sub (G' := [.fact 0 (Fact.rep [] (a0 : Config))]) (Sub.cons (Has.fl (Has.s rfl)) Sub.nil) ?_
 refine CWalk.seq ?_
 refine CWalk.region ?_
 refine ws (Step.boxObj (ls := [(false, 1, Fact.rep [] (a0.Id : UInt32)), (false, 1, Fact.rep [] (a0.Members : Int)), (false, 1, Fact.rep [] (a0.Chunk : Int)), (false, 1, Fact.rep [] (a0.Rows : Int)), (false, 1, Fact.rep [] (a0.Log : Int)), (false, 1, Fact.rep [] (a0.Heads : Int))]) 10 rfl rfl rfl rfl (HasL.flds (Has.cv (Has.s rfl) (Cv.trans (Cv.opens (chConfig a0)) (Cv.flds (CvL.cons Cv.fl (CvL.cons Cv.fl (CvL.cons Cv.fl (CvL.cons Cv.fl (CvL.cons Cv.fl (CvL.cons Cv.fl CvL.nil))))))))))) ?_
 refine wo (Spec.assign Has.bool) ?_
 refine Walk.nil ?_
 refine Leaf.thenN ?_
 refine CWalk.seq ?_
 refine CWalk.seq ?_
 refine CWalk.region ?_
 refine wo (Spec.fieldAddrO fd24_1 (Has.cv (Has.s rfl) (Cv.isvP rfl))) ?_
 refine wo (Spec.loadF (i := 1) ty3 rfl (Has.s rfl) rfl (HasG.s rfl)) ?_
 obtain ⟨x1, hx1, hm⟩ := bind_some hm
 refine wo (f := Fact.rep [] (x1 : Bool)) (Spec.callE [] 17 rfl en54 (ref06_in_c a0.Members (3 : Int) (16 : Int) hx1) (HasAll.cons (Has.fl (Has.s rfl)) (HasAll.cons (Has.fl Has.int) (HasAll.cons (Has.fl Has.int) HasAll.nil)))) ?_
 refine wo (Spec.not (Has.s rfl)) ?_
 refine mv ?_
 refine wg rfl rfl (fun hb => Spec.fieldAddrO fd24_2 (Has.cv (Has.s rfl) (Cv.isvP rfl))) ?_
 refine wg rfl rfl (fun hb => Spec.loadF (i := 2) ty3 rfl (Has.u rfl hb) rfl (HasG.s rfl)) ?_
 obtain ⟨x2, hx2, hm⟩ := bind_some hm
 refine wg (f := Fact.rep [] (x2 : Bool)) rfl rfl (fun hb => Spec.callE [] 18 rfl en54 (ref06_in_c a0.Chunk (1 : Int) (8 : Int) (gO_t hx2 (not_t hb))) (HasAll.cons (Has.fl (Has.u rfl hb)) (HasAll.cons (Has.fl Has.int) (HasAll.cons (Has.fl Has.int) HasAll.nil)))) ?_
 refine wg rfl rfl (fun hb => Spec.not (Has.u rfl hb)) ?_
 refine wo (Spec.or (Has.s rfl) (fun h => Has.u rfl h)) ?_
 refine mv ?_
 refine wg rfl rfl (fun hb => Spec.fieldAddrO fd24_3 (Has.cv (Has.s rfl) (Cv.isvP rfl))) ?_
 refine wg rfl rfl (fun hb => Spec.loadF (i := 3) ty3 rfl (Has.u rfl hb) rfl (HasG.s rfl)) ?_
 obtain ⟨x3, hx3, hm⟩ := bind_some hm
 refine wg (f := Fact.rep [] (x3 : Bool)) rfl rfl (fun hb => Spec.callE [] 19 rfl en54 (ref06_in_c a0.Rows (1 : Int) (8 : Int) (gO_t hx3 (not_t hb))) (HasAll.cons (Has.fl (Has.u rfl hb)) (HasAll.cons (Has.fl Has.int) (HasAll.cons (Has.fl Has.int) HasAll.nil)))) ?_
 refine wg rfl rfl (fun hb => Spec.not (Has.u rfl hb)) ?_
 refine wo (Spec.or (Has.s rfl) (fun h => Has.u rfl h)) ?_
 refine mv ?_
 refine wg rfl rfl (fun hb => Spec.fieldAddrO fd24_5 (Has.cv (Has.s rfl) (Cv.isvP rfl))) ?_
 refine wg rfl rfl (fun hb => Spec.loadF (i := 5) ty3 rfl (Has.u rfl hb) rfl (HasG.s rfl)) ?_
 obtain ⟨x4, hx4, hm⟩ := bind_some hm
 refine wg (f := Fact.rep [] (x4 : Bool)) rfl rfl (fun hb => Spec.callE [] 20 rfl en54 (ref06_in_c a0.Heads (2 : Int) (8 : Int) (gO_t hx4 (not_t hb))) (HasAll.cons (Has.fl (Has.u rfl hb)) (HasAll.cons (Has.fl Has.int) (HasAll.cons (Has.fl Has.int) HasAll.nil)))) ?_
 refine wg rfl rfl (fun hb => Spec.not (Has.u rfl hb)) ?_
 refine wo (Spec.or (Has.s rfl) (fun h => Has.u rfl h)) ?_
 refine Walk.nil ?_
 refine Leaf.thenN ?_
 refine CWalk.cond rfl (fun hb => ?_) (fun hb => ?_)
 ·have hm := cond_t hb hm
  refine CWalk.seq ?_
  refine CWalk.region ?_
  refine wo (Spec.assign Has.bool) ?_
  refine Walk.nil ?_
  refine Leaf.thenN ?_
  refine CWalk.ret ?_
  refine Leaf.thenR ?_
  obtain rfl := Option.some.inj hm
  exact Leaf.retC1 rfl (HasR.cv (HasR.tmp (Has.s rfl)) Cv.fl)
 ·have hm := cond_f hb hm
  refine CWalk.skip ?_
  refine Leaf.thenN ?_
  refine CWalk.seq ?_
  obtain ⟨x5, hx5, hm⟩ := bind_some hm
  obtain ⟨x6, hx6, hm⟩ := bind_some hm
  refine CWalk.drawM [[], [0], [], [2], [], [4], [4, 5], [2, 3, 4, 5, 6], [0, 1, 2, 3, 4, 5, 6, 7], [0, 1, 2, 3, 4, 5, 6, 7, 8]] [[.fact 25 (Fact.pto 10 4)], [.fact 26 (Fact.rep [] (a0.Log : Int))], [.fact 27 (Fact.flds [(false, 1, Fact.rep [] (a0.Id : UInt32)), (false, 1, Fact.rep [] (a0.Members : Int)), (false, 1, Fact.rep [] (a0.Chunk : Int)), (false, 1, Fact.rep [] (a0.Rows : Int)), (false, 1, Fact.rep [] (a0.Log : Int)), (false, 1, Fact.rep [] (a0.Heads : Int))])], [.fact 28 (Fact.rep [] (x5 : Int))], [.fact 29 (Fact.pto 10 5)], [.fact 30 (Fact.rep [] (a0.Heads : Int))], [.fact 31 (Fact.rep [] ((wI (a0.Heads + (1 : Int))) : Int))], [.fact 32 (Fact.rep [] ((wI (x5 * (wI (a0.Heads + (1 : Int))))) : Int))], [.fact 33 (Fact.rep [] (x6 : Bool))], [.fact 2 (Fact.rep [] (x6 : Bool))]] mixed (by kernel_rfl) (ao (so (Spec.fieldAddrO fd24_4 (Has.cv (Has.s rfl) (Cv.isvP rfl)))) (ao (so (Spec.loadF (i := 4) ty3 rfl (Has.s rfl) rfl (HasG.s rfl))) (ao (so (Spec.loadObj (ls := [(false, 1, Fact.rep [] (a0.Id : UInt32)), (false, 1, Fact.rep [] (a0.Members : Int)), (false, 1, Fact.rep [] (a0.Chunk : Int)), (false, 1, Fact.rep [] (a0.Rows : Int)), (false, 1, Fact.rep [] (a0.Log : Int)), (false, 1, Fact.rep [] (a0.Heads : Int))]) ty24 rfl rfl (Has.s rfl) rfl (HasGs.cons (HasG.s rfl) (HasGs.cons (HasG.s rfl) (HasGs.cons (HasG.s rfl) (HasGs.cons (HasG.s rfl) (HasGs.cons (HasG.s rfl) (HasGs.cons (HasG.s rfl) HasGs.nil)))))))) (ao (so (Spec.callE [] 21 rfl en55 (ref06_Need_c a0 hx5) (HasAll.cons (Has.fl (Has.cv (Has.s rfl) (Cv.trans (Cv.flds (CvL.cons Cv.fl (CvL.cons Cv.fl (CvL.cons Cv.fl (CvL.cons Cv.fl (CvL.cons Cv.fl (CvL.cons Cv.fl CvL.nil))))))) (Cv.close (T := []) (chConfig a0))))) HasAll.nil))) (ao (so (Spec.fieldAddrO fd24_5 (Has.cv (Has.s rfl) (Cv.isvP rfl)))) (ao (so (Spec.loadF (i := 5) ty3 rfl (Has.s rfl) rfl (HasG.s rfl))) (ao (so (Spec.addI (Has.s rfl) Has.int)) (ao (so (Spec.mulI (Has.s rfl) (Has.s rfl))) (ao (so (Spec.callE [] 22 rfl en54 (ref06_in_c a0.Log (wI (x5 * (wI (a0.Heads + (1 : Int))))) (255 : Int) hx6) (HasAll.cons (Has.fl (Has.s rfl)) (HasAll.cons (Has.fl (Has.s rfl)) (HasAll.cons (Has.fl Has.int) HasAll.nil))))) (ao (so (Spec.assign (Has.s rfl))) AllM.nil)))))))))) ?_
  refine Leaf.thenN ?_
  refine CWalk.ret ?_
  obtain rfl := Option.some.inj hm
  exact Leaf.retC1 rfl (HasR.cv (HasR.tmp (Has.s rfl)) Cv.fl)

/-- freeboard/freeboardref06.Stripes -/
def ref06_Stripes (a0 : Config) : Option (Int) :=
  some (wI (a0.Chunk * a0.Rows))
set_option maxRecDepth 100000 in
set_option maxHeartbeats 2000000 in
theorem ref06_Stripes_c (a0 : Config) {r : Int} (hm : ref06_Stripes a0 = some r) : Ctr Try.prog 33 [.rep 0 a0] (.fl r) [] := by
 refine ctr_of_walk [[]] 8 Try.func33 rfl rfl rfl rfl (fun w0 om => ?_)
 unfold ref06_Stripes at hm
 refine CWalk.sub (G' := [.fact 0 (Fact.rep [] (a0 : Config))]) (Sub.cons (Has.fl (Has.s rfl)) Sub.nil) ?_
 refine CWalk.seq ?_
 refine CWalk.region ?_
 refine ws (Step.boxObj (ls := [(false, 1, Fact.rep [] (a0.Id : UInt32)), (false, 1, Fact.rep [] (a0.Members : Int)), (false, 1, Fact.rep [] (a0.Chunk : Int)), (false, 1, Fact.rep [] (a0.Rows : Int)), (false, 1, Fact.rep [] (a0.Log : Int)), (false, 1, Fact.rep [] (a0.Heads : Int))]) 10 rfl rfl rfl rfl (HasL.flds (Has.cv (Has.s rfl) (Cv.trans (Cv.opens (chConfig a0)) (Cv.flds (CvL.cons Cv.fl (CvL.cons Cv.fl (CvL.cons Cv.fl (CvL.cons Cv.fl (CvL.cons Cv.fl (CvL.cons Cv.fl CvL.nil))))))))))) ?_
 refine wo (Spec.assign Has.int) ?_
 refine Walk.nil ?_
 refine Leaf.thenN ?_
 refine CWalk.seq ?_
 refine CWalk.region ?_
 refine wo (Spec.fieldAddrO fd24_2 (Has.cv (Has.s rfl) (Cv.isvP rfl))) ?_
 refine wo (Spec.loadF (i := 2) ty3 rfl (Has.s rfl) rfl (HasG.s rfl)) ?_
 refine wo (Spec.fieldAddrO fd24_3 (Has.cv (Has.s rfl) (Cv.isvP rfl))) ?_
 refine wo (Spec.loadF (i := 3) ty3 rfl (Has.s rfl) rfl (HasG.s rfl)) ?_
 refine wo (Spec.mulI (Has.s rfl) (Has.s rfl)) ?_
 refine wo (Spec.assign (Has.s rfl)) ?_
 refine Walk.nil ?_
 refine Leaf.thenN ?_
 refine CWalk.ret ?_
 obtain rfl := Option.some.inj hm
 exact Leaf.retC1 rfl (HasR.cv (HasR.tmp (Has.s rfl)) Cv.fl)

/-- freeboard/freeboardref23.May -/
def ref23_May (a0 : Config) (a1 : Loss) : Option (Bool) :=
  (bif ((((decide ((a1.Events.toNat : Int) > ((2147483648 : UInt32).toNat : Int))) || (decide (a1.Lost < (-1 : Int)))) || (decide (a1.Lost ≥ a0.Members))) || (a1.Spare && (decide (a1.Lost < (0 : Int))))) then some false else (bif (!a1.Spare) then some ((a1.Pos == (0 : Int)) && (a1.Done == (0 : Int))) else Option.bind (gO (((decide (a1.Done ≥ (0 : Int))) && (decide (a1.Done ≤ a1.Pos)))) (ref06_Stripes a0)) (fun x1 => some (((decide (a1.Done ≥ (0 : Int))) && (decide (a1.Done ≤ a1.Pos))) && (decide (a1.Pos ≤ x1))))))
set_option maxRecDepth 100000 in
set_option maxHeartbeats 2000000 in
theorem ref23_May_c (a0 : Config) (a1 : Loss) {r : Bool} (hm : ref23_May a0 a1 = some r) : Ctr Try.prog 40 [.rep 0 a0, .rep 0 a1] (.fl r) [] := by
 refine ctr_of_walk [[]] 57 Try.func40 rfl rfl rfl rfl (fun w0 om => ?_)
 unfold ref23_May at hm
 refine CWalk.sub (G' := [.fact 0 (Fact.rep [] (a0 : Config)), .fact 1 (Fact.rep [] (a1 : Loss))]) (Sub.cons (Has.fl (Has.s rfl)) (Sub.cons (Has.fl (Has.s rfl)) Sub.nil)) ?_
 refine CWalk.seq ?_
 refine CWalk.region ?_
 refine ws (Step.boxObj (ls := [(false, 1, Fact.rep [] (a0.Id : UInt32)), (false, 1, Fact.rep [] (a0.Members : Int)), (false, 1, Fact.rep [] (a0.Chunk : Int)), (false, 1, Fact.rep [] (a0.Rows : Int)), (false, 1, Fact.rep [] (a0.Log : Int)), (false, 1, Fact.rep [] (a0.Heads : Int))]) 10 rfl rfl rfl rfl (HasL.flds (Has.cv (Has.s rfl) (Cv.trans (Cv.opens (chConfig a0)) (Cv.flds (CvL.cons Cv.fl (CvL.cons Cv.fl (CvL.cons Cv.fl (CvL.cons Cv.fl (CvL.cons Cv.fl (CvL.cons Cv.fl CvL.nil))))))))))) ?_
 refine ws (Step.boxObj (ls := [(false, 1, Fact.rep [] (a1.Events : UInt32)), (false, 1, Fact.rep [] (a1.Lost : Int)), (false, 1, Fact.rep [] (a1.Spare : Bool)), (false, 1, Fact.rep [] (a1.Pos : Int)), (false, 1, Fact.rep [] (a1.Done : Int)), (false, 1, Fact.rep [] (a1.NoLog : Bool)), (false, 1, Fact.rep [] (a1.Broken : Bool))]) 17 rfl rfl rfl rfl (HasL.flds (Has.cv (Has.s rfl) (Cv.trans (Cv.opens (chLoss a1)) (Cv.flds (CvL.cons Cv.fl (CvL.cons Cv.fl (CvL.cons Cv.fl (CvL.cons Cv.fl (CvL.cons Cv.fl (CvL.cons Cv.fl (CvL.cons Cv.fl CvL.nil)))))))))))) ?_
 refine wo (Spec.assign Has.bool) ?_
 refine Walk.nil ?_
 refine Leaf.thenN ?_
 refine CWalk.seq ?_
 refine CWalk.seq ?_
 refine CWalk.region ?_
 refine wo (Spec.fieldAddrO fd26_0 (Has.cv (Has.s rfl) (Cv.isvP rfl))) ?_
 refine wo (Spec.loadF (i := 0) ty22 rfl (Has.s rfl) rfl (HasG.s rfl)) ?_
 refine wo (Spec.gtrN (α := UInt32) (Has.s rfl) (Has.u32 2147483648 rfl)) ?_
 refine mv ?_
 refine wg rfl rfl (fun hb => Spec.fieldAddrO fd26_1 (Has.cv (Has.s rfl) (Cv.isvP rfl))) ?_
 refine wg rfl rfl (fun hb => Spec.loadF (i := 1) ty3 rfl (Has.u rfl hb) rfl (HasG.s rfl)) ?_
 refine wg rfl rfl (fun hb => Spec.lssI (Has.u rfl hb) Has.int) ?_
 refine wo (Spec.or (Has.s rfl) (fun h => Has.u rfl h)) ?_
 refine mv ?_
 refine wg rfl rfl (fun hb => Spec.fieldAddrO fd26_1 (Has.cv (Has.s rfl) (Cv.isvP rfl))) ?_
 refine wg rfl rfl (fun hb => Spec.loadF (i := 1) ty3 rfl (Has.u rfl hb) rfl (HasG.s rfl)) ?_
 refine wg rfl rfl (fun hb => Spec.fieldAddrO fd24_1 (Has.cv (Has.s rfl) (Cv.isvP rfl))) ?_
 refine wg rfl rfl (fun hb => Spec.loadF (i := 1) ty3 rfl (Has.u rfl hb) rfl (HasG.s rfl)) ?_
 refine wg rfl rfl (fun hb => Spec.geqI (Has.u rfl hb) (Has.u rfl hb)) ?_
 refine wo (Spec.or (Has.s rfl) (fun h => Has.u rfl h)) ?_
 refine mv ?_
 refine wg rfl rfl (fun hb => Spec.fieldAddrO fd26_2 (Has.cv (Has.s rfl) (Cv.isvP rfl))) ?_
 refine wg rfl rfl (fun hb => Spec.loadF (i := 2) ty4 rfl (Has.u rfl hb) rfl (HasG.s rfl)) ?_
 refine wg rfl rfl (fun hb => Spec.move (Has.u rfl hb)) ?_
 refine Walk.opgu rfl rfl rfl (fun hb => Spec.fieldAddrO fd26_1 (Has.cv (Has.s rfl) (Cv.isvP rfl))) ?_
 refine Walk.opgu rfl rfl rfl (fun hb => Spec.loadF (i := 1) ty3 rfl (Has.u rfl hb) rfl (HasG.s rfl)) ?_
 refine Walk.opgu rfl rfl rfl (fun hb => Spec.lssI (Has.u rfl hb) Has.int) ?_
 refine wg rfl rfl (fun hb => Spec.and (Has.u rfl hb) (fun h => Has.u rfl ⟨hb, h⟩)) ?_
 refine wo (Spec.or (Has.s rfl) (fun h => Has.u rfl h)) ?_
 refine Walk.nil ?_
 refine Leaf.thenN ?_
 refine CWalk.cond rfl (fun hb => ?_) (fun hb => ?_)
 ·have hm := cond_t hb hm
  refine CWalk.seq ?_
  refine CWalk.region ?_
  refine wo (Spec.assign Has.bool) ?_
  refine Walk.nil ?_
  refine Leaf.thenN ?_
  refine CWalk.ret ?_
  refine Leaf.thenR ?_
  obtain rfl := Option.some.inj hm
  exact Leaf.retC1 rfl (HasR.cv (HasR.tmp (Has.s rfl)) Cv.fl)
 ·have hm := cond_f hb hm
  refine CWalk.skip ?_
  refine Leaf.thenN ?_
  refine CWalk.seq ?_
  refine CWalk.seq ?_
  refine CWalk.region ?_
  refine wo (Spec.fieldAddrO fd26_2 (Has.cv (Has.s rfl) (Cv.isvP rfl))) ?_
  refine wo (Spec.loadF (i := 2) ty4 rfl (Has.s rfl) rfl (HasG.s rfl)) ?_
  refine wo (Spec.not (Has.s rfl)) ?_
  refine Walk.nil ?_
  refine Leaf.thenN ?_
  refine CWalk.cond rfl (fun hb => ?_) (fun hb => ?_)
  ·have hm := cond_t hb hm
   refine CWalk.seq ?_
   refine CWalk.region ?_
   refine wo (Spec.fieldAddrO fd26_3 (Has.cv (Has.s rfl) (Cv.isvP rfl))) ?_
   refine wo (Spec.loadF (i := 3) ty3 rfl (Has.s rfl) rfl (HasG.s rfl)) ?_
   refine wo (Spec.eqlI (Has.s rfl) Has.int) ?_
   refine mv ?_
   refine wg rfl rfl (fun hb => Spec.fieldAddrO fd26_4 (Has.cv (Has.s rfl) (Cv.isvP rfl))) ?_
   refine wg rfl rfl (fun hb => Spec.loadF (i := 4) ty3 rfl (Has.u rfl hb) rfl (HasG.s rfl)) ?_
   refine wg rfl rfl (fun hb => Spec.eqlI (Has.u rfl hb) Has.int) ?_
   refine wo (Spec.and (Has.s rfl) (fun h => Has.u rfl h)) ?_
   refine wo (Spec.assign (Has.s rfl)) ?_
   refine Walk.nil ?_
   refine Leaf.thenN ?_
   refine CWalk.ret ?_
   refine Leaf.thenR ?_
   obtain rfl := Option.some.inj hm
   exact Leaf.retC1 rfl (HasR.cv (HasR.tmp (Has.s rfl)) Cv.fl)
  ·have hm := cond_f hb hm
   refine CWalk.skip ?_
   refine Leaf.thenN ?_
   refine CWalk.seq ?_
   obtain ⟨x1, hx1, hm⟩ := bind_some hm
   refine CWalk.drawM [[], [0], [0, 1], [0, 1, 2], [0, 1, 2, 3], [0, 1, 2, 3, 4], [0, 1, 2, 3], [0, 1, 2, 3, 6], [0, 1, 2, 3, 4, 5, 6, 7], [0, 1, 2, 3, 4, 5, 6, 7, 8], [0, 1, 2, 3, 4, 5, 6, 7, 8, 9], [0, 1, 2, 3, 4, 5, 6, 7, 8, 9, 10], [0, 1, 2, 3, 4, 5, 6, 7, 8, 9, 10, 11], [0, 1, 2, 3, 4, 5, 6, 7, 8, 9, 10], [0, 1, 2, 3, 4, 5, 6, 7, 8, 9, 10, 13], [0, 1, 2, 3, 4, 5, 6, 7, 8, 9, 10, 11, 12, 13, 14], [0, 1, 2, 3, 4, 5, 6, 7, 8, 9, 10, 11, 12, 13, 14, 15], [0, 1, 2, 3, 4, 5, 6, 7, 8, 9, 10, 11, 12, 13, 14, 15, 16]] [[.fact 40 (Fact.pto 17 4)], [.fact 41 (Fact.rep [] (a1.Done : Int))], [.fact 42 (Fact.rep [] ((decide (a1.Done ≥ (0 : Int))) : Bool))], [.fact 43 (Fact.rep [] ((decide (a1.Done ≥ (0 : Int))) : Bool))], [.fact 44 (Fact.under ((decide (a1.Done ≥ (0 : Int))) = true) (.pto 17 4))], [.fact 45 (Fact.under ((decide (a1.Done ≥ (0 : Int))) = true) (.rep [] (a1.Done : Int)))], [.fact 46 (Fact.under ((decide (a1.Done ≥ (0 : Int))) = true) (.pto 17 3))], [.fact 47 (Fact.under ((decide (a1.Done ≥ (0 : Int))) = true) (.rep [] (a1.Pos : Int)))], [.fact 48 (Fact.under ((decide (a1.Done ≥ (0 : Int))) = true) (.rep [] ((decide (a1.Done ≤ a1.Pos)) : Bool)))], [.fact 49 (Fact.rep [] (((decide (a1.Done ≥ (0 : Int))) && (decide (a1.Done ≤ a1.Pos))) : Bool))], [.fact 50 (Fact.rep [] (((decide (a1.Done ≥ (0 : Int))) && (decide (a1.Done ≤ a1.Pos))) : Bool))], [.fact 51 (Fact.under (((decide (a1.Done ≥ (0 : Int))) && (decide (a1.Done ≤ a1.Pos))) = true) (.pto 17 3))], [.fact 52 (Fact.under (((decide (a1.Done ≥ (0 : Int))) && (decide (a1.Done ≤ a1.Pos))) = true) (.rep [] (a1.Pos : Int)))], [.fact 53 (Fact.under (((decide (a1.Done ≥ (0 : Int))) && (decide (a1.Done ≤ a1.Pos))) = true) (.flds [(false, 1, Fact.rep [] (a0.Id : UInt32)), (false, 1, Fact.rep [] (a0.Members : Int)), (false, 1, Fact.rep [] (a0.Chunk : Int)), (false, 1, Fact.rep [] (a0.Rows : Int)), (false, 1, Fact.rep [] (a0.Log : Int)), (false, 1, Fact.rep [] (a0.Heads : Int))]))], [.fact 54 (Fact.under (((decide (a1.Done ≥ (0 : Int))) && (decide (a1.Done ≤ a1.Pos))) = true) (.rep [] (x1 : Int)))], [.fact 55 (Fact.under (((decide (a1.Done ≥ (0 : Int))) && (decide (a1.Done ≤ a1.Pos))) = true) (.rep [] ((decide (a1.Pos ≤ x1)) : Bool)))], [.fact 56 (Fact.rep [] ((((decide (a1.Done ≥ (0 : Int))) && (decide (a1.Done ≤ a1.Pos))) && (decide (a1.Pos ≤ x1))) : Bool))], [.fact 4 (Fact.rep [] ((((decide (a1.Done ≥ (0 : Int))) && (decide (a1.Done ≤ a1.Pos))) && (decide (a1.Pos ≤ x1))) : Bool))]] mixed (by kernel_rfl) (ao (so (Spec.fieldAddrO fd26_4 (Has.cv (Has.s rfl) (Cv.isvP rfl)))) (ao (so (Spec.loadF (i := 4) ty3 rfl (Has.s rfl) rfl (HasG.s rfl))) (ao (so (Spec.geqI (Has.s rfl) Has.int)) (ao (so (Spec.move (Has.s rfl))) (ao (StepG.opg rfl rfl rfl (fun hb => Spec.fieldAddrO fd26_4 (Has.cv (Has.s rfl) (Cv.isvP rfl)))) (ao (StepG.opg rfl rfl rfl (fun hb => Spec.loadF (i := 4) ty3 rfl (Has.u rfl hb) rfl (HasG.s rfl))) (ao (StepG.opg rfl rfl rfl (fun hb => Spec.fieldAddrO fd26_3 (Has.cv (Has.s rfl) (Cv.isvP rfl)))) (ao (StepG.opg rfl rfl rfl (fun hb => Spec.loadF (i := 3) ty3 rfl (Has.u rfl hb) rfl (HasG.s rfl))) (ao (StepG.opg rfl rfl rfl (fun hb => Spec.leqI (Has.u rfl hb) (Has.u rfl hb))) (ao (so (Spec.and (Has.s rfl) (fun h => Has.u rfl h))) (ao (so (Spec.move (Has.s rfl))) (ao (StepG.opg rfl rfl rfl (fun hb => Spec.fieldAddrO fd26_3 (Has.cv (Has.s rfl) (Cv.isvP rfl)))) (ao (StepG.opg rfl rfl rfl (fun hb => Spec.loadF (i := 3) ty3 rfl (Has.u rfl hb) rfl (HasG.s rfl))) (ao (StepG.opg rfl rfl rfl (fun hb => Spec.loadObj (ls := [(false, 1, Fact.rep [] (a0.Id : UInt32)), (false, 1, Fact.rep [] (a0.Members : Int)), (false, 1, Fact.rep [] (a0.Chunk : Int)), (false, 1, Fact.rep [] (a0.Rows : Int)), (false, 1, Fact.rep [] (a0.Log : Int)), (false, 1, Fact.rep [] (a0.Heads : Int))]) ty24 rfl rfl (Has.s rfl) rfl (HasGs.cons (HasG.s rfl) (HasGs.cons (HasG.s rfl) (HasGs.cons (HasG.s rfl) (HasGs.cons (HasG.s rfl) (HasGs.cons (HasG.s rfl) (HasGs.cons (HasG.s rfl) HasGs.nil)))))))) (ao (StepG.opg rfl rfl rfl (fun hb => Spec.callE [] 25 rfl en33 (ref06_Stripes_c a0 (gO_t hx1 hb)) (HasAll.cons (Has.fl (Has.cv (Has.u rfl hb) (Cv.trans (Cv.flds (CvL.cons Cv.fl (CvL.cons Cv.fl (CvL.cons Cv.fl (CvL.cons Cv.fl (CvL.cons Cv.fl (CvL.cons Cv.fl CvL.nil))))))) (Cv.close (T := []) (chConfig a0))))) HasAll.nil))) (ao (StepG.opg rfl rfl rfl (fun hb => Spec.leqI (Has.u rfl hb) (Has.u rfl hb))) (ao (so (Spec.and (Has.s rfl) (fun h => Has.u rfl h))) (ao (so (Spec.assign (Has.s rfl))) AllM.nil)))))))))))))))))) ?_
   refine Leaf.thenN ?_
   refine CWalk.ret ?_
   obtain rfl := Option.some.inj hm
   exact Leaf.retC1 rfl (HasR.cv (HasR.tmp (Has.s rfl)) Cv.fl)

/-- freeboard/freeboardref23.Check -/
def ref23_Check (a0 : Config) (a1 : Loss) : Option (Int) :=
  Option.bind (ref06_May a0) (fun x1 => Option.bind (gO (!(!x1)) (ref23_May a0 a1)) (fun x2 => (bif ((!x1) || (!x2)) then some (8 : Int) else some (0 : Int))))
set_option maxRecDepth 100000 in
set_option maxHeartbeats 2000000 in
theorem ref23_Check_c (a0 : Config) (a1 : Loss) {r : Int} (hm : ref23_Check a0 a1 = some r) : Ctr Try.prog 19 [.rep 0 a0, .rep 0 a1] (.fl r) [] := by
 refine ctr_of_walk [[]] 14 Try.func19 rfl rfl rfl rfl (fun w0 om => ?_)
 unfold ref23_Check at hm
 refine CWalk.sub (G' := [.fact 0 (Fact.rep [] (a0 : Config)), .fact 1 (Fact.rep [] (a1 : Loss))]) (Sub.cons (Has.fl (Has.s rfl)) (Sub.cons (Has.fl (Has.s rfl)) Sub.nil)) ?_
 refine CWalk.seq ?_
 refine CWalk.region ?_
 refine ws (Step.boxObj (ls := [(false, 1, Fact.rep [] (a0.Id : UInt32)), (false, 1, Fact.rep [] (a0.Members : Int)), (false, 1, Fact.rep [] (a0.Chunk : Int)), (false, 1, Fact.rep [] (a0.Rows : Int)), (false, 1, Fact.rep [] (a0.Log : Int)), (false, 1, Fact.rep [] (a0.Heads : Int))]) 10 rfl rfl rfl rfl (HasL.flds (Has.cv (Has.s rfl) (Cv.trans (Cv.opens (chConfig a0)) (Cv.flds (CvL.cons Cv.fl (CvL.cons Cv.fl (CvL.cons Cv.fl (CvL.cons Cv.fl (CvL.cons Cv.fl (CvL.cons Cv.fl CvL.nil))))))))))) ?_
 refine ws (Step.boxObj (ls := [(false, 1, Fact.rep [] (a1.Events : UInt32)), (false, 1, Fact.rep [] (a1.Lost : Int)), (false, 1, Fact.rep [] (a1.Spare : Bool)), (false, 1, Fact.rep [] (a1.Pos : Int)), (false, 1, Fact.rep [] (a1.Done : Int)), (false, 1, Fact.rep [] (a1.NoLog : Bool)), (false, 1, Fact.rep [] (a1.Broken : Bool))]) 17 rfl rfl rfl rfl (HasL.flds (Has.cv (Has.s rfl) (Cv.trans (Cv.opens (chLoss a1)) (Cv.flds (CvL.cons Cv.fl (CvL.cons Cv.fl (CvL.cons Cv.fl (CvL.cons Cv.fl (CvL.cons Cv.fl (CvL.cons Cv.fl (CvL.cons Cv.fl CvL.nil)))))))))))) ?_
 refine wo (Spec.assign Has.int) ?_
 refine Walk.nil ?_
 refine Leaf.thenN ?_
 refine CWalk.seq ?_
 refine CWalk.seq ?_
 refine CWalk.region ?_
 refine wo (Spec.loadObj (ls := [(false, 1, Fact.rep [] (a0.Id : UInt32)), (false, 1, Fact.rep [] (a0.Members : Int)), (false, 1, Fact.rep [] (a0.Chunk : Int)), (false, 1, Fact.rep [] (a0.Rows : Int)), (false, 1, Fact.rep [] (a0.Log : Int)), (false, 1, Fact.rep [] (a0.Heads : Int))]) ty24 rfl rfl (Has.s rfl) rfl (HasGs.cons (HasG.s rfl) (HasGs.cons (HasG.s rfl) (HasGs.cons (HasG.s rfl) (HasGs.cons (HasG.s rfl) (HasGs.cons (HasG.s rfl) (HasGs.cons (HasG.s rfl) HasGs.nil))))))) ?_
 obtain ⟨x1, hx1, hm⟩ := bind_some hm
 refine wo (f := Fact.rep [] (x1 : Bool)) (Spec.callE [] 25 rfl en39 (ref06_May_c a0 hx1) (HasAll.cons (Has.fl (Has.cv (Has.s rfl) (Cv.trans (Cv.flds (CvL.cons Cv.fl (CvL.cons Cv.fl (CvL.cons Cv.fl (CvL.cons Cv.fl (CvL.cons Cv.fl (CvL.cons Cv.fl CvL.nil))))))) (Cv.close (T := []) (chConfig a0))))) HasAll.nil)) ?_
 refine wo (Spec.not (Has.s rfl)) ?_
 refine mv ?_
 refine wg rfl rfl (fun hb => Spec.loadObj (ls := [(false, 1, Fact.rep [] (a0.Id : UInt32)), (false, 1, Fact.rep [] (a0.Members : Int)), (false, 1, Fact.rep [] (a0.Chunk : Int)), (false, 1, Fact.rep [] (a0.Rows : Int)), (false, 1, Fact.rep [] (a0.Log : Int)), (false, 1, Fact.rep [] (a0.Heads : Int))]) ty24 rfl rfl (Has.s rfl) rfl (HasGs.cons (HasG.s rfl) (HasGs.cons (HasG.s rfl) (HasGs.cons (HasG.s rfl) (HasGs.cons (HasG.s rfl) (HasGs.cons (HasG.s rfl) (HasGs.cons (HasG.s rfl) HasGs.nil))))))) ?_
 refine wg rfl rfl (fun hb => Spec.loadObj (ls := [(false, 1, Fact.rep [] (a1.Events : UInt32)), (false, 1, Fact.rep [] (a1.Lost : Int)), (false, 1, Fact.rep [] (a1.Spare : Bool)), (false, 1, Fact.rep [] (a1.Pos : Int)), (false, 1, Fact.rep [] (a1.Done : Int)), (false, 1, Fact.rep [] (a1.NoLog : Bool)), (false, 1, Fact.rep [] (a1.Broken : Bool))]) ty26 rfl rfl (Has.s rfl) rfl (HasGs.cons (HasG.s rfl) (HasGs.cons (HasG.s rfl) (HasGs.cons (HasG.s rfl) (HasGs.cons (HasG.s rfl) (HasGs.cons (HasG.s rfl) (HasGs.cons (HasG.s rfl) (HasGs.cons (HasG.s rfl) HasGs.nil)))))))) ?_
 obtain ⟨x2, hx2, hm⟩ := bind_some hm
 refine wg (f := Fact.rep [] (x2 : Bool)) rfl rfl (fun hb => Spec.callE [] 26 rfl en40 (ref23_May_c a0 a1 (gO_t hx2 (not_t hb))) (HasAll.cons (Has.fl (Has.cv (Has.u rfl hb) (Cv.trans (Cv.flds (CvL.cons Cv.fl (CvL.cons Cv.fl (CvL.cons Cv.fl (CvL.cons Cv.fl (CvL.cons Cv.fl (CvL.cons Cv.fl CvL.nil))))))) (Cv.close (T := []) (chConfig a0))))) (HasAll.cons (Has.fl (Has.cv (Has.u rfl hb) (Cv.trans (Cv.flds (CvL.cons Cv.fl (CvL.cons Cv.fl (CvL.cons Cv.fl (CvL.cons Cv.fl (CvL.cons Cv.fl (CvL.cons Cv.fl (CvL.cons Cv.fl CvL.nil)))))))) (Cv.close (T := []) (chLoss a1))))) HasAll.nil))) ?_
 refine wg rfl rfl (fun hb => Spec.not (Has.u rfl hb)) ?_
 refine wo (Spec.or (Has.s rfl) (fun h => Has.u rfl h)) ?_
 refine Walk.nil ?_
 refine Leaf.thenN ?_
 refine CWalk.cond rfl (fun hb => ?_) (fun hb => ?_)
 ·have hm := cond_t hb hm
  refine CWalk.seq ?_
  refine CWalk.region ?_
  refine wo (Spec.assign Has.int) ?_
  refine Walk.nil ?_
  refine Leaf.thenN ?_
  refine CWalk.ret ?_
  refine Leaf.thenR ?_
  obtain rfl := Option.some.inj hm
  exact Leaf.retC1 rfl (HasR.cv (HasR.tmp (Has.s rfl)) Cv.fl)
 ·have hm := cond_f hb hm
  refine CWalk.skip ?_
  refine Leaf.thenN ?_
  refine CWalk.seq ?_
  refine CWalk.region ?_
  refine wo (Spec.assign Has.int) ?_
  refine Walk.nil ?_
  refine Leaf.thenN ?_
  refine CWalk.ret ?_
  obtain rfl := Option.some.inj hm
  exact Leaf.retC1 rfl (HasR.cv (HasR.tmp (Has.s rfl)) Cv.fl)

/-- freeboard/freeboardref23.For -/
def ref23_For (a0 : Loss) (a1 : Int) : Option (Int) :=
  (bif (a0.Spare && (decide (a1 < a0.Pos))) then some (-1 : Int) else some a0.Lost)
set_option maxRecDepth 100000 in
set_option maxHeartbeats 2000000 in
theorem ref23_For_c (a0 : Loss) (a1 : Int) {r : Int} (hm : ref23_For a0 a1 = some r) : Ctr Try.prog 34 [.rep 0 a0, .rep 0 a1] (.fl r) [] := by
 refine ctr_of_walk [[]] 15 Try.func34 rfl rfl rfl rfl (fun w0 om => ?_)
 unfold ref23_For at hm
 refine CWalk.sub (G' := [.fact 0 (Fact.rep [] (a0 : Loss)), .fact 1 (Fact.rep [] (a1 : Int))]) (Sub.cons (Has.fl (Has.s rfl)) (Sub.cons (Has.fl (Has.s rfl)) Sub.nil)) ?_
 refine CWalk.seq ?_
 refine CWalk.region ?_
 refine ws (Step.boxObj (ls := [(false, 1, Fact.rep [] (a0.Events : UInt32)), (false, 1, Fact.rep [] (a0.Lost : Int)), (false, 1, Fact.rep [] (a0.Spare : Bool)), (false, 1, Fact.rep [] (a0.Pos : Int)), (false, 1, Fact.rep [] (a0.Done : Int)), (false, 1, Fact.rep [] (a0.NoLog : Bool)), (false, 1, Fact.rep [] (a0.Broken : Bool))]) 10 rfl rfl rfl rfl (HasL.flds (Has.cv (Has.s rfl) (Cv.trans (Cv.opens (chLoss a0)) (Cv.flds (CvL.cons Cv.fl (CvL.cons Cv.fl (CvL.cons Cv.fl (CvL.cons Cv.fl (CvL.cons Cv.fl (CvL.cons Cv.fl (CvL.cons Cv.fl CvL.nil)))))))))))) ?_
 refine wo (Spec.assign Has.int) ?_
 refine Walk.nil ?_
 refine Leaf.thenN ?_
 refine CWalk.seq ?_
 refine CWalk.seq ?_
 refine CWalk.region ?_
 refine wo (Spec.fieldAddrO fd26_2 (Has.cv (Has.s rfl) (Cv.isvP rfl))) ?_
 refine wo (Spec.loadF (i := 2) ty4 rfl (Has.s rfl) rfl (HasG.s rfl)) ?_
 refine mv ?_
 refine wg rfl rfl (fun hb => Spec.move (Has.s rfl)) ?_
 refine wg rfl rfl (fun hb => Spec.fieldAddrO fd26_3 (Has.cv (Has.s rfl) (Cv.isvP rfl))) ?_
 refine wg rfl rfl (fun hb => Spec.loadF (i := 3) ty3 rfl (Has.u rfl hb) rfl (HasG.s rfl)) ?_
 refine wg rfl rfl (fun hb => Spec.lssI (Has.u rfl hb) (Has.u rfl hb)) ?_
 refine wo (Spec.and (Has.s rfl) (fun h => Has.u rfl h)) ?_
 refine Walk.nil ?_
 refine Leaf.thenN ?_
 refine CWalk.cond rfl (fun hb => ?_) (fun hb => ?_)
 ·have hm := cond_t hb hm
  refine CWalk.seq ?_
  refine CWalk.region ?_
  refine wo (Spec.assign Has.int) ?_
  refine Walk.nil ?_
  refine Leaf.thenN ?_
  refine CWalk.ret ?_
  refine Leaf.thenR ?_
  obtain rfl := Option.some.inj hm
  exact Leaf.retC1 rfl (HasR.cv (HasR.tmp (Has.s rfl)) Cv.fl)
 ·have hm := cond_f hb hm
  refine CWalk.skip ?_
  refine Leaf.thenN ?_
  refine CWalk.seq ?_
  refine CWalk.region ?_
  refine wo (Spec.fieldAddrO fd26_1 (Has.cv (Has.s rfl) (Cv.isvP rfl))) ?_
  refine wo (Spec.loadF (i := 1) ty3 rfl (Has.s rfl) rfl (HasG.s rfl)) ?_
  refine wo (Spec.assign (Has.s rfl)) ?_
  refine Walk.nil ?_
  refine Leaf.thenN ?_
  refine CWalk.ret ?_
  obtain rfl := Option.some.inj hm
  exact Leaf.retC1 rfl (HasR.cv (HasR.tmp (Has.s rfl)) Cv.fl)

/-- freeboard/freeboardref23.Missing -/
def ref23_Missing (a0 : Config) (a1 : Loss) (a2 : Int) : Option (Int × Int) :=
  Option.bind (ref23_Check a0 a1) (fun x1 => (bif (x1 != (0 : Int)) then some ((0 : Int), x1) else Option.bind (gO (!(decide (a2 < (0 : Int)))) (ref06_Stripes a0)) (fun x2 => (bif ((decide (a2 < (0 : Int))) || (decide (a2 ≥ x2))) then some ((0 : Int), (2 : Int)) else Option.bind (ref23_For a1 a2) (fun x3 => some (x3, (0 : Int)))))))
set_option maxRecDepth 100000 in
set_option maxHeartbeats 2000000 in
theorem ref23_Missing_c (a0 : Config) (a1 : Loss) (a2 : Int) {r : Int × Int} (hm : ref23_Missing a0 a1 a2 = some r) : Ctr Try.prog 9 [.rep 0 a0, .rep 0 a1, .rep 0 a2] (.tup2 (.fl r.1) (.fl r.2)) [] := by
 refine ctr_of_walk [[]] 26 Try.func9 rfl rfl rfl rfl (fun w0 om => ?_)
 unfold ref23_Missing at hm
 refine CWalk.sub (G' := [.fact 0 (Fact.rep [] (a0 : Config)), .fact 1 (Fact.rep [] (a1 : Loss)), .fact 2 (Fact.rep [] (a2 : Int))]) (Sub.cons (Has.fl (Has.s rfl)) (Sub.cons (Has.fl (Has.s rfl)) (Sub.cons (Has.fl (Has.s rfl)) Sub.nil))) ?_
 refine CWalk.seq ?_
 refine CWalk.region ?_
 refine ws (Step.boxObj (ls := [(false, 1, Fact.rep [] (a0.Id : UInt32)), (false, 1, Fact.rep [] (a0.Members : Int)), (false, 1, Fact.rep [] (a0.Chunk : Int)), (false, 1, Fact.rep [] (a0.Rows : Int)), (false, 1, Fact.rep [] (a0.Log : Int)), (false, 1, Fact.rep [] (a0.Heads : Int))]) 10 rfl rfl rfl rfl (HasL.flds (Has.cv (Has.s rfl) (Cv.trans (Cv.opens (chConfig a0)) (Cv.flds (CvL.cons Cv.fl (CvL.cons Cv.fl (CvL.cons Cv.fl (CvL.cons Cv.fl (CvL.cons Cv.fl (CvL.cons Cv.fl CvL.nil))))))))))) ?_
 refine ws (Step.boxObj (ls := [(false, 1, Fact.rep [] (a1.Events : UInt32)), (false, 1, Fact.rep [] (a1.Lost : Int)), (false, 1, Fact.rep [] (a1.Spare : Bool)), (false, 1, Fact.rep [] (a1.Pos : Int)), (false, 1, Fact.rep [] (a1.Done : Int)), (false, 1, Fact.rep [] (a1.NoLog : Bool)), (false, 1, Fact.rep [] (a1.Broken : Bool))]) 17 rfl rfl rfl rfl (HasL.flds (Has.cv (Has.s rfl) (Cv.trans (Cv.opens (chLoss a1)) (Cv.flds (CvL.cons Cv.fl (CvL.cons Cv.fl (CvL.cons Cv.fl (CvL.cons Cv.fl (CvL.cons Cv.fl (CvL.cons Cv.fl (CvL.cons Cv.fl CvL.nil)))))))))))) ?_
 refine wo (Spec.assign Has.int) ?_
 refine wo (Spec.assign Has.int) ?_
 refine Walk.nil ?_
 refine Leaf.thenN ?_
 refine CWalk.seq ?_
 refine CWalk.region ?_
 refine wo (Spec.loadObj (ls := [(false, 1, Fact.rep [] (a0.Id : UInt32)), (false, 1, Fact.rep [] (a0.Members : Int)), (false, 1, Fact.rep [] (a0.Chunk : Int)), (false, 1, Fact.rep [] (a0.Rows : Int)), (false, 1, Fact.rep [] (a0.Log : Int)), (false, 1, Fact.rep [] (a0.Heads : Int))]) ty24 rfl rfl (Has.s rfl) rfl (HasGs.cons (HasG.s rfl) (HasGs.cons (HasG.s rfl) (HasGs.cons (HasG.s rfl) (HasGs.cons (HasG.s rfl) (HasGs.cons (HasG.s rfl) (HasGs.cons (HasG.s rfl) HasGs.nil))))))) ?_
 refine wo (Spec.loadObj (ls := [(false, 1, Fact.rep [] (a1.Events : UInt32)), (false, 1, Fact.rep [] (a1.Lost : Int)), (false, 1, Fact.rep [] (a1.Spare : Bool)), (false, 1, Fact.rep [] (a1.Pos : Int)), (false, 1, Fact.rep [] (a1.Done : Int)), (false, 1, Fact.rep [] (a1.NoLog : Bool)), (false, 1, Fact.rep [] (a1.Broken : Bool))]) ty26 rfl rfl (Has.s rfl) rfl (HasGs.cons (HasG.s rfl) (HasGs.cons (HasG.s rfl) (HasGs.cons (HasG.s rfl) (HasGs.cons (HasG.s rfl) (HasGs.cons (HasG.s rfl) (HasGs.cons (HasG.s rfl) (HasGs.cons (HasG.s rfl) HasGs.nil)))))))) ?_
 obtain ⟨x1, hx1, hm⟩ := bind_some hm
 refine wo (f := Fact.rep [] (x1 : Int)) (Spec.callE [] 25 rfl en19 (ref23_Check_c a0 a1 hx1) (HasAll.cons (Has.fl (Has.cv (Has.s rfl) (Cv.trans (Cv.flds (CvL.cons Cv.fl (CvL.cons Cv.fl (CvL.cons Cv.fl (CvL.cons Cv.fl (CvL.cons Cv.fl (CvL.cons Cv.fl CvL.nil))))))) (Cv.close (T := []) (chConfig a0))))) (HasAll.cons (Has.fl (Has.cv (Has.s rfl) (Cv.trans (Cv.flds (CvL.cons Cv.fl (CvL.cons Cv.fl (CvL.cons Cv.fl (CvL.cons Cv.fl (CvL.cons Cv.fl (CvL.cons Cv.fl (CvL.cons Cv.fl CvL.nil)))))))) (Cv.close (T := []) (chLoss a1))))) HasAll.nil))) ?_
 refine wo (Spec.assign (Has.s rfl)) ?_
 refine Walk.nil ?_
 refine Leaf.thenN ?_
 refine CWalk.seq ?_
 refine CWalk.seq ?_
 refine CWalk.region ?_
 refine mv ?_
 refine wo (Spec.neqI (Has.s rfl) Has.int) ?_
 refine Walk.nil ?_
 refine Leaf.thenN ?_
 refine CWalk.cond rfl (fun hb => ?_) (fun hb => ?_)
 ·have hm := cond_t hb hm
  refine CWalk.seq ?_
  refine CWalk.region ?_
  refine mv ?_
  refine wo (Spec.assign Has.int) ?_
  refine wo (Spec.assign (Has.s rfl)) ?_
  refine Walk.nil ?_
  refine Leaf.thenN ?_
  refine CWalk.ret ?_
  refine Leaf.thenR ?_
  obtain rfl := Option.some.inj hm
  exact Leaf.retC2 rfl (HasR.cv (HasR.tmp (Has.s rfl)) Cv.fl) (HasR.cv (HasR.tmp (Has.s rfl)) Cv.fl)
 ·have hm := cond_f hb hm
  refine CWalk.skip ?_
  refine Leaf.thenN ?_
  refine CWalk.seq ?_
  refine CWalk.seq ?_
  refine CWalk.region ?_
  refine mv ?_
  refine wo (Spec.lssI (Has.s rfl) Has.int) ?_
  refine mv ?_
  refine wg rfl rfl (fun hb => Spec.move (Has.s rfl)) ?_
  refine wg rfl rfl (fun hb => Spec.loadObj (ls := [(false, 1, Fact.rep [] (a0.Id : UInt32)), (false, 1, Fact.rep [] (a0.Members : Int)), (false, 1, Fact.rep [] (a0.Chunk : Int)), (false, 1, Fact.rep [] (a0.Rows : Int)), (false, 1, Fact.rep [] (a0.Log : Int)), (false, 1, Fact.rep [] (a0.Heads : Int))]) ty24 rfl rfl (Has.s rfl) rfl (HasGs.cons (HasG.s rfl) (HasGs.cons (HasG.s rfl) (HasGs.cons (HasG.s rfl) (HasGs.cons (HasG.s rfl) (HasGs.cons (HasG.s rfl) (HasGs.cons (HasG.s rfl) HasGs.nil))))))) ?_
  obtain ⟨x2, hx2, hm⟩ := bind_some hm
  refine wg (f := Fact.rep [] (x2 : Int)) rfl rfl (fun hb => Spec.callE [] 26 rfl en33 (ref06_Stripes_c a0 (gO_t hx2 (not_t hb))) (HasAll.cons (Has.fl (Has.cv (Has.u rfl hb) (Cv.trans (Cv.flds (CvL.cons Cv.fl (CvL.cons Cv.fl (CvL.cons Cv.fl (CvL.cons Cv.fl (CvL.cons Cv.fl (CvL.cons Cv.fl CvL.nil))))))) (Cv.close (T := []) (chConfig a0))))) HasAll.nil)) ?_
  refine wg rfl rfl (fun hb => Spec.geqI (Has.u rfl hb) (Has.u rfl hb)) ?_
  refine wo (Spec.or (Has.s rfl) (fun h => Has.u rfl h)) ?_
  refine Walk.nil ?_
  refine Leaf.thenN ?_
  refine CWalk.cond rfl (fun hb => ?_) (fun hb => ?_)
  ·have hm := cond_t hb hm
   refine CWalk.seq ?_
   refine CWalk.region ?_
   refine wo (Spec.assign Has.int) ?_
   refine wo (Spec.assign Has.int) ?_
   refine Walk.nil ?_
   refine Leaf.thenN ?_
   refine CWalk.ret ?_
   refine Leaf.thenR ?_
   obtain rfl := Option.some.inj hm
   exact Leaf.retC2 rfl (HasR.cv (HasR.tmp (Has.s rfl)) Cv.fl) (HasR.cv (HasR.tmp (Has.s rfl)) Cv.fl)
  ·have hm := cond_f hb hm
   refine CWalk.skip ?_
   refine Leaf.thenN ?_
   refine CWalk.seq ?_
   refine CWalk.region ?_
   refine wo (Spec.loadObj (ls := [(false, 1, Fact.rep [] (a1.Events : UInt32)), (false, 1, Fact.rep [] (a1.Lost : Int)), (false, 1, Fact.rep [] (a1.Spare : Bool)), (false, 1, Fact.rep [] (a1.Pos : Int)), (false, 1, Fact.rep [] (a1.Done : Int)), (false, 1, Fact.rep [] (a1.NoLog : Bool)), (false, 1, Fact.rep [] (a1.Broken : Bool))]) ty26 rfl rfl (Has.s rfl) rfl (HasGs.cons (HasG.s rfl) (HasGs.cons (HasG.s rfl) (HasGs.cons (HasG.s rfl) (HasGs.cons (HasG.s rfl) (HasGs.cons (HasG.s rfl) (HasGs.cons (HasG.s rfl) (HasGs.cons (HasG.s rfl) HasGs.nil)))))))) ?_
   refine mv ?_
   obtain ⟨x3, hx3, hm⟩ := bind_some hm
   refine wo (f := Fact.rep [] (x3 : Int)) (Spec.callE [] 27 rfl en34 (ref23_For_c a1 a2 hx3) (HasAll.cons (Has.fl (Has.cv (Has.s rfl) (Cv.trans (Cv.flds (CvL.cons Cv.fl (CvL.cons Cv.fl (CvL.cons Cv.fl (CvL.cons Cv.fl (CvL.cons Cv.fl (CvL.cons Cv.fl (CvL.cons Cv.fl CvL.nil)))))))) (Cv.close (T := []) (chLoss a1))))) (HasAll.cons (Has.fl (Has.s rfl)) HasAll.nil))) ?_
   refine wo (Spec.assign (Has.s rfl)) ?_
   refine wo (Spec.assign Has.int) ?_
   refine Walk.nil ?_
   refine Leaf.thenN ?_
   refine CWalk.ret ?_
   obtain rfl := Option.some.inj hm
   exact Leaf.retC2 rfl (HasR.cv (HasR.tmp (Has.s rfl)) Cv.fl) (HasR.cv (HasR.tmp (Has.s rfl)) Cv.fl)

def loss_Die_J1 (a1 : Loss) (j2 : Int) (j3 : Bool) (j4 : Int) (j5 : Int) (j6 : Bool) (j7 : Bool) : Option (Loss × Int) :=
  some ((Loss.mk a1.Events j2 j3 j4 j5 j6 j7), (0 : Int))
def loss_Die_J2 (a1 : Loss) (j8 : Bool) : Option (Loss × Int) :=
  (loss_Die_J1 a1 a1.Lost a1.Spare a1.Pos a1.Done j8 true)
def loss_Die_J3 (a1 : Loss) (a2 : Int) : Option (Loss × Int) :=
  (loss_Die_J1 a1 a2 false (0 : Int) (0 : Int) a1.NoLog a1.Broken)
/-- freeboard/loss.Die -/
def loss_Die (a0 : Config) (a1 : Loss) (a2 : Int) (a3 : Bool) : Option (Loss × Int) :=
  Option.bind (loss_Check a0 a1) (fun x1 => (bif (x1 != (0 : Int)) then some ((Loss.mk (0 : UInt32) (0 : Int) false (0 : Int) (0 : Int) false false), x1) else (bif ((decide (a2 < (0 : Int))) || (decide (a2 > a0.Members))) then some ((Loss.mk (0 : UInt32) (0 : Int) false (0 : Int) (0 : Int) false false), (2 : Int)) else (bif ((a2 == a0.Members) && (!a3)) then (loss_Die_J1 a1 a1.Lost a1.Spare a1.Pos a1.Done true a1.Broken) else (bif (a2 == a0.Members) then (loss_Die_J2 a1 true) else (bif ((a1.Lost != (-1 : Int)) && (a1.Lost != a2)) then (loss_Die_J2 a1 a1.NoLog) else (loss_Die_J3 a1 a2)))))))
set_option maxRecDepth 100000 in
set_option maxHeartbeats 2000000 in
theorem loss_Die_c (a0 : Config) (a1 : Loss) (a2 : Int) (a3 : Bool) {r : Loss × Int} (hm : loss_Die a0 a1 a2 a3 = some r) : Ctr Try.prog 10 [.rep 0 a0, .rep 0 a1, .rep 0 a2, .rep 0 a3] (.tup2 (.fl r.1) (.fl r.2)) [] := by
 refine ctr_of_walk [[]] 40 Try.func10 rfl rfl rfl rfl (fun w0 om => ?_)
 unfold loss_Die at hm
 refine CWalk.sub (G' := [.fact 0 (Fact.rep [] (a0 : Config)), .fact 1 (Fact.rep [] (a1 : Loss)), .fact 2 (Fact.rep [] (a2 : Int)), .fact 3 (Fact.rep [] (a3 : Bool))]) (Sub.cons (Has.fl (Has.s rfl)) (Sub.cons (Has.fl (Has.s rfl)) (Sub.cons (Has.fl (Has.s rfl)) (Sub.cons (Has.fl (Has.s rfl)) Sub.nil)))) ?_
 refine CWalk.seq ?_
 refine CWalk.region ?_
 refine ws (Step.boxObj (ls := [(false, 1, Fact.rep [] (a0.Id : UInt32)), (false, 1, Fact.rep [] (a0.Members : Int)), (false, 1, Fact.rep [] (a0.Chunk : Int)), (false, 1, Fact.rep [] (a0.Rows : Int)), (false, 1, Fact.rep [] (a0.Log : Int)), (false, 1, Fact.rep [] (a0.Heads : Int))]) 10 rfl rfl rfl rfl (HasL.flds (Has.cv (Has.s rfl) (Cv.trans (Cv.opens (chConfig a0)) (Cv.flds (CvL.cons Cv.fl (CvL.cons Cv.fl (CvL.cons Cv.fl (CvL.cons Cv.fl (CvL.cons Cv.fl (CvL.cons Cv.fl CvL.nil))))))))))) ?_
 refine ws (Step.boxObj (ls := [(false, 1, Fact.rep [] (a1.Events : UInt32)), (false, 1, Fact.rep [] (a1.Lost : Int)), (false, 1, Fact.rep [] (a1.Spare : Bool)), (false, 1, Fact.rep [] (a1.Pos : Int)), (false, 1, Fact.rep [] (a1.Done : Int)), (false, 1, Fact.rep [] (a1.NoLog : Bool)), (false, 1, Fact.rep [] (a1.Broken : Bool))]) 17 rfl rfl rfl rfl (HasL.flds (Has.cv (Has.s rfl) (Cv.trans (Cv.opens (chLoss a1)) (Cv.flds (CvL.cons Cv.fl (CvL.cons Cv.fl (CvL.cons Cv.fl (CvL.cons Cv.fl (CvL.cons Cv.fl (CvL.cons Cv.fl (CvL.cons Cv.fl CvL.nil)))))))))))) ?_
 refine ws (Step.allocObj (ls := [(false, 1, Fact.rep [] ((0 : UInt32) : UInt32)), (false, 1, Fact.rep [] ((0 : Int) : Int)), (false, 1, Fact.rep [] (false : Bool)), (false, 1, Fact.rep [] ((0 : Int) : Int)), (false, 1, Fact.rep [] ((0 : Int) : Int)), (false, 1, Fact.rep [] (false : Bool)), (false, 1, Fact.rep [] (false : Bool))]) 25 rfl rfl rfl rfl zl26) ?_
 refine wo (Spec.assign Has.int) ?_
 refine Walk.nil ?_
 refine Leaf.thenN ?_
 refine CWalk.seq ?_
 refine CWalk.seq ?_
 refine CWalk.region ?_
 refine wo (Spec.loadObj (ls := [(false, 1, Fact.rep [] (a0.Id : UInt32)), (false, 1, Fact.rep [] (a0.Members : Int)), (false, 1, Fact.rep [] (a0.Chunk : Int)), (false, 1, Fact.rep [] (a0.Rows : Int)), (false, 1, Fact.rep [] (a0.Log : Int)), (false, 1, Fact.rep [] (a0.Heads : Int))]) ty24 rfl rfl (Has.s rfl) rfl (HasGs.cons (HasG.s rfl) (HasGs.cons (HasG.s rfl) (HasGs.cons (HasG.s rfl) (HasGs.cons (HasG.s rfl) (HasGs.cons (HasG.s rfl) (HasGs.cons (HasG.s rfl) HasGs.nil))))))) ?_
 refine wo (Spec.loadObj (ls := [(false, 1, Fact.rep [] (a1.Events : UInt32)), (false, 1, Fact.rep [] (a1.Lost : Int)), (false, 1, Fact.rep [] (a1.Spare : Bool)), (false, 1, Fact.rep [] (a1.Pos : Int)), (false, 1, Fact.rep [] (a1.Done : Int)), (false, 1, Fact.rep [] (a1.NoLog : Bool)), (false, 1, Fact.rep [] (a1.Broken : Bool))]) ty26 rfl rfl (Has.s rfl) rfl (HasGs.cons (HasG.s rfl) (HasGs.cons (HasG.s rfl) (HasGs.cons (HasG.s rfl) (HasGs.cons (HasG.s rfl) (HasGs.cons (HasG.s rfl) (HasGs.cons (HasG.s rfl) (HasGs.cons (HasG.s rfl) HasGs.nil)))))))) ?_
 obtain ⟨x1, hx1, hm⟩ := bind_some hm
 refine wo (f := Fact.rep [] (x1 : Int)) (Spec.callE [] 33 rfl en18 (loss_Check_c a0 a1 hx1) (HasAll.cons (Has.fl (Has.cv (Has.s rfl) (Cv.trans (Cv.flds (CvL.cons Cv.fl (CvL.cons Cv.fl (CvL.cons Cv.fl (CvL.cons Cv.fl (CvL.cons Cv.fl (CvL.cons Cv.fl CvL.nil))))))) (Cv.close (T := []) (chConfig a0))))) (HasAll.cons (Has.fl (Has.cv (Has.s rfl) (Cv.trans (Cv.flds (CvL.cons Cv.fl (CvL.cons Cv.fl (CvL.cons Cv.fl (CvL.cons Cv.fl (CvL.cons Cv.fl (CvL.cons Cv.fl (CvL.cons Cv.fl CvL.nil)))))))) (Cv.close (T := []) (chLoss a1))))) HasAll.nil))) ?_
 refine wo (Spec.assign (Has.s rfl)) ?_
 refine Walk.nil ?_
 refine Leaf.thenN ?_
 refine CWalk.seq ?_
 refine CWalk.region ?_
 refine mv ?_
 refine wo (Spec.neqI (Has.s rfl) Has.int) ?_
 refine Walk.nil ?_
 refine Leaf.thenN ?_
 refine CWalk.cond rfl (fun hb => ?_) (fun hb => ?_)
 ·have hm := cond_t hb hm
  refine CWalk.seq ?_
  refine CWalk.region ?_
  refine wo (Spec.build (us := []) (ls' := [(false, 1, Fact.rep [] ((0 : UInt32) : UInt32)), (false, 1, Fact.rep [] ((0 : Int) : Int)), (false, 1, Fact.rep [] (false : Bool)), (false, 1, Fact.rep [] ((0 : Int) : Int)), (false, 1, Fact.rep [] ((0 : Int) : Int)), (false, 1, Fact.rep [] (false : Bool)), (false, 1, Fact.rep [] (false : Bool))]) bd26 rfl BP.nil) ?_
  refine mv ?_
  refine ws (Step.storeObj (ls := [(false, 1, Fact.rep [] ((0 : UInt32) : UInt32)), (false, 1, Fact.rep [] ((0 : Int) : Int)), (false, 1, Fact.rep [] (false : Bool)), (false, 1, Fact.rep [] ((0 : Int) : Int)), (false, 1, Fact.rep [] ((0 : Int) : Int)), (false, 1, Fact.rep [] (false : Bool)), (false, 1, Fact.rep [] (false : Bool))]) rfl ty26 rfl rfl (Has.s rfl) rfl (HasL.flds (Has.s rfl)) rfl) ?_
  refine wo (Spec.assign (Has.s rfl)) ?_
  refine Walk.nil ?_
  refine Leaf.thenN ?_
  refine CWalk.ret ?_
  refine Leaf.thenR ?_
  obtain rfl := Option.some.inj hm
  exact Leaf.retC2 rfl (HasR.cv (HasR.obj (ls := [(false, 1, Fact.rep [] ((0 : UInt32) : UInt32)), (false, 1, Fact.rep [] ((0 : Int) : Int)), (false, 1, Fact.rep [] (false : Bool)), (false, 1, Fact.rep [] ((0 : Int) : Int)), (false, 1, Fact.rep [] ((0 : Int) : Int)), (false, 1, Fact.rep [] (false : Bool)), (false, 1, Fact.rep [] (false : Bool))]) ty26 rfl rfl (Has.s rfl) rfl (HasGs.cons (HasG.s rfl) (HasGs.cons (HasG.s rfl) (HasGs.cons (HasG.s rfl) (HasGs.cons (HasG.s rfl) (HasGs.cons (HasG.s rfl) (HasGs.cons (HasG.s rfl) (HasGs.cons (HasG.s rfl) HasGs.nil)))))))) (Cv.trans (Cv.trans (Cv.flds (CvL.cons Cv.fl (CvL.cons Cv.fl (CvL.cons Cv.fl (CvL.cons Cv.fl (CvL.cons Cv.fl (CvL.cons Cv.fl (CvL.cons Cv.fl CvL.nil)))))))) (Cv.close (T := []) (chLoss (Loss.mk (0 : UInt32) (0 : Int) false (0 : Int) (0 : Int) false false)))) Cv.fl)) (HasR.cv (HasR.tmp (Has.s rfl)) Cv.fl)
 ·have hm := cond_f hb hm
  refine CWalk.skip ?_
  refine Leaf.thenN ?_
  refine CWalk.seq ?_
  refine CWalk.seq ?_
  refine CWalk.region ?_
  refine mv ?_
  refine wo (Spec.lssI (Has.s rfl) Has.int) ?_
  refine mv ?_
  refine wg rfl rfl (fun hb => Spec.move (Has.s rfl)) ?_
  refine wg rfl rfl (fun hb => Spec.fieldAddrO fd24_1 (Has.cv (Has.s rfl) (Cv.isvP rfl))) ?_
  refine wg rfl rfl (fun hb => Spec.loadF (i := 1) ty3 rfl (Has.u rfl hb) rfl (HasG.s rfl)) ?_
  refine wg rfl rfl (fun hb => Spec.gtrI (Has.u rfl hb) (Has.u rfl hb)) ?_
  refine wo (Spec.or (Has.s rfl) (fun h => Has.u rfl h)) ?_
  refine Walk.nil ?_
  refine Leaf.thenN ?_
  refine CWalk.cond rfl (fun hb => ?_) (fun hb => ?_)
  ·have hm := cond_t hb hm
   refine CWalk.seq ?_
   refine CWalk.region ?_
   refine wo (Spec.build (us := []) (ls' := [(false, 1, Fact.rep [] ((0 : UInt32) : UInt32)), (false, 1, Fact.rep [] ((0 : Int) : Int)), (false, 1, Fact.rep [] (false : Bool)), (false, 1, Fact.rep [] ((0 : Int) : Int)), (false, 1, Fact.rep [] ((0 : Int) : Int)), (false, 1, Fact.rep [] (false : Bool)), (false, 1, Fact.rep [] (false : Bool))]) bd26 rfl BP.nil) ?_
   refine ws (Step.storeObj (ls := [(false, 1, Fact.rep [] ((0 : UInt32) : UInt32)), (false, 1, Fact.rep [] ((0 : Int) : Int)), (false, 1, Fact.rep [] (false : Bool)), (false, 1, Fact.rep [] ((0 : Int) : Int)), (false, 1, Fact.rep [] ((0 : Int) : Int)), (false, 1, Fact.rep [] (false : Bool)), (false, 1, Fact.rep [] (false : Bool))]) rfl ty26 rfl rfl (Has.s rfl) rfl (HasL.flds (Has.s rfl)) rfl) ?_
   refine wo (Spec.assign Has.int) ?_
   refine Walk.nil ?_
   refine Leaf.thenN ?_
   refine CWalk.ret ?_
   refine Leaf.thenR ?_
   obtain rfl := Option.some.inj hm
   exact Leaf.retC2 rfl (HasR.cv (HasR.obj (ls := [(false, 1, Fact.rep [] ((0 : UInt32) : UInt32)), (false, 1, Fact.rep [] ((0 : Int) : Int)), (false, 1, Fact.rep [] (false : Bool)), (false, 1, Fact.rep [] ((0 : Int) : Int)), (false, 1, Fact.rep [] ((0 : Int) : Int)), (false, 1, Fact.rep [] (false : Bool)), (false, 1, Fact.rep [] (false : Bool))]) ty26 rfl rfl (Has.s rfl) rfl (HasGs.cons (HasG.s rfl) (HasGs.cons (HasG.s rfl) (HasGs.cons (HasG.s rfl) (HasGs.cons (HasG.s rfl) (HasGs.cons (HasG.s rfl) (HasGs.cons (HasG.s rfl) (HasGs.cons (HasG.s rfl) HasGs.nil)))))))) (Cv.trans (Cv.trans (Cv.flds (CvL.cons Cv.fl (CvL.cons Cv.fl (CvL.cons Cv.fl (CvL.cons Cv.fl (CvL.cons Cv.fl (CvL.cons Cv.fl (CvL.cons Cv.fl CvL.nil)))))))) (Cv.close (T := []) (chLoss (Loss.mk (0 : UInt32) (0 : Int) false (0 : Int) (0 : Int) false false)))) Cv.fl)) (HasR.cv (HasR.tmp (Has.s rfl)) Cv.fl)
  ·have hm := cond_f hb hm
   refine CWalk.skip ?_
   refine Leaf.thenN ?_
   refine CWalk.seq ?_
   refine CWalk.region ?_
   refine wo (Spec.loadObj (ls := [(false, 1, Fact.rep [] (a1.Events : UInt32)), (false, 1, Fact.rep [] (a1.Lost : Int)), (false, 1, Fact.rep [] (a1.Spare : Bool)), (false, 1, Fact.rep [] (a1.Pos : Int)), (false, 1, Fact.rep [] (a1.Done : Int)), (false, 1, Fact.rep [] (a1.NoLog : Bool)), (false, 1, Fact.rep [] (a1.Broken : Bool))]) ty26 rfl rfl (Has.s rfl) rfl (HasGs.cons (HasG.s rfl) (HasGs.cons (HasG.s rfl) (HasGs.cons (HasG.s rfl) (HasGs.cons (HasG.s rfl) (HasGs.cons (HasG.s rfl) (HasGs.cons (HasG.s rfl) (HasGs.cons (HasG.s rfl) HasGs.nil)))))))) ?_
   refine wo (Spec.build (us := [(0, .tmp 28)]) (ls' := [(true, 7, Fact.flds [(false, 1, Fact.rep [] (a1.Events : UInt32)), (false, 1, Fact.rep [] (a1.Lost : Int)), (false, 1, Fact.rep [] (a1.Spare : Bool)), (false, 1, Fact.rep [] (a1.Pos : Int)), (false, 1, Fact.rep [] (a1.Done : Int)), (false, 1, Fact.rep [] (a1.NoLog : Bool)), (false, 1, Fact.rep [] (a1.Broken : Bool))])]) bd80 rfl (BP.cons rfl rfl (Has.cv (Has.s rfl) (Cv.trans (Cv.flds (CvL.cons Cv.fl (CvL.cons Cv.fl (CvL.cons Cv.fl (CvL.cons Cv.fl (CvL.cons Cv.fl (CvL.cons Cv.fl (CvL.cons Cv.fl CvL.nil)))))))) (Cv.close (T := []) (chLoss a1)))) (Has.s rfl) BP.nil)) ?_
   refine ws (Step.boxObj (ls := [(false, 1, Fact.rep [] (a1.Events : UInt32)), (false, 1, Fact.rep [] (a1.Lost : Int)), (false, 1, Fact.rep [] (a1.Spare : Bool)), (false, 1, Fact.rep [] (a1.Pos : Int)), (false, 1, Fact.rep [] (a1.Done : Int)), (false, 1, Fact.rep [] (a1.NoLog : Bool)), (false, 1, Fact.rep [] (a1.Broken : Bool))]) 34 rfl rfl rfl rfl (HasL.flds (Has.cv (Has.s rfl) (Cv.flat (FlatR.sub (FlatR.cons (FlatR.cons (FlatR.cons (FlatR.cons (FlatR.cons (FlatR.cons (FlatR.cons FlatR.nil))))))) rfl FlatR.nil))))) ?_
   refine wo (Spec.assign (Has.s rfl)) ?_
   refine Walk.nil ?_
   refine Leaf.thenN ?_
   refine CWalk.seq ?_
   refine CWalk.region ?_
   refine mv ?_
   refine wo (Spec.loadObj (ls := [(false, 1, Fact.rep [] (a0.Id : UInt32)), (false, 1, Fact.rep [] (a0.Members : Int)), (false, 1, Fact.rep [] (a0.Chunk : Int)), (false, 1, Fact.rep [] (a0.Rows : Int)), (false, 1, Fact.rep [] (a0.Log : Int)), (false, 1, Fact.rep [] (a0.Heads : Int))]) ty24 rfl rfl (Has.s rfl) rfl (HasGs.cons (HasG.s rfl) (HasGs.cons (HasG.s rfl) (HasGs.cons (HasG.s rfl) (HasGs.cons (HasG.s rfl) (HasGs.cons (HasG.s rfl) (HasGs.cons (HasG.s rfl) HasGs.nil))))))) ?_
   refine mv ?_
   refine mv ?_
   refine Walk.inline (S := Int × Bool × Int × Int × Bool × Bool) (fun p : Int × Bool × Int × Int × Bool × Bool => [.fact 8 (Fact.isv 25), .fact 11 (Fact.isv 34), .fact 35 (Fact.top), .fact 100026 (Fact.at 26 (Fact.rep [] ((0 : UInt32) : UInt32))), .fact 100027 (Fact.at 27 (Fact.rep [] ((0 : Int) : Int))), .fact 100028 (Fact.at 28 (Fact.rep [] (false : Bool))), .fact 100029 (Fact.at 29 (Fact.rep [] ((0 : Int) : Int))), .fact 100030 (Fact.at 30 (Fact.rep [] ((0 : Int) : Int))), .fact 100031 (Fact.at 31 (Fact.rep [] (false : Bool))), .fact 100032 (Fact.at 32 (Fact.rep [] (false : Bool))), .fact 100035 (Fact.at 35 (Fact.rep [] (a1.Events : UInt32))), .fact 100036 (Fact.at 36 (Fact.rep [] (p.1 : Int))), .fact 100037 (Fact.at 37 (Fact.rep [] (p.2.1 : Bool))), .fact 100038 (Fact.at 38 (Fact.rep [] (p.2.2.1 : Int))), .fact 100039 (Fact.at 39 (Fact.rep [] (p.2.2.2.1 : Int))), .fact 100040 (Fact.at 40 (Fact.rep [] (p.2.2.2.2.1 : Bool))), .fact 100041 (Fact.at 41 (Fact.rep [] (p.2.2.2.2.2 : Bool))), .fact 100025 (Fact.obj 25 [(false, 1), (false, 1), (false, 1), (false, 1), (false, 1), (false, 1), (false, 1)]), .fact 100034 (Fact.obj 34 [(false, 1), (false, 1), (false, 1), (false, 1), (false, 1), (false, 1), (false, 1)])]) (fun p : Int × Bool × Int × Int × Bool × Bool => loss_Die_J1 a1 p.1 p.2.1 p.2.2.1 p.2.2.2.1 p.2.2.2.2.1 p.2.2.2.2.2 = some r) (fun u1 => [.fact 100026 (Fact.at 26 (Fact.rep [] ((0 : UInt32) : UInt32))), .fact 100027 (Fact.at 27 (Fact.rep [] ((0 : Int) : Int))), .fact 100028 (Fact.at 28 (Fact.rep [] (false : Bool))), .fact 100029 (Fact.at 29 (Fact.rep [] ((0 : Int) : Int))), .fact 100030 (Fact.at 30 (Fact.rep [] ((0 : Int) : Int))), .fact 100031 (Fact.at 31 (Fact.rep [] (false : Bool))), .fact 100032 (Fact.at 32 (Fact.rep [] (false : Bool))), .fact 100035 (Fact.at 35 (Fact.rep [] (a1.Events : UInt32))), .fact 100036 (Fact.at 36 (Fact.rep [] (a1.Lost : Int))), .fact 100037 (Fact.at 37 (Fact.rep [] (a1.Spare : Bool))), .fact 100038 (Fact.at 38 (Fact.rep [] (a1.Pos : Int))), .fact 100039 (Fact.at 39 (Fact.rep [] (a1.Done : Int))), .fact 100040 (Fact.at 40 (Fact.rep [] (a1.NoLog : Bool))), .fact 100041 (Fact.at 41 (Fact.rep [] (a1.Broken : Bool))), .fact 902008 (Fact.cst (u1 8) (Fact.isv 25)), .fact 902011 (Fact.cst (u1 11) (Fact.isv 34)), .fact 100025 (Fact.obj 25 [(false, 1), (false, 1), (false, 1), (false, 1), (false, 1), (false, 1), (false, 1)]), .fact 100034 (Fact.obj 34 [(false, 1), (false, 1), (false, 1), (false, 1), (false, 1), (false, 1), (false, 1)])]) (FA := [Fact.isv 34, Fact.flds [(false, 1, Fact.rep [] (a0.Id : UInt32)), (false, 1, Fact.rep [] (a0.Members : Int)), (false, 1, Fact.rep [] (a0.Chunk : Int)), (false, 1, Fact.rep [] (a0.Rows : Int)), (false, 1, Fact.rep [] (a0.Log : Int)), (false, 1, Fact.rep [] (a0.Heads : Int))], Fact.rep [] (a2 : Int), Fact.rep [] (a3 : Bool)]) rfl Try.func35 rfl rfl rfl (CallOk.fn en35 (HasF.cons (Has.s rfl) (HasF.cons (Has.s rfl) (HasF.cons (Has.s rfl) (HasF.cons (Has.s rfl) HasF.nil))))) (fun u1 => (ck (ck (ck (ck (ck (ck (ck (ck (ck (ck (ck (ck (ck (ck (cs 902000 8 (cs 902000 11 (ck (ck Carry.nil))))))))))))))))))) (fun u1 => ?_) ?_
   ·refine CWalk.seq ?_
    refine CWalk.region ?_
    refine ws (Step.boxObj (ls := [(false, 1, Fact.rep [] (a0.Id : UInt32)), (false, 1, Fact.rep [] (a0.Members : Int)), (false, 1, Fact.rep [] (a0.Chunk : Int)), (false, 1, Fact.rep [] (a0.Rows : Int)), (false, 1, Fact.rep [] (a0.Log : Int)), (false, 1, Fact.rep [] (a0.Heads : Int))]) 42 rfl rfl rfl rfl (HasL.flds (Has.s rfl))) ?_
    refine Walk.nil ?_
    refine Leaf.thenN ?_
    refine CWalk.block ?_
    refine CWalk.seq ?_
    refine CWalk.block ?_
    refine CWalk.seqJ (fun p : Bool => [.fact 0 (Fact.isv 34), .fact 902008 (Fact.cst (u1 8) (Fact.isv 25)), .fact 902011 (Fact.cst (u1 11) (Fact.isv 34)), .fact 100035 (Fact.at 35 (Fact.rep [] (a1.Events : UInt32))), .fact 100036 (Fact.at 36 (Fact.rep [] (a1.Lost : Int))), .fact 100037 (Fact.at 37 (Fact.rep [] (a1.Spare : Bool))), .fact 100038 (Fact.at 38 (Fact.rep [] (a1.Pos : Int))), .fact 100039 (Fact.at 39 (Fact.rep [] (a1.Done : Int))), .fact 100040 (Fact.at 40 (Fact.rep [] (p : Bool))), .fact 100041 (Fact.at 41 (Fact.rep [] (a1.Broken : Bool))), .fact 100026 (Fact.at 26 (Fact.rep [] ((0 : UInt32) : UInt32))), .fact 100027 (Fact.at 27 (Fact.rep [] ((0 : Int) : Int))), .fact 100028 (Fact.at 28 (Fact.rep [] (false : Bool))), .fact 100029 (Fact.at 29 (Fact.rep [] ((0 : Int) : Int))), .fact 100030 (Fact.at 30 (Fact.rep [] ((0 : Int) : Int))), .fact 100031 (Fact.at 31 (Fact.rep [] (false : Bool))), .fact 100032 (Fact.at 32 (Fact.rep [] (false : Bool))), .fact 100034 (Fact.obj 34 [(false, 1), (false, 1), (false, 1), (false, 1), (false, 1), (false, 1), (false, 1)]), .fact 100025 (Fact.obj 25 [(false, 1), (false, 1), (false, 1), (false, 1), (false, 1), (false, 1), (false, 1)])]) (fun p : Bool => loss_Die_J2 a1 p = some r) ?_ ?_
    ·rintro j8 hm
     replace hm : loss_Die_J2 a1 j8 = some r := hm
     unfold loss_Die_J2 at hm
     show CWalk _ [.fact 0 (Fact.isv 34), .fact 902008 (Fact.cst (u1 8) (Fact.isv 25)), .fact 902011 (Fact.cst (u1 11) (Fact.isv 34)), .fact 100035 (Fact.at 35 (Fact.rep [] (a1.Events : UInt32))), .fact 100036 (Fact.at 36 (Fact.rep [] (a1.Lost : Int))), .fact 100037 (Fact.at 37 (Fact.rep [] (a1.Spare : Bool))), .fact 100038 (Fact.at 38 (Fact.rep [] (a1.Pos : Int))), .fact 100039 (Fact.at 39 (Fact.rep [] (a1.Done : Int))), .fact 100040 (Fact.at 40 (Fact.rep [] (j8 : Bool))), .fact 100041 (Fact.at 41 (Fact.rep [] (a1.Broken : Bool))), .fact 100026 (Fact.at 26 (Fact.rep [] ((0 : UInt32) : UInt32))), .fact 100027 (Fact.at 27 (Fact.rep [] ((0 : Int) : Int))), .fact 100028 (Fact.at 28 (Fact.rep [] (false : Bool))), .fact 100029 (Fact.at 29 (Fact.rep [] ((0 : Int) : Int))), .fact 100030 (Fact.at 30 (Fact.rep [] ((0 : Int) : Int))), .fact 100031 (Fact.at 31 (Fact.rep [] (false : Bool))), .fact 100032 (Fact.at 32 (Fact.rep [] (false : Bool))), .fact 100034 (Fact.obj 34 [(false, 1), (false, 1), (false, 1), (false, 1), (false, 1), (false, 1), (false, 1)]), .fact 100025 (Fact.obj 25 [(false, 1), (false, 1), (false, 1), (false, 1), (false, 1), (false, 1), (false, 1)])] _ _
     refine CWalk.seq ?_
     refine CWalk.region ?_
     refine mv ?_
     refine wo (Spec.nilCheckI (Has.s rfl) rfl) ?_
     refine wo (Spec.fieldAddrO fd80_0 (Has.cv (Has.s rfl) (Cv.isvP rfl))) ?_
     refine wo (Spec.fieldAddrO fd26_6 (Has.s rfl)) ?_
     refine ws (Step.storeF (i := 6) (f := Fact.rep [] (true : Bool)) rfl ty4 rfl (Has.s rfl) rfl Has.bool Has.bool rfl) ?_
     refine Walk.nil ?_
     refine Leaf.thenN ?_
     refine CWalk.exit ?_
     refine Leaf.blockO rfl ?_
     refine Leaf.thenE ?_
     refine Leaf.blockE ?_
     exact Leaf.inN (Leaf.in0 (f0 := Fact.top) (a1.Lost, a1.Spare, a1.Pos, a1.Done, j8, true) hm rfl rfl (fun _ _ => trivial) (ls 902008 (ls 902011 (Low.res (lf (lf (lf (lf (lf (lf (lf (lf (lf (lf (lf (lf (lf (lf (lo (lo Low.nil))))))))))))))))))))
    ·refine CWalk.block ?_
     refine CWalk.seq ?_
     refine CWalk.block ?_
     refine CWalk.seq ?_
     refine CWalk.block ?_
     refine CWalk.seq ?_
     refine CWalk.seq ?_
     refine CWalk.seq ?_
     refine CWalk.region ?_
     refine mv ?_
     refine wo (Spec.fieldAddrO fd24_1 (Has.cv (Has.s rfl) (Cv.isvP rfl))) ?_
     refine wo (Spec.loadF (i := 1) ty3 rfl (Has.s rfl) rfl (HasG.s rfl)) ?_
     refine wo (Spec.eqlI (Has.s rfl) (Has.s rfl)) ?_
     refine mv ?_
     refine wg rfl rfl (fun hb => Spec.move (Has.s rfl)) ?_
     refine wg rfl rfl (fun hb => Spec.not (Has.u rfl hb)) ?_
     refine wo (Spec.and (Has.s rfl) (fun h => Has.u rfl h)) ?_
     refine wo (Spec.assign (Has.s rfl)) ?_
     refine Walk.nil ?_
     refine Leaf.thenN ?_
     refine CWalk.cond rfl (fun hb => ?_) (fun hb => ?_)
     ·have hm := cond_t hb hm
      refine CWalk.exit ?_
      refine Leaf.thenE ?_
      refine Leaf.thenE ?_
      refine Leaf.blockE ?_
      refine Leaf.thenN ?_
      refine CWalk.seq ?_
      refine CWalk.region ?_
      refine mv ?_
      refine wo (Spec.nilCheckI (Has.s rfl) rfl) ?_
      refine wo (Spec.fieldAddrO fd80_0 (Has.cv (Has.s rfl) (Cv.isvP rfl))) ?_
      refine wo (Spec.fieldAddrO fd26_5 (Has.s rfl)) ?_
      refine ws (Step.storeF (i := 5) (f := Fact.rep [] (true : Bool)) rfl ty4 rfl (Has.s rfl) rfl Has.bool Has.bool rfl) ?_
      refine Walk.nil ?_
      refine Leaf.thenN ?_
      refine CWalk.exit ?_
      refine Leaf.blockO rfl ?_
      refine Leaf.thenE ?_
      refine Leaf.blockO rfl ?_
      refine Leaf.thenE ?_
      refine Leaf.blockO rfl ?_
      refine Leaf.thenE ?_
      refine Leaf.blockE ?_
      exact Leaf.inN (Leaf.in0 (f0 := Fact.top) (a1.Lost, a1.Spare, a1.Pos, a1.Done, true, a1.Broken) hm rfl rfl (fun _ _ => trivial) (ls 902008 (ls 902011 (Low.res (lf (lf (lf (lf (lf (lf (lf (lf (lf (lf (lf (lf (lf (lf (lo (lo Low.nil))))))))))))))))))))
     ·have hm := cond_f hb hm
      refine CWalk.skip ?_
      refine Leaf.thenN ?_
      refine CWalk.seq ?_
      refine CWalk.seq ?_
      refine CWalk.region ?_
      refine mv ?_
      refine wo (Spec.fieldAddrO fd24_1 (Has.cv (Has.s rfl) (Cv.isvP rfl))) ?_
      refine wo (Spec.loadF (i := 1) ty3 rfl (Has.s rfl) rfl (HasG.s rfl)) ?_
      refine wo (Spec.eqlI (Has.s rfl) (Has.s rfl)) ?_
      refine wo (Spec.assign (Has.s rfl)) ?_
      refine Walk.nil ?_
      refine Leaf.thenN ?_
      refine CWalk.cond rfl (fun hb => ?_) (fun hb => ?_)
      ·have hm := cond_t hb hm
       refine CWalk.exit ?_
       refine Leaf.thenE ?_
       refine Leaf.thenE ?_
       refine Leaf.blockO rfl ?_
       refine Leaf.thenE ?_
       refine Leaf.blockE ?_
       refine Leaf.thenN ?_
       refine CWalk.region ?_
       refine mv ?_
       refine wo (Spec.nilCheckI (Has.s rfl) rfl) ?_
       refine wo (Spec.fieldAddrO fd80_0 (Has.cv (Has.s rfl) (Cv.isvP rfl))) ?_
       refine wo (Spec.fieldAddrO fd26_5 (Has.s rfl)) ?_
       refine ws (Step.storeF (i := 5) (f := Fact.rep [] (true : Bool)) rfl ty4 rfl (Has.s rfl) rfl Has.bool Has.bool rfl) ?_
       refine Walk.nil ?_
       refine Leaf.blockN ?_
       exact Leaf.join true hm (sn (sc (sc (sf (sf (sf (sf (sf (sf (sf (sf (sf (sf (sf (sf (sf (sf (sn (sn Sub.nil)))))))))))))))))))
      ·have hm := cond_f hb hm
       refine CWalk.skip ?_
       refine Leaf.thenN ?_
       refine CWalk.seq ?_
       refine CWalk.region ?_
       refine mv ?_
       refine wo (Spec.nilCheckI (Has.s rfl) rfl) ?_
       refine wo (Spec.fieldAddrO fd80_0 (Has.cv (Has.s rfl) (Cv.isvP rfl))) ?_
       refine wo (Spec.fieldAddrO fd26_1 (Has.s rfl)) ?_
       refine wo (Spec.loadF (i := 1) ty3 rfl (Has.s rfl) rfl (HasG.s rfl)) ?_
       refine wo (Spec.neqI (Has.s rfl) Has.int) ?_
       refine mv ?_
       refine wg rfl rfl (fun hb => Spec.move (Has.s rfl)) ?_
       refine wg rfl rfl (fun hb => Spec.nilCheckI (Has.u rfl hb) rfl) ?_
       refine wg rfl rfl (fun hb => Spec.fieldAddrO fd80_0 (Has.cv (Has.u rfl hb) (Cv.isvP rfl))) ?_
       refine wg rfl rfl (fun hb => Spec.fieldAddrO fd26_1 (Has.u rfl hb)) ?_
       refine wg rfl rfl (fun hb => Spec.loadF (i := 1) ty3 rfl (Has.u rfl hb) rfl (HasG.s rfl)) ?_
       refine wg rfl rfl (fun hb => Spec.move (Has.s rfl)) ?_
       refine wg rfl rfl (fun hb => Spec.neqI (Has.u rfl hb) (Has.u rfl hb)) ?_
       refine wo (Spec.and (Has.s rfl) (fun h => Has.u rfl h)) ?_
       refine wo (Spec.assign (Has.s rfl)) ?_
       refine Walk.nil ?_
       refine Leaf.thenN ?_
       refine CWalk.cond rfl (fun hb => ?_) (fun hb => ?_)
       ·have hm := cond_t hb hm
        refine CWalk.exit ?_
        refine Leaf.thenE ?_
        refine Leaf.blockO rfl ?_
        refine Leaf.thenE ?_
        refine Leaf.blockO rfl ?_
        refine Leaf.thenE ?_
        refine Leaf.blockE ?_
        exact Leaf.join a1.NoLog hm (sn (sc (sc (sf (sf (sf (sf (sf (sf (sf (sf (sf (sf (sf (sf (sf (sf (sn (sn Sub.nil)))))))))))))))))))
       ·have hm := cond_f hb hm
        refine CWalk.skip ?_
        refine Leaf.thenN ?_
        refine CWalk.exit ?_
        refine Leaf.blockO rfl ?_
        refine Leaf.thenE ?_
        refine Leaf.blockO rfl ?_
        refine Leaf.thenE ?_
        refine Leaf.blockO rfl ?_
        refine Leaf.thenE ?_
        refine Leaf.blockE ?_
        refine Leaf.thenN ?_
        refine CWalk.seq ?_
        refine CWalk.region ?_
        refine mv ?_
        refine mv ?_
        refine Walk.inline (S := Unit) (fun p : Unit => [.fact 52 (Fact.top), .fact 902008 (Fact.cst (u1 8) (Fact.isv 25)), .fact 902011 (Fact.cst (u1 11) (Fact.isv 34)), .fact 100026 (Fact.at 26 (Fact.rep [] ((0 : UInt32) : UInt32))), .fact 100027 (Fact.at 27 (Fact.rep [] ((0 : Int) : Int))), .fact 100028 (Fact.at 28 (Fact.rep [] (false : Bool))), .fact 100029 (Fact.at 29 (Fact.rep [] ((0 : Int) : Int))), .fact 100030 (Fact.at 30 (Fact.rep [] ((0 : Int) : Int))), .fact 100031 (Fact.at 31 (Fact.rep [] (false : Bool))), .fact 100032 (Fact.at 32 (Fact.rep [] (false : Bool))), .fact 100035 (Fact.at 35 (Fact.rep [] (a1.Events : UInt32))), .fact 100036 (Fact.at 36 (Fact.rep [] (a2 : Int))), .fact 100037 (Fact.at 37 (Fact.rep [] (false : Bool))), .fact 100038 (Fact.at 38 (Fact.rep [] ((0 : Int) : Int))), .fact 100039 (Fact.at 39 (Fact.rep [] ((0 : Int) : Int))), .fact 100040 (Fact.at 40 (Fact.rep [] (a1.NoLog : Bool))), .fact 100041 (Fact.at 41 (Fact.rep [] (a1.Broken : Bool))), .fact 100025 (Fact.obj 25 [(false, 1), (false, 1), (false, 1), (false, 1), (false, 1), (false, 1), (false, 1)]), .fact 100034 (Fact.obj 34 [(false, 1), (false, 1), (false, 1), (false, 1), (false, 1), (false, 1), (false, 1)])]) (fun p : Unit => loss_Die_J3 a1 a2 = some r) (fun u2 => [.fact 100026 (Fact.at 26 (Fact.rep [] ((0 : UInt32) : UInt32))), .fact 100027 (Fact.at 27 (Fact.rep [] ((0 : Int) : Int))), .fact 100028 (Fact.at 28 (Fact.rep [] (false : Bool))), .fact 100029 (Fact.at 29 (Fact.rep [] ((0 : Int) : Int))), .fact 100030 (Fact.at 30 (Fact.rep [] ((0 : Int) : Int))), .fact 100031 (Fact.at 31 (Fact.rep [] (false : Bool))), .fact 100032 (Fact.at 32 (Fact.rep [] (false : Bool))), .fact 100035 (Fact.at 35 (Fact.rep [] (a1.Events : UInt32))), .fact 100036 (Fact.at 36 (Fact.rep [] (a1.Lost : Int))), .fact 100037 (Fact.at 37 (Fact.rep [] (a1.Spare : Bool))), .fact 100038 (Fact.at 38 (Fact.rep [] (a1.Pos : Int))), .fact 100039 (Fact.at 39 (Fact.rep [] (a1.Done : Int))), .fact 100040 (Fact.at 40 (Fact.rep [] (a1.NoLog : Bool))), .fact 100041 (Fact.at 41 (Fact.rep [] (a1.Broken : Bool))), .fact 902008 (Fact.cst (u1 8) (Fact.isv 25)), .fact 902011 (Fact.cst (u1 11) (Fact.isv 34)), .fact 100025 (Fact.obj 25 [(false, 1), (false, 1), (false, 1), (false, 1), (false, 1), (false, 1), (false, 1)]), .fact 100034 (Fact.obj 34 [(false, 1), (false, 1), (false, 1), (false, 1), (false, 1), (false, 1), (false, 1)])]) (FA := [Fact.isv 34, Fact.rep [] (a2 : Int)]) rfl Try.func37 rfl rfl rfl (CallOk.fn en37 (HasF.cons (Has.s rfl) (HasF.cons (Has.s rfl) HasF.nil))) (fun u2 => (ck (ck (ck (ck (ck (ck (ck (ck (ck (ck (ck (ck (ck (ck (ck (ck (ck (ck Carry.nil))))))))))))))))))) (fun u2 => ?_) ?_
        ·refine CWalk.region ?_
         refine mv ?_
         refine mv ?_
         refine mv ?_
         refine mv ?_
         refine mv ?_
         refine wo (Spec.nilCheckI (Has.s rfl) rfl) ?_
         refine wo (Spec.fieldAddrO fd80_0 (Has.cv (Has.s rfl) (Cv.isvP rfl))) ?_
         refine wo (Spec.fieldAddrO fd26_1 (Has.s rfl)) ?_
         refine ws (Step.storeF (i := 1) (f := Fact.rep [] (a2 : Int)) rfl ty3 rfl (Has.s rfl) rfl (Has.s rfl) (Has.s rfl) rfl) ?_
         refine wo (Spec.nilCheckI (Has.s rfl) rfl) ?_
         refine wo (Spec.fieldAddrO fd80_0 (Has.cv (Has.s rfl) (Cv.isvP rfl))) ?_
         refine wo (Spec.fieldAddrO fd26_2 (Has.s rfl)) ?_
         refine ws (Step.storeF (i := 2) (f := Fact.rep [] (false : Bool)) rfl ty4 rfl (Has.s rfl) rfl Has.bool Has.bool rfl) ?_
         refine wo (Spec.nilCheckI (Has.s rfl) rfl) ?_
         refine wo (Spec.fieldAddrO fd80_0 (Has.cv (Has.s rfl) (Cv.isvP rfl))) ?_
         refine wo (Spec.fieldAddrO fd26_3 (Has.s rfl)) ?_
         refine ws (Step.storeF (i := 3) (f := Fact.rep [] ((0 : Int) : Int)) rfl ty3 rfl (Has.s rfl) rfl Has.int Has.int rfl) ?_
         refine wo (Spec.nilCheckI (Has.s rfl) rfl) ?_
         refine wo (Spec.fieldAddrO fd80_0 (Has.cv (Has.s rfl) (Cv.isvP rfl))) ?_
         refine wo (Spec.fieldAddrO fd26_4 (Has.s rfl)) ?_
         refine ws (Step.storeF (i := 4) (f := Fact.rep [] ((0 : Int) : Int)) rfl ty3 rfl (Has.s rfl) rfl Has.int Has.int rfl) ?_
         refine Walk.nil ?_
         exact Leaf.inN (Leaf.in0 (f0 := Fact.top) () hm rfl rfl (fun _ _ => trivial) (Low.res (lc (lc (lf (lf (lf (lf (lf (lf (lf (lf (lf (lf (lf (lf (lf (lf (lo (lo Low.nil))))))))))))))))))))
        ·rintro _ hm
         replace hm : loss_Die_J3 a1 a2 = some r := hm
         unfold loss_Die_J3 at hm
         show Walk _ _ _ [.fact 52 (Fact.top), .fact 902008 (Fact.cst (u1 8) (Fact.isv 25)), .fact 902011 (Fact.cst (u1 11) (Fact.isv 34)), .fact 100026 (Fact.at 26 (Fact.rep [] ((0 : UInt32) : UInt32))), .fact 100027 (Fact.at 27 (Fact.rep [] ((0 : Int) : Int))), .fact 100028 (Fact.at 28 (Fact.rep [] (false : Bool))), .fact 100029 (Fact.at 29 (Fact.rep [] ((0 : Int) : Int))), .fact 100030 (Fact.at 30 (Fact.rep [] ((0 : Int) : Int))), .fact 100031 (Fact.at 31 (Fact.rep [] (false : Bool))), .fact 100032 (Fact.at 32 (Fact.rep [] (false : Bool))), .fact 100035 (Fact.at 35 (Fact.rep [] (a1.Events : UInt32))), .fact 100036 (Fact.at 36 (Fact.rep [] (a2 : Int))), .fact 100037 (Fact.at 37 (Fact.rep [] (false : Bool))), .fact 100038 (Fact.at 38 (Fact.rep [] ((0 : Int) : Int))), .fact 100039 (Fact.at 39 (Fact.rep [] ((0 : Int) : Int))), .fact 100040 (Fact.at 40 (Fact.rep [] (a1.NoLog : Bool))), .fact 100041 (Fact.at 41 (Fact.rep [] (a1.Broken : Bool))), .fact 100025 (Fact.obj 25 [(false, 1), (false, 1), (false, 1), (false, 1), (false, 1), (false, 1), (false, 1)]), .fact 100034 (Fact.obj 34 [(false, 1), (false, 1), (false, 1), (false, 1), (false, 1), (false, 1), (false, 1)])] _
         refine Walk.nil ?_
         refine Leaf.thenN ?_
         refine CWalk.exit ?_
         refine Leaf.blockE ?_
         exact Leaf.inN (Leaf.in0 (f0 := Fact.top) (a2, false, (0 : Int), (0 : Int), a1.NoLog, a1.Broken) hm rfl rfl (fun _ _ => trivial) (ls 902008 (ls 902011 (Low.res (lf (lf (lf (lf (lf (lf (lf (lf (lf (lf (lf (lf (lf (lf (lo (lo Low.nil))))))))))))))))))))
   ·rintro ⟨j2, j3, j4, j5, j6, j7⟩ hm
    replace hm : loss_Die_J1 a1 j2 j3 j4 j5 j6 j7 = some r := hm
    unfold loss_Die_J1 at hm
    show Walk _ _ _ [.fact 8 (Fact.isv 25), .fact 11 (Fact.isv 34), .fact 35 (Fact.top), .fact 100026 (Fact.at 26 (Fact.rep [] ((0 : UInt32) : UInt32))), .fact 100027 (Fact.at 27 (Fact.rep [] ((0 : Int) : Int))), .fact 100028 (Fact.at 28 (Fact.rep [] (false : Bool))), .fact 100029 (Fact.at 29 (Fact.rep [] ((0 : Int) : Int))), .fact 100030 (Fact.at 30 (Fact.rep [] ((0 : Int) : Int))), .fact 100031 (Fact.at 31 (Fact.rep [] (false : Bool))), .fact 100032 (Fact.at 32 (Fact.rep [] (false : Bool))), .fact 100035 (Fact.at 35 (Fact.rep [] (a1.Events : UInt32))), .fact 100036 (Fact.at 36 (Fact.rep [] (j2 : Int))), .fact 100037 (Fact.at 37 (Fact.rep [] (j3 : Bool))), .fact 100038 (Fact.at 38 (Fact.rep [] (j4 : Int))), .fact 100039 (Fact.at 39 (Fact.rep [] (j5 : Int))), .fact 100040 (Fact.at 40 (Fact.rep [] (j6 : Bool))), .fact 100041 (Fact.at 41 (Fact.rep [] (j7 : Bool))), .fact 100025 (Fact.obj 25 [(false, 1), (false, 1), (false, 1), (false, 1), (false, 1), (false, 1), (false, 1)]), .fact 100034 (Fact.obj 34 [(false, 1), (false, 1), (false, 1), (false, 1), (false, 1), (false, 1), (false, 1)])] _
    refine Walk.nil ?_
    refine Leaf.thenN ?_
    refine CWalk.seq ?_
    refine CWalk.region ?_
    refine mv ?_
    refine wo (Spec.nilCheckI (Has.s rfl) rfl) ?_
    refine wo (Spec.fieldAddrO fd80_0 (Has.cv (Has.s rfl) (Cv.isvP rfl))) ?_
    refine wo (Spec.loadParts (i := 0) (a := []) (b := []) (ls := [(false, 1, Fact.rep [] (a1.Events : UInt32)), (false, 1, Fact.rep [] (j2 : Int)), (false, 1, Fact.rep [] (j3 : Bool)), (false, 1, Fact.rep [] (j4 : Int)), (false, 1, Fact.rep [] (j5 : Int)), (false, 1, Fact.rep [] (j6 : Bool)), (false, 1, Fact.rep [] (j7 : Bool))]) ty26 rfl rfl rfl rfl rfl (Has.s rfl) rfl (HasGs.cons (HasG.s rfl) (HasGs.cons (HasG.s rfl) (HasGs.cons (HasG.s rfl) (HasGs.cons (HasG.s rfl) (HasGs.cons (HasG.s rfl) (HasGs.cons (HasG.s rfl) (HasGs.cons (HasG.s rfl) HasGs.nil)))))))) ?_
    refine ws (Step.storeObj (ls := [(false, 1, Fact.rep [] (a1.Events : UInt32)), (false, 1, Fact.rep [] (j2 : Int)), (false, 1, Fact.rep [] (j3 : Bool)), (false, 1, Fact.rep [] (j4 : Int)), (false, 1, Fact.rep [] (j5 : Int)), (false, 1, Fact.rep [] (j6 : Bool)), (false, 1, Fact.rep [] (j7 : Bool))]) rfl ty26 rfl rfl (Has.s rfl) rfl (HasL.flds (Has.s rfl)) rfl) ?_
    refine wo (Spec.assign Has.int) ?_
    refine Walk.nil ?_
    refine Leaf.thenN ?_
    refine CWalk.ret ?_
    obtain rfl := Option.some.inj hm
    exact Leaf.retC2 rfl (HasR.cv (HasR.obj (ls := [(false, 1, Fact.rep [] (a1.Events : UInt32)), (false, 1, Fact.rep [] (j2 : Int)), (false, 1, Fact.rep [] (j3 : Bool)), (false, 1, Fact.rep [] (j4 : Int)), (false, 1, Fact.rep [] (j5 : Int)), (false, 1, Fact.rep [] (j6 : Bool)), (false, 1, Fact.rep [] (j7 : Bool))]) ty26 rfl rfl (Has.s rfl) rfl (HasGs.cons (HasG.s rfl) (HasGs.cons (HasG.s rfl) (HasGs.cons (HasG.s rfl) (HasGs.cons (HasG.s rfl) (HasGs.cons (HasG.s rfl) (HasGs.cons (HasG.s rfl) (HasGs.cons (HasG.s rfl) HasGs.nil)))))))) (Cv.trans (Cv.trans (Cv.flds (CvL.cons Cv.fl (CvL.cons Cv.fl (CvL.cons Cv.fl (CvL.cons Cv.fl (CvL.cons Cv.fl (CvL.cons Cv.fl (CvL.cons Cv.fl CvL.nil)))))))) (Cv.close (T := []) (chLoss (Loss.mk a1.Events j2 j3 j4 j5 j6 j7)))) Cv.fl)) (HasR.cv (HasR.tmp (Has.s rfl)) Cv.fl)

/-- freeboard/freeboardref23.Dead -/
def ref23_Dead (a0 : Config) (a1 : Loss) (a2 : Int) (a3 : Bool) : Option (Loss) :=
  (bif (a2 == a0.Members) then some (Loss.mk a1.Events a1.Lost a1.Spare a1.Pos a1.Done true (a1.Broken || a3)) else (bif ((decide (a1.Lost ≥ (0 : Int))) && (a1.Lost != a2)) then some (Loss.mk a1.Events a1.Lost a1.Spare a1.Pos a1.Done a1.NoLog true) else some (Loss.mk a1.Events a2 false (0 : Int) (0 : Int) a1.NoLog a1.Broken)))
set_option maxRecDepth 100000 in
set_option maxHeartbeats 2000000 in
theorem ref23_Dead_c (a0 : Config) (a1 : Loss) (a2 : Int) (a3 : Bool) {r : Loss} (hm : ref23_Dead a0 a1 a2 a3 = some r) : Ctr Try.prog 36 [.rep 0 a0, .rep 0 a1, .rep 0 a2, .rep 0 a3] (.fl r) [] := by
 refine ctr_of_walk [[]] 38 Try.func36 rfl rfl rfl rfl (fun w0 om => ?_)
 unfold ref23_Dead at hm
 refine CWalk.sub (G' := [.fact 0 (Fact.rep [] (a0 : Config)), .fact 1 (Fact.rep [] (a1 : Loss)), .fact 2 (Fact.rep [] (a2 : Int)), .fact 3 (Fact.rep [] (a3 : Bool))]) (Sub.cons (Has.fl (Has.s rfl)) (Sub.cons (Has.fl (Has.s rfl)) (Sub.cons (Has.fl (Has.s rfl)) (Sub.cons (Has.fl (Has.s rfl)) Sub.nil)))) ?_
 refine CWalk.seq ?_
 refine CWalk.region ?_
 refine ws (Step.boxObj (ls := [(false, 1, Fact.rep [] (a0.Id : UInt32)), (false, 1, Fact.rep [] (a0.Members : Int)), (false, 1, Fact.rep [] (a0.Chunk : Int)), (false, 1, Fact.rep [] (a0.Rows : Int)), (false, 1, Fact.rep [] (a0.Log : Int)), (false, 1, Fact.rep [] (a0.Heads : Int))]) 10 rfl rfl rfl rfl (HasL.flds (Has.cv (Has.s rfl) (Cv.trans (Cv.opens (chConfig a0)) (Cv.flds (CvL.cons Cv.fl (CvL.cons Cv.fl (CvL.cons Cv.fl (CvL.cons Cv.fl (CvL.cons Cv.fl (CvL.cons Cv.fl CvL.nil))))))))))) ?_
 refine ws (Step.boxObj (ls := [(false, 1, Fact.rep [] (a1.Events : UInt32)), (false, 1, Fact.rep [] (a1.Lost : Int)), (false, 1, Fact.rep [] (a1.Spare : Bool)), (false, 1, Fact.rep [] (a1.Pos : Int)), (false, 1, Fact.rep [] (a1.Done : Int)), (false, 1, Fact.rep [] (a1.NoLog : Bool)), (false, 1, Fact.rep [] (a1.Broken : Bool))]) 17 rfl rfl rfl rfl (HasL.flds (Has.cv (Has.s rfl) (Cv.trans (Cv.opens (chLoss a1)) (Cv.flds (CvL.cons Cv.fl (CvL.cons Cv.fl (CvL.cons Cv.fl (CvL.cons Cv.fl (CvL.cons Cv.fl (CvL.cons Cv.fl (CvL.cons Cv.fl CvL.nil)))))))))))) ?_
 refine ws (Step.allocObj (ls := [(false, 1, Fact.rep [] ((0 : UInt32) : UInt32)), (false, 1, Fact.rep [] ((0 : Int) : Int)), (false, 1, Fact.rep [] (false : Bool)), (false, 1, Fact.rep [] ((0 : Int) : Int)), (false, 1, Fact.rep [] ((0 : Int) : Int)), (false, 1, Fact.rep [] (false : Bool)), (false, 1, Fact.rep [] (false : Bool))]) 25 rfl rfl rfl rfl zl26) ?_
 refine Walk.nil ?_
 refine Leaf.thenN ?_
 refine CWalk.seq ?_
 refine CWalk.seq ?_
 refine CWalk.region ?_
 refine mv ?_
 refine wo (Spec.fieldAddrO fd24_1 (Has.cv (Has.s rfl) (Cv.isvP rfl))) ?_
 refine wo (Spec.loadF (i := 1) ty3 rfl (Has.s rfl) rfl (HasG.s rfl)) ?_
 refine wo (Spec.eqlI (Has.s rfl) (Has.s rfl)) ?_
 refine Walk.nil ?_
 refine Leaf.thenN ?_
 refine CWalk.cond rfl (fun hb => ?_) (fun hb => ?_)
 ·have hm := cond_t hb hm
  refine CWalk.seq ?_
  refine CWalk.region ?_
  refine wo (Spec.fieldAddrO fd26_5 (Has.cv (Has.s rfl) (Cv.isvP rfl))) ?_
  refine ws (Step.storeF (i := 5) (f := Fact.rep [] (true : Bool)) rfl ty4 rfl (Has.s rfl) rfl Has.bool Has.bool rfl) ?_
  refine Walk.nil ?_
  refine Leaf.thenN ?_
  refine CWalk.seq ?_
  refine CWalk.region ?_
  refine wo (Spec.fieldAddrO fd26_6 (Has.cv (Has.s rfl) (Cv.isvP rfl))) ?_
  refine wo (Spec.loadF (i := 6) ty4 rfl (Has.s rfl) rfl (HasG.s rfl)) ?_
  refine mv ?_
  refine wg rfl rfl (fun hb => Spec.move (Has.s rfl)) ?_
  refine wo (Spec.or (Has.s rfl) (fun h => Has.u rfl h)) ?_
  refine wo (Spec.fieldAddrO fd26_6 (Has.cv (Has.s rfl) (Cv.isvP rfl))) ?_
  refine ws (Step.storeF (i := 6) (f := Fact.rep [] ((a1.Broken || a3) : Bool)) rfl ty4 rfl (Has.s rfl) rfl (Has.s rfl) (Has.s rfl) rfl) ?_
  refine Walk.nil ?_
  refine Leaf.thenN ?_
  refine CWalk.seq ?_
  refine CWalk.region ?_
  refine wo (Spec.loadObj (ls := [(false, 1, Fact.rep [] (a1.Events : UInt32)), (false, 1, Fact.rep [] (a1.Lost : Int)), (false, 1, Fact.rep [] (a1.Spare : Bool)), (false, 1, Fact.rep [] (a1.Pos : Int)), (false, 1, Fact.rep [] (a1.Done : Int)), (false, 1, Fact.rep [] (true : Bool)), (false, 1, Fact.rep [] ((a1.Broken || a3) : Bool))]) ty26 rfl rfl (Has.s rfl) rfl (HasGs.cons (HasG.s rfl) (HasGs.cons (HasG.s rfl) (HasGs.cons (HasG.s rfl) (HasGs.cons (HasG.s rfl) (HasGs.cons (HasG.s rfl) (HasGs.cons (HasG.s rfl) (HasGs.cons (HasG.s rfl) HasGs.nil)))))))) ?_
  refine ws (Step.storeObj (ls := [(false, 1, Fact.rep [] (a1.Events : UInt32)), (false, 1, Fact.rep [] (a1.Lost : Int)), (false, 1, Fact.rep [] (a1.Spare : Bool)), (false, 1, Fact.rep [] (a1.Pos : Int)), (false, 1, Fact.rep [] (a1.Done : Int)), (false, 1, Fact.rep [] (true : Bool)), (false, 1, Fact.rep [] ((a1.Broken || a3) : Bool))]) rfl ty26 rfl rfl (Has.s rfl) rfl (HasL.flds (Has.s rfl)) rfl) ?_
  refine Walk.nil ?_
  refine Leaf.thenN ?_
  refine CWalk.ret ?_
  refine Leaf.thenR ?_
  obtain rfl := Option.some.inj hm
  exact Leaf.retC1 rfl (HasR.cv (HasR.obj (ls := [(false, 1, Fact.rep [] (a1.Events : UInt32)), (false, 1, Fact.rep [] (a1.Lost : Int)), (false, 1, Fact.rep [] (a1.Spare : Bool)), (false, 1, Fact.rep [] (a1.Pos : Int)), (false, 1, Fact.rep [] (a1.Done : Int)), (false, 1, Fact.rep [] (true : Bool)), (false, 1, Fact.rep [] ((a1.Broken || a3) : Bool))]) ty26 rfl rfl (Has.s rfl) rfl (HasGs.cons (HasG.s rfl) (HasGs.cons (HasG.s rfl) (HasGs.cons (HasG.s rfl) (HasGs.cons (HasG.s rfl) (HasGs.cons (HasG.s rfl) (HasGs.cons (HasG.s rfl) (HasGs.cons (HasG.s rfl) HasGs.nil)))))))) (Cv.trans (Cv.trans (Cv.flds (CvL.cons Cv.fl (CvL.cons Cv.fl (CvL.cons Cv.fl (CvL.cons Cv.fl (CvL.cons Cv.fl (CvL.cons Cv.fl (CvL.cons Cv.fl CvL.nil)))))))) (Cv.close (T := []) (chLoss (Loss.mk a1.Events a1.Lost a1.Spare a1.Pos a1.Done true (a1.Broken || a3))))) Cv.fl))
 ·have hm := cond_f hb hm
  refine CWalk.skip ?_
  refine Leaf.thenN ?_
  refine CWalk.seq ?_
  refine CWalk.seq ?_
  refine CWalk.region ?_
  refine wo (Spec.fieldAddrO fd26_1 (Has.cv (Has.s rfl) (Cv.isvP rfl))) ?_
  refine wo (Spec.loadF (i := 1) ty3 rfl (Has.s rfl) rfl (HasG.s rfl)) ?_
  refine wo (Spec.geqI (Has.s rfl) Has.int) ?_
  refine mv ?_
  refine wg rfl rfl (fun hb => Spec.fieldAddrO fd26_1 (Has.cv (Has.s rfl) (Cv.isvP rfl))) ?_
  refine wg rfl rfl (fun hb => Spec.loadF (i := 1) ty3 rfl (Has.u rfl hb) rfl (HasG.s rfl)) ?_
  refine wg rfl rfl (fun hb => Spec.move (Has.s rfl)) ?_
  refine wg rfl rfl (fun hb => Spec.neqI (Has.u rfl hb) (Has.u rfl hb)) ?_
  refine wo (Spec.and (Has.s rfl) (fun h => Has.u rfl h)) ?_
  refine Walk.nil ?_
  refine Leaf.thenN ?_
  refine CWalk.cond rfl (fun hb => ?_) (fun hb => ?_)
  ·have hm := cond_t hb hm
   refine CWalk.seq ?_
   refine CWalk.region ?_
   refine wo (Spec.fieldAddrO fd26_6 (Has.cv (Has.s rfl) (Cv.isvP rfl))) ?_
   refine ws (Step.storeF (i := 6) (f := Fact.rep [] (true : Bool)) rfl ty4 rfl (Has.s rfl) rfl Has.bool Has.bool rfl) ?_
   refine Walk.nil ?_
   refine Leaf.thenN ?_
   refine CWalk.seq ?_
   refine CWalk.region ?_
   refine wo (Spec.loadObj (ls := [(false, 1, Fact.rep [] (a1.Events : UInt32)), (false, 1, Fact.rep [] (a1.Lost : Int)), (false, 1, Fact.rep [] (a1.Spare : Bool)), (false, 1, Fact.rep [] (a1.Pos : Int)), (false, 1, Fact.rep [] (a1.Done : Int)), (false, 1, Fact.rep [] (a1.NoLog : Bool)), (false, 1, Fact.rep [] (true : Bool))]) ty26 rfl rfl (Has.s rfl) rfl (HasGs.cons (HasG.s rfl) (HasGs.cons (HasG.s rfl) (HasGs.cons (HasG.s rfl) (HasGs.cons (HasG.s rfl) (HasGs.cons (HasG.s rfl) (HasGs.cons (HasG.s rfl) (HasGs.cons (HasG.s rfl) HasGs.nil)))))))) ?_
   refine ws (Step.storeObj (ls := [(false, 1, Fact.rep [] (a1.Events : UInt32)), (false, 1, Fact.rep [] (a1.Lost : Int)), (false, 1, Fact.rep [] (a1.Spare : Bool)), (false, 1, Fact.rep [] (a1.Pos : Int)), (false, 1, Fact.rep [] (a1.Done : Int)), (false, 1, Fact.rep [] (a1.NoLog : Bool)), (false, 1, Fact.rep [] (true : Bool))]) rfl ty26 rfl rfl (Has.s rfl) rfl (HasL.flds (Has.s rfl)) rfl) ?_
   refine Walk.nil ?_
   refine Leaf.thenN ?_
   refine CWalk.ret ?_
   refine Leaf.thenR ?_
   obtain rfl := Option.some.inj hm
   exact Leaf.retC1 rfl (HasR.cv (HasR.obj (ls := [(false, 1, Fact.rep [] (a1.Events : UInt32)), (false, 1, Fact.rep [] (a1.Lost : Int)), (false, 1, Fact.rep [] (a1.Spare : Bool)), (false, 1, Fact.rep [] (a1.Pos : Int)), (false, 1, Fact.rep [] (a1.Done : Int)), (false, 1, Fact.rep [] (a1.NoLog : Bool)), (false, 1, Fact.rep [] (true : Bool))]) ty26 rfl rfl (Has.s rfl) rfl (HasGs.cons (HasG.s rfl) (HasGs.cons (HasG.s rfl) (HasGs.cons (HasG.s rfl) (HasGs.cons (HasG.s rfl) (HasGs.cons (HasG.s rfl) (HasGs.cons (HasG.s rfl) (HasGs.cons (HasG.s rfl) HasGs.nil)))))))) (Cv.trans (Cv.trans (Cv.flds (CvL.cons Cv.fl (CvL.cons Cv.fl (CvL.cons Cv.fl (CvL.cons Cv.fl (CvL.cons Cv.fl (CvL.cons Cv.fl (CvL.cons Cv.fl CvL.nil)))))))) (Cv.close (T := []) (chLoss (Loss.mk a1.Events a1.Lost a1.Spare a1.Pos a1.Done a1.NoLog true)))) Cv.fl))
  ·have hm := cond_f hb hm
   refine CWalk.skip ?_
   refine Leaf.thenN ?_
   refine CWalk.seq ?_
   refine CWalk.region ?_
   refine mv ?_
   refine wo (Spec.fieldAddrO fd26_1 (Has.cv (Has.s rfl) (Cv.isvP rfl))) ?_
   refine ws (Step.storeF (i := 1) (f := Fact.rep [] (a2 : Int)) rfl ty3 rfl (Has.s rfl) rfl (Has.s rfl) (Has.s rfl) rfl) ?_
   refine Walk.nil ?_
   refine Leaf.thenN ?_
   refine CWalk.seq ?_
   refine CWalk.region ?_
   refine wo (Spec.fieldAddrO fd26_2 (Has.cv (Has.s rfl) (Cv.isvP rfl))) ?_
   refine ws (Step.storeF (i := 2) (f := Fact.rep [] (false : Bool)) rfl ty4 rfl (Has.s rfl) rfl Has.bool Has.bool rfl) ?_
   refine Walk.nil ?_
   refine Leaf.thenN ?_
   refine CWalk.seq ?_
   refine CWalk.region ?_
   refine wo (Spec.fieldAddrO fd26_3 (Has.cv (Has.s rfl) (Cv.isvP rfl))) ?_
   refine ws (Step.storeF (i := 3) (f := Fact.rep [] ((0 : Int) : Int)) rfl ty3 rfl (Has.s rfl) rfl Has.int Has.int rfl) ?_
   refine Walk.nil ?_
   refine Leaf.thenN ?_
   refine CWalk.seq ?_
   refine CWalk.region ?_
   refine wo (Spec.fieldAddrO fd26_4 (Has.cv (Has.s rfl) (Cv.isvP rfl))) ?_
   refine ws (Step.storeF (i := 4) (f := Fact.rep [] ((0 : Int) : Int)) rfl ty3 rfl (Has.s rfl) rfl Has.int Has.int rfl) ?_
   refine Walk.nil ?_
   refine Leaf.thenN ?_
   refine CWalk.seq ?_
   refine CWalk.region ?_
   refine wo (Spec.loadObj (ls := [(false, 1, Fact.rep [] (a1.Events : UInt32)), (false, 1, Fact.rep [] (a2 : Int)), (false, 1, Fact.rep [] (false : Bool)), (false, 1, Fact.rep [] ((0 : Int) : Int)), (false, 1, Fact.rep [] ((0 : Int) : Int)), (false, 1, Fact.rep [] (a1.NoLog : Bool)), (false, 1, Fact.rep [] (a1.Broken : Bool))]) ty26 rfl rfl (Has.s rfl) rfl (HasGs.cons (HasG.s rfl) (HasGs.cons (HasG.s rfl) (HasGs.cons (HasG.s rfl) (HasGs.cons (HasG.s rfl) (HasGs.cons (HasG.s rfl) (HasGs.cons (HasG.s rfl) (HasGs.cons (HasG.s rfl) HasGs.nil)))))))) ?_
   refine ws (Step.storeObj (ls := [(false, 1, Fact.rep [] (a1.Events : UInt32)), (false, 1, Fact.rep [] (a2 : Int)), (false, 1, Fact.rep [] (false : Bool)), (false, 1, Fact.rep [] ((0 : Int) : Int)), (false, 1, Fact.rep [] ((0 : Int) : Int)), (false, 1, Fact.rep [] (a1.NoLog : Bool)), (false, 1, Fact.rep [] (a1.Broken : Bool))]) rfl ty26 rfl rfl (Has.s rfl) rfl (HasL.flds (Has.s rfl)) rfl) ?_
   refine Walk.nil ?_
   refine Leaf.thenN ?_
   refine CWalk.ret ?_
   obtain rfl := Option.some.inj hm
   exact Leaf.retC1 rfl (HasR.cv (HasR.obj (ls := [(false, 1, Fact.rep [] (a1.Events : UInt32)), (false, 1, Fact.rep [] (a2 : Int)), (false, 1, Fact.rep [] (false : Bool)), (false, 1, Fact.rep [] ((0 : Int) : Int)), (false, 1, Fact.rep [] ((0 : Int) : Int)), (false, 1, Fact.rep [] (a1.NoLog : Bool)), (false, 1, Fact.rep [] (a1.Broken : Bool))]) ty26 rfl rfl (Has.s rfl) rfl (HasGs.cons (HasG.s rfl) (HasGs.cons (HasG.s rfl) (HasGs.cons (HasG.s rfl) (HasGs.cons (HasG.s rfl) (HasGs.cons (HasG.s rfl) (HasGs.cons (HasG.s rfl) (HasGs.cons (HasG.s rfl) HasGs.nil)))))))) (Cv.trans (Cv.trans (Cv.flds (CvL.cons Cv.fl (CvL.cons Cv.fl (CvL.cons Cv.fl (CvL.cons Cv.fl (CvL.cons Cv.fl (CvL.cons Cv.fl (CvL.cons Cv.fl CvL.nil)))))))) (Cv.close (T := []) (chLoss (Loss.mk a1.Events a2 false (0 : Int) (0 : Int) a1.NoLog a1.Broken)))) Cv.fl))

def ref23_Die_J1 (a0 : Config) (a1 : Loss) (a2 : Int) (a3 : Bool) (j2 : Int) : Option (Loss × Int) :=
  (bif (j2 != (0 : Int)) then some ((Loss.mk (0 : UInt32) (0 : Int) false (0 : Int) (0 : Int) false false), j2) else Option.bind (ref23_Dead a0 a1 a2 a3) (fun x3 => some (x3, (0 : Int))))
/-- freeboard/freeboardref23.Die -/
def ref23_Die (a0 : Config) (a1 : Loss) (a2 : Int) (a3 : Bool) : Option (Loss × Int) :=
  Option.bind (ref23_Check a0 a1) (fun x1 => (bif ((x1 == (0 : Int)) && ((decide (a2 < (0 : Int))) || (decide (a2 > a0.Members)))) then (ref23_Die_J1 a0 a1 a2 a3 (2 : Int)) else (ref23_Die_J1 a0 a1 a2 a3 x1)))
set_option maxRecDepth 100000 in
set_option maxHeartbeats 2000000 in
theorem ref23_Die_c (a0 : Config) (a1 : Loss) (a2 : Int) (a3 : Bool) {r : Loss × Int} (hm : ref23_Die a0 a1 a2 a3 = some r) : Ctr Try.prog 11 [.rep 0 a0, .rep 0 a1, .rep 0 a2, .rep 0 a3] (.tup2 (.fl r.1) (.fl r.2)) [] := by
 refine ctr_of_walk [[]] 35 Try.func11 rfl rfl rfl rfl (fun w0 om => ?_)
 unfold ref23_Die at hm
 refine CWalk.sub (G' := [.fact 0 (Fact.rep [] (a0 : Config)), .fact 1 (Fact.rep [] (a1 : Loss)), .fact 2 (Fact.rep [] (a2 : Int)), .fact 3 (Fact.rep [] (a3 : Bool))]) (Sub.cons (Has.fl (Has.s rfl)) (Sub.cons (Has.fl (Has.s rfl)) (Sub.cons (Has.fl (Has.s rfl)) (Sub.cons (Has.fl (Has.s rfl)) Sub.nil)))) ?_
 refine CWalk.seq ?_
 refine CWalk.region ?_
 refine ws (Step.boxObj (ls := [(false, 1, Fact.rep [] (a0.Id : UInt32)), (false, 1, Fact.rep [] (a0.Members : Int)), (false, 1, Fact.rep [] (a0.Chunk : Int)), (false, 1, Fact.rep [] (a0.Rows : Int)), (false, 1, Fact.rep [] (a0.Log : Int)), (false, 1, Fact.rep [] (a0.Heads : Int))]) 10 rfl rfl rfl rfl (HasL.flds (Has.cv (Has.s rfl) (Cv.trans (Cv.opens (chConfig a0)) (Cv.flds (CvL.cons Cv.fl (CvL.cons Cv.fl (CvL.cons Cv.fl (CvL.cons Cv.fl (CvL.cons Cv.fl (CvL.cons Cv.fl CvL.nil))))))))))) ?_
 refine ws (Step.boxObj (ls := [(false, 1, Fact.rep [] (a1.Events : UInt32)), (false, 1, Fact.rep [] (a1.Lost : Int)), (false, 1, Fact.rep [] (a1.Spare : Bool)), (false, 1, Fact.rep [] (a1.Pos : Int)), (false, 1, Fact.rep [] (a1.Done : Int)), (false, 1, Fact.rep [] (a1.NoLog : Bool)), (false, 1, Fact.rep [] (a1.Broken : Bool))]) 17 rfl rfl rfl rfl (HasL.flds (Has.cv (Has.s rfl) (Cv.trans (Cv.opens (chLoss a1)) (Cv.flds (CvL.cons Cv.fl (CvL.cons Cv.fl (CvL.cons Cv.fl (CvL.cons Cv.fl (CvL.cons Cv.fl (CvL.cons Cv.fl (CvL.cons Cv.fl CvL.nil)))))))))))) ?_
 refine ws (Step.allocObj (ls := [(false, 1, Fact.rep [] ((0 : UInt32) : UInt32)), (false, 1, Fact.rep [] ((0 : Int) : Int)), (false, 1, Fact.rep [] (false : Bool)), (false, 1, Fact.rep [] ((0 : Int) : Int)), (false, 1, Fact.rep [] ((0 : Int) : Int)), (false, 1, Fact.rep [] (false : Bool)), (false, 1, Fact.rep [] (false : Bool))]) 25 rfl rfl rfl rfl zl26) ?_
 refine wo (Spec.assign Has.int) ?_
 refine Walk.nil ?_
 refine Leaf.thenN ?_
 refine CWalk.seq ?_
 refine CWalk.region ?_
 refine wo (Spec.loadObj (ls := [(false, 1, Fact.rep [] (a0.Id : UInt32)), (false, 1, Fact.rep [] (a0.Members : Int)), (false, 1, Fact.rep [] (a0.Chunk : Int)), (false, 1, Fact.rep [] (a0.Rows : Int)), (false, 1, Fact.rep [] (a0.Log : Int)), (false, 1, Fact.rep [] (a0.Heads : Int))]) ty24 rfl rfl (Has.s rfl) rfl (HasGs.cons (HasG.s rfl) (HasGs.cons (HasG.s rfl) (HasGs.cons (HasG.s rfl) (HasGs.cons (HasG.s rfl) (HasGs.cons (HasG.s rfl) (HasGs.cons (HasG.s rfl) HasGs.nil))))))) ?_
 refine wo (Spec.loadObj (ls := [(false, 1, Fact.rep [] (a1.Events : UInt32)), (false, 1, Fact.rep [] (a1.Lost : Int)), (false, 1, Fact.rep [] (a1.Spare : Bool)), (false, 1, Fact.rep [] (a1.Pos : Int)), (false, 1, Fact.rep [] (a1.Done : Int)), (false, 1, Fact.rep [] (a1.NoLog : Bool)), (false, 1, Fact.rep [] (a1.Broken : Bool))]) ty26 rfl rfl (Has.s rfl) rfl (HasGs.cons (HasG.s rfl) (HasGs.cons (HasG.s rfl) (HasGs.cons (HasG.s rfl) (HasGs.cons (HasG.s rfl) (HasGs.cons (HasG.s rfl) (HasGs.cons (HasG.s rfl) (HasGs.cons (HasG.s rfl) HasGs.nil)))))))) ?_
 obtain ⟨x1, hx1, hm⟩ := bind_some hm
 refine wo (f := Fact.rep [] (x1 : Int)) (Spec.callE [] 33 rfl en19 (ref23_Check_c a0 a1 hx1) (HasAll.cons (Has.fl (Has.cv (Has.s rfl) (Cv.trans (Cv.flds (CvL.cons Cv.fl (CvL.cons Cv.fl (CvL.cons Cv.fl (CvL.cons Cv.fl (CvL.cons Cv.fl (CvL.cons Cv.fl CvL.nil))))))) (Cv.close (T := []) (chConfig a0))))) (HasAll.cons (Has.fl (Has.cv (Has.s rfl) (Cv.trans (Cv.flds (CvL.cons Cv.fl (CvL.cons Cv.fl (CvL.cons Cv.fl (CvL.cons Cv.fl (CvL.cons Cv.fl (CvL.cons Cv.fl (CvL.cons Cv.fl CvL.nil)))))))) (Cv.close (T := []) (chLoss a1))))) HasAll.nil))) ?_
 refine wo (Spec.assign (Has.s rfl)) ?_
 refine Walk.nil ?_
 refine Leaf.thenN ?_
 refine CWalk.seqJ (fun p : Int => [.fact 2 (Fact.rep [] (a2 : Int)), .fact 3 (Fact.rep [] (a3 : Bool)), .fact 4 (Fact.isv 10), .fact 5 (Fact.isv 17), .fact 8 (Fact.isv 25), .fact 10 (Fact.rep [] (p : Int)), .fact 100011 (Fact.at 11 (Fact.rep [] (a0.Id : UInt32))), .fact 100012 (Fact.at 12 (Fact.rep [] (a0.Members : Int))), .fact 100013 (Fact.at 13 (Fact.rep [] (a0.Chunk : Int))), .fact 100014 (Fact.at 14 (Fact.rep [] (a0.Rows : Int))), .fact 100015 (Fact.at 15 (Fact.rep [] (a0.Log : Int))), .fact 100016 (Fact.at 16 (Fact.rep [] (a0.Heads : Int))), .fact 100018 (Fact.at 18 (Fact.rep [] (a1.Events : UInt32))), .fact 100019 (Fact.at 19 (Fact.rep [] (a1.Lost : Int))), .fact 100020 (Fact.at 20 (Fact.rep [] (a1.Spare : Bool))), .fact 100021 (Fact.at 21 (Fact.rep [] (a1.Pos : Int))), .fact 100022 (Fact.at 22 (Fact.rep [] (a1.Done : Int))), .fact 100023 (Fact.at 23 (Fact.rep [] (a1.NoLog : Bool))), .fact 100024 (Fact.at 24 (Fact.rep [] (a1.Broken : Bool))), .fact 100026 (Fact.at 26 (Fact.rep [] ((0 : UInt32) : UInt32))), .fact 100027 (Fact.at 27 (Fact.rep [] ((0 : Int) : Int))), .fact 100028 (Fact.at 28 (Fact.rep [] (false : Bool))), .fact 100029 (Fact.at 29 (Fact.rep [] ((0 : Int) : Int))), .fact 100030 (Fact.at 30 (Fact.rep [] ((0 : Int) : Int))), .fact 100031 (Fact.at 31 (Fact.rep [] (false : Bool))), .fact 100032 (Fact.at 32 (Fact.rep [] (false : Bool))), .fact 100010 (Fact.obj 10 [(false, 1), (false, 1), (false, 1), (false, 1), (false, 1), (false, 1)]), .fact 100017 (Fact.obj 17 [(false, 1), (false, 1), (false, 1), (false, 1), (false, 1), (false, 1), (false, 1)]), .fact 100025 (Fact.obj 25 [(false, 1), (false, 1), (false, 1), (false, 1), (false, 1), (false, 1), (false, 1)])]) (fun p : Int => ref23_Die_J1 a0 a1 a2 a3 p = some r) ?_ ?_
 ·rintro j2 hm
  replace hm : ref23_Die_J1 a0 a1 a2 a3 j2 = some r := hm
  unfold ref23_Die_J1 at hm
  show CWalk _ [.fact 2 (Fact.rep [] (a2 : Int)), .fact 3 (Fact.rep [] (a3 : Bool)), .fact 4 (Fact.isv 10), .fact 5 (Fact.isv 17), .fact 8 (Fact.isv 25), .fact 10 (Fact.rep [] (j2 : Int)), .fact 100011 (Fact.at 11 (Fact.rep [] (a0.Id : UInt32))), .fact 100012 (Fact.at 12 (Fact.rep [] (a0.Members : Int))), .fact 100013 (Fact.at 13 (Fact.rep [] (a0.Chunk : Int))), .fact 100014 (Fact.at 14 (Fact.rep [] (a0.Rows : Int))), .fact 100015 (Fact.at 15 (Fact.rep [] (a0.Log : Int))), .fact 100016 (Fact.at 16 (Fact.rep [] (a0.Heads : Int))), .fact 100018 (Fact.at 18 (Fact.rep [] (a1.Events : UInt32))), .fact 100019 (Fact.at 19 (Fact.rep [] (a1.Lost : Int))), .fact 100020 (Fact.at 20 (Fact.rep [] (a1.Spare : Bool))), .fact 100021 (Fact.at 21 (Fact.rep [] (a1.Pos : Int))), .fact 100022 (Fact.at 22 (Fact.rep [] (a1.Done : Int))), .fact 100023 (Fact.at 23 (Fact.rep [] (a1.NoLog : Bool))), .fact 100024 (Fact.at 24 (Fact.rep [] (a1.Broken : Bool))), .fact 100026 (Fact.at 26 (Fact.rep [] ((0 : UInt32) : UInt32))), .fact 100027 (Fact.at 27 (Fact.rep [] ((0 : Int) : Int))), .fact 100028 (Fact.at 28 (Fact.rep [] (false : Bool))), .fact 100029 (Fact.at 29 (Fact.rep [] ((0 : Int) : Int))), .fact 100030 (Fact.at 30 (Fact.rep [] ((0 : Int) : Int))), .fact 100031 (Fact.at 31 (Fact.rep [] (false : Bool))), .fact 100032 (Fact.at 32 (Fact.rep [] (false : Bool))), .fact 100010 (Fact.obj 10 [(false, 1), (false, 1), (false, 1), (false, 1), (false, 1), (false, 1)]), .fact 100017 (Fact.obj 17 [(false, 1), (false, 1), (false, 1), (false, 1), (false, 1), (false, 1), (false, 1)]), .fact 100025 (Fact.obj 25 [(false, 1), (false, 1), (false, 1), (false, 1), (false, 1), (false, 1), (false, 1)])] _ _
  refine CWalk.seq ?_
  refine CWalk.seq ?_
  refine CWalk.region ?_
  refine mv ?_
  refine wo (Spec.neqI (Has.s rfl) Has.int) ?_
  refine Walk.nil ?_
  refine Leaf.thenN ?_
  refine CWalk.cond rfl (fun hb => ?_) (fun hb => ?_)
  ·have hm := cond_t hb hm
   refine CWalk.seq ?_
   refine CWalk.region ?_
   refine wo (Spec.build (us := []) (ls' := [(false, 1, Fact.rep [] ((0 : UInt32) : UInt32)), (false, 1, Fact.rep [] ((0 : Int) : Int)), (false, 1, Fact.rep [] (false : Bool)), (false, 1, Fact.rep [] ((0 : Int) : Int)), (false, 1, Fact.rep [] ((0 : Int) : Int)), (false, 1, Fact.rep [] (false : Bool)), (false, 1, Fact.rep [] (false : Bool))]) bd26 rfl BP.nil) ?_
   refine mv ?_
   refine ws (Step.storeObj (ls := [(false, 1, Fact.rep [] ((0 : UInt32) : UInt32)), (false, 1, Fact.rep [] ((0 : Int) : Int)), (false, 1, Fact.rep [] (false : Bool)), (false, 1, Fact.rep [] ((0 : Int) : Int)), (false, 1, Fact.rep [] ((0 : Int) : Int)), (false, 1, Fact.rep [] (false : Bool)), (false, 1, Fact.rep [] (false : Bool))]) rfl ty26 rfl rfl (Has.s rfl) rfl (HasL.flds (Has.s rfl)) rfl) ?_
   refine wo (Spec.assign (Has.s rfl)) ?_
   refine Walk.nil ?_
   refine Leaf.thenN ?_
   refine CWalk.ret ?_
   refine Leaf.thenR ?_
   obtain rfl := Option.some.inj hm
   exact Leaf.retC2 rfl (HasR.cv (HasR.obj (ls := [(false, 1, Fact.rep [] ((0 : UInt32) : UInt32)), (false, 1, Fact.rep [] ((0 : Int) : Int)), (false, 1, Fact.rep [] (false : Bool)), (false, 1, Fact.rep [] ((0 : Int) : Int)), (false, 1, Fact.rep [] ((0 : Int) : Int)), (false, 1, Fact.rep [] (false : Bool)), (false, 1, Fact.rep [] (false : Bool))]) ty26 rfl rfl (Has.s rfl) rfl (HasGs.cons (HasG.s rfl) (HasGs.cons (HasG.s rfl) (HasGs.cons (HasG.s rfl) (HasGs.cons (HasG.s rfl) (HasGs.cons (HasG.s rfl) (HasGs.cons (HasG.s rfl) (HasGs.cons (HasG.s rfl) HasGs.nil)))))))) (Cv.trans (Cv.trans (Cv.flds (CvL.cons Cv.fl (CvL.cons Cv.fl (CvL.cons Cv.fl (CvL.cons Cv.fl (CvL.cons Cv.fl (CvL.cons Cv.fl (CvL.cons Cv.fl CvL.nil)))))))) (Cv.close (T := []) (chLoss (Loss.mk (0 : UInt32) (0 : Int) false (0 : Int) (0 : Int) false false)))) Cv.fl)) (HasR.cv (HasR.tmp (Has.s rfl)) Cv.fl)
  ·have hm := cond_f hb hm
   refine CWalk.skip ?_
   refine Leaf.thenN ?_
   refine CWalk.seq ?_
   refine CWalk.region ?_
   refine wo (Spec.loadObj (ls := [(false, 1, Fact.rep [] (a0.Id : UInt32)), (false, 1, Fact.rep [] (a0.Members : Int)), (false, 1, Fact.rep [] (a0.Chunk : Int)), (false, 1, Fact.rep [] (a0.Rows : Int)), (false, 1, Fact.rep [] (a0.Log : Int)), (false, 1, Fact.rep [] (a0.Heads : Int))]) ty24 rfl rfl (Has.s rfl) rfl (HasGs.cons (HasG.s rfl) (HasGs.cons (HasG.s rfl) (HasGs.cons (HasG.s rfl) (HasGs.cons (HasG.s rfl) (HasGs.cons (HasG.s rfl) (HasGs.cons (HasG.s rfl) HasGs.nil))))))) ?_
   refine wo (Spec.loadObj (ls := [(false, 1, Fact.rep [] (a1.Events : UInt32)), (false, 1, Fact.rep [] (a1.Lost : Int)), (false, 1, Fact.rep [] (a1.Spare : Bool)), (false, 1, Fact.rep [] (a1.Pos : Int)), (false, 1, Fact.rep [] (a1.Done : Int)), (false, 1, Fact.rep [] (a1.NoLog : Bool)), (false, 1, Fact.rep [] (a1.Broken : Bool))]) ty26 rfl rfl (Has.s rfl) rfl (HasGs.cons (HasG.s rfl) (HasGs.cons (HasG.s rfl) (HasGs.cons (HasG.s rfl) (HasGs.cons (HasG.s rfl) (HasGs.cons (HasG.s rfl) (HasGs.cons (HasG.s rfl) (HasGs.cons (HasG.s rfl) HasGs.nil)))))))) ?_
   refine mv ?_
   refine mv ?_
   obtain ⟨x3, hx3, hm⟩ := bind_some hm
   refine wo (f := Fact.rep [] (x3 : Loss)) (Spec.callE [] 34 rfl en36 (ref23_Dead_c a0 a1 a2 a3 hx3) (HasAll.cons (Has.fl (Has.cv (Has.s rfl) (Cv.trans (Cv.flds (CvL.cons Cv.fl (CvL.cons Cv.fl (CvL.cons Cv.fl (CvL.cons Cv.fl (CvL.cons Cv.fl (CvL.cons Cv.fl CvL.nil))))))) (Cv.close (T := []) (chConfig a0))))) (HasAll.cons (Has.fl (Has.cv (Has.s rfl) (Cv.trans (Cv.flds (CvL.cons Cv.fl (CvL.cons Cv.fl (CvL.cons Cv.fl (CvL.cons Cv.fl (CvL.cons Cv.fl (CvL.cons Cv.fl (CvL.cons Cv.fl CvL.nil)))))))) (Cv.close (T := []) (chLoss a1))))) (HasAll.cons (Has.fl (Has.s rfl)) (HasAll.cons (Has.fl (Has.s rfl)) HasAll.nil))))) ?_
   refine ws (Step.storeObj (ls := [(false, 1, Fact.rep [] (x3.Events : UInt32)), (false, 1, Fact.rep [] (x3.Lost : Int)), (false, 1, Fact.rep [] (x3.Spare : Bool)), (false, 1, Fact.rep [] (x3.Pos : Int)), (false, 1, Fact.rep [] (x3.Done : Int)), (false, 1, Fact.rep [] (x3.NoLog : Bool)), (false, 1, Fact.rep [] (x3.Broken : Bool))]) rfl ty26 rfl rfl (Has.s rfl) rfl (HasL.flds (Has.cv (Has.s rfl) (Cv.trans (Cv.opens (chLoss x3)) (Cv.flds (CvL.cons Cv.fl (CvL.cons Cv.fl (CvL.cons Cv.fl (CvL.cons Cv.fl (CvL.cons Cv.fl (CvL.cons Cv.fl (CvL.cons Cv.fl CvL.nil))))))))))) rfl) ?_
   refine wo (Spec.assign Has.int) ?_
   refine Walk.nil ?_
   refine Leaf.thenN ?_
   refine CWalk.ret ?_
   obtain rfl := Option.some.inj hm
   exact Leaf.retC2 rfl (HasR.cv (HasR.obj (ls := [(false, 1, Fact.rep [] (x3.Events : UInt32)), (false, 1, Fact.rep [] (x3.Lost : Int)), (false, 1, Fact.rep [] (x3.Spare : Bool)), (false, 1, Fact.rep [] (x3.Pos : Int)), (false, 1, Fact.rep [] (x3.Done : Int)), (false, 1, Fact.rep [] (x3.NoLog : Bool)), (false, 1, Fact.rep [] (x3.Broken : Bool))]) ty26 rfl rfl (Has.s rfl) rfl (HasGs.cons (HasG.s rfl) (HasGs.cons (HasG.s rfl) (HasGs.cons (HasG.s rfl) (HasGs.cons (HasG.s rfl) (HasGs.cons (HasG.s rfl) (HasGs.cons (HasG.s rfl) (HasGs.cons (HasG.s rfl) HasGs.nil)))))))) (Cv.trans (Cv.trans (Cv.flds (CvL.cons Cv.fl (CvL.cons Cv.fl (CvL.cons Cv.fl (CvL.cons Cv.fl (CvL.cons Cv.fl (CvL.cons Cv.fl (CvL.cons Cv.fl CvL.nil)))))))) (Cv.close (T := []) (chLoss x3))) Cv.fl)) (HasR.cv (HasR.tmp (Has.s rfl)) Cv.fl)
 ·refine CWalk.seq ?_
  refine CWalk.region ?_
  refine mv ?_
  refine wo (Spec.eqlI (Has.s rfl) Has.int) ?_
  refine mv ?_
  refine wg rfl rfl (fun hb => Spec.move (Has.s rfl)) ?_
  refine wg rfl rfl (fun hb => Spec.lssI (Has.u rfl hb) Has.int) ?_
  refine wg rfl rfl (fun hb => Spec.move (Has.u rfl hb)) ?_
  refine Walk.opgu rfl rfl rfl (fun hb => Spec.move (Has.s rfl)) ?_
  refine Walk.opgu rfl rfl rfl (fun hb => Spec.fieldAddrO fd24_1 (Has.cv (Has.s rfl) (Cv.isvP rfl))) ?_
  refine Walk.opgu rfl rfl rfl (fun hb => Spec.loadF (i := 1) ty3 rfl (Has.u rfl hb) rfl (HasG.s rfl)) ?_
  refine Walk.opgu rfl rfl rfl (fun hb => Spec.gtrI (Has.u rfl hb) (Has.u rfl hb)) ?_
  refine wg rfl rfl (fun hb => Spec.or (Has.u rfl hb) (fun h => Has.u rfl ⟨hb, h⟩)) ?_
  refine wo (Spec.and (Has.s rfl) (fun h => Has.u rfl h)) ?_
  refine Walk.nil ?_
  refine Leaf.thenN ?_
  refine CWalk.cond rfl (fun hb => ?_) (fun hb => ?_)
  ·have hm := cond_t hb hm
   refine CWalk.region ?_
   refine wo (Spec.assign Has.int) ?_
   refine Walk.nil ?_
   exact Leaf.join (2 : Int) hm (st (st (sn (sn (sn (st (sf (sf (sf (sf (sf (sf (sf (sf (sf (sf (sf (sf (sf (sf (sf (sf (sf (sf (sf (sf (sn (sn (sn Sub.nil)))))))))))))))))))))))))))))
  ·have hm := cond_f hb hm
   refine CWalk.skip ?_
   exact Leaf.join x1 hm (st (st (sn (sn (sn (st (sf (sf (sf (sf (sf (sf (sf (sf (sf (sf (sf (sf (sf (sf (sf (sf (sf (sf (sf (sf (sn (sn (sn Sub.nil)))))))))))))))))))))))))))))

def loss_Spare_J1 (a1 : Loss) (j2 : Bool) : Option (Loss × Int) :=
  (bif j2 then some ((Loss.mk (0 : UInt32) (0 : Int) false (0 : Int) (0 : Int) false false), (6 : Int)) else some ((Loss.mk a1.Events a1.Lost true a1.Pos a1.Done a1.NoLog a1.Broken), (0 : Int)))
/-- freeboard/loss.Spare -/
def loss_Spare (a0 : Config) (a1 : Loss) : Option (Loss × Int) :=
  Option.bind (loss_Check a0 a1) (fun x1 => (bif (x1 != (0 : Int)) then some ((Loss.mk (0 : UInt32) (0 : Int) false (0 : Int) (0 : Int) false false), x1) else (bif a1.Broken then some ((Loss.mk (0 : UInt32) (0 : Int) false (0 : Int) (0 : Int) false false), (230 : Int)) else (bif (a1.Lost == (-1 : Int)) then (loss_Spare_J1 a1 (a1.Lost == (-1 : Int))) else (loss_Spare_J1 a1 a1.Spare)))))
set_option maxRecDepth 100000 in
set_option maxHeartbeats 2000000 in
theorem loss_Spare_c (a0 : Config) (a1 : Loss) {r : Loss × Int} (hm : loss_Spare a0 a1 = some r) : Ctr Try.prog 12 [.rep 0 a0, .rep 0 a1] (.tup2 (.fl r.1) (.fl r.2)) [] := by
 refine ctr_of_walk [[]] 28 Try.func12 rfl rfl rfl rfl (fun w0 om => ?_)
 unfold loss_Spare at hm
 refine CWalk.sub (G' := [.fact 0 (Fact.rep [] (a0 : Config)), .fact 1 (Fact.rep [] (a1 : Loss))]) (Sub.cons (Has.fl (Has.s rfl)) (Sub.cons (Has.fl (Has.s rfl)) Sub.nil)) ?_
 refine CWalk.seq ?_
 refine CWalk.region ?_
 refine ws (Step.boxObj (ls := [(false, 1, Fact.rep [] (a0.Id : UInt32)), (false, 1, Fact.rep [] (a0.Members : Int)), (false, 1, Fact.rep [] (a0.Chunk : Int)), (false, 1, Fact.rep [] (a0.Rows : Int)), (false, 1, Fact.rep [] (a0.Log : Int)), (false, 1, Fact.rep [] (a0.Heads : Int))]) 10 rfl rfl rfl rfl (HasL.flds (Has.cv (Has.s rfl) (Cv.trans (Cv.opens (chConfig a0)) (Cv.flds (CvL.cons Cv.fl (CvL.cons Cv.fl (CvL.cons Cv.fl (CvL.cons Cv.fl (CvL.cons Cv.fl (CvL.cons Cv.fl CvL.nil))))))))))) ?_
 refine ws (Step.boxObj (ls := [(false, 1, Fact.rep [] (a1.Events : UInt32)), (false, 1, Fact.rep [] (a1.Lost : Int)), (false, 1, Fact.rep [] (a1.Spare : Bool)), (false, 1, Fact.rep [] (a1.Pos : Int)), (false, 1, Fact.rep [] (a1.Done : Int)), (false, 1, Fact.rep [] (a1.NoLog : Bool)), (false, 1, Fact.rep [] (a1.Broken : Bool))]) 17 rfl rfl rfl rfl (HasL.flds (Has.cv (Has.s rfl) (Cv.trans (Cv.opens (chLoss a1)) (Cv.flds (CvL.cons Cv.fl (CvL.cons Cv.fl (CvL.cons Cv.fl (CvL.cons Cv.fl (CvL.cons Cv.fl (CvL.cons Cv.fl (CvL.cons Cv.fl CvL.nil)))))))))))) ?_
 refine ws (Step.allocObj (ls := [(false, 1, Fact.rep [] ((0 : UInt32) : UInt32)), (false, 1, Fact.rep [] ((0 : Int) : Int)), (false, 1, Fact.rep [] (false : Bool)), (false, 1, Fact.rep [] ((0 : Int) : Int)), (false, 1, Fact.rep [] ((0 : Int) : Int)), (false, 1, Fact.rep [] (false : Bool)), (false, 1, Fact.rep [] (false : Bool))]) 25 rfl rfl rfl rfl zl26) ?_
 refine wo (Spec.assign Has.int) ?_
 refine Walk.nil ?_
 refine Leaf.thenN ?_
 refine CWalk.seq ?_
 refine CWalk.region ?_
 refine wo (Spec.loadObj (ls := [(false, 1, Fact.rep [] (a0.Id : UInt32)), (false, 1, Fact.rep [] (a0.Members : Int)), (false, 1, Fact.rep [] (a0.Chunk : Int)), (false, 1, Fact.rep [] (a0.Rows : Int)), (false, 1, Fact.rep [] (a0.Log : Int)), (false, 1, Fact.rep [] (a0.Heads : Int))]) ty24 rfl rfl (Has.s rfl) rfl (HasGs.cons (HasG.s rfl) (HasGs.cons (HasG.s rfl) (HasGs.cons (HasG.s rfl) (HasGs.cons (HasG.s rfl) (HasGs.cons (HasG.s rfl) (HasGs.cons (HasG.s rfl) HasGs.nil))))))) ?_
 refine wo (Spec.loadObj (ls := [(false, 1, Fact.rep [] (a1.Events : UInt32)), (false, 1, Fact.rep [] (a1.Lost : Int)), (false, 1, Fact.rep [] (a1.Spare : Bool)), (false, 1, Fact.rep [] (a1.Pos : Int)), (false, 1, Fact.rep [] (a1.Done : Int)), (false, 1, Fact.rep [] (a1.NoLog : Bool)), (false, 1, Fact.rep [] (a1.Broken : Bool))]) ty26 rfl rfl (Has.s rfl) rfl (HasGs.cons (HasG.s rfl) (HasGs.cons (HasG.s rfl) (HasGs.cons (HasG.s rfl) (HasGs.cons (HasG.s rfl) (HasGs.cons (HasG.s rfl) (HasGs.cons (HasG.s rfl) (HasGs.cons (HasG.s rfl) HasGs.nil)))))))) ?_
 obtain ⟨x1, hx1, hm⟩ := bind_some hm
 refine wo (f := Fact.rep [] (x1 : Int)) (Spec.callE [] 33 rfl en18 (loss_Check_c a0 a1 hx1) (HasAll.cons (Has.fl (Has.cv (Has.s rfl) (Cv.trans (Cv.flds (CvL.cons Cv.fl (CvL.cons Cv.fl (CvL.cons Cv.fl (CvL.cons Cv.fl (CvL.cons Cv.fl (CvL.cons Cv.fl CvL.nil))))))) (Cv.close (T := []) (chConfig a0))))) (HasAll.cons (Has.fl (Has.cv (Has.s rfl) (Cv.trans (Cv.flds (CvL.cons Cv.fl (CvL.cons Cv.fl (CvL.cons Cv.fl (CvL.cons Cv.fl (CvL.cons Cv.fl (CvL.cons Cv.fl (CvL.cons Cv.fl CvL.nil)))))))) (Cv.close (T := []) (chLoss a1))))) HasAll.nil))) ?_
 refine wo (Spec.assign (Has.s rfl)) ?_
 refine Walk.nil ?_
 refine Leaf.thenN ?_
 refine CWalk.seq ?_
 refine CWalk.block ?_
 refine CWalk.seq ?_
 refine CWalk.region ?_
 refine mv ?_
 refine wo (Spec.neqI (Has.s rfl) Has.int) ?_
 refine wo (Spec.assign (Has.s rfl)) ?_
 refine Walk.nil ?_
 refine Leaf.thenN ?_
 refine CWalk.cond rfl (fun hb => ?_) (fun hb => ?_)
 ·have hm := cond_t hb hm
  refine CWalk.seq ?_
  refine CWalk.region ?_
  refine wo (Spec.build (us := []) (ls' := [(false, 1, Fact.rep [] ((0 : UInt32) : UInt32)), (false, 1, Fact.rep [] ((0 : Int) : Int)), (false, 1, Fact.rep [] (false : Bool)), (false, 1, Fact.rep [] ((0 : Int) : Int)), (false, 1, Fact.rep [] ((0 : Int) : Int)), (false, 1, Fact.rep [] (false : Bool)), (false, 1, Fact.rep [] (false : Bool))]) bd26 rfl BP.nil) ?_
  refine mv ?_
  refine ws (Step.storeObj (ls := [(false, 1, Fact.rep [] ((0 : UInt32) : UInt32)), (false, 1, Fact.rep [] ((0 : Int) : Int)), (false, 1, Fact.rep [] (false : Bool)), (false, 1, Fact.rep [] ((0 : Int) : Int)), (false, 1, Fact.rep [] ((0 : Int) : Int)), (false, 1, Fact.rep [] (false : Bool)), (false, 1, Fact.rep [] (false : Bool))]) rfl ty26 rfl rfl (Has.s rfl) rfl (HasL.flds (Has.s rfl)) rfl) ?_
  refine wo (Spec.assign (Has.s rfl)) ?_
  refine Walk.nil ?_
  refine Leaf.thenN ?_
  refine CWalk.ret ?_
  refine Leaf.blockR ?_
  refine Leaf.thenR ?_
  obtain rfl := Option.some.inj hm
  exact Leaf.retC2 rfl (HasR.cv (HasR.obj (ls := [(false, 1, Fact.rep [] ((0 : UInt32) : UInt32)), (false, 1, Fact.rep [] ((0 : Int) : Int)), (false, 1, Fact.rep [] (false : Bool)), (false, 1, Fact.rep [] ((0 : Int) : Int)), (false, 1, Fact.rep [] ((0 : Int) : Int)), (false, 1, Fact.rep [] (false : Bool)), (false, 1, Fact.rep [] (false : Bool))]) ty26 rfl rfl (Has.s rfl) rfl (HasGs.cons (HasG.s rfl) (HasGs.cons (HasG.s rfl) (HasGs.cons (HasG.s rfl) (HasGs.cons (HasG.s rfl) (HasGs.cons (HasG.s rfl) (HasGs.cons (HasG.s rfl) (HasGs.cons (HasG.s rfl) HasGs.nil)))))))) (Cv.trans (Cv.trans (Cv.flds (CvL.cons Cv.fl (CvL.cons Cv.fl (CvL.cons Cv.fl (CvL.cons Cv.fl (CvL.cons Cv.fl (CvL.cons Cv.fl (CvL.cons Cv.fl CvL.nil)))))))) (Cv.close (T := []) (chLoss (Loss.mk (0 : UInt32) (0 : Int) false (0 : Int) (0 : Int) false false)))) Cv.fl)) (HasR.cv (HasR.tmp (Has.s rfl)) Cv.fl)
 ·have hm := cond_f hb hm
  refine CWalk.seq ?_
  refine CWalk.region ?_
  refine wo (Spec.fieldAddrO fd26_6 (Has.cv (Has.s rfl) (Cv.isvP rfl))) ?_
  refine wo (Spec.loadF (i := 6) ty4 rfl (Has.s rfl) rfl (HasG.s rfl)) ?_
  refine wo (Spec.assign (Has.s rfl)) ?_
  refine Walk.nil ?_
  refine Leaf.thenN ?_
  refine CWalk.cond rfl (fun hb => ?_) (fun hb => ?_)
  ·have hm := cond_t hb hm
   refine CWalk.seq ?_
   refine CWalk.region ?_
   refine wo (Spec.build (us := []) (ls' := [(false, 1, Fact.rep [] ((0 : UInt32) : UInt32)), (false, 1, Fact.rep [] ((0 : Int) : Int)), (false, 1, Fact.rep [] (false : Bool)), (false, 1, Fact.rep [] ((0 : Int) : Int)), (false, 1, Fact.rep [] ((0 : Int) : Int)), (false, 1, Fact.rep [] (false : Bool)), (false, 1, Fact.rep [] (false : Bool))]) bd26 rfl BP.nil) ?_
   refine ws (Step.storeObj (ls := [(false, 1, Fact.rep [] ((0 : UInt32) : UInt32)), (false, 1, Fact.rep [] ((0 : Int) : Int)), (false, 1, Fact.rep [] (false : Bool)), (false, 1, Fact.rep [] ((0 : Int) : Int)), (false, 1, Fact.rep [] ((0 : Int) : Int)), (false, 1, Fact.rep [] (false : Bool)), (false, 1, Fact.rep [] (false : Bool))]) rfl ty26 rfl rfl (Has.s rfl) rfl (HasL.flds (Has.s rfl)) rfl) ?_
   refine wo (Spec.assign Has.int) ?_
   refine Walk.nil ?_
   refine Leaf.thenN ?_
   refine CWalk.ret ?_
   refine Leaf.blockR ?_
   refine Leaf.thenR ?_
   obtain rfl := Option.some.inj hm
   exact Leaf.retC2 rfl (HasR.cv (HasR.obj (ls := [(false, 1, Fact.rep [] ((0 : UInt32) : UInt32)), (false, 1, Fact.rep [] ((0 : Int) : Int)), (false, 1, Fact.rep [] (false : Bool)), (false, 1, Fact.rep [] ((0 : Int) : Int)), (false, 1, Fact.rep [] ((0 : Int) : Int)), (false, 1, Fact.rep [] (false : Bool)), (false, 1, Fact.rep [] (false : Bool))]) ty26 rfl rfl (Has.s rfl) rfl (HasGs.cons (HasG.s rfl) (HasGs.cons (HasG.s rfl) (HasGs.cons (HasG.s rfl) (HasGs.cons (HasG.s rfl) (HasGs.cons (HasG.s rfl) (HasGs.cons (HasG.s rfl) (HasGs.cons (HasG.s rfl) HasGs.nil)))))))) (Cv.trans (Cv.trans (Cv.flds (CvL.cons Cv.fl (CvL.cons Cv.fl (CvL.cons Cv.fl (CvL.cons Cv.fl (CvL.cons Cv.fl (CvL.cons Cv.fl (CvL.cons Cv.fl CvL.nil)))))))) (Cv.close (T := []) (chLoss (Loss.mk (0 : UInt32) (0 : Int) false (0 : Int) (0 : Int) false false)))) Cv.fl)) (HasR.cv (HasR.tmp (Has.s rfl)) Cv.fl)
  ·have hm := cond_f hb hm
   refine CWalk.seqJ (fun p : Bool => [.fact 3 (Fact.isv 17), .fact 4 (Fact.isv 25), .fact 19 (Fact.rep [] (p : Bool)), .fact 100018 (Fact.at 18 (Fact.rep [] (a1.Events : UInt32))), .fact 100019 (Fact.at 19 (Fact.rep [] (a1.Lost : Int))), .fact 100020 (Fact.at 20 (Fact.rep [] (a1.Spare : Bool))), .fact 100021 (Fact.at 21 (Fact.rep [] (a1.Pos : Int))), .fact 100022 (Fact.at 22 (Fact.rep [] (a1.Done : Int))), .fact 100023 (Fact.at 23 (Fact.rep [] (a1.NoLog : Bool))), .fact 100024 (Fact.at 24 (Fact.rep [] (a1.Broken : Bool))), .fact 100026 (Fact.at 26 (Fact.rep [] ((0 : UInt32) : UInt32))), .fact 100027 (Fact.at 27 (Fact.rep [] ((0 : Int) : Int))), .fact 100028 (Fact.at 28 (Fact.rep [] (false : Bool))), .fact 100029 (Fact.at 29 (Fact.rep [] ((0 : Int) : Int))), .fact 100030 (Fact.at 30 (Fact.rep [] ((0 : Int) : Int))), .fact 100031 (Fact.at 31 (Fact.rep [] (false : Bool))), .fact 100032 (Fact.at 32 (Fact.rep [] (false : Bool))), .fact 100017 (Fact.obj 17 [(false, 1), (false, 1), (false, 1), (false, 1), (false, 1), (false, 1), (false, 1)]), .fact 100025 (Fact.obj 25 [(false, 1), (false, 1), (false, 1), (false, 1), (false, 1), (false, 1), (false, 1)])]) (fun p : Bool => loss_Spare_J1 a1 p = some r) ?_ ?_
   ·rintro j2 hm
    replace hm : loss_Spare_J1 a1 j2 = some r := hm
    unfold loss_Spare_J1 at hm
    show CWalk _ [.fact 3 (Fact.isv 17), .fact 4 (Fact.isv 25), .fact 19 (Fact.rep [] (j2 : Bool)), .fact 100018 (Fact.at 18 (Fact.rep [] (a1.Events : UInt32))), .fact 100019 (Fact.at 19 (Fact.rep [] (a1.Lost : Int))), .fact 100020 (Fact.at 20 (Fact.rep [] (a1.Spare : Bool))), .fact 100021 (Fact.at 21 (Fact.rep [] (a1.Pos : Int))), .fact 100022 (Fact.at 22 (Fact.rep [] (a1.Done : Int))), .fact 100023 (Fact.at 23 (Fact.rep [] (a1.NoLog : Bool))), .fact 100024 (Fact.at 24 (Fact.rep [] (a1.Broken : Bool))), .fact 100026 (Fact.at 26 (Fact.rep [] ((0 : UInt32) : UInt32))), .fact 100027 (Fact.at 27 (Fact.rep [] ((0 : Int) : Int))), .fact 100028 (Fact.at 28 (Fact.rep [] (false : Bool))), .fact 100029 (Fact.at 29 (Fact.rep [] ((0 : Int) : Int))), .fact 100030 (Fact.at 30 (Fact.rep [] ((0 : Int) : Int))), .fact 100031 (Fact.at 31 (Fact.rep [] (false : Bool))), .fact 100032 (Fact.at 32 (Fact.rep [] (false : Bool))), .fact 100017 (Fact.obj 17 [(false, 1), (false, 1), (false, 1), (false, 1), (false, 1), (false, 1), (false, 1)]), .fact 100025 (Fact.obj 25 [(false, 1), (false, 1), (false, 1), (false, 1), (false, 1), (false, 1), (false, 1)])] _ _
    refine CWalk.cond rfl (fun hb => ?_) (fun hb => ?_)
    ·have hm := cond_t hb hm
     refine CWalk.seq ?_
     refine CWalk.region ?_
     refine wo (Spec.build (us := []) (ls' := [(false, 1, Fact.rep [] ((0 : UInt32) : UInt32)), (false, 1, Fact.rep [] ((0 : Int) : Int)), (false, 1, Fact.rep [] (false : Bool)), (false, 1, Fact.rep [] ((0 : Int) : Int)), (false, 1, Fact.rep [] ((0 : Int) : Int)), (false, 1, Fact.rep [] (false : Bool)), (false, 1, Fact.rep [] (false : Bool))]) bd26 rfl BP.nil) ?_
     refine ws (Step.storeObj (ls := [(false, 1, Fact.rep [] ((0 : UInt32) : UInt32)), (false, 1, Fact.rep [] ((0 : Int) : Int)), (false, 1, Fact.rep [] (false : Bool)), (false, 1, Fact.rep [] ((0 : Int) : Int)), (false, 1, Fact.rep [] ((0 : Int) : Int)), (false, 1, Fact.rep [] (false : Bool)), (false, 1, Fact.rep [] (false : Bool))]) rfl ty26 rfl rfl (Has.s rfl) rfl (HasL.flds (Has.s rfl)) rfl) ?_
     refine wo (Spec.assign Has.int) ?_
     refine Walk.nil ?_
     refine Leaf.thenN ?_
     refine CWalk.ret ?_
     refine Leaf.blockR ?_
     refine Leaf.thenR ?_
     obtain rfl := Option.some.inj hm
     exact Leaf.retC2 rfl (HasR.cv (HasR.obj (ls := [(false, 1, Fact.rep [] ((0 : UInt32) : UInt32)), (false, 1, Fact.rep [] ((0 : Int) : Int)), (false, 1, Fact.rep [] (false : Bool)), (false, 1, Fact.rep [] ((0 : Int) : Int)), (false, 1, Fact.rep [] ((0 : Int) : Int)), (false, 1, Fact.rep [] (false : Bool)), (false, 1, Fact.rep [] (false : Bool))]) ty26 rfl rfl (Has.s rfl) rfl (HasGs.cons (HasG.s rfl) (HasGs.cons (HasG.s rfl) (HasGs.cons (HasG.s rfl) (HasGs.cons (HasG.s rfl) (HasGs.cons (HasG.s rfl) (HasGs.cons (HasG.s rfl) (HasGs.cons (HasG.s rfl) HasGs.nil)))))))) (Cv.trans (Cv.trans (Cv.flds (CvL.cons Cv.fl (CvL.cons Cv.fl (CvL.cons Cv.fl (CvL.cons Cv.fl (CvL.cons Cv.fl (CvL.cons Cv.fl (CvL.cons Cv.fl CvL.nil)))))))) (Cv.close (T := []) (chLoss (Loss.mk (0 : UInt32) (0 : Int) false (0 : Int) (0 : Int) false false)))) Cv.fl)) (HasR.cv (HasR.tmp (Has.s rfl)) Cv.fl)
    ·have hm := cond_f hb hm
     refine CWalk.skip ?_
     refine Leaf.blockN ?_
     refine Leaf.thenN ?_
     refine CWalk.seq ?_
     refine CWalk.region ?_
     refine wo (Spec.fieldAddrO fd26_2 (Has.cv (Has.s rfl) (Cv.isvP rfl))) ?_
     refine ws (Step.storeF (i := 2) (f := Fact.rep [] (true : Bool)) rfl ty4 rfl (Has.s rfl) rfl Has.bool Has.bool rfl) ?_
     refine Walk.nil ?_
     refine Leaf.thenN ?_
     refine CWalk.seq ?_
     refine CWalk.region ?_
     refine wo (Spec.loadObj (ls := [(false, 1, Fact.rep [] (a1.Events : UInt32)), (false, 1, Fact.rep [] (a1.Lost : Int)), (false, 1, Fact.rep [] (true : Bool)), (false, 1, Fact.rep [] (a1.Pos : Int)), (false, 1, Fact.rep [] (a1.Done : Int)), (false, 1, Fact.rep [] (a1.NoLog : Bool)), (false, 1, Fact.rep [] (a1.Broken : Bool))]) ty26 rfl rfl (Has.s rfl) rfl (HasGs.cons (HasG.s rfl) (HasGs.cons (HasG.s rfl) (HasGs.cons (HasG.s rfl) (HasGs.cons (HasG.s rfl) (HasGs.cons (HasG.s rfl) (HasGs.cons (HasG.s rfl) (HasGs.cons (HasG.s rfl) HasGs.nil)))))))) ?_
     refine ws (Step.storeObj (ls := [(false, 1, Fact.rep [] (a1.Events : UInt32)), (false, 1, Fact.rep [] (a1.Lost : Int)), (false, 1, Fact.rep [] (true : Bool)), (false, 1, Fact.rep [] (a1.Pos : Int)), (false, 1, Fact.rep [] (a1.Done : Int)), (false, 1, Fact.rep [] (a1.NoLog : Bool)), (false, 1, Fact.rep [] (a1.Broken : Bool))]) rfl ty26 rfl rfl (Has.s rfl) rfl (HasL.flds (Has.s rfl)) rfl) ?_
     refine wo (Spec.assign Has.int) ?_
     refine Walk.nil ?_
     refine Leaf.thenN ?_
     refine CWalk.ret ?_
     obtain rfl := Option.some.inj hm
     exact Leaf.retC2 rfl (HasR.cv (HasR.obj (ls := [(false, 1, Fact.rep [] (a1.Events : UInt32)), (false, 1, Fact.rep [] (a1.Lost : Int)), (false, 1, Fact.rep [] (true : Bool)), (false, 1, Fact.rep [] (a1.Pos : Int)), (false, 1, Fact.rep [] (a1.Done : Int)), (false, 1, Fact.rep [] (a1.NoLog : Bool)), (false, 1, Fact.rep [] (a1.Broken : Bool))]) ty26 rfl rfl (Has.s rfl) rfl (HasGs.cons (HasG.s rfl) (HasGs.cons (HasG.s rfl) (HasGs.cons (HasG.s rfl) (HasGs.cons (HasG.s rfl) (HasGs.cons (HasG.s rfl) (HasGs.cons (HasG.s rfl) (HasGs.cons (HasG.s rfl) HasGs.nil)))))))) (Cv.trans (Cv.trans (Cv.flds (CvL.cons Cv.fl (CvL.cons Cv.fl (CvL.cons Cv.fl (CvL.cons Cv.fl (CvL.cons Cv.fl (CvL.cons Cv.fl (CvL.cons Cv.fl CvL.nil)))))))) (Cv.close (T := []) (chLoss (Loss.mk a1.Events a1.Lost true a1.Pos a1.Done a1.NoLog a1.Broken)))) Cv.fl)) (HasR.cv (HasR.tmp (Has.s rfl)) Cv.fl)
   ·refine CWalk.seq ?_
    refine CWalk.region ?_
    refine wo (Spec.fieldAddrO fd26_1 (Has.cv (Has.s rfl) (Cv.isvP rfl))) ?_
    refine wo (Spec.loadF (i := 1) ty3 rfl (Has.s rfl) rfl (HasG.s rfl)) ?_
    refine wo (Spec.eqlI (Has.s rfl) Has.int) ?_
    refine wo (Spec.assign (Has.s rfl)) ?_
    refine Walk.nil ?_
    refine Leaf.thenN ?_
    refine CWalk.cond rfl (fun hb => ?_) (fun hb => ?_)
    ·have hm := cond_t hb hm
     refine CWalk.skip ?_
     exact Leaf.join (a1.Lost == (-1 : Int)) hm (sn (sn (st (sf (sf (sf (sf (sf (sf (sf (sf (sf (sf (sf (sf (sf (sf (sn (sn Sub.nil)))))))))))))))))))
    ·have hm := cond_f hb hm
     refine CWalk.region ?_
     refine wo (Spec.fieldAddrO fd26_2 (Has.cv (Has.s rfl) (Cv.isvP rfl))) ?_
     refine wo (Spec.loadF (i := 2) ty4 rfl (Has.s rfl) rfl (HasG.s rfl)) ?_
     refine wo (Spec.assign (Has.s rfl)) ?_
     refine Walk.nil ?_
     exact Leaf.join a1.Spare hm (sn (sn (st (sf (sf (sf (sf (sf (sf (sf (sf (sf (sf (sf (sf (sf (sf (sn (sn Sub.nil)))))))))))))))))))

def ref23_Spare_J2 (a1 : Loss) (j3 : Int) : Option (Loss × Int) :=
  (bif (j3 != (0 : Int)) then some ((Loss.mk (0 : UInt32) (0 : Int) false (0 : Int) (0 : Int) false false), j3) else some ((Loss.mk a1.Events a1.Lost true a1.Pos a1.Done a1.NoLog a1.Broken), (0 : Int)))
def ref23_Spare_J1 (a1 : Loss) (j2 : Int) : Option (Loss × Int) :=
  (bif ((j2 == (0 : Int)) && ((decide (a1.Lost < (0 : Int))) || a1.Spare)) then (ref23_Spare_J2 a1 (6 : Int)) else (ref23_Spare_J2 a1 j2))
/-- freeboard/freeboardref23.Spare -/
def ref23_Spare (a0 : Config) (a1 : Loss) : Option (Loss × Int) :=
  Option.bind (ref23_Check a0 a1) (fun x1 => (bif ((x1 == (0 : Int)) && a1.Broken) then (ref23_Spare_J1 a1 (230 : Int)) else (ref23_Spare_J1 a1 x1)))
set_option maxRecDepth 100000 in
set_option maxHeartbeats 2000000 in
theorem ref23_Spare_c (a0 : Config) (a1 : Loss) {r : Loss × Int} (hm : ref23_Spare a0 a1 = some r) : Ctr Try.prog 13 [.rep 0 a0, .rep 0 a1] (.tup2 (.fl r.1) (.fl r.2)) [] := by
 refine ctr_of_walk [[]] 33 Try.func13 rfl rfl rfl rfl (fun w0 om => ?_)
 unfold ref23_Spare at hm
 refine CWalk.sub (G' := [.fact 0 (Fact.rep [] (a0 : Config)), .fact 1 (Fact.rep [] (a1 : Loss))]) (Sub.cons (Has.fl (Has.s rfl)) (Sub.cons (Has.fl (Has.s rfl)) Sub.nil)) ?_
 refine CWalk.seq ?_
 refine CWalk.region ?_
 refine ws (Step.boxObj (ls := [(false, 1, Fact.rep [] (a0.Id : UInt32)), (false, 1, Fact.rep [] (a0.Members : Int)), (false, 1, Fact.rep [] (a0.Chunk : Int)), (false, 1, Fact.rep [] (a0.Rows : Int)), (false, 1, Fact.rep [] (a0.Log : Int)), (false, 1, Fact.rep [] (a0.Heads : Int))]) 10 rfl rfl rfl rfl (HasL.flds (Has.cv (Has.s rfl) (Cv.trans (Cv.opens (chConfig a0)) (Cv.flds (CvL.cons Cv.fl (CvL.cons Cv.fl (CvL.cons Cv.fl (CvL.cons Cv.fl (CvL.cons Cv.fl (CvL.cons Cv.fl CvL.nil))))))))))) ?_
 refine ws (Step.boxObj (ls := [(false, 1, Fact.rep [] (a1.Events : UInt32)), (false, 1, Fact.rep [] (a1.Lost : Int)), (false, 1, Fact.rep [] (a1.Spare : Bool)), (false, 1, Fact.rep [] (a1.Pos : Int)), (false, 1, Fact.rep [] (a1.Done : Int)), (false, 1, Fact.rep [] (a1.NoLog : Bool)), (false, 1, Fact.rep [] (a1.Broken : Bool))]) 17 rfl rfl rfl rfl (HasL.flds (Has.cv (Has.s rfl) (Cv.trans (Cv.opens (chLoss a1)) (Cv.flds (CvL.cons Cv.fl (CvL.cons Cv.fl (CvL.cons Cv.fl (CvL.cons Cv.fl (CvL.cons Cv.fl (CvL.cons Cv.fl (CvL.cons Cv.fl CvL.nil)))))))))))) ?_
 refine ws (Step.allocObj (ls := [(false, 1, Fact.rep [] ((0 : UInt32) : UInt32)), (false, 1, Fact.rep [] ((0 : Int) : Int)), (false, 1, Fact.rep [] (false : Bool)), (false, 1, Fact.rep [] ((0 : Int) : Int)), (false, 1, Fact.rep [] ((0 : Int) : Int)), (false, 1, Fact.rep [] (false : Bool)), (false, 1, Fact.rep [] (false : Bool))]) 25 rfl rfl rfl rfl zl26) ?_
 refine wo (Spec.assign Has.int) ?_
 refine Walk.nil ?_
 refine Leaf.thenN ?_
 refine CWalk.seq ?_
 refine CWalk.region ?_
 refine wo (Spec.loadObj (ls := [(false, 1, Fact.rep [] (a0.Id : UInt32)), (false, 1, Fact.rep [] (a0.Members : Int)), (false, 1, Fact.rep [] (a0.Chunk : Int)), (false, 1, Fact.rep [] (a0.Rows : Int)), (false, 1, Fact.rep [] (a0.Log : Int)), (false, 1, Fact.rep [] (a0.Heads : Int))]) ty24 rfl rfl (Has.s rfl) rfl (HasGs.cons (HasG.s rfl) (HasGs.cons (HasG.s rfl) (HasGs.cons (HasG.s rfl) (HasGs.cons (HasG.s rfl) (HasGs.cons (HasG.s rfl) (HasGs.cons (HasG.s rfl) HasGs.nil))))))) ?_
 refine wo (Spec.loadObj (ls := [(false, 1, Fact.rep [] (a1.Events : UInt32)), (false, 1, Fact.rep [] (a1.Lost : Int)), (false, 1, Fact.rep [] (a1.Spare : Bool)), (false, 1, Fact.rep [] (a1.Pos : Int)), (false, 1, Fact.rep [] (a1.Done : Int)), (false, 1, Fact.rep [] (a1.NoLog : Bool)), (false, 1, Fact.rep [] (a1.Broken : Bool))]) ty26 rfl rfl (Has.s rfl) rfl (HasGs.cons (HasG.s rfl) (HasGs.cons (HasG.s rfl) (HasGs.cons (HasG.s rfl) (HasGs.cons (HasG.s rfl) (HasGs.cons (HasG.s rfl) (HasGs.cons (HasG.s rfl) (HasGs.cons (HasG.s rfl) HasGs.nil)))))))) ?_
 obtain ⟨x1, hx1, hm⟩ := bind_some hm
 refine wo (f := Fact.rep [] (x1 : Int)) (Spec.callE [] 33 rfl en19 (ref23_Check_c a0 a1 hx1) (HasAll.cons (Has.fl (Has.cv (Has.s rfl) (Cv.trans (Cv.flds (CvL.cons Cv.fl (CvL.cons Cv.fl (CvL.cons Cv.fl (CvL.cons Cv.fl (CvL.cons Cv.fl (CvL.cons Cv.fl CvL.nil))))))) (Cv.close (T := []) (chConfig a0))))) (HasAll.cons (Has.fl (Has.cv (Has.s rfl) (Cv.trans (Cv.flds (CvL.cons Cv.fl (CvL.cons Cv.fl (CvL.cons Cv.fl (CvL.cons Cv.fl (CvL.cons Cv.fl (CvL.cons Cv.fl (CvL.cons Cv.fl CvL.nil)))))))) (Cv.close (T := []) (chLoss a1))))) HasAll.nil))) ?_
 refine wo (Spec.assign (Has.s rfl)) ?_
 refine Walk.nil ?_
 refine Leaf.thenN ?_
 refine CWalk.seqJ (fun p : Int => [.fact 3 (Fact.isv 17), .fact 4 (Fact.isv 25), .fact 6 (Fact.rep [] (p : Int)), .fact 100018 (Fact.at 18 (Fact.rep [] (a1.Events : UInt32))), .fact 100019 (Fact.at 19 (Fact.rep [] (a1.Lost : Int))), .fact 100020 (Fact.at 20 (Fact.rep [] (a1.Spare : Bool))), .fact 100021 (Fact.at 21 (Fact.rep [] (a1.Pos : Int))), .fact 100022 (Fact.at 22 (Fact.rep [] (a1.Done : Int))), .fact 100023 (Fact.at 23 (Fact.rep [] (a1.NoLog : Bool))), .fact 100024 (Fact.at 24 (Fact.rep [] (a1.Broken : Bool))), .fact 100026 (Fact.at 26 (Fact.rep [] ((0 : UInt32) : UInt32))), .fact 100027 (Fact.at 27 (Fact.rep [] ((0 : Int) : Int))), .fact 100028 (Fact.at 28 (Fact.rep [] (false : Bool))), .fact 100029 (Fact.at 29 (Fact.rep [] ((0 : Int) : Int))), .fact 100030 (Fact.at 30 (Fact.rep [] ((0 : Int) : Int))), .fact 100031 (Fact.at 31 (Fact.rep [] (false : Bool))), .fact 100032 (Fact.at 32 (Fact.rep [] (false : Bool))), .fact 100017 (Fact.obj 17 [(false, 1), (false, 1), (false, 1), (false, 1), (false, 1), (false, 1), (false, 1)]), .fact 100025 (Fact.obj 25 [(false, 1), (false, 1), (false, 1), (false, 1), (false, 1), (false, 1), (false, 1)])]) (fun p : Int => ref23_Spare_J1 a1 p = some r) ?_ ?_
 ·rintro j2 hm
  replace hm : ref23_Spare_J1 a1 j2 = some r := hm
  unfold ref23_Spare_J1 at hm
  show CWalk _ [.fact 3 (Fact.isv 17), .fact 4 (Fact.isv 25), .fact 6 (Fact.rep [] (j2 : Int)), .fact 100018 (Fact.at 18 (Fact.rep [] (a1.Events : UInt32))), .fact 100019 (Fact.at 19 (Fact.rep [] (a1.Lost : Int))), .fact 100020 (Fact.at 20 (Fact.rep [] (a1.Spare : Bool))), .fact 100021 (Fact.at 21 (Fact.rep [] (a1.Pos : Int))), .fact 100022 (Fact.at 22 (Fact.rep [] (a1.Done : Int))), .fact 100023 (Fact.at 23 (Fact.rep [] (a1.NoLog : Bool))), .fact 100024 (Fact.at 24 (Fact.rep [] (a1.Broken : Bool))), .fact 100026 (Fact.at 26 (Fact.rep [] ((0 : UInt32) : UInt32))), .fact 100027 (Fact.at 27 (Fact.rep [] ((0 : Int) : Int))), .fact 100028 (Fact.at 28 (Fact.rep [] (false : Bool))), .fact 100029 (Fact.at 29 (Fact.rep [] ((0 : Int) : Int))), .fact 100030 (Fact.at 30 (Fact.rep [] ((0 : Int) : Int))), .fact 100031 (Fact.at 31 (Fact.rep [] (false : Bool))), .fact 100032 (Fact.at 32 (Fact.rep [] (false : Bool))), .fact 100017 (Fact.obj 17 [(false, 1), (false, 1), (false, 1), (false, 1), (false, 1), (false, 1), (false, 1)]), .fact 100025 (Fact.obj 25 [(false, 1), (false, 1), (false, 1), (false, 1), (false, 1), (false, 1), (false, 1)])] _ _
  refine CWalk.seqJ (fun p : Int => [.fact 3 (Fact.isv 17), .fact 4 (Fact.isv 25), .fact 6 (Fact.rep [] (p : Int)), .fact 100018 (Fact.at 18 (Fact.rep [] (a1.Events : UInt32))), .fact 100019 (Fact.at 19 (Fact.rep [] (a1.Lost : Int))), .fact 100020 (Fact.at 20 (Fact.rep [] (a1.Spare : Bool))), .fact 100021 (Fact.at 21 (Fact.rep [] (a1.Pos : Int))), .fact 100022 (Fact.at 22 (Fact.rep [] (a1.Done : Int))), .fact 100023 (Fact.at 23 (Fact.rep [] (a1.NoLog : Bool))), .fact 100024 (Fact.at 24 (Fact.rep [] (a1.Broken : Bool))), .fact 100026 (Fact.at 26 (Fact.rep [] ((0 : UInt32) : UInt32))), .fact 100027 (Fact.at 27 (Fact.rep [] ((0 : Int) : Int))), .fact 100028 (Fact.at 28 (Fact.rep [] (false : Bool))), .fact 100029 (Fact.at 29 (Fact.rep [] ((0 : Int) : Int))), .fact 100030 (Fact.at 30 (Fact.rep [] ((0 : Int) : Int))), .fact 100031 (Fact.at 31 (Fact.rep [] (false : Bool))), .fact 100032 (Fact.at 32 (Fact.rep [] (false : Bool))), .fact 100017 (Fact.obj 17 [(false, 1), (false, 1), (false, 1), (false, 1), (false, 1), (false, 1), (false, 1)]), .fact 100025 (Fact.obj 25 [(false, 1), (false, 1), (false, 1), (false, 1), (false, 1), (false, 1), (false, 1)])]) (fun p : Int => ref23_Spare_J2 a1 p = some r) ?_ ?_
  ·rintro j3 hm
   replace hm : ref23_Spare_J2 a1 j3 = some r := hm
   unfold ref23_Spare_J2 at hm
   show CWalk _ [.fact 3 (Fact.isv 17), .fact 4 (Fact.isv 25), .fact 6 (Fact.rep [] (j3 : Int)), .fact 100018 (Fact.at 18 (Fact.rep [] (a1.Events : UInt32))), .fact 100019 (Fact.at 19 (Fact.rep [] (a1.Lost : Int))), .fact 100020 (Fact.at 20 (Fact.rep [] (a1.Spare : Bool))), .fact 100021 (Fact.at 21 (Fact.rep [] (a1.Pos : Int))), .fact 100022 (Fact.at 22 (Fact.rep [] (a1.Done : Int))), .fact 100023 (Fact.at 23 (Fact.rep [] (a1.NoLog : Bool))), .fact 100024 (Fact.at 24 (Fact.rep [] (a1.Broken : Bool))), .fact 100026 (Fact.at 26 (Fact.rep [] ((0 : UInt32) : UInt32))), .fact 100027 (Fact.at 27 (Fact.rep [] ((0 : Int) : Int))), .fact 100028 (Fact.at 28 (Fact.rep [] (false : Bool))), .fact 100029 (Fact.at 29 (Fact.rep [] ((0 : Int) : Int))), .fact 100030 (Fact.at 30 (Fact.rep [] ((0 : Int) : Int))), .fact 100031 (Fact.at 31 (Fact.rep [] (false : Bool))), .fact 100032 (Fact.at 32 (Fact.rep [] (false : Bool))), .fact 100017 (Fact.obj 17 [(false, 1), (false, 1), (false, 1), (false, 1), (false, 1), (false, 1), (false, 1)]), .fact 100025 (Fact.obj 25 [(false, 1), (false, 1), (false, 1), (false, 1), (false, 1), (false, 1), (false, 1)])] _ _
   refine CWalk.seq ?_
   refine CWalk.seq ?_
   refine CWalk.region ?_
   refine mv ?_
   refine wo (Spec.neqI (Has.s rfl) Has.int) ?_
   refine Walk.nil ?_
   refine Leaf.thenN ?_
   refine CWalk.cond rfl (fun hb => ?_) (fun hb => ?_)
   ·have hm := cond_t hb hm
    refine CWalk.seq ?_
    refine CWalk.region ?_
    refine wo (Spec.build (us := []) (ls' := [(false, 1, Fact.rep [] ((0 : UInt32) : UInt32)), (false, 1, Fact.rep [] ((0 : Int) : Int)), (false, 1, Fact.rep [] (false : Bool)), (false, 1, Fact.rep [] ((0 : Int) : Int)), (false, 1, Fact.rep [] ((0 : Int) : Int)), (false, 1, Fact.rep [] (false : Bool)), (false, 1, Fact.rep [] (false : Bool))]) bd26 rfl BP.nil) ?_
    refine mv ?_
    refine ws (Step.storeObj (ls := [(false, 1, Fact.rep [] ((0 : UInt32) : UInt32)), (false, 1, Fact.rep [] ((0 : Int) : Int)), (false, 1, Fact.rep [] (false : Bool)), (false, 1, Fact.rep [] ((0 : Int) : Int)), (false, 1, Fact.rep [] ((0 : Int) : Int)), (false, 1, Fact.rep [] (false : Bool)), (false, 1, Fact.rep [] (false : Bool))]) rfl ty26 rfl rfl (Has.s rfl) rfl (HasL.flds (Has.s rfl)) rfl) ?_
    refine wo (Spec.assign (Has.s rfl)) ?_
    refine Walk.nil ?_
    refine Leaf.thenN ?_
    refine CWalk.ret ?_
    refine Leaf.thenR ?_
    obtain rfl := Option.some.inj hm
    exact Leaf.retC2 rfl (HasR.cv (HasR.obj (ls := [(false, 1, Fact.rep [] ((0 : UInt32) : UInt32)), (false, 1, Fact.rep [] ((0 : Int) : Int)), (false, 1, Fact.rep [] (false : Bool)), (false, 1, Fact.rep [] ((0 : Int) : Int)), (false, 1, Fact.rep [] ((0 : Int) : Int)), (false, 1, Fact.rep [] (false : Bool)), (false, 1, Fact.rep [] (false : Bool))]) ty26 rfl rfl (Has.s rfl) rfl (HasGs.cons (HasG.s rfl) (HasGs.cons (HasG.s rfl) (HasGs.cons (HasG.s rfl) (HasGs.cons (HasG.s rfl) (HasGs.cons (HasG.s rfl) (HasGs.cons (HasG.s rfl) (HasGs.cons (HasG.s rfl) HasGs.nil)))))))) (Cv.trans (Cv.trans (Cv.flds (CvL.cons Cv.fl (CvL.cons Cv.fl (CvL.cons Cv.fl (CvL.cons Cv.fl (CvL.cons Cv.fl (CvL.cons Cv.fl (CvL.cons Cv.fl CvL.nil)))))))) (Cv.close (T := []) (chLoss (Loss.mk (0 : UInt32) (0 : Int) false (0 : Int) (0 : Int) false false)))) Cv.fl)) (HasR.cv (HasR.tmp (Has.s rfl)) Cv.fl)
   ·have hm := cond_f hb hm
    refine CWalk.skip ?_
    refine Leaf.thenN ?_
    refine CWalk.seq ?_
    refine CWalk.region ?_
    refine wo (Spec.fieldAddrO fd26_2 (Has.cv (Has.s rfl) (Cv.isvP rfl))) ?_
    refine ws (Step.storeF (i := 2) (f := Fact.rep [] (true : Bool)) rfl ty4 rfl (Has.s rfl) rfl Has.bool Has.bool rfl) ?_
    refine Walk.nil ?_
    refine Leaf.thenN ?_
    refine CWalk.seq ?_
    refine CWalk.region ?_
    refine wo (Spec.loadObj (ls := [(false, 1, Fact.rep [] (a1.Events : UInt32)), (false, 1, Fact.rep [] (a1.Lost : Int)), (false, 1, Fact.rep [] (true : Bool)), (false, 1, Fact.rep [] (a1.Pos : Int)), (false, 1, Fact.rep [] (a1.Done : Int)), (false, 1, Fact.rep [] (a1.NoLog : Bool)), (false, 1, Fact.rep [] (a1.Broken : Bool))]) ty26 rfl rfl (Has.s rfl) rfl (HasGs.cons (HasG.s rfl) (HasGs.cons (HasG.s rfl) (HasGs.cons (HasG.s rfl) (HasGs.cons (HasG.s rfl) (HasGs.cons (HasG.s rfl) (HasGs.cons (HasG.s rfl) (HasGs.cons (HasG.s rfl) HasGs.nil)))))))) ?_
    refine ws (Step.storeObj (ls := [(false, 1, Fact.rep [] (a1.Events : UInt32)), (false, 1, Fact.rep [] (a1.Lost : Int)), (false, 1, Fact.rep [] (true : Bool)), (false, 1, Fact.rep [] (a1.Pos : Int)), (false, 1, Fact.rep [] (a1.Done : Int)), (false, 1, Fact.rep [] (a1.NoLog : Bool)), (false, 1, Fact.rep [] (a1.Broken : Bool))]) rfl ty26 rfl rfl (Has.s rfl) rfl (HasL.flds (Has.s rfl)) rfl) ?_
    refine wo (Spec.assign Has.int) ?_
    refine Walk.nil ?_
    refine Leaf.thenN ?_
    refine CWalk.ret ?_
    obtain rfl := Option.some.inj hm
    exact Leaf.retC2 rfl (HasR.cv (HasR.obj (ls := [(false, 1, Fact.rep [] (a1.Events : UInt32)), (false, 1, Fact.rep [] (a1.Lost : Int)), (false, 1, Fact.rep [] (true : Bool)), (false, 1, Fact.rep [] (a1.Pos : Int)), (false, 1, Fact.rep [] (a1.Done : Int)), (false, 1, Fact.rep [] (a1.NoLog : Bool)), (false, 1, Fact.rep [] (a1.Broken : Bool))]) ty26 rfl rfl (Has.s rfl) rfl (HasGs.cons (HasG.s rfl) (HasGs.cons (HasG.s rfl) (HasGs.cons (HasG.s rfl) (HasGs.cons (HasG.s rfl) (HasGs.cons (HasG.s rfl) (HasGs.cons (HasG.s rfl) (HasGs.cons (HasG.s rfl) HasGs.nil)))))))) (Cv.trans (Cv.trans (Cv.flds (CvL.cons Cv.fl (CvL.cons Cv.fl (CvL.cons Cv.fl (CvL.cons Cv.fl (CvL.cons Cv.fl (CvL.cons Cv.fl (CvL.cons Cv.fl CvL.nil)))))))) (Cv.close (T := []) (chLoss (Loss.mk a1.Events a1.Lost true a1.Pos a1.Done a1.NoLog a1.Broken)))) Cv.fl)) (HasR.cv (HasR.tmp (Has.s rfl)) Cv.fl)
  ·refine CWalk.seq ?_
   refine CWalk.region ?_
   refine mv ?_
   refine wo (Spec.eqlI (Has.s rfl) Has.int) ?_
   refine mv ?_
   refine wg rfl rfl (fun hb => Spec.fieldAddrO fd26_1 (Has.cv (Has.s rfl) (Cv.isvP rfl))) ?_
   refine wg rfl rfl (fun hb => Spec.loadF (i := 1) ty3 rfl (Has.u rfl hb) rfl (HasG.s rfl)) ?_
   refine wg rfl rfl (fun hb => Spec.lssI (Has.u rfl hb) Has.int) ?_
   refine wg rfl rfl (fun hb => Spec.move (Has.u rfl hb)) ?_
   refine Walk.opgu rfl rfl rfl (fun hb => Spec.fieldAddrO fd26_2 (Has.cv (Has.s rfl) (Cv.isvP rfl))) ?_
   refine Walk.opgu rfl rfl rfl (fun hb => Spec.loadF (i := 2) ty4 rfl (Has.u rfl hb) rfl (HasG.s rfl)) ?_
   refine wg rfl rfl (fun hb => Spec.or (Has.u rfl hb) (fun h => Has.u rfl ⟨hb, h⟩)) ?_
   refine wo (Spec.and (Has.s rfl) (fun h => Has.u rfl h)) ?_
   refine Walk.nil ?_
   refine Leaf.thenN ?_
   refine CWalk.cond rfl (fun hb => ?_) (fun hb => ?_)
   ·have hm := cond_t hb hm
    refine CWalk.region ?_
    refine wo (Spec.assign Has.int) ?_
    refine Walk.nil ?_
    exact Leaf.join (6 : Int) hm (sn (sn (st (sf (sf (sf (sf (sf (sf (sf (sf (sf (sf (sf (sf (sf (sf (sn (sn Sub.nil)))))))))))))))))))
   ·have hm := cond_f hb hm
    refine CWalk.skip ?_
    exact Leaf.join j2 hm (sn (sn (st (sf (sf (sf (sf (sf (sf (sf (sf (sf (sf (sf (sf (sf (sf (sn (sn Sub.nil)))))))))))))))))))
 ·refine CWalk.seq ?_
  refine CWalk.region ?_
  refine mv ?_
  refine wo (Spec.eqlI (Has.s rfl) Has.int) ?_
  refine mv ?_
  refine wg rfl rfl (fun hb => Spec.fieldAddrO fd26_6 (Has.cv (Has.s rfl) (Cv.isvP rfl))) ?_
  refine wg rfl rfl (fun hb => Spec.loadF (i := 6) ty4 rfl (Has.u rfl hb) rfl (HasG.s rfl)) ?_
  refine wo (Spec.and (Has.s rfl) (fun h => Has.u rfl h)) ?_
  refine Walk.nil ?_
  refine Leaf.thenN ?_
  refine CWalk.cond rfl (fun hb => ?_) (fun hb => ?_)
  ·have hm := cond_t hb hm
   refine CWalk.region ?_
   refine wo (Spec.assign Has.int) ?_
   refine Walk.nil ?_
   exact Leaf.join (230 : Int) hm (sn (sn (st (sf (sf (sf (sf (sf (sf (sf (sf (sf (sf (sf (sf (sf (sf (sn (sn Sub.nil)))))))))))))))))))
  ·have hm := cond_f hb hm
   refine CWalk.skip ?_
   exact Leaf.join x1 hm (sn (sn (st (sf (sf (sf (sf (sf (sf (sf (sf (sf (sf (sf (sf (sf (sf (sn (sn Sub.nil)))))))))))))))))))

/-- freeboard/loss.Go -/
def loss_Go (a0 : Config) (a1 : Loss) : Option (Loss × Int) :=
  Option.bind (loss_Check a0 a1) (fun x1 => (bif (x1 != (0 : Int)) then some ((Loss.mk (0 : UInt32) (0 : Int) false (0 : Int) (0 : Int) false false), x1) else Option.bind (shape_Stripes a0) (fun x2 => (bif ((!a1.Spare) || (a1.Pos == x2.1)) then some ((Loss.mk (0 : UInt32) (0 : Int) false (0 : Int) (0 : Int) false false), (6 : Int)) else some ((Loss.mk a1.Events a1.Lost a1.Spare (wI (a1.Pos + (1 : Int))) a1.Done a1.NoLog a1.Broken), (0 : Int))))))
set_option maxRecDepth 100000 in
set_option maxHeartbeats 2000000 in
theorem loss_Go_c (a0 : Config) (a1 : Loss) {r : Loss × Int} (hm : loss_Go a0 a1 = some r) : Ctr Try.prog 14 [.rep 0 a0, .rep 0 a1] (.tup2 (.fl r.1) (.fl r.2)) [] := by
 refine ctr_of_walk [[]] 36 Try.func14 rfl rfl rfl rfl (fun w0 om => ?_)
 unfold loss_Go at hm
 refine CWalk.sub (G' := [.fact 0 (Fact.rep [] (a0 : Config)), .fact 1 (Fact.rep [] (a1 : Loss))]) (Sub.cons (Has.fl (Has.s rfl)) (Sub.cons (Has.fl (Has.s rfl)) Sub.nil)) ?_
 refine CWalk.seq ?_
 refine CWalk.region ?_
 refine ws (Step.boxObj (ls := [(false, 1, Fact.rep [] (a0.Id : UInt32)), (false, 1, Fact.rep [] (a0.Members : Int)), (false, 1, Fact.rep [] (a0.Chunk : Int)), (false, 1, Fact.rep [] (a0.Rows : Int)), (false, 1, Fact.rep [] (a0.Log : Int)), (false, 1, Fact.rep [] (a0.Heads : Int))]) 10 rfl rfl rfl rfl (HasL.flds (Has.cv (Has.s rfl) (Cv.trans (Cv.opens (chConfig a0)) (Cv.flds (CvL.cons Cv.fl (CvL.cons Cv.fl (CvL.cons Cv.fl (CvL.cons Cv.fl (CvL.cons Cv.fl (CvL.cons Cv.fl CvL.nil))))))))))) ?_
 refine ws (Step.boxObj (ls := [(false, 1, Fact.rep [] (a1.Events : UInt32)), (false, 1, Fact.rep [] (a1.Lost : Int)), (false, 1, Fact.rep [] (a1.Spare : Bool)), (false, 1, Fact.rep [] (a1.Pos : Int)), (false, 1, Fact.rep [] (a1.Done : Int)), (false, 1, Fact.rep [] (a1.NoLog : Bool)), (false, 1, Fact.rep [] (a1.Broken : Bool))]) 17 rfl rfl rfl rfl (HasL.flds (Has.cv (Has.s rfl) (Cv.trans (Cv.opens (chLoss a1)) (Cv.flds (CvL.cons Cv.fl (CvL.cons Cv.fl (CvL.cons Cv.fl (CvL.cons Cv.fl (CvL.cons Cv.fl (CvL.cons Cv.fl (CvL.cons Cv.fl CvL.nil)))))))))))) ?_
 refine ws (Step.allocObj (ls := [(false, 1, Fact.rep [] ((0 : UInt32) : UInt32)), (false, 1, Fact.rep [] ((0 : Int) : Int)), (false, 1, Fact.rep [] (false : Bool)), (false, 1, Fact.rep [] ((0 : Int) : Int)), (false, 1, Fact.rep [] ((0 : Int) : Int)), (false, 1, Fact.rep [] (false : Bool)), (false, 1, Fact.rep [] (false : Bool))]) 25 rfl rfl rfl rfl zl26) ?_
 refine wo (Spec.assign Has.int) ?_
 refine Walk.nil ?_
 refine Leaf.thenN ?_
 refine CWalk.seq ?_
 refine CWalk.seq ?_
 refine CWalk.region ?_
 refine wo (Spec.loadObj (ls := [(false, 1, Fact.rep [] (a0.Id : UInt32)), (false, 1, Fact.rep [] (a0.Members : Int)), (false, 1, Fact.rep [] (a0.Chunk : Int)), (false, 1, Fact.rep [] (a0.Rows : Int)), (false, 1, Fact.rep [] (a0.Log : Int)), (false, 1, Fact.rep [] (a0.Heads : Int))]) ty24 rfl rfl (Has.s rfl) rfl (HasGs.cons (HasG.s rfl) (HasGs.cons (HasG.s rfl) (HasGs.cons (HasG.s rfl) (HasGs.cons (HasG.s rfl) (HasGs.cons (HasG.s rfl) (HasGs.cons (HasG.s rfl) HasGs.nil))))))) ?_
 refine wo (Spec.loadObj (ls := [(false, 1, Fact.rep [] (a1.Events : UInt32)), (false, 1, Fact.rep [] (a1.Lost : Int)), (false, 1, Fact.rep [] (a1.Spare : Bool)), (false, 1, Fact.rep [] (a1.Pos : Int)), (false, 1, Fact.rep [] (a1.Done : Int)), (false, 1, Fact.rep [] (a1.NoLog : Bool)), (false, 1, Fact.rep [] (a1.Broken : Bool))]) ty26 rfl rfl (Has.s rfl) rfl (HasGs.cons (HasG.s rfl) (HasGs.cons (HasG.s rfl) (HasGs.cons (HasG.s rfl) (HasGs.cons (HasG.s rfl) (HasGs.cons (HasG.s rfl) (HasGs.cons (HasG.s rfl) (HasGs.cons (HasG.s rfl) HasGs.nil)))))))) ?_
 obtain ⟨x1, hx1, hm⟩ := bind_some hm
 refine wo (f := Fact.rep [] (x1 : Int)) (Spec.callE [] 33 rfl en18 (loss_Check_c a0 a1 hx1) (HasAll.cons (Has.fl (Has.cv (Has.s rfl) (Cv.trans (Cv.flds (CvL.cons Cv.fl (CvL.cons Cv.fl (CvL.cons Cv.fl (CvL.cons Cv.fl (CvL.cons Cv.fl (CvL.cons Cv.fl CvL.nil))))))) (Cv.close (T := []) (chConfig a0))))) (HasAll.cons (Has.fl (Has.cv (Has.s rfl) (Cv.trans (Cv.flds (CvL.cons Cv.fl (CvL.cons Cv.fl (CvL.cons Cv.fl (CvL.cons Cv.fl (CvL.cons Cv.fl (CvL.cons Cv.fl (CvL.cons Cv.fl CvL.nil)))))))) (Cv.close (T := []) (chLoss a1))))) HasAll.nil))) ?_
 refine wo (Spec.assign (Has.s rfl)) ?_
 refine Walk.nil ?_
 refine Leaf.thenN ?_
 refine CWalk.seq ?_
 refine CWalk.region ?_
 refine mv ?_
 refine wo (Spec.neqI (Has.s rfl) Has.int) ?_
 refine Walk.nil ?_
 refine Leaf.thenN ?_
 refine CWalk.cond rfl (fun hb => ?_) (fun hb => ?_)
 ·have hm := cond_t hb hm
  refine CWalk.seq ?_
  refine CWalk.region ?_
  refine wo (Spec.build (us := []) (ls' := [(false, 1, Fact.rep [] ((0 : UInt32) : UInt32)), (false, 1, Fact.rep [] ((0 : Int) : Int)), (false, 1, Fact.rep [] (false : Bool)), (false, 1, Fact.rep [] ((0 : Int) : Int)), (false, 1, Fact.rep [] ((0 : Int) : Int)), (false, 1, Fact.rep [] (false : Bool)), (false, 1, Fact.rep [] (false : Bool))]) bd26 rfl BP.nil) ?_
  refine mv ?_
  refine ws (Step.storeObj (ls := [(false, 1, Fact.rep [] ((0 : UInt32) : UInt32)), (false, 1, Fact.rep [] ((0 : Int) : Int)), (false, 1, Fact.rep [] (false : Bool)), (false, 1, Fact.rep [] ((0 : Int) : Int)), (false, 1, Fact.rep [] ((0 : Int) : Int)), (false, 1, Fact.rep [] (false : Bool)), (false, 1, Fact.rep [] (false : Bool))]) rfl ty26 rfl rfl (Has.s rfl) rfl (HasL.flds (Has.s rfl)) rfl) ?_
  refine wo (Spec.assign (Has.s rfl)) ?_
  refine Walk.nil ?_
  refine Leaf.thenN ?_
  refine CWalk.ret ?_
  refine Leaf.thenR ?_
  obtain rfl := Option.some.inj hm
  exact Leaf.retC2 rfl (HasR.cv (HasR.obj (ls := [(false, 1, Fact.rep [] ((0 : UInt32) : UInt32)), (false, 1, Fact.rep [] ((0 : Int) : Int)), (false, 1, Fact.rep [] (false : Bool)), (false, 1, Fact.rep [] ((0 : Int) : Int)), (false, 1, Fact.rep [] ((0 : Int) : Int)), (false, 1, Fact.rep [] (false : Bool)), (false, 1, Fact.rep [] (false : Bool))]) ty26 rfl rfl (Has.s rfl) rfl (HasGs.cons (HasG.s rfl) (HasGs.cons (HasG.s rfl) (HasGs.cons (HasG.s rfl) (HasGs.cons (HasG.s rfl) (HasGs.cons (HasG.s rfl) (HasGs.cons (HasG.s rfl) (HasGs.cons (HasG.s rfl) HasGs.nil)))))))) (Cv.trans (Cv.trans (Cv.flds (CvL.cons Cv.fl (CvL.cons Cv.fl (CvL.cons Cv.fl (CvL.cons Cv.fl (CvL.cons Cv.fl (CvL.cons Cv.fl (CvL.cons Cv.fl CvL.nil)))))))) (Cv.close (T := []) (chLoss (Loss.mk (0 : UInt32) (0 : Int) false (0 : Int) (0 : Int) false false)))) Cv.fl)) (HasR.cv (HasR.tmp (Has.s rfl)) Cv.fl)
 ·have hm := cond_f hb hm
  refine CWalk.skip ?_
  refine Leaf.thenN ?_
  refine CWalk.seq ?_
  refine CWalk.seq ?_
  refine CWalk.region ?_
  refine wo (Spec.loadObj (ls := [(false, 1, Fact.rep [] (a0.Id : UInt32)), (false, 1, Fact.rep [] (a0.Members : Int)), (false, 1, Fact.rep [] (a0.Chunk : Int)), (false, 1, Fact.rep [] (a0.Rows : Int)), (false, 1, Fact.rep [] (a0.Log : Int)), (false, 1, Fact.rep [] (a0.Heads : Int))]) ty24 rfl rfl (Has.s rfl) rfl (HasGs.cons (HasG.s rfl) (HasGs.cons (HasG.s rfl) (HasGs.cons (HasG.s rfl) (HasGs.cons (HasG.s rfl) (HasGs.cons (HasG.s rfl) (HasGs.cons (HasG.s rfl) HasGs.nil))))))) ?_
  obtain ⟨x2, hx2, hm⟩ := bind_some hm
  refine wo (f := Fact.tup2 (Fact.rep [] (x2.1 : Int)) (Fact.rep [] (x2.2 : Int))) (Spec.callE [] 34 rfl en32 (shape_Stripes_c a0 hx2) (HasAll.cons (Has.fl (Has.cv (Has.s rfl) (Cv.trans (Cv.flds (CvL.cons Cv.fl (CvL.cons Cv.fl (CvL.cons Cv.fl (CvL.cons Cv.fl (CvL.cons Cv.fl (CvL.cons Cv.fl CvL.nil))))))) (Cv.close (T := []) (chConfig a0))))) HasAll.nil)) ?_
  refine mv ?_
  refine wo (Spec.ext0 (Has.s rfl)) ?_
  refine wo (Spec.ext1 (Has.s rfl)) ?_
  refine wo (Spec.assign (Has.s rfl)) ?_
  refine wo (Spec.assign (Has.s rfl)) ?_
  refine Walk.nil ?_
  refine Leaf.thenN ?_
  refine CWalk.seq ?_
  refine CWalk.region ?_
  refine wo (Spec.fieldAddrO fd26_2 (Has.cv (Has.s rfl) (Cv.isvP rfl))) ?_
  refine wo (Spec.loadF (i := 2) ty4 rfl (Has.s rfl) rfl (HasG.s rfl)) ?_
  refine wo (Spec.not (Has.s rfl)) ?_
  refine mv ?_
  refine wg rfl rfl (fun hb => Spec.fieldAddrO fd26_3 (Has.cv (Has.s rfl) (Cv.isvP rfl))) ?_
  refine wg rfl rfl (fun hb => Spec.loadF (i := 3) ty3 rfl (Has.u rfl hb) rfl (HasG.s rfl)) ?_
  refine wg rfl rfl (fun hb => Spec.move (Has.s rfl)) ?_
  refine wg rfl rfl (fun hb => Spec.eqlI (Has.u rfl hb) (Has.u rfl hb)) ?_
  refine wo (Spec.or (Has.s rfl) (fun h => Has.u rfl h)) ?_
  refine Walk.nil ?_
  refine Leaf.thenN ?_
  refine CWalk.cond rfl (fun hb => ?_) (fun hb => ?_)
  ·have hm := cond_t hb hm
   refine CWalk.seq ?_
   refine CWalk.region ?_
   refine wo (Spec.build (us := []) (ls' := [(false, 1, Fact.rep [] ((0 : UInt32) : UInt32)), (false, 1, Fact.rep [] ((0 : Int) : Int)), (false, 1, Fact.rep [] (false : Bool)), (false, 1, Fact.rep [] ((0 : Int) : Int)), (false, 1, Fact.rep [] ((0 : Int) : Int)), (false, 1, Fact.rep [] (false : Bool)), (false, 1, Fact.rep [] (false : Bool))]) bd26 rfl BP.nil) ?_
   refine ws (Step.storeObj (ls := [(false, 1, Fact.rep [] ((0 : UInt32) : UInt32)), (false, 1, Fact.rep [] ((0 : Int) : Int)), (false, 1, Fact.rep [] (false : Bool)), (false, 1, Fact.rep [] ((0 : Int) : Int)), (false, 1, Fact.rep [] ((0 : Int) : Int)), (false, 1, Fact.rep [] (false : Bool)), (false, 1, Fact.rep [] (false : Bool))]) rfl ty26 rfl rfl (Has.s rfl) rfl (HasL.flds (Has.s rfl)) rfl) ?_
   refine wo (Spec.assign Has.int) ?_
   refine Walk.nil ?_
   refine Leaf.thenN ?_
   refine CWalk.ret ?_
   refine Leaf.thenR ?_
   obtain rfl := Option.some.inj hm
   exact Leaf.retC2 rfl (HasR.cv (HasR.obj (ls := [(false, 1, Fact.rep [] ((0 : UInt32) : UInt32)), (false, 1, Fact.rep [] ((0 : Int) : Int)), (false, 1, Fact.rep [] (false : Bool)), (false, 1, Fact.rep [] ((0 : Int) : Int)), (false, 1, Fact.rep [] ((0 : Int) : Int)), (false, 1, Fact.rep [] (false : Bool)), (false, 1, Fact.rep [] (false : Bool))]) ty26 rfl rfl (Has.s rfl) rfl (HasGs.cons (HasG.s rfl) (HasGs.cons (HasG.s rfl) (HasGs.cons (HasG.s rfl) (HasGs.cons (HasG.s rfl) (HasGs.cons (HasG.s rfl) (HasGs.cons (HasG.s rfl) (HasGs.cons (HasG.s rfl) HasGs.nil)))))))) (Cv.trans (Cv.trans (Cv.flds (CvL.cons Cv.fl (CvL.cons Cv.fl (CvL.cons Cv.fl (CvL.cons Cv.fl (CvL.cons Cv.fl (CvL.cons Cv.fl (CvL.cons Cv.fl CvL.nil)))))))) (Cv.close (T := []) (chLoss (Loss.mk (0 : UInt32) (0 : Int) false (0 : Int) (0 : Int) false false)))) Cv.fl)) (HasR.cv (HasR.tmp (Has.s rfl)) Cv.fl)
  ·have hm := cond_f hb hm
   refine CWalk.skip ?_
   refine Leaf.thenN ?_
   refine CWalk.seq ?_
   refine CWalk.region ?_
   refine wo (Spec.fieldAddrO fd26_3 (Has.cv (Has.s rfl) (Cv.isvP rfl))) ?_
   refine wo (Spec.loadF (i := 3) ty3 rfl (Has.s rfl) rfl (HasG.s rfl)) ?_
   refine wo (Spec.addI (Has.s rfl) Has.int) ?_
   refine wo (Spec.fieldAddrO fd26_3 (Has.cv (Has.s rfl) (Cv.isvP rfl))) ?_
   refine ws (Step.storeF (i := 3) (f := Fact.rep [] ((wI (a1.Pos + (1 : Int))) : Int)) rfl ty3 rfl (Has.s rfl) rfl (Has.s rfl) (Has.s rfl) rfl) ?_
   refine Walk.nil ?_
   refine Leaf.thenN ?_
   refine CWalk.seq ?_
   refine CWalk.region ?_
   refine wo (Spec.loadObj (ls := [(false, 1, Fact.rep [] (a1.Events : UInt32)), (false, 1, Fact.rep [] (a1.Lost : Int)), (false, 1, Fact.rep [] (a1.Spare : Bool)), (false, 1, Fact.rep [] ((wI (a1.Pos + (1 : Int))) : Int)), (false, 1, Fact.rep [] (a1.Done : Int)), (false, 1, Fact.rep [] (a1.NoLog : Bool)), (false, 1, Fact.rep [] (a1.Broken : Bool))]) ty26 rfl rfl (Has.s rfl) rfl (HasGs.cons (HasG.s rfl) (HasGs.cons (HasG.s rfl) (HasGs.cons (HasG.s rfl) (HasGs.cons (HasG.s rfl) (HasGs.cons (HasG.s rfl) (HasGs.cons (HasG.s rfl) (HasGs.cons (HasG.s rfl) HasGs.nil)))))))) ?_
   refine ws (Step.storeObj (ls := [(false, 1, Fact.rep [] (a1.Events : UInt32)), (false, 1, Fact.rep [] (a1.Lost : Int)), (false, 1, Fact.rep [] (a1.Spare : Bool)), (false, 1, Fact.rep [] ((wI (a1.Pos + (1 : Int))) : Int)), (false, 1, Fact.rep [] (a1.Done : Int)), (false, 1, Fact.rep [] (a1.NoLog : Bool)), (false, 1, Fact.rep [] (a1.Broken : Bool))]) rfl ty26 rfl rfl (Has.s rfl) rfl (HasL.flds (Has.s rfl)) rfl) ?_
   refine wo (Spec.assign Has.int) ?_
   refine Walk.nil ?_
   refine Leaf.thenN ?_
   refine CWalk.ret ?_
   obtain rfl := Option.some.inj hm
   exact Leaf.retC2 rfl (HasR.cv (HasR.obj (ls := [(false, 1, Fact.rep [] (a1.Events : UInt32)), (false, 1, Fact.rep [] (a1.Lost : Int)), (false, 1, Fact.rep [] (a1.Spare : Bool)), (false, 1, Fact.rep [] ((wI (a1.Pos + (1 : Int))) : Int)), (false, 1, Fact.rep [] (a1.Done : Int)), (false, 1, Fact.rep [] (a1.NoLog : Bool)), (false, 1, Fact.rep [] (a1.Broken : Bool))]) ty26 rfl rfl (Has.s rfl) rfl (HasGs.cons (HasG.s rfl) (HasGs.cons (HasG.s rfl) (HasGs.cons (HasG.s rfl) (HasGs.cons (HasG.s rfl) (HasGs.cons (HasG.s rfl) (HasGs.cons (HasG.s rfl) (HasGs.cons (HasG.s rfl) HasGs.nil)))))))) (Cv.trans (Cv.trans (Cv.flds (CvL.cons Cv.fl (CvL.cons Cv.fl (CvL.cons Cv.fl (CvL.cons Cv.fl (CvL.cons Cv.fl (CvL.cons Cv.fl (CvL.cons Cv.fl CvL.nil)))))))) (Cv.close (T := []) (chLoss (Loss.mk a1.Events a1.Lost a1.Spare (wI (a1.Pos + (1 : Int))) a1.Done a1.NoLog a1.Broken)))) Cv.fl)) (HasR.cv (HasR.tmp (Has.s rfl)) Cv.fl)

def ref23_Go_J1 (a1 : Loss) (j2 : Int) : Option (Loss × Int) :=
  (bif (j2 != (0 : Int)) then some ((Loss.mk (0 : UInt32) (0 : Int) false (0 : Int) (0 : Int) false false), j2) else some ((Loss.mk a1.Events a1.Lost a1.Spare (wI (a1.Pos + (1 : Int))) a1.Done a1.NoLog a1.Broken), (0 : Int)))
/-- freeboard/freeboardref23.Go -/
def ref23_Go (a0 : Config) (a1 : Loss) : Option (Loss × Int) :=
  Option.bind (ref23_Check a0 a1) (fun x1 => Option.bind (gO (((x1 == (0 : Int))) && (!(!a1.Spare))) (ref06_Stripes a0)) (fun x3 => (bif ((x1 == (0 : Int)) && ((!a1.Spare) || (decide (a1.Pos ≥ x3)))) then (ref23_Go_J1 a1 (6 : Int)) else (ref23_Go_J1 a1 x1))))
set_option maxRecDepth 100000 in
set_option maxHeartbeats 2000000 in
theorem ref23_Go_c (a0 : Config) (a1 : Loss) {r : Loss × Int} (hm : ref23_Go a0 a1 = some r) : Ctr Try.prog 15 [.rep 0 a0, .rep 0 a1] (.tup2 (.fl r.1) (.fl r.2)) [] := by
 refine ctr_of_walk [[]] 33 Try.func15 rfl rfl rfl rfl (fun w0 om => ?_)
 unfold ref23_Go at hm
 refine CWalk.sub (G' := [.fact 0 (Fact.rep [] (a0 : Config)), .fact 1 (Fact.rep [] (a1 : Loss))]) (Sub.cons (Has.fl (Has.s rfl)) (Sub.cons (Has.fl (Has.s rfl)) Sub.nil)) ?_
 refine CWalk.seq ?_
 refine CWalk.region ?_
 refine ws (Step.boxObj (ls := [(false, 1, Fact.rep [] (a0.Id : UInt32)), (false, 1, Fact.rep [] (a0.Members : Int)), (false, 1, Fact.rep [] (a0.Chunk : Int)), (false, 1, Fact.rep [] (a0.Rows : Int)), (false, 1, Fact.rep [] (a0.Log : Int)), (false, 1, Fact.rep [] (a0.Heads : Int))]) 10 rfl rfl rfl rfl (HasL.flds (Has.cv (Has.s rfl) (Cv.trans (Cv.opens (chConfig a0)) (Cv.flds (CvL.cons Cv.fl (CvL.cons Cv.fl (CvL.cons Cv.fl (CvL.cons Cv.fl (CvL.cons Cv.fl (CvL.cons Cv.fl CvL.nil))))))))))) ?_
 refine ws (Step.boxObj (ls := [(false, 1, Fact.rep [] (a1.Events : UInt32)), (false, 1, Fact.rep [] (a1.Lost : Int)), (false, 1, Fact.rep [] (a1.Spare : Bool)), (false, 1, Fact.rep [] (a1.Pos : Int)), (false, 1, Fact.rep [] (a1.Done : Int)), (false, 1, Fact.rep [] (a1.NoLog : Bool)), (false, 1, Fact.rep [] (a1.Broken : Bool))]) 17 rfl rfl rfl rfl (HasL.flds (Has.cv (Has.s rfl) (Cv.trans (Cv.opens (chLoss a1)) (Cv.flds (CvL.cons Cv.fl (CvL.cons Cv.fl (CvL.cons Cv.fl (CvL.cons Cv.fl (CvL.cons Cv.fl (CvL.cons Cv.fl (CvL.cons Cv.fl CvL.nil)))))))))))) ?_
 refine ws (Step.allocObj (ls := [(false, 1, Fact.rep [] ((0 : UInt32) : UInt32)), (false, 1, Fact.rep [] ((0 : Int) : Int)), (false, 1, Fact.rep [] (false : Bool)), (false, 1, Fact.rep [] ((0 : Int) : Int)), (false, 1, Fact.rep [] ((0 : Int) : Int)), (false, 1, Fact.rep [] (false : Bool)), (false, 1, Fact.rep [] (false : Bool))]) 25 rfl rfl rfl rfl zl26) ?_
 refine wo (Spec.assign Has.int) ?_
 refine Walk.nil ?_
 refine Leaf.thenN ?_
 refine CWalk.seq ?_
 refine CWalk.region ?_
 refine wo (Spec.loadObj (ls := [(false, 1, Fact.rep [] (a0.Id : UInt32)), (false, 1, Fact.rep [] (a0.Members : Int)), (false, 1, Fact.rep [] (a0.Chunk : Int)), (false, 1, Fact.rep [] (a0.Rows : Int)), (false, 1, Fact.rep [] (a0.Log : Int)), (false, 1, Fact.rep [] (a0.Heads : Int))]) ty24 rfl rfl (Has.s rfl) rfl (HasGs.cons (HasG.s rfl) (HasGs.cons (HasG.s rfl) (HasGs.cons (HasG.s rfl) (HasGs.cons (HasG.s rfl) (HasGs.cons (HasG.s rfl) (HasGs.cons (HasG.s rfl) HasGs.nil))))))) ?_
 refine wo (Spec.loadObj (ls := [(false, 1, Fact.rep [] (a1.Events : UInt32)), (false, 1, Fact.rep [] (a1.Lost : Int)), (false, 1, Fact.rep [] (a1.Spare : Bool)), (false, 1, Fact.rep [] (a1.Pos : Int)), (false, 1, Fact.rep [] (a1.Done : Int)), (false, 1, Fact.rep [] (a1.NoLog : Bool)), (false, 1, Fact.rep [] (a1.Broken : Bool))]) ty26 rfl rfl (Has.s rfl) rfl (HasGs.cons (HasG.s rfl) (HasGs.cons (HasG.s rfl) (HasGs.cons (HasG.s rfl) (HasGs.cons (HasG.s rfl) (HasGs.cons (HasG.s rfl) (HasGs.cons (HasG.s rfl) (HasGs.cons (HasG.s rfl) HasGs.nil)))))))) ?_
 obtain ⟨x1, hx1, hm⟩ := bind_some hm
 refine wo (f := Fact.rep [] (x1 : Int)) (Spec.callE [] 33 rfl en19 (ref23_Check_c a0 a1 hx1) (HasAll.cons (Has.fl (Has.cv (Has.s rfl) (Cv.trans (Cv.flds (CvL.cons Cv.fl (CvL.cons Cv.fl (CvL.cons Cv.fl (CvL.cons Cv.fl (CvL.cons Cv.fl (CvL.cons Cv.fl CvL.nil))))))) (Cv.close (T := []) (chConfig a0))))) (HasAll.cons (Has.fl (Has.cv (Has.s rfl) (Cv.trans (Cv.flds (CvL.cons Cv.fl (CvL.cons Cv.fl (CvL.cons Cv.fl (CvL.cons Cv.fl (CvL.cons Cv.fl (CvL.cons Cv.fl (CvL.cons Cv.fl CvL.nil)))))))) (Cv.close (T := []) (chLoss a1))))) HasAll.nil))) ?_
 refine wo (Spec.assign (Has.s rfl)) ?_
 refine Walk.nil ?_
 refine Leaf.thenN ?_
 refine CWalk.seqJ (fun p : Int => [.fact 3 (Fact.isv 17), .fact 4 (Fact.isv 25), .fact 6 (Fact.rep [] (p : Int)), .fact 100018 (Fact.at 18 (Fact.rep [] (a1.Events : UInt32))), .fact 100019 (Fact.at 19 (Fact.rep [] (a1.Lost : Int))), .fact 100020 (Fact.at 20 (Fact.rep [] (a1.Spare : Bool))), .fact 100021 (Fact.at 21 (Fact.rep [] (a1.Pos : Int))), .fact 100022 (Fact.at 22 (Fact.rep [] (a1.Done : Int))), .fact 100023 (Fact.at 23 (Fact.rep [] (a1.NoLog : Bool))), .fact 100024 (Fact.at 24 (Fact.rep [] (a1.Broken : Bool))), .fact 100026 (Fact.at 26 (Fact.rep [] ((0 : UInt32) : UInt32))), .fact 100027 (Fact.at 27 (Fact.rep [] ((0 : Int) : Int))), .fact 100028 (Fact.at 28 (Fact.rep [] (false : Bool))), .fact 100029 (Fact.at 29 (Fact.rep [] ((0 : Int) : Int))), .fact 100030 (Fact.at 30 (Fact.rep [] ((0 : Int) : Int))), .fact 100031 (Fact.at 31 (Fact.rep [] (false : Bool))), .fact 100032 (Fact.at 32 (Fact.rep [] (false : Bool))), .fact 100017 (Fact.obj 17 [(false, 1), (false, 1), (false, 1), (false, 1), (false, 1), (false, 1), (false, 1)]), .fact 100025 (Fact.obj 25 [(false, 1), (false, 1), (false, 1), (false, 1), (false, 1), (false, 1), (false, 1)])]) (fun p : Int => ref23_Go_J1 a1 p = some r) ?_ ?_
 ·rintro j2 hm
  replace hm : ref23_Go_J1 a1 j2 = some r := hm
  unfold ref23_Go_J1 at hm
  show CWalk _ [.fact 3 (Fact.isv 17), .fact 4 (Fact.isv 25), .fact 6 (Fact.rep [] (j2 : Int)), .fact 100018 (Fact.at 18 (Fact.rep [] (a1.Events : UInt32))), .fact 100019 (Fact.at 19 (Fact.rep [] (a1.Lost : Int))), .fact 100020 (Fact.at 20 (Fact.rep [] (a1.Spare : Bool))), .fact 100021 (Fact.at 21 (Fact.rep [] (a1.Pos : Int))), .fact 100022 (Fact.at 22 (Fact.rep [] (a1.Done : Int))), .fact 100023 (Fact.at 23 (Fact.rep [] (a1.NoLog : Bool))), .fact 100024 (Fact.at 24 (Fact.rep [] (a1.Broken : Bool))), .fact 100026 (Fact.at 26 (Fact.rep [] ((0 : UInt32) : UInt32))), .fact 100027 (Fact.at 27 (Fact.rep [] ((0 : Int) : Int))), .fact 100028 (Fact.at 28 (Fact.rep [] (false : Bool))), .fact 100029 (Fact.at 29 (Fact.rep [] ((0 : Int) : Int))), .fact 100030 (Fact.at 30 (Fact.rep [] ((0 : Int) : Int))), .fact 100031 (Fact.at 31 (Fact.rep [] (false : Bool))), .fact 100032 (Fact.at 32 (Fact.rep [] (false : Bool))), .fact 100017 (Fact.obj 17 [(false, 1), (false, 1), (false, 1), (false, 1), (false, 1), (false, 1), (false, 1)]), .fact 100025 (Fact.obj 25 [(false, 1), (false, 1), (false, 1), (false, 1), (false, 1), (false, 1), (false, 1)])] _ _
  refine CWalk.seq ?_
  refine CWalk.seq ?_
  refine CWalk.region ?_
  refine mv ?_
  refine wo (Spec.neqI (Has.s rfl) Has.int) ?_
  refine Walk.nil ?_
  refine Leaf.thenN ?_
  refine CWalk.cond rfl (fun hb => ?_) (fun hb => ?_)
  ·have hm := cond_t hb hm
   refine CWalk.seq ?_
   refine CWalk.region ?_
   refine wo (Spec.build (us := []) (ls' := [(false, 1, Fact.rep [] ((0 : UInt32) : UInt32)), (false, 1, Fact.rep [] ((0 : Int) : Int)), (false, 1, Fact.rep [] (false : Bool)), (false, 1, Fact.rep [] ((0 : Int) : Int)), (false, 1, Fact.rep [] ((0 : Int) : Int)), (false, 1, Fact.rep [] (false : Bool)), (false, 1, Fact.rep [] (false : Bool))]) bd26 rfl BP.nil) ?_
   refine mv ?_
   refine ws (Step.storeObj (ls := [(false, 1, Fact.rep [] ((0 : UInt32) : UInt32)), (false, 1, Fact.rep [] ((0 : Int) : Int)), (false, 1, Fact.rep [] (false : Bool)), (false, 1, Fact.rep [] ((0 : Int) : Int)), (false, 1, Fact.rep [] ((0 : Int) : Int)), (false, 1, Fact.rep [] (false : Bool)), (false, 1, Fact.rep [] (false : Bool))]) rfl ty26 rfl rfl (Has.s rfl) rfl (HasL.flds (Has.s rfl)) rfl) ?_
   refine wo (Spec.assign (Has.s rfl)) ?_
   refine Walk.nil ?_
   refine Leaf.thenN ?_
   refine CWalk.ret ?_
   refine Leaf.thenR ?_
   obtain rfl := Option.some.inj hm
   exact Leaf.retC2 rfl (HasR.cv (HasR.obj (ls := [(false, 1, Fact.rep [] ((0 : UInt32) : UInt32)), (false, 1, Fact.rep [] ((0 : Int) : Int)), (false, 1, Fact.rep [] (false : Bool)), (false, 1, Fact.rep [] ((0 : Int) : Int)), (false, 1, Fact.rep [] ((0 : Int) : Int)), (false, 1, Fact.rep [] (false : Bool)), (false, 1, Fact.rep [] (false : Bool))]) ty26 rfl rfl (Has.s rfl) rfl (HasGs.cons (HasG.s rfl) (HasGs.cons (HasG.s rfl) (HasGs.cons (HasG.s rfl) (HasGs.cons (HasG.s rfl) (HasGs.cons (HasG.s rfl) (HasGs.cons (HasG.s rfl) (HasGs.cons (HasG.s rfl) HasGs.nil)))))))) (Cv.trans (Cv.trans (Cv.flds (CvL.cons Cv.fl (CvL.cons Cv.fl (CvL.cons Cv.fl (CvL.cons Cv.fl (CvL.cons Cv.fl (CvL.cons Cv.fl (CvL.cons Cv.fl CvL.nil)))))))) (Cv.close (T := []) (chLoss (Loss.mk (0 : UInt32) (0 : Int) false (0 : Int) (0 : Int) false false)))) Cv.fl)) (HasR.cv (HasR.tmp (Has.s rfl)) Cv.fl)
  ·have hm := cond_f hb hm
   refine CWalk.skip ?_
   refine Leaf.thenN ?_
   refine CWalk.seq ?_
   refine CWalk.region ?_
   refine wo (Spec.fieldAddrO fd26_3 (Has.cv (Has.s rfl) (Cv.isvP rfl))) ?_
   refine wo (Spec.loadF (i := 3) ty3 rfl (Has.s rfl) rfl (HasG.s rfl)) ?_
   refine wo (Spec.addI (Has.s rfl) Has.int) ?_
   refine wo (Spec.fieldAddrO fd26_3 (Has.cv (Has.s rfl) (Cv.isvP rfl))) ?_
   refine ws (Step.storeF (i := 3) (f := Fact.rep [] ((wI (a1.Pos + (1 : Int))) : Int)) rfl ty3 rfl (Has.s rfl) rfl (Has.s rfl) (Has.s rfl) rfl) ?_
   refine Walk.nil ?_
   refine Leaf.thenN ?_
   refine CWalk.seq ?_
   refine CWalk.region ?_
   refine wo (Spec.loadObj (ls := [(false, 1, Fact.rep [] (a1.Events : UInt32)), (false, 1, Fact.rep [] (a1.Lost : Int)), (false, 1, Fact.rep [] (a1.Spare : Bool)), (false, 1, Fact.rep [] ((wI (a1.Pos + (1 : Int))) : Int)), (false, 1, Fact.rep [] (a1.Done : Int)), (false, 1, Fact.rep [] (a1.NoLog : Bool)), (false, 1, Fact.rep [] (a1.Broken : Bool))]) ty26 rfl rfl (Has.s rfl) rfl (HasGs.cons (HasG.s rfl) (HasGs.cons (HasG.s rfl) (HasGs.cons (HasG.s rfl) (HasGs.cons (HasG.s rfl) (HasGs.cons (HasG.s rfl) (HasGs.cons (HasG.s rfl) (HasGs.cons (HasG.s rfl) HasGs.nil)))))))) ?_
   refine ws (Step.storeObj (ls := [(false, 1, Fact.rep [] (a1.Events : UInt32)), (false, 1, Fact.rep [] (a1.Lost : Int)), (false, 1, Fact.rep [] (a1.Spare : Bool)), (false, 1, Fact.rep [] ((wI (a1.Pos + (1 : Int))) : Int)), (false, 1, Fact.rep [] (a1.Done : Int)), (false, 1, Fact.rep [] (a1.NoLog : Bool)), (false, 1, Fact.rep [] (a1.Broken : Bool))]) rfl ty26 rfl rfl (Has.s rfl) rfl (HasL.flds (Has.s rfl)) rfl) ?_
   refine wo (Spec.assign Has.int) ?_
   refine Walk.nil ?_
   refine Leaf.thenN ?_
   refine CWalk.ret ?_
   obtain rfl := Option.some.inj hm
   exact Leaf.retC2 rfl (HasR.cv (HasR.obj (ls := [(false, 1, Fact.rep [] (a1.Events : UInt32)), (false, 1, Fact.rep [] (a1.Lost : Int)), (false, 1, Fact.rep [] (a1.Spare : Bool)), (false, 1, Fact.rep [] ((wI (a1.Pos + (1 : Int))) : Int)), (false, 1, Fact.rep [] (a1.Done : Int)), (false, 1, Fact.rep [] (a1.NoLog : Bool)), (false, 1, Fact.rep [] (a1.Broken : Bool))]) ty26 rfl rfl (Has.s rfl) rfl (HasGs.cons (HasG.s rfl) (HasGs.cons (HasG.s rfl) (HasGs.cons (HasG.s rfl) (HasGs.cons (HasG.s rfl) (HasGs.cons (HasG.s rfl) (HasGs.cons (HasG.s rfl) (HasGs.cons (HasG.s rfl) HasGs.nil)))))))) (Cv.trans (Cv.trans (Cv.flds (CvL.cons Cv.fl (CvL.cons Cv.fl (CvL.cons Cv.fl (CvL.cons Cv.fl (CvL.cons Cv.fl (CvL.cons Cv.fl (CvL.cons Cv.fl CvL.nil)))))))) (Cv.close (T := []) (chLoss (Loss.mk a1.Events a1.Lost a1.Spare (wI (a1.Pos + (1 : Int))) a1.Done a1.NoLog a1.Broken)))) Cv.fl)) (HasR.cv (HasR.tmp (Has.s rfl)) Cv.fl)
 ·refine CWalk.seq ?_
  obtain ⟨x3, hx3, hm⟩ := bind_some hm
  refine CWalk.drawM [[], [0], [0, 1], [0, 1, 2], [0, 1, 2, 3], [0, 1, 2, 3, 4], [0, 1, 2, 3, 4, 5], [0, 1, 2, 3, 4, 5, 6], [0, 1, 2, 3, 4, 5, 6, 7], [0, 1, 2, 3, 4, 5, 6], [0, 1, 2, 3, 4, 5, 6, 9], [0, 1, 2, 3, 4, 5, 6, 7, 8, 9, 10], [0, 1, 2, 3, 4, 5, 6, 7, 8, 9, 10, 11], [0, 1, 2, 3, 4, 5, 6, 7, 8, 9, 10, 11, 12]] [[.fact 10 (Fact.rep [] (x1 : Int))], [.fact 11 (Fact.rep [] ((x1 == (0 : Int)) : Bool))], [.fact 12 (Fact.rep [] ((x1 == (0 : Int)) : Bool))], [.fact 13 (Fact.under ((x1 == (0 : Int)) = true) (.pto 17 2))], [.fact 14 (Fact.under ((x1 == (0 : Int)) = true) (.rep [] (a1.Spare : Bool)))], [.fact 15 (Fact.under ((x1 == (0 : Int)) = true) (.rep [] ((!a1.Spare) : Bool)))], [.fact 16 (Fact.under ((x1 == (0 : Int)) = true) (.rep [] ((!a1.Spare) : Bool)))], [.fact 17 (Fact.under (((x1 == (0 : Int)) = true) ∧ ((!a1.Spare) = false)) (.pto 17 3))], [.fact 18 (Fact.under (((x1 == (0 : Int)) = true) ∧ ((!a1.Spare) = false)) (.rep [] (a1.Pos : Int)))], [.fact 19 (Fact.under (((x1 == (0 : Int)) = true) ∧ ((!a1.Spare) = false)) (.flds [(false, 1, Fact.rep [] (a0.Id : UInt32)), (false, 1, Fact.rep [] (a0.Members : Int)), (false, 1, Fact.rep [] (a0.Chunk : Int)), (false, 1, Fact.rep [] (a0.Rows : Int)), (false, 1, Fact.rep [] (a0.Log : Int)), (false, 1, Fact.rep [] (a0.Heads : Int))]))], [.fact 20 (Fact.under (((x1 == (0 : Int)) = true) ∧ ((!a1.Spare) = false)) (.rep [] (x3 : Int)))], [.fact 21 (Fact.under (((x1 == (0 : Int)) = true) ∧ ((!a1.Spare) = false)) (.rep [] ((decide (a1.Pos ≥ x3)) : Bool)))], [.fact 22 (Fact.under ((x1 == (0 : Int)) = true) (.rep [] (((!a1.Spare) || (decide (a1.Pos ≥ x3))) : Bool)))], [.fact 23 (Fact.rep [] (((x1 == (0 : Int)) && ((!a1.Spare) || (decide (a1.Pos ≥ x3)))) : Bool))]] mixed (by kernel_rfl) (ao (so (Spec.move (Has.s rfl))) (ao (so (Spec.eqlI (Has.s rfl) Has.int)) (ao (so (Spec.move (Has.s rfl))) (ao (StepG.opg rfl rfl rfl (fun hb => Spec.fieldAddrO fd26_2 (Has.cv (Has.s rfl) (Cv.isvP rfl)))) (ao (StepG.opg rfl rfl rfl (fun hb => Spec.loadF (i := 2) ty4 rfl (Has.u rfl hb) rfl (HasG.s rfl))) (ao (StepG.opg rfl rfl rfl (fun hb => Spec.not (Has.u rfl hb))) (ao (StepG.opg rfl rfl rfl (fun hb => Spec.move (Has.u rfl hb))) (ao (StepG.opgu rfl rfl rfl (fun hb => Spec.fieldAddrO fd26_3 (Has.cv (Has.s rfl) (Cv.isvP rfl)))) (ao (StepG.opgu rfl rfl rfl (fun hb => Spec.loadF (i := 3) ty3 rfl (Has.u rfl hb) rfl (HasG.s rfl))) (ao (StepG.opgu rfl rfl rfl (fun hb => Spec.loadObj (ls := [(false, 1, Fact.rep [] (a0.Id : UInt32)), (false, 1, Fact.rep [] (a0.Members : Int)), (false, 1, Fact.rep [] (a0.Chunk : Int)), (false, 1, Fact.rep [] (a0.Rows : Int)), (false, 1, Fact.rep [] (a0.Log : Int)), (false, 1, Fact.rep [] (a0.Heads : Int))]) ty24 rfl rfl (Has.s rfl) rfl (HasGs.cons (HasG.s rfl) (HasGs.cons (HasG.s rfl) (HasGs.cons (HasG.s rfl) (HasGs.cons (HasG.s rfl) (HasGs.cons (HasG.s rfl) (HasGs.cons (HasG.s rfl) HasGs.nil)))))))) (ao (StepG.opgu rfl rfl rfl (fun hb => Spec.callE [] 34 rfl en33 (ref06_Stripes_c a0 (gO_t hx3 (and_t hb.1 (not_t hb.2)))) (HasAll.cons (Has.fl (Has.cv (Has.u rfl hb) (Cv.trans (Cv.flds (CvL.cons Cv.fl (CvL.cons Cv.fl (CvL.cons Cv.fl (CvL.cons Cv.fl (CvL.cons Cv.fl (CvL.cons Cv.fl CvL.nil))))))) (Cv.close (T := []) (chConfig a0))))) HasAll.nil))) (ao (StepG.opgu rfl rfl rfl (fun hb => Spec.geqI (Has.u rfl hb) (Has.u rfl hb))) (ao (StepG.opg rfl rfl rfl (fun hb => Spec.or (Has.u rfl hb) (fun h => Has.u rfl ⟨hb, h⟩))) (ao (so (Spec.and (Has.s rfl) (fun h => Has.u rfl h))) AllM.nil)))))))))))))) ?_
  refine Leaf.thenN ?_
  refine CWalk.cond rfl (fun hb => ?_) (fun hb => ?_)
  ·have hm := cond_t hb hm
   refine CWalk.region ?_
   refine wo (Spec.assign Has.int) ?_
   refine Walk.nil ?_
   exact Leaf.join (6 : Int) hm (sn (sn (st (sf (sf (sf (sf (sf (sf (sf (sf (sf (sf (sf (sf (sf (sf (sn (sn Sub.nil)))))))))))))))))))
  ·have hm := cond_f hb hm
   refine CWalk.skip ?_
   exact Leaf.join x1 hm (sn (sn (st (sf (sf (sf (sf (sf (sf (sf (sf (sf (sf (sf (sf (sf (sf (sn (sn Sub.nil)))))))))))))))))))

def loss_Mark_J1 (a1 : Loss) (j2 : Int) (j3 : Bool) (j4 : Int) (j5 : Int) : Option (Loss × Int) :=
  some ((Loss.mk a1.Events j2 j3 j4 j5 a1.NoLog a1.Broken), (0 : Int))
def loss_Mark_J2 (a1 : Loss) : Option (Loss × Int) :=
  (loss_Mark_J1 a1 (-1 : Int) false (0 : Int) (0 : Int))
/-- freeboard/loss.Mark -/
def loss_Mark (a0 : Config) (a1 : Loss) : Option (Loss × Int) :=
  Option.bind (loss_Check a0 a1) (fun x1 => (bif (x1 != (0 : Int)) then some ((Loss.mk (0 : UInt32) (0 : Int) false (0 : Int) (0 : Int) false false), x1) else (bif ((!a1.Spare) || (a1.Done == a1.Pos)) then some ((Loss.mk (0 : UInt32) (0 : Int) false (0 : Int) (0 : Int) false false), (6 : Int)) else Option.bind (shape_Stripes a0) (fun x6 => (bif (a1.Pos == x6.1) then (loss_Mark_J2 a1) else (loss_Mark_J1 a1 a1.Lost a1.Spare a1.Pos a1.Pos))))))
set_option maxRecDepth 100000 in
set_option maxHeartbeats 2000000 in
theorem loss_Mark_c (a0 : Config) (a1 : Loss) {r : Loss × Int} (hm : loss_Mark a0 a1 = some r) : Ctr Try.prog 16 [.rep 0 a0, .rep 0 a1] (.tup2 (.fl r.1) (.fl r.2)) [] := by
 refine ctr_of_walk [[]] 58 Try.func16 rfl rfl rfl rfl (fun w0 om => ?_)
 unfold loss_Mark at hm
 refine CWalk.sub (G' := [.fact 0 (Fact.rep [] (a0 : Config)), .fact 1 (Fact.rep [] (a1 : Loss))]) (Sub.cons (Has.fl (Has.s rfl)) (Sub.cons (Has.fl (Has.s rfl)) Sub.nil)) ?_
 refine CWalk.seq ?_
 refine CWalk.region ?_
 refine ws (Step.boxObj (ls := [(false, 1, Fact.rep [] (a0.Id : UInt32)), (false, 1, Fact.rep [] (a0.Members : Int)), (false, 1, Fact.rep [] (a0.Chunk : Int)), (false, 1, Fact.rep [] (a0.Rows : Int)), (false, 1, Fact.rep [] (a0.Log : Int)), (false, 1, Fact.rep [] (a0.Heads : Int))]) 10 rfl rfl rfl rfl (HasL.flds (Has.cv (Has.s rfl) (Cv.trans (Cv.opens (chConfig a0)) (Cv.flds (CvL.cons Cv.fl (CvL.cons Cv.fl (CvL.cons Cv.fl (CvL.cons Cv.fl (CvL.cons Cv.fl (CvL.cons Cv.fl CvL.nil))))))))))) ?_
 refine ws (Step.boxObj (ls := [(false, 1, Fact.rep [] (a1.Events : UInt32)), (false, 1, Fact.rep [] (a1.Lost : Int)), (false, 1, Fact.rep [] (a1.Spare : Bool)), (false, 1, Fact.rep [] (a1.Pos : Int)), (false, 1, Fact.rep [] (a1.Done : Int)), (false, 1, Fact.rep [] (a1.NoLog : Bool)), (false, 1, Fact.rep [] (a1.Broken : Bool))]) 17 rfl rfl rfl rfl (HasL.flds (Has.cv (Has.s rfl) (Cv.trans (Cv.opens (chLoss a1)) (Cv.flds (CvL.cons Cv.fl (CvL.cons Cv.fl (CvL.cons Cv.fl (CvL.cons Cv.fl (CvL.cons Cv.fl (CvL.cons Cv.fl (CvL.cons Cv.fl CvL.nil)))))))))))) ?_
 refine ws (Step.allocObj (ls := [(false, 1, Fact.rep [] ((0 : UInt32) : UInt32)), (false, 1, Fact.rep [] ((0 : Int) : Int)), (false, 1, Fact.rep [] (false : Bool)), (false, 1, Fact.rep [] ((0 : Int) : Int)), (false, 1, Fact.rep [] ((0 : Int) : Int)), (false, 1, Fact.rep [] (false : Bool)), (false, 1, Fact.rep [] (false : Bool))]) 25 rfl rfl rfl rfl zl26) ?_
 refine wo (Spec.assign Has.int) ?_
 refine Walk.nil ?_
 refine Leaf.thenN ?_
 refine CWalk.seq ?_
 refine CWalk.seq ?_
 refine CWalk.region ?_
 refine wo (Spec.loadObj (ls := [(false, 1, Fact.rep [] (a0.Id : UInt32)), (false, 1, Fact.rep [] (a0.Members : Int)), (false, 1, Fact.rep [] (a0.Chunk : Int)), (false, 1, Fact.rep [] (a0.Rows : Int)), (false, 1, Fact.rep [] (a0.Log : Int)), (false, 1, Fact.rep [] (a0.Heads : Int))]) ty24 rfl rfl (Has.s rfl) rfl (HasGs.cons (HasG.s rfl) (HasGs.cons (HasG.s rfl) (HasGs.cons (HasG.s rfl) (HasGs.cons (HasG.s rfl) (HasGs.cons (HasG.s rfl) (HasGs.cons (HasG.s rfl) HasGs.nil))))))) ?_
 refine wo (Spec.loadObj (ls := [(false, 1, Fact.rep [] (a1.Events : UInt32)), (false, 1, Fact.rep [] (a1.Lost : Int)), (false, 1, Fact.rep [] (a1.Spare : Bool)), (false, 1, Fact.rep [] (a1.Pos : Int)), (false, 1, Fact.rep [] (a1.Done : Int)), (false, 1, Fact.rep [] (a1.NoLog : Bool)), (false, 1, Fact.rep [] (a1.Broken : Bool))]) ty26 rfl rfl (Has.s rfl) rfl (HasGs.cons (HasG.s rfl) (HasGs.cons (HasG.s rfl) (HasGs.cons (HasG.s rfl) (HasGs.cons (HasG.s rfl) (HasGs.cons (HasG.s rfl) (HasGs.cons (HasG.s rfl) (HasGs.cons (HasG.s rfl) HasGs.nil)))))))) ?_
 obtain ⟨x1, hx1, hm⟩ := bind_some hm
 refine wo (f := Fact.rep [] (x1 : Int)) (Spec.callE [] 33 rfl en18 (loss_Check_c a0 a1 hx1) (HasAll.cons (Has.fl (Has.cv (Has.s rfl) (Cv.trans (Cv.flds (CvL.cons Cv.fl (CvL.cons Cv.fl (CvL.cons Cv.fl (CvL.cons Cv.fl (CvL.cons Cv.fl (CvL.cons Cv.fl CvL.nil))))))) (Cv.close (T := []) (chConfig a0))))) (HasAll.cons (Has.fl (Has.cv (Has.s rfl) (Cv.trans (Cv.flds (CvL.cons Cv.fl (CvL.cons Cv.fl (CvL.cons Cv.fl (CvL.cons Cv.fl (CvL.cons Cv.fl (CvL.cons Cv.fl (CvL.cons Cv.fl CvL.nil)))))))) (Cv.close (T := []) (chLoss a1))))) HasAll.nil))) ?_
 refine wo (Spec.assign (Has.s rfl)) ?_
 refine Walk.nil ?_
 refine Leaf.thenN ?_
 refine CWalk.seq ?_
 refine CWalk.region ?_
 refine mv ?_
 refine wo (Spec.neqI (Has.s rfl) Has.int) ?_
 refine Walk.nil ?_
 refine Leaf.thenN ?_
 refine CWalk.cond rfl (fun hb => ?_) (fun hb => ?_)
 ·have hm := cond_t hb hm
  refine CWalk.seq ?_
  refine CWalk.region ?_
  refine wo (Spec.build (us := []) (ls' := [(false, 1, Fact.rep [] ((0 : UInt32) : UInt32)), (false, 1, Fact.rep [] ((0 : Int) : Int)), (false, 1, Fact.rep [] (false : Bool)), (false, 1, Fact.rep [] ((0 : Int) : Int)), (false, 1, Fact.rep [] ((0 : Int) : Int)), (false, 1, Fact.rep [] (false : Bool)), (false, 1, Fact.rep [] (false : Bool))]) bd26 rfl BP.nil) ?_
  refine mv ?_
  refine ws (Step.storeObj (ls := [(false, 1, Fact.rep [] ((0 : UInt32) : UInt32)), (false, 1, Fact.rep [] ((0 : Int) : Int)), (false, 1, Fact.rep [] (false : Bool)), (false, 1, Fact.rep [] ((0 : Int) : Int)), (false, 1, Fact.rep [] ((0 : Int) : Int)), (false, 1, Fact.rep [] (false : Bool)), (false, 1, Fact.rep [] (false : Bool))]) rfl ty26 rfl rfl (Has.s rfl) rfl (HasL.flds (Has.s rfl)) rfl) ?_
  refine wo (Spec.assign (Has.s rfl)) ?_
  refine Walk.nil ?_
  refine Leaf.thenN ?_
  refine CWalk.ret ?_
  refine Leaf.thenR ?_
  obtain rfl := Option.some.inj hm
  exact Leaf.retC2 rfl (HasR.cv (HasR.obj (ls := [(false, 1, Fact.rep [] ((0 : UInt32) : UInt32)), (false, 1, Fact.rep [] ((0 : Int) : Int)), (false, 1, Fact.rep [] (false : Bool)), (false, 1, Fact.rep [] ((0 : Int) : Int)), (false, 1, Fact.rep [] ((0 : Int) : Int)), (false, 1, Fact.rep [] (false : Bool)), (false, 1, Fact.rep [] (false : Bool))]) ty26 rfl rfl (Has.s rfl) rfl (HasGs.cons (HasG.s rfl) (HasGs.cons (HasG.s rfl) (HasGs.cons (HasG.s rfl) (HasGs.cons (HasG.s rfl) (HasGs.cons (HasG.s rfl) (HasGs.cons (HasG.s rfl) (HasGs.cons (HasG.s rfl) HasGs.nil)))))))) (Cv.trans (Cv.trans (Cv.flds (CvL.cons Cv.fl (CvL.cons Cv.fl (CvL.cons Cv.fl (CvL.cons Cv.fl (CvL.cons Cv.fl (CvL.cons Cv.fl (CvL.cons Cv.fl CvL.nil)))))))) (Cv.close (T := []) (chLoss (Loss.mk (0 : UInt32) (0 : Int) false (0 : Int) (0 : Int) false false)))) Cv.fl)) (HasR.cv (HasR.tmp (Has.s rfl)) Cv.fl)
 ·have hm := cond_f hb hm
  refine CWalk.skip ?_
  refine Leaf.thenN ?_
  refine CWalk.seq ?_
  refine CWalk.seq ?_
  refine CWalk.region ?_
  refine wo (Spec.fieldAddrO fd26_2 (Has.cv (Has.s rfl) (Cv.isvP rfl))) ?_
  refine wo (Spec.loadF (i := 2) ty4 rfl (Has.s rfl) rfl (HasG.s rfl)) ?_
  refine wo (Spec.not (Has.s rfl)) ?_
  refine mv ?_
  refine wg rfl rfl (fun hb => Spec.fieldAddrO fd26_4 (Has.cv (Has.s rfl) (Cv.isvP rfl))) ?_
  refine wg rfl rfl (fun hb => Spec.loadF (i := 4) ty3 rfl (Has.u rfl hb) rfl (HasG.s rfl)) ?_
  refine wg rfl rfl (fun hb => Spec.fieldAddrO fd26_3 (Has.cv (Has.s rfl) (Cv.isvP rfl))) ?_
  refine wg rfl rfl (fun hb => Spec.loadF (i := 3) ty3 rfl (Has.u rfl hb) rfl (HasG.s rfl)) ?_
  refine wg rfl rfl (fun hb => Spec.eqlI (Has.u rfl hb) (Has.u rfl hb)) ?_
  refine wo (Spec.or (Has.s rfl) (fun h => Has.u rfl h)) ?_
  refine Walk.nil ?_
  refine Leaf.thenN ?_
  refine CWalk.cond rfl (fun hb => ?_) (fun hb => ?_)
  ·have hm := cond_t hb hm
   refine CWalk.seq ?_
   refine CWalk.region ?_
   refine wo (Spec.build (us := []) (ls' := [(false, 1, Fact.rep [] ((0 : UInt32) : UInt32)), (false, 1, Fact.rep [] ((0 : Int) : Int)), (false, 1, Fact.rep [] (false : Bool)), (false, 1, Fact.rep [] ((0 : Int) : Int)), (false, 1, Fact.rep [] ((0 : Int) : Int)), (false, 1, Fact.rep [] (false : Bool)), (false, 1, Fact.rep [] (false : Bool))]) bd26 rfl BP.nil) ?_
   refine ws (Step.storeObj (ls := [(false, 1, Fact.rep [] ((0 : UInt32) : UInt32)), (false, 1, Fact.rep [] ((0 : Int) : Int)), (false, 1, Fact.rep [] (false : Bool)), (false, 1, Fact.rep [] ((0 : Int) : Int)), (false, 1, Fact.rep [] ((0 : Int) : Int)), (false, 1, Fact.rep [] (false : Bool)), (false, 1, Fact.rep [] (false : Bool))]) rfl ty26 rfl rfl (Has.s rfl) rfl (HasL.flds (Has.s rfl)) rfl) ?_
   refine wo (Spec.assign Has.int) ?_
   refine Walk.nil ?_
   refine Leaf.thenN ?_
   refine CWalk.ret ?_
   refine Leaf.thenR ?_
   obtain rfl := Option.some.inj hm
   exact Leaf.retC2 rfl (HasR.cv (HasR.obj (ls := [(false, 1, Fact.rep [] ((0 : UInt32) : UInt32)), (false, 1, Fact.rep [] ((0 : Int) : Int)), (false, 1, Fact.rep [] (false : Bool)), (false, 1, Fact.rep [] ((0 : Int) : Int)), (false, 1, Fact.rep [] ((0 : Int) : Int)), (false, 1, Fact.rep [] (false : Bool)), (false, 1, Fact.rep [] (false : Bool))]) ty26 rfl rfl (Has.s rfl) rfl (HasGs.cons (HasG.s rfl) (HasGs.cons (HasG.s rfl) (HasGs.cons (HasG.s rfl) (HasGs.cons (HasG.s rfl) (HasGs.cons (HasG.s rfl) (HasGs.cons (HasG.s rfl) (HasGs.cons (HasG.s rfl) HasGs.nil)))))))) (Cv.trans (Cv.trans (Cv.flds (CvL.cons Cv.fl (CvL.cons Cv.fl (CvL.cons Cv.fl (CvL.cons Cv.fl (CvL.cons Cv.fl (CvL.cons Cv.fl (CvL.cons Cv.fl CvL.nil)))))))) (Cv.close (T := []) (chLoss (Loss.mk (0 : UInt32) (0 : Int) false (0 : Int) (0 : Int) false false)))) Cv.fl)) (HasR.cv (HasR.tmp (Has.s rfl)) Cv.fl)
  ·have hm := cond_f hb hm
   refine CWalk.skip ?_
   refine Leaf.thenN ?_
   refine CWalk.seq ?_
   refine CWalk.region ?_
   refine wo (Spec.loadObj (ls := [(false, 1, Fact.rep [] (a1.Events : UInt32)), (false, 1, Fact.rep [] (a1.Lost : Int)), (false, 1, Fact.rep [] (a1.Spare : Bool)), (false, 1, Fact.rep [] (a1.Pos : Int)), (false, 1, Fact.rep [] (a1.Done : Int)), (false, 1, Fact.rep [] (a1.NoLog : Bool)), (false, 1, Fact.rep [] (a1.Broken : Bool))]) ty26 rfl rfl (Has.s rfl) rfl (HasGs.cons (HasG.s rfl) (HasGs.cons (HasG.s rfl) (HasGs.cons (HasG.s rfl) (HasGs.cons (HasG.s rfl) (HasGs.cons (HasG.s rfl) (HasGs.cons (HasG.s rfl) (HasGs.cons (HasG.s rfl) HasGs.nil)))))))) ?_
   refine wo (Spec.build (us := [(0, .tmp 28)]) (ls' := [(true, 7, Fact.flds [(false, 1, Fact.rep [] (a1.Events : UInt32)), (false, 1, Fact.rep [] (a1.Lost : Int)), (false, 1, Fact.rep [] (a1.Spare : Bool)), (false, 1, Fact.rep [] (a1.Pos : Int)), (false, 1, Fact.rep [] (a1.Done : Int)), (false, 1, Fact.rep [] (a1.NoLog : Bool)), (false, 1, Fact.rep [] (a1.Broken : Bool))])]) bd80 rfl (BP.cons rfl rfl (Has.cv (Has.s rfl) (Cv.trans (Cv.flds (CvL.cons Cv.fl (CvL.cons Cv.fl (CvL.cons Cv.fl (CvL.cons Cv.fl (CvL.cons Cv.fl (CvL.cons Cv.fl (CvL.cons Cv.fl CvL.nil)))))))) (Cv.close (T := []) (chLoss a1)))) (Has.s rfl) BP.nil)) ?_
   refine ws (Step.boxObj (ls := [(false, 1, Fact.rep [] (a1.Events : UInt32)), (false, 1, Fact.rep [] (a1.Lost : Int)), (false, 1, Fact.rep [] (a1.Spare : Bool)), (false, 1, Fact.rep [] (a1.Pos : Int)), (false, 1, Fact.rep [] (a1.Done : Int)), (false, 1, Fact.rep [] (a1.NoLog : Bool)), (false, 1, Fact.rep [] (a1.Broken : Bool))]) 34 rfl rfl rfl rfl (HasL.flds (Has.cv (Has.s rfl) (Cv.flat (FlatR.sub (FlatR.cons (FlatR.cons (FlatR.cons (FlatR.cons (FlatR.cons (FlatR.cons (FlatR.cons FlatR.nil))))))) rfl FlatR.nil))))) ?_
   refine wo (Spec.assign (Has.s rfl)) ?_
   refine Walk.nil ?_
   refine Leaf.thenN ?_
   refine CWalk.seq ?_
   refine CWalk.region ?_
   refine mv ?_
   refine mv ?_
   refine wo (Spec.nilCheckI (Has.s rfl) rfl) ?_
   refine wo (Spec.fieldAddrO fd80_0 (Has.cv (Has.s rfl) (Cv.isvP rfl))) ?_
   refine wo (Spec.fieldAddrO fd26_3 (Has.s rfl)) ?_
   refine wo (Spec.loadF (i := 3) ty3 rfl (Has.s rfl) rfl (HasG.s rfl)) ?_
   refine wo (Spec.nilCheckI (Has.s rfl) rfl) ?_
   refine wo (Spec.fieldAddrO fd80_0 (Has.cv (Has.s rfl) (Cv.isvP rfl))) ?_
   refine wo (Spec.fieldAddrO fd26_4 (Has.s rfl)) ?_
   refine ws (Step.storeF (i := 4) (f := Fact.rep [] (a1.Pos : Int)) rfl ty3 rfl (Has.s rfl) rfl (Has.s rfl) (Has.s rfl) rfl) ?_
   refine Walk.nil ?_
   refine Leaf.thenN ?_
   refine CWalk.seqJ (fun p : Int × Bool × Int × Int => [.fact 4 (Fact.isv 25), .fact 7 (Fact.isv 34), .fact 100026 (Fact.at 26 (Fact.rep [] ((0 : UInt32) : UInt32))), .fact 100027 (Fact.at 27 (Fact.rep [] ((0 : Int) : Int))), .fact 100028 (Fact.at 28 (Fact.rep [] (false : Bool))), .fact 100029 (Fact.at 29 (Fact.rep [] ((0 : Int) : Int))), .fact 100030 (Fact.at 30 (Fact.rep [] ((0 : Int) : Int))), .fact 100031 (Fact.at 31 (Fact.rep [] (false : Bool))), .fact 100032 (Fact.at 32 (Fact.rep [] (false : Bool))), .fact 100035 (Fact.at 35 (Fact.rep [] (a1.Events : UInt32))), .fact 100036 (Fact.at 36 (Fact.rep [] (p.1 : Int))), .fact 100037 (Fact.at 37 (Fact.rep [] (p.2.1 : Bool))), .fact 100038 (Fact.at 38 (Fact.rep [] (p.2.2.1 : Int))), .fact 100039 (Fact.at 39 (Fact.rep [] (p.2.2.2 : Int))), .fact 100040 (Fact.at 40 (Fact.rep [] (a1.NoLog : Bool))), .fact 100041 (Fact.at 41 (Fact.rep [] (a1.Broken : Bool))), .fact 100025 (Fact.obj 25 [(false, 1), (false, 1), (false, 1), (false, 1), (false, 1), (false, 1), (false, 1)]), .fact 100034 (Fact.obj 34 [(false, 1), (false, 1), (false, 1), (false, 1), (false, 1), (false, 1), (false, 1)])]) (fun p : Int × Bool × Int × Int => loss_Mark_J1 a1 p.1 p.2.1 p.2.2.1 p.2.2.2 = some r) ?_ ?_
   ·rintro ⟨j2, j3, j4, j5⟩ hm
    replace hm : loss_Mark_J1 a1 j2 j3 j4 j5 = some r := hm
    unfold loss_Mark_J1 at hm
    show CWalk _ [.fact 4 (Fact.isv 25), .fact 7 (Fact.isv 34), .fact 100026 (Fact.at 26 (Fact.rep [] ((0 : UInt32) : UInt32))), .fact 100027 (Fact.at 27 (Fact.rep [] ((0 : Int) : Int))), .fact 100028 (Fact.at 28 (Fact.rep [] (false : Bool))), .fact 100029 (Fact.at 29 (Fact.rep [] ((0 : Int) : Int))), .fact 100030 (Fact.at 30 (Fact.rep [] ((0 : Int) : Int))), .fact 100031 (Fact.at 31 (Fact.rep [] (false : Bool))), .fact 100032 (Fact.at 32 (Fact.rep [] (false : Bool))), .fact 100035 (Fact.at 35 (Fact.rep [] (a1.Events : UInt32))), .fact 100036 (Fact.at 36 (Fact.rep [] (j2 : Int))), .fact 100037 (Fact.at 37 (Fact.rep [] (j3 : Bool))), .fact 100038 (Fact.at 38 (Fact.rep [] (j4 : Int))), .fact 100039 (Fact.at 39 (Fact.rep [] (j5 : Int))), .fact 100040 (Fact.at 40 (Fact.rep [] (a1.NoLog : Bool))), .fact 100041 (Fact.at 41 (Fact.rep [] (a1.Broken : Bool))), .fact 100025 (Fact.obj 25 [(false, 1), (false, 1), (false, 1), (false, 1), (false, 1), (false, 1), (false, 1)]), .fact 100034 (Fact.obj 34 [(false, 1), (false, 1), (false, 1), (false, 1), (false, 1), (false, 1), (false, 1)])] _ _
    refine CWalk.seq ?_
    refine CWalk.region ?_
    refine mv ?_
    refine wo (Spec.nilCheckI (Has.s rfl) rfl) ?_
    refine wo (Spec.fieldAddrO fd80_0 (Has.cv (Has.s rfl) (Cv.isvP rfl))) ?_
    refine wo (Spec.loadParts (i := 0) (a := []) (b := []) (ls := [(false, 1, Fact.rep [] (a1.Events : UInt32)), (false, 1, Fact.rep [] (j2 : Int)), (false, 1, Fact.rep [] (j3 : Bool)), (false, 1, Fact.rep [] (j4 : Int)), (false, 1, Fact.rep [] (j5 : Int)), (false, 1, Fact.rep [] (a1.NoLog : Bool)), (false, 1, Fact.rep [] (a1.Broken : Bool))]) ty26 rfl rfl rfl rfl rfl (Has.s rfl) rfl (HasGs.cons (HasG.s rfl) (HasGs.cons (HasG.s rfl) (HasGs.cons (HasG.s rfl) (HasGs.cons (HasG.s rfl) (HasGs.cons (HasG.s rfl) (HasGs.cons (HasG.s rfl) (HasGs.cons (HasG.s rfl) HasGs.nil)))))))) ?_
    refine ws (Step.storeObj (ls := [(false, 1, Fact.rep [] (a1.Events : UInt32)), (false, 1, Fact.rep [] (j2 : Int)), (false, 1, Fact.rep [] (j3 : Bool)), (false, 1, Fact.rep [] (j4 : Int)), (false, 1, Fact.rep [] (j5 : Int)), (false, 1, Fact.rep [] (a1.NoLog : Bool)), (false, 1, Fact.rep [] (a1.Broken : Bool))]) rfl ty26 rfl rfl (Has.s rfl) rfl (HasL.flds (Has.s rfl)) rfl) ?_
    refine wo (Spec.assign Has.int) ?_
    refine Walk.nil ?_
    refine Leaf.thenN ?_
    refine CWalk.ret ?_
    obtain rfl := Option.some.inj hm
    exact Leaf.retC2 rfl (HasR.cv (HasR.obj (ls := [(false, 1, Fact.rep [] (a1.Events : UInt32)), (false, 1, Fact.rep [] (j2 : Int)), (false, 1, Fact.rep [] (j3 : Bool)), (false, 1, Fact.rep [] (j4 : Int)), (false, 1, Fact.rep [] (j5 : Int)), (false, 1, Fact.rep [] (a1.NoLog : Bool)), (false, 1, Fact.rep [] (a1.Broken : Bool))]) ty26 rfl rfl (Has.s rfl) rfl (HasGs.cons (HasG.s rfl) (HasGs.cons (HasG.s rfl) (HasGs.cons (HasG.s rfl) (HasGs.cons (HasG.s rfl) (HasGs.cons (HasG.s rfl) (HasGs.cons (HasG.s rfl) (HasGs.cons (HasG.s rfl) HasGs.nil)))))))) (Cv.trans (Cv.trans (Cv.flds (CvL.cons Cv.fl (CvL.cons Cv.fl (CvL.cons Cv.fl (CvL.cons Cv.fl (CvL.cons Cv.fl (CvL.cons Cv.fl (CvL.cons Cv.fl CvL.nil)))))))) (Cv.close (T := []) (chLoss (Loss.mk a1.Events j2 j3 j4 j5 a1.NoLog a1.Broken)))) Cv.fl)) (HasR.cv (HasR.tmp (Has.s rfl)) Cv.fl)
   ·refine CWalk.seq ?_
    refine CWalk.region ?_
    refine wo (Spec.loadObj (ls := [(false, 1, Fact.rep [] (a0.Id : UInt32)), (false, 1, Fact.rep [] (a0.Members : Int)), (false, 1, Fact.rep [] (a0.Chunk : Int)), (false, 1, Fact.rep [] (a0.Rows : Int)), (false, 1, Fact.rep [] (a0.Log : Int)), (false, 1, Fact.rep [] (a0.Heads : Int))]) ty24 rfl rfl (Has.s rfl) rfl (HasGs.cons (HasG.s rfl) (HasGs.cons (HasG.s rfl) (HasGs.cons (HasG.s rfl) (HasGs.cons (HasG.s rfl) (HasGs.cons (HasG.s rfl) (HasGs.cons (HasG.s rfl) HasGs.nil))))))) ?_
    obtain ⟨x6, hx6, hm⟩ := bind_some hm
    refine wo (f := Fact.tup2 (Fact.rep [] (x6.1 : Int)) (Fact.rep [] (x6.2 : Int))) (Spec.callE [] 42 rfl en32 (shape_Stripes_c a0 hx6) (HasAll.cons (Has.fl (Has.cv (Has.s rfl) (Cv.trans (Cv.flds (CvL.cons Cv.fl (CvL.cons Cv.fl (CvL.cons Cv.fl (CvL.cons Cv.fl (CvL.cons Cv.fl (CvL.cons Cv.fl CvL.nil))))))) (Cv.close (T := []) (chConfig a0))))) HasAll.nil)) ?_
    refine mv ?_
    refine wo (Spec.ext0 (Has.s rfl)) ?_
    refine wo (Spec.ext1 (Has.s rfl)) ?_
    refine wo (Spec.assign (Has.s rfl)) ?_
    refine wo (Spec.assign (Has.s rfl)) ?_
    refine Walk.nil ?_
    refine Leaf.thenN ?_
    refine CWalk.seq ?_
    refine CWalk.region ?_
    refine mv ?_
    refine wo (Spec.nilCheckI (Has.s rfl) rfl) ?_
    refine wo (Spec.fieldAddrO fd80_0 (Has.cv (Has.s rfl) (Cv.isvP rfl))) ?_
    refine wo (Spec.fieldAddrO fd26_3 (Has.s rfl)) ?_
    refine wo (Spec.loadF (i := 3) ty3 rfl (Has.s rfl) rfl (HasG.s rfl)) ?_
    refine mv ?_
    refine wo (Spec.eqlI (Has.s rfl) (Has.s rfl)) ?_
    refine Walk.nil ?_
    refine Leaf.thenN ?_
    refine CWalk.cond rfl (fun hb => ?_) (fun hb => ?_)
    ·have hm := cond_t hb hm
     refine CWalk.region ?_
     refine mv ?_
     refine Walk.inline (S := Unit) (fun p : Unit => [.fact 4 (Fact.isv 25), .fact 7 (Fact.isv 34), .fact 53 (Fact.top), .fact 100026 (Fact.at 26 (Fact.rep [] ((0 : UInt32) : UInt32))), .fact 100027 (Fact.at 27 (Fact.rep [] ((0 : Int) : Int))), .fact 100028 (Fact.at 28 (Fact.rep [] (false : Bool))), .fact 100029 (Fact.at 29 (Fact.rep [] ((0 : Int) : Int))), .fact 100030 (Fact.at 30 (Fact.rep [] ((0 : Int) : Int))), .fact 100031 (Fact.at 31 (Fact.rep [] (false : Bool))), .fact 100032 (Fact.at 32 (Fact.rep [] (false : Bool))), .fact 100035 (Fact.at 35 (Fact.rep [] (a1.Events : UInt32))), .fact 100036 (Fact.at 36 (Fact.rep [] ((-1 : Int) : Int))), .fact 100037 (Fact.at 37 (Fact.rep [] (false : Bool))), .fact 100038 (Fact.at 38 (Fact.rep [] ((0 : Int) : Int))), .fact 100039 (Fact.at 39 (Fact.rep [] ((0 : Int) : Int))), .fact 100040 (Fact.at 40 (Fact.rep [] (a1.NoLog : Bool))), .fact 100041 (Fact.at 41 (Fact.rep [] (a1.Broken : Bool))), .fact 100025 (Fact.obj 25 [(false, 1), (false, 1), (false, 1), (false, 1), (false, 1), (false, 1), (false, 1)]), .fact 100034 (Fact.obj 34 [(false, 1), (false, 1), (false, 1), (false, 1), (false, 1), (false, 1), (false, 1)])]) (fun p : Unit => loss_Mark_J2 a1 = some r) (fun u1 => [.fact 100026 (Fact.at 26 (Fact.rep [] ((0 : UInt32) : UInt32))), .fact 100027 (Fact.at 27 (Fact.rep [] ((0 : Int) : Int))), .fact 100028 (Fact.at 28 (Fact.rep [] (false : Bool))), .fact 100029 (Fact.at 29 (Fact.rep [] ((0 : Int) : Int))), .fact 100030 (Fact.at 30 (Fact.rep [] ((0 : Int) : Int))), .fact 100031 (Fact.at 31 (Fact.rep [] (false : Bool))), .fact 100032 (Fact.at 32 (Fact.rep [] (false : Bool))), .fact 100035 (Fact.at 35 (Fact.rep [] (a1.Events : UInt32))), .fact 100036 (Fact.at 36 (Fact.rep [] (a1.Lost : Int))), .fact 100037 (Fact.at 37 (Fact.rep [] (a1.Spare : Bool))), .fact 100038 (Fact.at 38 (Fact.rep [] (a1.Pos : Int))), .fact 100039 (Fact.at 39 (Fact.rep [] (a1.Pos : Int))), .fact 100040 (Fact.at 40 (Fact.rep [] (a1.NoLog : Bool))), .fact 100041 (Fact.at 41 (Fact.rep [] (a1.Broken : Bool))), .fact 902004 (Fact.cst (u1 4) (Fact.isv 25)), .fact 902007 (Fact.cst (u1 7) (Fact.isv 34)), .fact 100025 (Fact.obj 25 [(false, 1), (false, 1), (false, 1), (false, 1), (false, 1), (false, 1), (false, 1)]), .fact 100034 (Fact.obj 34 [(false, 1), (false, 1), (false, 1), (false, 1), (false, 1), (false, 1), (false, 1)])]) (FA := [Fact.isv 34, Fact.rep [] ((-1 : Int) : Int)]) rfl Try.func37 rfl rfl rfl (CallOk.fn en37 (HasF.cons (Has.s rfl) (HasF.cons Has.int HasF.nil))) (fun u1 => (ck (ck (ck (ck (ck (ck (ck (ck (ck (ck (ck (ck (ck (ck (cs 902000 4 (cs 902000 7 (ck (ck Carry.nil))))))))))))))))))) (fun u1 => ?_) ?_
     ·refine CWalk.region ?_
      refine mv ?_
      refine mv ?_
      refine mv ?_
      refine mv ?_
      refine mv ?_
      refine wo (Spec.nilCheckI (Has.s rfl) rfl) ?_
      refine wo (Spec.fieldAddrO fd80_0 (Has.cv (Has.s rfl) (Cv.isvP rfl))) ?_
      refine wo (Spec.fieldAddrO fd26_1 (Has.s rfl)) ?_
      refine ws (Step.storeF (i := 1) (f := Fact.rep [] ((-1 : Int) : Int)) rfl ty3 rfl (Has.s rfl) rfl (Has.s rfl) (Has.s rfl) rfl) ?_
      refine wo (Spec.nilCheckI (Has.s rfl) rfl) ?_
      refine wo (Spec.fieldAddrO fd80_0 (Has.cv (Has.s rfl) (Cv.isvP rfl))) ?_
      refine wo (Spec.fieldAddrO fd26_2 (Has.s rfl)) ?_
      refine ws (Step.storeF (i := 2) (f := Fact.rep [] (false : Bool)) rfl ty4 rfl (Has.s rfl) rfl Has.bool Has.bool rfl) ?_
      refine wo (Spec.nilCheckI (Has.s rfl) rfl) ?_
      refine wo (Spec.fieldAddrO fd80_0 (Has.cv (Has.s rfl) (Cv.isvP rfl))) ?_
      refine wo (Spec.fieldAddrO fd26_3 (Has.s rfl)) ?_
      refine ws (Step.storeF (i := 3) (f := Fact.rep [] ((0 : Int) : Int)) rfl ty3 rfl (Has.s rfl) rfl Has.int Has.int rfl) ?_
      refine wo (Spec.nilCheckI (Has.s rfl) rfl) ?_
      refine wo (Spec.fieldAddrO fd80_0 (Has.cv (Has.s rfl) (Cv.isvP rfl))) ?_
      refine wo (Spec.fieldAddrO fd26_4 (Has.s rfl)) ?_
      refine ws (Step.storeF (i := 4) (f := Fact.rep [] ((0 : Int) : Int)) rfl ty3 rfl (Has.s rfl) rfl Has.int Has.int rfl) ?_
      refine Walk.nil ?_
      exact Leaf.inN (Leaf.in0 (f0 := Fact.top) () hm rfl rfl (fun _ _ => trivial) (ls 902004 (ls 902007 (Low.res (lf (lf (lf (lf (lf (lf (lf (lf (lf (lf (lf (lf (lf (lf (lo (lo Low.nil))))))))))))))))))))
     ·rintro _ hm
      replace hm : loss_Mark_J2 a1 = some r := hm
      unfold loss_Mark_J2 at hm
      show Walk _ _ _ [.fact 4 (Fact.isv 25), .fact 7 (Fact.isv 34), .fact 53 (Fact.top), .fact 100026 (Fact.at 26 (Fact.rep [] ((0 : UInt32) : UInt32))), .fact 100027 (Fact.at 27 (Fact.rep [] ((0 : Int) : Int))), .fact 100028 (Fact.at 28 (Fact.rep [] (false : Bool))), .fact 100029 (Fact.at 29 (Fact.rep [] ((0 : Int) : Int))), .fact 100030 (Fact.at 30 (Fact.rep [] ((0 : Int) : Int))), .fact 100031 (Fact.at 31 (Fact.rep [] (false : Bool))), .fact 100032 (Fact.at 32 (Fact.rep [] (false : Bool))), .fact 100035 (Fact.at 35 (Fact.rep [] (a1.Events : UInt32))), .fact 100036 (Fact.at 36 (Fact.rep [] ((-1 : Int) : Int))), .fact 100037 (Fact.at 37 (Fact.rep [] (false : Bool))), .fact 100038 (Fact.at 38 (Fact.rep [] ((0 : Int) : Int))), .fact 100039 (Fact.at 39 (Fact.rep [] ((0 : Int) : Int))), .fact 100040 (Fact.at 40 (Fact.rep [] (a1.NoLog : Bool))), .fact 100041 (Fact.at 41 (Fact.rep [] (a1.Broken : Bool))), .fact 100025 (Fact.obj 25 [(false, 1), (false, 1), (false, 1), (false, 1), (false, 1), (false, 1), (false, 1)]), .fact 100034 (Fact.obj 34 [(false, 1), (false, 1), (false, 1), (false, 1), (false, 1), (false, 1), (false, 1)])] _
      refine Walk.nil ?_
      exact Leaf.join ((-1 : Int), false, (0 : Int), (0 : Int)) hm (sn (sn (sf (sf (sf (sf (sf (sf (sf (sf (sf (sf (sf (sf (sf (sf (sn (sn Sub.nil))))))))))))))))))
    ·have hm := cond_f hb hm
     refine CWalk.skip ?_
     exact Leaf.join (a1.Lost, a1.Spare, a1.Pos, a1.Pos) hm (sn (sn (sf (sf (sf (sf (sf (sf (sf (sf (sf (sf (sf (sf (sf (sf (sn (sn Sub.nil))))))))))))))))))

def ref23_Marked_J1 (a1 : Loss) (j1 : Int) (j2 : Bool) (j3 : Int) (j4 : Int) : Option (Loss) :=
  some (Loss.mk a1.Events j1 j2 j3 j4 a1.NoLog a1.Broken)
/-- freeboard/freeboardref23.Marked -/
def ref23_Marked (a0 : Config) (a1 : Loss) : Option (Loss) :=
  Option.bind (ref06_Stripes a0) (fun x5 => (bif (a1.Pos == x5) then (ref23_Marked_J1 a1 (-1 : Int) false (0 : Int) (0 : Int)) else (ref23_Marked_J1 a1 a1.Lost a1.Spare a1.Pos a1.Pos)))
set_option maxRecDepth 100000 in
set_option maxHeartbeats 2000000 in
theorem ref23_Marked_c (a0 : Config) (a1 : Loss) {r : Loss} (hm : ref23_Marked a0 a1 = some r) : Ctr Try.prog 38 [.rep 0 a0, .rep 0 a1] (.fl r) [] := by
 refine ctr_of_walk [[]] 18 Try.func38 rfl rfl rfl rfl (fun w0 om => ?_)
 unfold ref23_Marked at hm
 refine CWalk.sub (G' := [.fact 0 (Fact.rep [] (a0 : Config)), .fact 1 (Fact.rep [] (a1 : Loss))]) (Sub.cons (Has.fl (Has.s rfl)) (Sub.cons (Has.fl (Has.s rfl)) Sub.nil)) ?_
 refine CWalk.seq ?_
 refine CWalk.region ?_
 refine ws (Step.boxObj (ls := [(false, 1, Fact.rep [] (a0.Id : UInt32)), (false, 1, Fact.rep [] (a0.Members : Int)), (false, 1, Fact.rep [] (a0.Chunk : Int)), (false, 1, Fact.rep [] (a0.Rows : Int)), (false, 1, Fact.rep [] (a0.Log : Int)), (false, 1, Fact.rep [] (a0.Heads : Int))]) 10 rfl rfl rfl rfl (HasL.flds (Has.cv (Has.s rfl) (Cv.trans (Cv.opens (chConfig a0)) (Cv.flds (CvL.cons Cv.fl (CvL.cons Cv.fl (CvL.cons Cv.fl (CvL.cons Cv.fl (CvL.cons Cv.fl (CvL.cons Cv.fl CvL.nil))))))))))) ?_
 refine ws (Step.boxObj (ls := [(false, 1, Fact.rep [] (a1.Events : UInt32)), (false, 1, Fact.rep [] (a1.Lost : Int)), (false, 1, Fact.rep [] (a1.Spare : Bool)), (false, 1, Fact.rep [] (a1.Pos : Int)), (false, 1, Fact.rep [] (a1.Done : Int)), (false, 1, Fact.rep [] (a1.NoLog : Bool)), (false, 1, Fact.rep [] (a1.Broken : Bool))]) 17 rfl rfl rfl rfl (HasL.flds (Has.cv (Has.s rfl) (Cv.trans (Cv.opens (chLoss a1)) (Cv.flds (CvL.cons Cv.fl (CvL.cons Cv.fl (CvL.cons Cv.fl (CvL.cons Cv.fl (CvL.cons Cv.fl (CvL.cons Cv.fl (CvL.cons Cv.fl CvL.nil)))))))))))) ?_
 refine ws (Step.allocObj (ls := [(false, 1, Fact.rep [] ((0 : UInt32) : UInt32)), (false, 1, Fact.rep [] ((0 : Int) : Int)), (false, 1, Fact.rep [] (false : Bool)), (false, 1, Fact.rep [] ((0 : Int) : Int)), (false, 1, Fact.rep [] ((0 : Int) : Int)), (false, 1, Fact.rep [] (false : Bool)), (false, 1, Fact.rep [] (false : Bool))]) 25 rfl rfl rfl rfl zl26) ?_
 refine Walk.nil ?_
 refine Leaf.thenN ?_
 refine CWalk.seq ?_
 refine CWalk.region ?_
 refine wo (Spec.fieldAddrO fd26_3 (Has.cv (Has.s rfl) (Cv.isvP rfl))) ?_
 refine wo (Spec.loadF (i := 3) ty3 rfl (Has.s rfl) rfl (HasG.s rfl)) ?_
 refine wo (Spec.fieldAddrO fd26_4 (Has.cv (Has.s rfl) (Cv.isvP rfl))) ?_
 refine ws (Step.storeF (i := 4) (f := Fact.rep [] (a1.Pos : Int)) rfl ty3 rfl (Has.s rfl) rfl (Has.s rfl) (Has.s rfl) rfl) ?_
 refine Walk.nil ?_
 refine Leaf.thenN ?_
 refine CWalk.seqJ (fun p : Int × Bool × Int × Int => [.fact 3 (Fact.isv 17), .fact 4 (Fact.isv 25), .fact 100018 (Fact.at 18 (Fact.rep [] (a1.Events : UInt32))), .fact 100019 (Fact.at 19 (Fact.rep [] (p.1 : Int))), .fact 100020 (Fact.at 20 (Fact.rep [] (p.2.1 : Bool))), .fact 100021 (Fact.at 21 (Fact.rep [] (p.2.2.1 : Int))), .fact 100022 (Fact.at 22 (Fact.rep [] (p.2.2.2 : Int))), .fact 100023 (Fact.at 23 (Fact.rep [] (a1.NoLog : Bool))), .fact 100024 (Fact.at 24 (Fact.rep [] (a1.Broken : Bool))), .fact 100026 (Fact.at 26 (Fact.rep [] ((0 : UInt32) : UInt32))), .fact 100027 (Fact.at 27 (Fact.rep [] ((0 : Int) : Int))), .fact 100028 (Fact.at 28 (Fact.rep [] (false : Bool))), .fact 100029 (Fact.at 29 (Fact.rep [] ((0 : Int) : Int))), .fact 100030 (Fact.at 30 (Fact.rep [] ((0 : Int) : Int))), .fact 100031 (Fact.at 31 (Fact.rep [] (false : Bool))), .fact 100032 (Fact.at 32 (Fact.rep [] (false : Bool))), .fact 100017 (Fact.obj 17 [(false, 1), (false, 1), (false, 1), (false, 1), (false, 1), (false, 1), (false, 1)]), .fact 100025 (Fact.obj 25 [(false, 1), (false, 1), (false, 1), (false, 1), (false, 1), (false, 1), (false, 1)])]) (fun p : Int × Bool × Int × Int => ref23_Marked_J1 a1 p.1 p.2.1 p.2.2.1 p.2.2.2 = some r) ?_ ?_
 ·rintro ⟨j1, j2, j3, j4⟩ hm
  replace hm : ref23_Marked_J1 a1 j1 j2 j3 j4 = some r := hm
  unfold ref23_Marked_J1 at hm
  show CWalk _ [.fact 3 (Fact.isv 17), .fact 4 (Fact.isv 25), .fact 100018 (Fact.at 18 (Fact.rep [] (a1.Events : UInt32))), .fact 100019 (Fact.at 19 (Fact.rep [] (j1 : Int))), .fact 100020 (Fact.at 20 (Fact.rep [] (j2 : Bool))), .fact 100021 (Fact.at 21 (Fact.rep [] (j3 : Int))), .fact 100022 (Fact.at 22 (Fact.rep [] (j4 : Int))), .fact 100023 (Fact.at 23 (Fact.rep [] (a1.NoLog : Bool))), .fact 100024 (Fact.at 24 (Fact.rep [] (a1.Broken : Bool))), .fact 100026 (Fact.at 26 (Fact.rep [] ((0 : UInt32) : UInt32))), .fact 100027 (Fact.at 27 (Fact.rep [] ((0 : Int) : Int))), .fact 100028 (Fact.at 28 (Fact.rep [] (false : Bool))), .fact 100029 (Fact.at 29 (Fact.rep [] ((0 : Int) : Int))), .fact 100030 (Fact.at 30 (Fact.rep [] ((0 : Int) : Int))), .fact 100031 (Fact.at 31 (Fact.rep [] (false : Bool))), .fact 100032 (Fact.at 32 (Fact.rep [] (false : Bool))), .fact 100017 (Fact.obj 17 [(false, 1), (false, 1), (false, 1), (false, 1), (false, 1), (false, 1), (false, 1)]), .fact 100025 (Fact.obj 25 [(false, 1), (false, 1), (false, 1), (false, 1), (false, 1), (false, 1), (false, 1)])] _ _
  refine CWalk.seq ?_
  refine CWalk.region ?_
  refine wo (Spec.loadObj (ls := [(false, 1, Fact.rep [] (a1.Events : UInt32)), (false, 1, Fact.rep [] (j1 : Int)), (false, 1, Fact.rep [] (j2 : Bool)), (false, 1, Fact.rep [] (j3 : Int)), (false, 1, Fact.rep [] (j4 : Int)), (false, 1, Fact.rep [] (a1.NoLog : Bool)), (false, 1, Fact.rep [] (a1.Broken : Bool))]) ty26 rfl rfl (Has.s rfl) rfl (HasGs.cons (HasG.s rfl) (HasGs.cons (HasG.s rfl) (HasGs.cons (HasG.s rfl) (HasGs.cons (HasG.s rfl) (HasGs.cons (HasG.s rfl) (HasGs.cons (HasG.s rfl) (HasGs.cons (HasG.s rfl) HasGs.nil)))))))) ?_
  refine ws (Step.storeObj (ls := [(false, 1, Fact.rep [] (a1.Events : UInt32)), (false, 1, Fact.rep [] (j1 : Int)), (false, 1, Fact.rep [] (j2 : Bool)), (false, 1, Fact.rep [] (j3 : Int)), (false, 1, Fact.rep [] (j4 : Int)), (false, 1, Fact.rep [] (a1.NoLog : Bool)), (false, 1, Fact.rep [] (a1.Broken : Bool))]) rfl ty26 rfl rfl (Has.s rfl) rfl (HasL.flds (Has.s rfl)) rfl) ?_
  refine Walk.nil ?_
  refine Leaf.thenN ?_
  refine CWalk.ret ?_
  obtain rfl := Option.some.inj hm
  exact Leaf.retC1 rfl (HasR.cv (HasR.obj (ls := [(false, 1, Fact.rep [] (a1.Events : UInt32)), (false, 1, Fact.rep [] (j1 : Int)), (false, 1, Fact.rep [] (j2 : Bool)), (false, 1, Fact.rep [] (j3 : Int)), (false, 1, Fact.rep [] (j4 : Int)), (false, 1, Fact.rep [] (a1.NoLog : Bool)), (false, 1, Fact.rep [] (a1.Broken : Bool))]) ty26 rfl rfl (Has.s rfl) rfl (HasGs.cons (HasG.s rfl) (HasGs.cons (HasG.s rfl) (HasGs.cons (HasG.s rfl) (HasGs.cons (HasG.s rfl) (HasGs.cons (HasG.s rfl) (HasGs.cons (HasG.s rfl) (HasGs.cons (HasG.s rfl) HasGs.nil)))))))) (Cv.trans (Cv.trans (Cv.flds (CvL.cons Cv.fl (CvL.cons Cv.fl (CvL.cons Cv.fl (CvL.cons Cv.fl (CvL.cons Cv.fl (CvL.cons Cv.fl (CvL.cons Cv.fl CvL.nil)))))))) (Cv.close (T := []) (chLoss (Loss.mk a1.Events j1 j2 j3 j4 a1.NoLog a1.Broken)))) Cv.fl))
 ·refine CWalk.seq ?_
  obtain ⟨x5, hx5, hm⟩ := bind_some hm
  refine CWalk.drawM [[], [0], [], [2], [0, 1, 2, 3]] [[.fact 8 (Fact.pto 17 3)], [.fact 9 (Fact.rep [] (a1.Pos : Int))], [.fact 10 (Fact.flds [(false, 1, Fact.rep [] (a0.Id : UInt32)), (false, 1, Fact.rep [] (a0.Members : Int)), (false, 1, Fact.rep [] (a0.Chunk : Int)), (false, 1, Fact.rep [] (a0.Rows : Int)), (false, 1, Fact.rep [] (a0.Log : Int)), (false, 1, Fact.rep [] (a0.Heads : Int))])], [.fact 11 (Fact.rep [] (x5 : Int))], [.fact 12 (Fact.rep [] ((a1.Pos == x5) : Bool))]] mixed (by kernel_rfl) (ao (so (Spec.fieldAddrO fd26_3 (Has.cv (Has.s rfl) (Cv.isvP rfl)))) (ao (so (Spec.loadF (i := 3) ty3 rfl (Has.s rfl) rfl (HasG.s rfl))) (ao (so (Spec.loadObj (ls := [(false, 1, Fact.rep [] (a0.Id : UInt32)), (false, 1, Fact.rep [] (a0.Members : Int)), (false, 1, Fact.rep [] (a0.Chunk : Int)), (false, 1, Fact.rep [] (a0.Rows : Int)), (false, 1, Fact.rep [] (a0.Log : Int)), (false, 1, Fact.rep [] (a0.Heads : Int))]) ty24 rfl rfl (Has.s rfl) rfl (HasGs.cons (HasG.s rfl) (HasGs.cons (HasG.s rfl) (HasGs.cons (HasG.s rfl) (HasGs.cons (HasG.s rfl) (HasGs.cons (HasG.s rfl) (HasGs.cons (HasG.s rfl) HasGs.nil)))))))) (ao (so (Spec.callE [] 33 rfl en33 (ref06_Stripes_c a0 hx5) (HasAll.cons (Has.fl (Has.cv (Has.s rfl) (Cv.trans (Cv.flds (CvL.cons Cv.fl (CvL.cons Cv.fl (CvL.cons Cv.fl (CvL.cons Cv.fl (CvL.cons Cv.fl (CvL.cons Cv.fl CvL.nil))))))) (Cv.close (T := []) (chConfig a0))))) HasAll.nil))) (ao (so (Spec.eqlI (Has.s rfl) (Has.s rfl))) AllM.nil))))) ?_
  refine Leaf.thenN ?_
  refine CWalk.cond rfl (fun hb => ?_) (fun hb => ?_)
  ·have hm := cond_t hb hm
   refine CWalk.seq ?_
   refine CWalk.region ?_
   refine wo (Spec.fieldAddrO fd26_1 (Has.cv (Has.s rfl) (Cv.isvP rfl))) ?_
   refine ws (Step.storeF (i := 1) (f := Fact.rep [] ((-1 : Int) : Int)) rfl ty3 rfl (Has.s rfl) rfl Has.int Has.int rfl) ?_
   refine Walk.nil ?_
   refine Leaf.thenN ?_
   refine CWalk.seq ?_
   refine CWalk.region ?_
   refine wo (Spec.fieldAddrO fd26_2 (Has.cv (Has.s rfl) (Cv.isvP rfl))) ?_
   refine ws (Step.storeF (i := 2) (f := Fact.rep [] (false : Bool)) rfl ty4 rfl (Has.s rfl) rfl Has.bool Has.bool rfl) ?_
   refine Walk.nil ?_
   refine Leaf.thenN ?_
   refine CWalk.seq ?_
   refine CWalk.region ?_
   refine wo (Spec.fieldAddrO fd26_3 (Has.cv (Has.s rfl) (Cv.isvP rfl))) ?_
   refine ws (Step.storeF (i := 3) (f := Fact.rep [] ((0 : Int) : Int)) rfl ty3 rfl (Has.s rfl) rfl Has.int Has.int rfl) ?_
   refine Walk.nil ?_
   refine Leaf.thenN ?_
   refine CWalk.region ?_
   refine wo (Spec.fieldAddrO fd26_4 (Has.cv (Has.s rfl) (Cv.isvP rfl))) ?_
   refine ws (Step.storeF (i := 4) (f := Fact.rep [] ((0 : Int) : Int)) rfl ty3 rfl (Has.s rfl) rfl Has.int Has.int rfl) ?_
   refine Walk.nil ?_
   exact Leaf.join ((-1 : Int), false, (0 : Int), (0 : Int)) hm (sn (sn (sf (sf (sf (sf (sf (sf (sf (sf (sf (sf (sf (sf (sf (sf (sn (sn Sub.nil))))))))))))))))))
  ·have hm := cond_f hb hm
   refine CWalk.skip ?_
   exact Leaf.join (a1.Lost, a1.Spare, a1.Pos, a1.Pos) hm (sn (sn (sf (sf (sf (sf (sf (sf (sf (sf (sf (sf (sf (sf (sf (sf (sn (sn Sub.nil))))))))))))))))))

def ref23_Mark_J1 (a0 : Config) (a1 : Loss) (j2 : Int) : Option (Loss × Int) :=
  (bif (j2 != (0 : Int)) then some ((Loss.mk (0 : UInt32) (0 : Int) false (0 : Int) (0 : Int) false false), j2) else Option.bind (ref23_Marked a0 a1) (fun x3 => some (x3, (0 : Int))))
/-- freeboard/freeboardref23.Mark -/
def ref23_Mark (a0 : Config) (a1 : Loss) : Option (Loss × Int) :=
  Option.bind (ref23_Check a0 a1) (fun x1 => (bif ((x1 == (0 : Int)) && ((!a1.Spare) || (decide (a1.Done ≥ a1.Pos)))) then (ref23_Mark_J1 a0 a1 (6 : Int)) else (ref23_Mark_J1 a0 a1 x1)))
set_option maxRecDepth 100000 in
set_option maxHeartbeats 2000000 in
theorem ref23_Mark_c (a0 : Config) (a1 : Loss) {r : Loss × Int} (hm : ref23_Mark a0 a1 = some r) : Ctr Try.prog 17 [.rep 0 a0, .rep 0 a1] (.tup2 (.fl r.1) (.fl r.2)) [] := by
 refine ctr_of_walk [[]] 31 Try.func17 rfl rfl rfl rfl (fun w0 om => ?_)
 unfold ref23_Mark at hm
 refine CWalk.sub (G' := [.fact 0 (Fact.rep [] (a0 : Config)), .fact 1 (Fact.rep [] (a1 : Loss))]) (Sub.cons (Has.fl (Has.s rfl)) (Sub.cons (Has.fl (Has.s rfl)) Sub.nil)) ?_
 refine CWalk.seq ?_
 refine CWalk.region ?_
 refine ws (Step.boxObj (ls := [(false, 1, Fact.rep [] (a0.Id : UInt32)), (false, 1, Fact.rep [] (a0.Members : Int)), (false, 1, Fact.rep [] (a0.Chunk : Int)), (false, 1, Fact.rep [] (a0.Rows : Int)), (false, 1, Fact.rep [] (a0.Log : Int)), (false, 1, Fact.rep [] (a0.Heads : Int))]) 10 rfl rfl rfl rfl (HasL.flds (Has.cv (Has.s rfl) (Cv.trans (Cv.opens (chConfig a0)) (Cv.flds (CvL.cons Cv.fl (CvL.cons Cv.fl (CvL.cons Cv.fl (CvL.cons Cv.fl (CvL.cons Cv.fl (CvL.cons Cv.fl CvL.nil))))))))))) ?_
 refine ws (Step.boxObj (ls := [(false, 1, Fact.rep [] (a1.Events : UInt32)), (false, 1, Fact.rep [] (a1.Lost : Int)), (false, 1, Fact.rep [] (a1.Spare : Bool)), (false, 1, Fact.rep [] (a1.Pos : Int)), (false, 1, Fact.rep [] (a1.Done : Int)), (false, 1, Fact.rep [] (a1.NoLog : Bool)), (false, 1, Fact.rep [] (a1.Broken : Bool))]) 17 rfl rfl rfl rfl (HasL.flds (Has.cv (Has.s rfl) (Cv.trans (Cv.opens (chLoss a1)) (Cv.flds (CvL.cons Cv.fl (CvL.cons Cv.fl (CvL.cons Cv.fl (CvL.cons Cv.fl (CvL.cons Cv.fl (CvL.cons Cv.fl (CvL.cons Cv.fl CvL.nil)))))))))))) ?_
 refine ws (Step.allocObj (ls := [(false, 1, Fact.rep [] ((0 : UInt32) : UInt32)), (false, 1, Fact.rep [] ((0 : Int) : Int)), (false, 1, Fact.rep [] (false : Bool)), (false, 1, Fact.rep [] ((0 : Int) : Int)), (false, 1, Fact.rep [] ((0 : Int) : Int)), (false, 1, Fact.rep [] (false : Bool)), (false, 1, Fact.rep [] (false : Bool))]) 25 rfl rfl rfl rfl zl26) ?_
 refine wo (Spec.assign Has.int) ?_
 refine Walk.nil ?_
 refine Leaf.thenN ?_
 refine CWalk.seq ?_
 refine CWalk.region ?_
 refine wo (Spec.loadObj (ls := [(false, 1, Fact.rep [] (a0.Id : UInt32)), (false, 1, Fact.rep [] (a0.Members : Int)), (false, 1, Fact.rep [] (a0.Chunk : Int)), (false, 1, Fact.rep [] (a0.Rows : Int)), (false, 1, Fact.rep [] (a0.Log : Int)), (false, 1, Fact.rep [] (a0.Heads : Int))]) ty24 rfl rfl (Has.s rfl) rfl (HasGs.cons (HasG.s rfl) (HasGs.cons (HasG.s rfl) (HasGs.cons (HasG.s rfl) (HasGs.cons (HasG.s rfl) (HasGs.cons (HasG.s rfl) (HasGs.cons (HasG.s rfl) HasGs.nil))))))) ?_
 refine wo (Spec.loadObj (ls := [(false, 1, Fact.rep [] (a1.Events : UInt32)), (false, 1, Fact.rep [] (a1.Lost : Int)), (false, 1, Fact.rep [] (a1.Spare : Bool)), (false, 1, Fact.rep [] (a1.Pos : Int)), (false, 1, Fact.rep [] (a1.Done : Int)), (false, 1, Fact.rep [] (a1.NoLog : Bool)), (false, 1, Fact.rep [] (a1.Broken : Bool))]) ty26 rfl rfl (Has.s rfl) rfl (HasGs.cons (HasG.s rfl) (HasGs.cons (HasG.s rfl) (HasGs.cons (HasG.s rfl) (HasGs.cons (HasG.s rfl) (HasGs.cons (HasG.s rfl) (HasGs.cons (HasG.s rfl) (HasGs.cons (HasG.s rfl) HasGs.nil)))))))) ?_
 obtain ⟨x1, hx1, hm⟩ := bind_some hm
 refine wo (f := Fact.rep [] (x1 : Int)) (Spec.callE [] 33 rfl en19 (ref23_Check_c a0 a1 hx1) (HasAll.cons (Has.fl (Has.cv (Has.s rfl) (Cv.trans (Cv.flds (CvL.cons Cv.fl (CvL.cons Cv.fl (CvL.cons Cv.fl (CvL.cons Cv.fl (CvL.cons Cv.fl (CvL.cons Cv.fl CvL.nil))))))) (Cv.close (T := []) (chConfig a0))))) (HasAll.cons (Has.fl (Has.cv (Has.s rfl) (Cv.trans (Cv.flds (CvL.cons Cv.fl (CvL.cons Cv.fl (CvL.cons Cv.fl (CvL.cons Cv.fl (CvL.cons Cv.fl (CvL.cons Cv.fl (CvL.cons Cv.fl CvL.nil)))))))) (Cv.close (T := []) (chLoss a1))))) HasAll.nil))) ?_
 refine wo (Spec.assign (Has.s rfl)) ?_
 refine Walk.nil ?_
 refine Leaf.thenN ?_
 refine CWalk.seqJ (fun p : Int => [.fact 2 (Fact.isv 10), .fact 3 (Fact.isv 17), .fact 4 (Fact.isv 25), .fact 6 (Fact.rep [] (p : Int)), .fact 100011 (Fact.at 11 (Fact.rep [] (a0.Id : UInt32))), .fact 100012 (Fact.at 12 (Fact.rep [] (a0.Members : Int))), .fact 100013 (Fact.at 13 (Fact.rep [] (a0.Chunk : Int))), .fact 100014 (Fact.at 14 (Fact.rep [] (a0.Rows : Int))), .fact 100015 (Fact.at 15 (Fact.rep [] (a0.Log : Int))), .fact 100016 (Fact.at 16 (Fact.rep [] (a0.Heads : Int))), .fact 100018 (Fact.at 18 (Fact.rep [] (a1.Events : UInt32))), .fact 100019 (Fact.at 19 (Fact.rep [] (a1.Lost : Int))), .fact 100020 (Fact.at 20 (Fact.rep [] (a1.Spare : Bool))), .fact 100021 (Fact.at 21 (Fact.rep [] (a1.Pos : Int))), .fact 100022 (Fact.at 22 (Fact.rep [] (a1.Done : Int))), .fact 100023 (Fact.at 23 (Fact.rep [] (a1.NoLog : Bool))), .fact 100024 (Fact.at 24 (Fact.rep [] (a1.Broken : Bool))), .fact 100026 (Fact.at 26 (Fact.rep [] ((0 : UInt32) : UInt32))), .fact 100027 (Fact.at 27 (Fact.rep [] ((0 : Int) : Int))), .fact 100028 (Fact.at 28 (Fact.rep [] (false : Bool))), .fact 100029 (Fact.at 29 (Fact.rep [] ((0 : Int) : Int))), .fact 100030 (Fact.at 30 (Fact.rep [] ((0 : Int) : Int))), .fact 100031 (Fact.at 31 (Fact.rep [] (false : Bool))), .fact 100032 (Fact.at 32 (Fact.rep [] (false : Bool))), .fact 100010 (Fact.obj 10 [(false, 1), (false, 1), (false, 1), (false, 1), (false, 1), (false, 1)]), .fact 100017 (Fact.obj 17 [(false, 1), (false, 1), (false, 1), (false, 1), (false, 1), (false, 1), (false, 1)]), .fact 100025 (Fact.obj 25 [(false, 1), (false, 1), (false, 1), (false, 1), (false, 1), (false, 1), (false, 1)])]) (fun p : Int => ref23_Mark_J1 a0 a1 p = some r) ?_ ?_
 ·rintro j2 hm
  replace hm : ref23_Mark_J1 a0 a1 j2 = some r := hm
  unfold ref23_Mark_J1 at hm
  show CWalk _ [.fact 2 (Fact.isv 10), .fact 3 (Fact.isv 17), .fact 4 (Fact.isv 25), .fact 6 (Fact.rep [] (j2 : Int)), .fact 100011 (Fact.at 11 (Fact.rep [] (a0.Id : UInt32))), .fact 100012 (Fact.at 12 (Fact.rep [] (a0.Members : Int))), .fact 100013 (Fact.at 13 (Fact.rep [] (a0.Chunk : Int))), .fact 100014 (Fact.at 14 (Fact.rep [] (a0.Rows : Int))), .fact 100015 (Fact.at 15 (Fact.rep [] (a0.Log : Int))), .fact 100016 (Fact.at 16 (Fact.rep [] (a0.Heads : Int))), .fact 100018 (Fact.at 18 (Fact.rep [] (a1.Events : UInt32))), .fact 100019 (Fact.at 19 (Fact.rep [] (a1.Lost : Int))), .fact 100020 (Fact.at 20 (Fact.rep [] (a1.Spare : Bool))), .fact 100021 (Fact.at 21 (Fact.rep [] (a1.Pos : Int))), .fact 100022 (Fact.at 22 (Fact.rep [] (a1.Done : Int))), .fact 100023 (Fact.at 23 (Fact.rep [] (a1.NoLog : Bool))), .fact 100024 (Fact.at 24 (Fact.rep [] (a1.Broken : Bool))), .fact 100026 (Fact.at 26 (Fact.rep [] ((0 : UInt32) : UInt32))), .fact 100027 (Fact.at 27 (Fact.rep [] ((0 : Int) : Int))), .fact 100028 (Fact.at 28 (Fact.rep [] (false : Bool))), .fact 100029 (Fact.at 29 (Fact.rep [] ((0 : Int) : Int))), .fact 100030 (Fact.at 30 (Fact.rep [] ((0 : Int) : Int))), .fact 100031 (Fact.at 31 (Fact.rep [] (false : Bool))), .fact 100032 (Fact.at 32 (Fact.rep [] (false : Bool))), .fact 100010 (Fact.obj 10 [(false, 1), (false, 1), (false, 1), (false, 1), (false, 1), (false, 1)]), .fact 100017 (Fact.obj 17 [(false, 1), (false, 1), (false, 1), (false, 1), (false, 1), (false, 1), (false, 1)]), .fact 100025 (Fact.obj 25 [(false, 1), (false, 1), (false, 1), (false, 1), (false, 1), (false, 1), (false, 1)])] _ _
  refine CWalk.seq ?_
  refine CWalk.seq ?_
  refine CWalk.region ?_
  refine mv ?_
  refine wo (Spec.neqI (Has.s rfl) Has.int) ?_
  refine Walk.nil ?_
  refine Leaf.thenN ?_
  refine CWalk.cond rfl (fun hb => ?_) (fun hb => ?_)
  ·have hm := cond_t hb hm
   refine CWalk.seq ?_
   refine CWalk.region ?_
   refine wo (Spec.build (us := []) (ls' := [(false, 1, Fact.rep [] ((0 : UInt32) : UInt32)), (false, 1, Fact.rep [] ((0 : Int) : Int)), (false, 1, Fact.rep [] (false : Bool)), (false, 1, Fact.rep [] ((0 : Int) : Int)), (false, 1, Fact.rep [] ((0 : Int) : Int)), (false, 1, Fact.rep [] (false : Bool)), (false, 1, Fact.rep [] (false : Bool))]) bd26 rfl BP.nil) ?_
   refine mv ?_
   refine ws (Step.storeObj (ls := [(false, 1, Fact.rep [] ((0 : UInt32) : UInt32)), (false, 1, Fact.rep [] ((0 : Int) : Int)), (false, 1, Fact.rep [] (false : Bool)), (false, 1, Fact.rep [] ((0 : Int) : Int)), (false, 1, Fact.rep [] ((0 : Int) : Int)), (false, 1, Fact.rep [] (false : Bool)), (false, 1, Fact.rep [] (false : Bool))]) rfl ty26 rfl rfl (Has.s rfl) rfl (HasL.flds (Has.s rfl)) rfl) ?_
   refine wo (Spec.assign (Has.s rfl)) ?_
   refine Walk.nil ?_
   refine Leaf.thenN ?_
   refine CWalk.ret ?_
   refine Leaf.thenR ?_
   obtain rfl := Option.some.inj hm
   exact Leaf.retC2 rfl (HasR.cv (HasR.obj (ls := [(false, 1, Fact.rep [] ((0 : UInt32) : UInt32)), (false, 1, Fact.rep [] ((0 : Int) : Int)), (false, 1, Fact.rep [] (false : Bool)), (false, 1, Fact.rep [] ((0 : Int) : Int)), (false, 1, Fact.rep [] ((0 : Int) : Int)), (false, 1, Fact.rep [] (false : Bool)), (false, 1, Fact.rep [] (false : Bool))]) ty26 rfl rfl (Has.s rfl) rfl (HasGs.cons (HasG.s rfl) (HasGs.cons (HasG.s rfl) (HasGs.cons (HasG.s rfl) (HasGs.cons (HasG.s rfl) (HasGs.cons (HasG.s rfl) (HasGs.cons (HasG.s rfl) (HasGs.cons (HasG.s rfl) HasGs.nil)))))))) (Cv.trans (Cv.trans (Cv.flds (CvL.cons Cv.fl (CvL.cons Cv.fl (CvL.cons Cv.fl (CvL.cons Cv.fl (CvL.cons Cv.fl (CvL.cons Cv.fl (CvL.cons Cv.fl CvL.nil)))))))) (Cv.close (T := []) (chLoss (Loss.mk (0 : UInt32) (0 : Int) false (0 : Int) (0 : Int) false false)))) Cv.fl)) (HasR.cv (HasR.tmp (Has.s rfl)) Cv.fl)
  ·have hm := cond_f hb hm
   refine CWalk.skip ?_
   refine Leaf.thenN ?_
   refine CWalk.seq ?_
   refine CWalk.region ?_
   refine wo (Spec.loadObj (ls := [(false, 1, Fact.rep [] (a0.Id : UInt32)), (false, 1, Fact.rep [] (a0.Members : Int)), (false, 1, Fact.rep [] (a0.Chunk : Int)), (false, 1, Fact.rep [] (a0.Rows : Int)), (false, 1, Fact.rep [] (a0.Log : Int)), (false, 1, Fact.rep [] (a0.Heads : Int))]) ty24 rfl rfl (Has.s rfl) rfl (HasGs.cons (HasG.s rfl) (HasGs.cons (HasG.s rfl) (HasGs.cons (HasG.s rfl) (HasGs.cons (HasG.s rfl) (HasGs.cons (HasG.s rfl) (HasGs.cons (HasG.s rfl) HasGs.nil))))))) ?_
   refine wo (Spec.loadObj (ls := [(false, 1, Fact.rep [] (a1.Events : UInt32)), (false, 1, Fact.rep [] (a1.Lost : Int)), (false, 1, Fact.rep [] (a1.Spare : Bool)), (false, 1, Fact.rep [] (a1.Pos : Int)), (false, 1, Fact.rep [] (a1.Done : Int)), (false, 1, Fact.rep [] (a1.NoLog : Bool)), (false, 1, Fact.rep [] (a1.Broken : Bool))]) ty26 rfl rfl (Has.s rfl) rfl (HasGs.cons (HasG.s rfl) (HasGs.cons (HasG.s rfl) (HasGs.cons (HasG.s rfl) (HasGs.cons (HasG.s rfl) (HasGs.cons (HasG.s rfl) (HasGs.cons (HasG.s rfl) (HasGs.cons (HasG.s rfl) HasGs.nil)))))))) ?_
   obtain ⟨x3, hx3, hm⟩ := bind_some hm
   refine wo (f := Fact.rep [] (x3 : Loss)) (Spec.callE [] 34 rfl en38 (ref23_Marked_c a0 a1 hx3) (HasAll.cons (Has.fl (Has.cv (Has.s rfl) (Cv.trans (Cv.flds (CvL.cons Cv.fl (CvL.cons Cv.fl (CvL.cons Cv.fl (CvL.cons Cv.fl (CvL.cons Cv.fl (CvL.cons Cv.fl CvL.nil))))))) (Cv.close (T := []) (chConfig a0))))) (HasAll.cons (Has.fl (Has.cv (Has.s rfl) (Cv.trans (Cv.flds (CvL.cons Cv.fl (CvL.cons Cv.fl (CvL.cons Cv.fl (CvL.cons Cv.fl (CvL.cons Cv.fl (CvL.cons Cv.fl (CvL.cons Cv.fl CvL.nil)))))))) (Cv.close (T := []) (chLoss a1))))) HasAll.nil))) ?_
   refine ws (Step.storeObj (ls := [(false, 1, Fact.rep [] (x3.Events : UInt32)), (false, 1, Fact.rep [] (x3.Lost : Int)), (false, 1, Fact.rep [] (x3.Spare : Bool)), (false, 1, Fact.rep [] (x3.Pos : Int)), (false, 1, Fact.rep [] (x3.Done : Int)), (false, 1, Fact.rep [] (x3.NoLog : Bool)), (false, 1, Fact.rep [] (x3.Broken : Bool))]) rfl ty26 rfl rfl (Has.s rfl) rfl (HasL.flds (Has.cv (Has.s rfl) (Cv.trans (Cv.opens (chLoss x3)) (Cv.flds (CvL.cons Cv.fl (CvL.cons Cv.fl (CvL.cons Cv.fl (CvL.cons Cv.fl (CvL.cons Cv.fl (CvL.cons Cv.fl (CvL.cons Cv.fl CvL.nil))))))))))) rfl) ?_
   refine wo (Spec.assign Has.int) ?_
   refine Walk.nil ?_
   refine Leaf.thenN ?_
   refine CWalk.ret ?_
   obtain rfl := Option.some.inj hm
   exact Leaf.retC2 rfl (HasR.cv (HasR.obj (ls := [(false, 1, Fact.rep [] (x3.Events : UInt32)), (false, 1, Fact.rep [] (x3.Lost : Int)), (false, 1, Fact.rep [] (x3.Spare : Bool)), (false, 1, Fact.rep [] (x3.Pos : Int)), (false, 1, Fact.rep [] (x3.Done : Int)), (false, 1, Fact.rep [] (x3.NoLog : Bool)), (false, 1, Fact.rep [] (x3.Broken : Bool))]) ty26 rfl rfl (Has.s rfl) rfl (HasGs.cons (HasG.s rfl) (HasGs.cons (HasG.s rfl) (HasGs.cons (HasG.s rfl) (HasGs.cons (HasG.s rfl) (HasGs.cons (HasG.s rfl) (HasGs.cons (HasG.s rfl) (HasGs.cons (HasG.s rfl) HasGs.nil)))))))) (Cv.trans (Cv.trans (Cv.flds (CvL.cons Cv.fl (CvL.cons Cv.fl (CvL.cons Cv.fl (CvL.cons Cv.fl (CvL.cons Cv.fl (CvL.cons Cv.fl (CvL.cons Cv.fl CvL.nil)))))))) (Cv.close (T := []) (chLoss x3))) Cv.fl)) (HasR.cv (HasR.tmp (Has.s rfl)) Cv.fl)
 ·refine CWalk.seq ?_
  refine CWalk.region ?_
  refine mv ?_
  refine wo (Spec.eqlI (Has.s rfl) Has.int) ?_
  refine mv ?_
  refine wg rfl rfl (fun hb => Spec.fieldAddrO fd26_2 (Has.cv (Has.s rfl) (Cv.isvP rfl))) ?_
  refine wg rfl rfl (fun hb => Spec.loadF (i := 2) ty4 rfl (Has.u rfl hb) rfl (HasG.s rfl)) ?_
  refine wg rfl rfl (fun hb => Spec.not (Has.u rfl hb)) ?_
  refine wg rfl rfl (fun hb => Spec.move (Has.u rfl hb)) ?_
  refine Walk.opgu rfl rfl rfl (fun hb => Spec.fieldAddrO fd26_4 (Has.cv (Has.s rfl) (Cv.isvP rfl))) ?_
  refine Walk.opgu rfl rfl rfl (fun hb => Spec.loadF (i := 4) ty3 rfl (Has.u rfl hb) rfl (HasG.s rfl)) ?_
  refine Walk.opgu rfl rfl rfl (fun hb => Spec.fieldAddrO fd26_3 (Has.cv (Has.s rfl) (Cv.isvP rfl))) ?_
  refine Walk.opgu rfl rfl rfl (fun hb => Spec.loadF (i := 3) ty3 rfl (Has.u rfl hb) rfl (HasG.s rfl)) ?_
  refine Walk.opgu rfl rfl rfl (fun hb => Spec.geqI (Has.u rfl hb) (Has.u rfl hb)) ?_
  refine wg rfl rfl (fun hb => Spec.or (Has.u rfl hb) (fun h => Has.u rfl ⟨hb, h⟩)) ?_
  refine wo (Spec.and (Has.s rfl) (fun h => Has.u rfl h)) ?_
  refine Walk.nil ?_
  refine Leaf.thenN ?_
  refine CWalk.cond rfl (fun hb => ?_) (fun hb => ?_)
  ·have hm := cond_t hb hm
   refine CWalk.region ?_
   refine wo (Spec.assign Has.int) ?_
   refine Walk.nil ?_
   exact Leaf.join (6 : Int) hm (sn (sn (sn (st (sf (sf (sf (sf (sf (sf (sf (sf (sf (sf (sf (sf (sf (sf (sf (sf (sf (sf (sf (sf (sn (sn (sn Sub.nil)))))))))))))))))))))))))))
  ·have hm := cond_f hb hm
   refine CWalk.skip ?_
   exact Leaf.join x1 hm (sn (sn (sn (st (sf (sf (sf (sf (sf (sf (sf (sf (sf (sf (sf (sf (sf (sf (sf (sf (sf (sf (sf (sf (sn (sn (sn Sub.nil)))))))))))))))))))))))))))

end Go.Proofs.Ytgjibgklailenaa
