/- Printed by a program of ours: models of functions, and that calls do what they say. -/
import Derived.Test.YtjefieckineneaaProg
import Derived.Test.YtjefieckineneaaCore27
import Derived.KernelRfl
namespace Go.Proofs.Ytjefieckineneaa
open Go GL
set_option linter.unusedVariables false

structure Config where
  Id : UInt32
  Members : Int
  Chunk : Int
  Rows : Int
  Log : Int
  Heads : Int
  deriving Inhabited, DecidableEq
instance : Rp Config := Rp.via (inferInstance : Rp (UInt32 × Int × Int × Int × Int × Int)) (fun x => (x.Id, x.Members, x.Chunk, x.Rows, x.Log, x.Heads))
theorem chConfig (x : Config) : Ch x [⟨inferInstance, x.Id⟩, ⟨inferInstance, x.Members⟩, ⟨inferInstance, x.Chunk⟩, ⟨inferInstance, x.Rows⟩, ⟨inferInstance, x.Log⟩, ⟨inferInstance, x.Heads⟩] := Ch.via (ChT.cons (ChT.cons (ChT.cons (ChT.cons (ChT.cons (ChT.one _))))))
instance : Flat Config := ⟨fun F F' x cs w w' h => Flat.flat (α := UInt32 × Int × Int × Int × Int × Int) F F' ((x.Id, x.Members, x.Chunk, x.Rows, x.Log, x.Heads)) cs w w' h⟩

structure Head where
  Stripe : Int
  Blocks : List (List UInt8)
  Dirty : List Bool
  Phase : UInt8
  Deals : Bool
  Seq : UInt32
  deriving Inhabited, DecidableEq
instance : Rp Head := Rp.via (inferInstance : Rp (Int × (List (List UInt8)) × (List Bool) × UInt8 × Bool × UInt32)) (fun x => (x.Stripe, x.Blocks, x.Dirty, x.Phase, x.Deals, x.Seq))
theorem chHead (x : Head) : Ch x [⟨inferInstance, x.Stripe⟩, ⟨inferInstance, x.Blocks⟩, ⟨inferInstance, x.Dirty⟩, ⟨inferInstance, x.Phase⟩, ⟨inferInstance, x.Deals⟩, ⟨inferInstance, x.Seq⟩] := Ch.via (ChT.cons (ChT.cons (ChT.cons (ChT.cons (ChT.cons (ChT.one _))))))

structure Arr3_Int where
  e0 : Int
  e1 : Int
  e2 : Int
  deriving Inhabited, DecidableEq
instance : Rp Arr3_Int := Rp.via (inferInstance : Rp (Int × Int × Int)) (fun x => (x.e0, x.e1, x.e2))
theorem chArr3_Int (x : Arr3_Int) : Ch x [⟨inferInstance, x.e0⟩, ⟨inferInstance, x.e1⟩, ⟨inferInstance, x.e2⟩] := Ch.via (ChT.cons (ChT.cons (ChT.one _)))
instance : Flat Arr3_Int := ⟨fun F F' x cs w w' h => Flat.flat (α := Int × Int × Int) F F' ((x.e0, x.e1, x.e2)) cs w w' h⟩

structure Deal where
  Stripe : Int
  Slots : List Int
  Blocks : List (List UInt8)
  Parity : List UInt8
  deriving Inhabited, DecidableEq
instance : Rp Deal := Rp.via (inferInstance : Rp (Int × (List Int) × (List (List UInt8)) × (List UInt8))) (fun x => (x.Stripe, x.Slots, x.Blocks, x.Parity))
theorem chDeal (x : Deal) : Ch x [⟨inferInstance, x.Stripe⟩, ⟨inferInstance, x.Slots⟩, ⟨inferInstance, x.Blocks⟩, ⟨inferInstance, x.Parity⟩] := Ch.via (ChT.cons (ChT.cons (ChT.cons (ChT.one _))))

theorem zl24 : ZeroLs Try.prog 24 [(false, 1, Fact.rep [] ((0 : UInt32) : UInt32)), (false, 1, Fact.rep [] ((0 : Int) : Int)), (false, 1, Fact.rep [] ((0 : Int) : Int)), (false, 1, Fact.rep [] ((0 : Int) : Int)), (false, 1, Fact.rep [] ((0 : Int) : Int)), (false, 1, Fact.rep [] ((0 : Int) : Int))] := ⟨⟨[.int .u32 0, .int .i64 0, .int .i64 0, .int .i64 0, .int .i64 0, .int .i64 0], by kernel_rfl, fun g w => FldRel.zr (fun _ _ => rfl) (FldRel.zr (fun _ _ => rfl) (FldRel.zr (fun _ _ => rfl) (FldRel.zr (fun _ _ => rfl) (FldRel.zr (fun _ _ => rfl) (FldRel.zr (fun _ _ => rfl) (rfl))))))⟩⟩
theorem bd24 : BuildTy Try.prog 24 [(0, 1), (1, 1), (2, 1), (3, 1), (4, 1), (5, 1)] [(false, 1, Fact.rep [] ((0 : UInt32) : UInt32)), (false, 1, Fact.rep [] ((0 : Int) : Int)), (false, 1, Fact.rep [] ((0 : Int) : Int)), (false, 1, Fact.rep [] ((0 : Int) : Int)), (false, 1, Fact.rep [] ((0 : Int) : Int)), (false, 1, Fact.rep [] ((0 : Int) : Int))] := ⟨⟨_, [.int .u32 0, .int .i64 0, .int .i64 0, .int .i64 0, .int .i64 0, .int .i64 0], by kernel_rfl, Try.underlying24, (fun g w => FldRel.zr (fun _ _ => rfl) (FldRel.zr (fun _ _ => rfl) (FldRel.zr (fun _ _ => rfl) (FldRel.zr (fun _ _ => rfl) (FldRel.zr (fun _ _ => rfl) (FldRel.zr (fun _ _ => rfl) (rfl))))))), by kernel_rfl⟩⟩
theorem ty24 : Ty Try.prog 24 (Config) := Ty.of (by kernel_rfl)
theorem en40 : enters Try.prog 40 = true := by kernel_rfl
theorem zl28 : ZeroLs Try.prog 28 [(false, 1, Fact.rep [] ((0 : Int) : Int)), (false, 1, Fact.nilv), (false, 1, Fact.nilv), (false, 1, Fact.rep [] ((0 : UInt8) : UInt8)), (false, 1, Fact.rep [] (false : Bool)), (false, 1, Fact.rep [] ((0 : UInt32) : UInt32))] := ⟨⟨[.int .i64 0, .slice none 0 0, .slice none 0 0, .int .u8 0, .bool false, .int .u32 0], by kernel_rfl, fun g w => FldRel.zr (fun _ _ => rfl) (FldRel.zn (FldRel.zn (FldRel.zr (fun _ _ => rfl) (FldRel.zr (fun _ _ => rfl) (FldRel.zr (fun _ _ => rfl) (rfl))))))⟩⟩
theorem fd24_2 : FieldTy Try.prog 24 2 2 1 := FieldTy.of Try.underlying24 (by kernel_rfl) rfl
theorem ty3 : Ty Try.prog 3 (Int) := Ty.of (by kernel_rfl)
theorem fd24_3 : FieldTy Try.prog 24 3 3 1 := FieldTy.of Try.underlying24 (by kernel_rfl) rfl
theorem fd24_1 : FieldTy Try.prog 24 1 1 1 := FieldTy.of Try.underlying24 (by kernel_rfl) rfl
theorem bd107 : BuildTyA Try.prog 107 [(0, 1), (1, 1), (2, 1)] [(false, 1, Fact.rep [] ((0 : Int) : Int)), (false, 1, Fact.rep [] ((0 : Int) : Int)), (false, 1, Fact.rep [] ((0 : Int) : Int))] := ⟨⟨_, _, 1, [.int .i64 0, .int .i64 0, .int .i64 0], by kernel_rfl, Try.underlying107, by kernel_rfl, (fun g w => FldRel.zr (fun _ _ => rfl) (FldRel.zr (fun _ _ => rfl) (FldRel.zr (fun _ _ => rfl) (rfl)))), rfl⟩⟩
theorem fd24_5 : FieldTy Try.prog 24 5 5 1 := FieldTy.of Try.underlying24 (by kernel_rfl) rfl
theorem ow108 : OwnTy Try.prog 108 107 (Arr3_Int) := OwnTy.of Try.underlying108 (by kernel_rfl) rfl (by kernel_rfl)
theorem sl108 : SlTy Try.prog 108 107 (Arr3_Int) := SlTy.of Try.underlying108 (by kernel_rfl) rfl
theorem ty107 : Ty Try.prog 107 (Arr3_Int) := Ty.of (by kernel_rfl)
theorem zl107 : ZeroLs Try.prog 107 [(false, 1, Fact.rep [] ((0 : Int) : Int)), (false, 1, Fact.rep [] ((0 : Int) : Int)), (false, 1, Fact.rep [] ((0 : Int) : Int))] := ⟨⟨[.int .i64 0, .int .i64 0, .int .i64 0], by kernel_rfl, fun g w => FldRel.zr (fun _ _ => rfl) (FldRel.zr (fun _ _ => rfl) (FldRel.zr (fun _ _ => rfl) (rfl)))⟩⟩
theorem sm107 : SmTy Try.prog 107 3 3 1 := ⟨Try.underlying107, by kernel_rfl⟩
theorem en82 : enters Try.prog 82 = true := by kernel_rfl
theorem fd24_4 : FieldTy Try.prog 24 4 4 1 := FieldTy.of Try.underlying24 (by kernel_rfl) rfl
theorem en80 : enters Try.prog 80 = true := by kernel_rfl
theorem en73 : enters Try.prog 73 = true := by kernel_rfl
theorem en52 : enters Try.prog 52 = true := by kernel_rfl
theorem bd28 : BuildTy Try.prog 28 [(0, 1), (1, 1), (2, 1), (3, 1), (4, 1), (5, 1)] [(false, 1, Fact.rep [] ((0 : Int) : Int)), (false, 1, Fact.nilv), (false, 1, Fact.nilv), (false, 1, Fact.rep [] ((0 : UInt8) : UInt8)), (false, 1, Fact.rep [] (false : Bool)), (false, 1, Fact.rep [] ((0 : UInt32) : UInt32))] := ⟨⟨_, [.int .i64 0, .slice none 0 0, .slice none 0 0, .int .u8 0, .bool false, .int .u32 0], by kernel_rfl, Try.underlying28, (fun g w => FldRel.zr (fun _ _ => rfl) (FldRel.zn (FldRel.zn (FldRel.zr (fun _ _ => rfl) (FldRel.zr (fun _ _ => rfl) (FldRel.zr (fun _ _ => rfl) (rfl))))))), by kernel_rfl⟩⟩
theorem ty28 : Ty Try.prog 28 (Head) := Ty.of (by kernel_rfl)
theorem ow25 : OwnTy Try.prog 25 31 (List UInt8) := OwnTy.of Try.underlying25 (by kernel_rfl) rfl (by kernel_rfl)
theorem zt31 : ZeroTy Try.prog 31 ([] : List UInt8) := ⟨.slice none 0 0, by kernel_rfl, fun _ => nil_rel⟩
theorem ow26 : OwnTy Try.prog 26 4 (Bool) := OwnTy.of Try.underlying26 (by kernel_rfl) rfl (by kernel_rfl)
theorem zt4 : ZeroTy Try.prog 4 false := ⟨.bool false, by kernel_rfl, fun _ => rfl⟩
theorem mixed : Try.prog.follows .mixedOrders = true := by kernel_rfl
theorem en21 : enters Try.prog 21 = true := by kernel_rfl
theorem ow31 : OwnTy Try.prog 31 5 (UInt8) := OwnTy.of Try.underlying31 (by kernel_rfl) rfl (by kernel_rfl)
theorem zt5 : ZeroTy Try.prog 5 (0 : UInt8) := ⟨.int .u8 0, by kernel_rfl, fun _ => rfl⟩
theorem ty5 : Ty Try.prog 5 (UInt8) := Ty.of (by kernel_rfl)
theorem en43 : enters Try.prog 43 = true := by kernel_rfl
theorem ty31 : Ty Try.prog 31 (List UInt8) := Ty.of (by kernel_rfl)
theorem en48 : enters Try.prog 48 = true := by kernel_rfl
theorem fd28_0 : FieldTy Try.prog 28 0 0 1 := FieldTy.of Try.underlying28 (by kernel_rfl) rfl
theorem fd28_1 : FieldTy Try.prog 28 1 1 1 := FieldTy.of Try.underlying28 (by kernel_rfl) rfl
theorem ty25 : Ty Try.prog 25 (List (List UInt8)) := Ty.of (by kernel_rfl)
theorem fd28_2 : FieldTy Try.prog 28 2 2 1 := FieldTy.of Try.underlying28 (by kernel_rfl) rfl
theorem ty26 : Ty Try.prog 26 (List Bool) := Ty.of (by kernel_rfl)
theorem fd28_3 : FieldTy Try.prog 28 3 3 1 := FieldTy.of Try.underlying28 (by kernel_rfl) rfl
theorem sl25 : SlTy Try.prog 25 31 (List UInt8) := SlTy.of Try.underlying25 (by kernel_rfl) rfl
theorem en76 : enters Try.prog 76 = true := by kernel_rfl
theorem en58 : enters Try.prog 58 = true := by kernel_rfl
theorem en57 : enters Try.prog 57 = true := by kernel_rfl
theorem sl26 : SlTy Try.prog 26 4 (Bool) := SlTy.of Try.underlying26 (by kernel_rfl) rfl
theorem ty4 : Ty Try.prog 4 (Bool) := Ty.of (by kernel_rfl)
theorem fd28_5 : FieldTy Try.prog 28 5 5 1 := FieldTy.of Try.underlying28 (by kernel_rfl) rfl
theorem ty22 : Ty Try.prog 22 (UInt32) := Ty.of (by kernel_rfl)
theorem fd28_4 : FieldTy Try.prog 28 4 4 1 := FieldTy.of Try.underlying28 (by kernel_rfl) rfl
theorem en24 : enters Try.prog 24 = true := by kernel_rfl
theorem en56 : enters Try.prog 56 = true := by kernel_rfl
theorem en44 : enters Try.prog 44 = true := by kernel_rfl
theorem en23 : enters Try.prog 23 = true := by kernel_rfl
theorem en49 : enters Try.prog 49 = true := by kernel_rfl
theorem en50 : enters Try.prog 50 = true := by kernel_rfl
theorem en17 : enters Try.prog 17 = true := by kernel_rfl
theorem en63 : enters Try.prog 63 = true := by kernel_rfl
theorem en77 : enters Try.prog 77 = true := by kernel_rfl
theorem en78 : enters Try.prog 78 = true := by kernel_rfl
theorem en81 : enters Try.prog 81 = true := by kernel_rfl
theorem en79 : enters Try.prog 79 = true := by kernel_rfl
theorem ty96 : Ty Try.prog 96 (Int) := Ty.of (by kernel_rfl)
theorem en64 : enters Try.prog 64 = true := by kernel_rfl
theorem en28 : enters Try.prog 28 = true := by kernel_rfl
theorem zl39 : ZeroLs Try.prog 39 [(false, 1, Fact.rep [] ((0 : Int) : Int)), (false, 1, Fact.nilv), (false, 1, Fact.nilv), (false, 1, Fact.nilv)] := ⟨⟨[.int .i64 0, .slice none 0 0, .slice none 0 0, .slice none 0 0], by kernel_rfl, fun g w => FldRel.zr (fun _ _ => rfl) (FldRel.zn (FldRel.zn (FldRel.zn (rfl))))⟩⟩
theorem bd39 : BuildTy Try.prog 39 [(0, 1), (1, 1), (2, 1), (3, 1)] [(false, 1, Fact.rep [] ((0 : Int) : Int)), (false, 1, Fact.nilv), (false, 1, Fact.nilv), (false, 1, Fact.nilv)] := ⟨⟨_, [.int .i64 0, .slice none 0 0, .slice none 0 0, .slice none 0 0], by kernel_rfl, Try.underlying39, (fun g w => FldRel.zr (fun _ _ => rfl) (FldRel.zn (FldRel.zn (FldRel.zn (rfl))))), by kernel_rfl⟩⟩
theorem ty39 : Ty Try.prog 39 (Deal) := Ty.of (by kernel_rfl)
theorem fd39_1 : FieldTy Try.prog 39 1 1 1 := FieldTy.of Try.underlying39 (by kernel_rfl) rfl
theorem ty37 : Ty Try.prog 37 (List Int) := Ty.of (by kernel_rfl)
theorem ow37 : OwnTy Try.prog 37 3 (Int) := OwnTy.of Try.underlying37 (by kernel_rfl) rfl (by kernel_rfl)
theorem fd39_2 : FieldTy Try.prog 39 2 2 1 := FieldTy.of Try.underlying39 (by kernel_rfl) rfl
theorem en13 : enters Try.prog 13 = true := by kernel_rfl
theorem en68 : enters Try.prog 68 = true := by kernel_rfl
theorem en30 : enters Try.prog 30 = true := by kernel_rfl
theorem en51 : enters Try.prog 51 = true := by kernel_rfl
theorem en19 : enters Try.prog 19 = true := by kernel_rfl
theorem en11 : enters Try.prog 11 = true := by kernel_rfl
theorem en72 : enters Try.prog 72 = true := by kernel_rfl
theorem en38 : enters Try.prog 38 = true := by kernel_rfl
theorem fd39_0 : FieldTy Try.prog 39 0 0 1 := FieldTy.of Try.underlying39 (by kernel_rfl) rfl
theorem fd39_3 : FieldTy Try.prog 39 3 3 1 := FieldTy.of Try.underlying39 (by kernel_rfl) rfl
theorem sl37 : SlTy Try.prog 37 3 (Int) := SlTy.of Try.underlying37 (by kernel_rfl) rfl
theorem en15 : enters Try.prog 15 = true := by kernel_rfl

/-- freeboard/freeboardlaw16.small -/
def law16_small : Option (Config) :=
  some (Config.mk (0 : UInt32) (3 : Int) (2 : Int) (3 : Int) (12 : Int) (2 : Int))
set_option maxRecDepth 100000 in
set_option maxHeartbeats 2000000 in
theorem law16_small_c {r : Config} (hm : law16_small = some r) : Ctr Try.prog 40 [] (.fl r) [] := by
 refine ctr_of_walk [[]] 2 Try.func40 rfl rfl rfl rfl (fun w0 om => ?_)
 unfold law16_small at hm
 refine CWalk.sub (G' := []) (Sub.nil) ?_
 refine CWalk.seq ?_
 refine CWalk.region ?_
 refine ws (Step.allocObj (ls := [(false, 1, Fact.rep [] ((0 : UInt32) : UInt32)), (false, 1, Fact.rep [] ((0 : Int) : Int)), (false, 1, Fact.rep [] ((0 : Int) : Int)), (false, 1, Fact.rep [] ((0 : Int) : Int)), (false, 1, Fact.rep [] ((0 : Int) : Int)), (false, 1, Fact.rep [] ((0 : Int) : Int))]) 10 rfl rfl rfl rfl zl24) ?_
 refine Walk.nil ?_
 refine Leaf.thenN ?_
 refine CWalk.seq ?_
 refine CWalk.region ?_
 refine wo (Spec.build (us := [(1, .const (.int .i64 3)), (2, .const (.int .i64 2)), (3, .const (.int .i64 3)), (4, .const (.int .i64 12)), (5, .const (.int .i64 2))]) (ls' := [(false, 1, Fact.rep [] ((0 : UInt32) : UInt32)), (false, 1, Fact.rep [] ((3 : Int) : Int)), (false, 1, Fact.rep [] ((2 : Int) : Int)), (false, 1, Fact.rep [] ((3 : Int) : Int)), (false, 1, Fact.rep [] ((12 : Int) : Int)), (false, 1, Fact.rep [] ((2 : Int) : Int))]) bd24 rfl (BP.cons rfl rfl Has.int Has.int (BP.cons rfl rfl Has.int Has.int (BP.cons rfl rfl Has.int Has.int (BP.cons rfl rfl Has.int Has.int (BP.cons rfl rfl Has.int Has.int BP.nil)))))) ?_
 refine ws (Step.storeObj (ls := [(false, 1, Fact.rep [] ((0 : UInt32) : UInt32)), (false, 1, Fact.rep [] ((3 : Int) : Int)), (false, 1, Fact.rep [] ((2 : Int) : Int)), (false, 1, Fact.rep [] ((3 : Int) : Int)), (false, 1, Fact.rep [] ((12 : Int) : Int)), (false, 1, Fact.rep [] ((2 : Int) : Int))]) rfl ty24 rfl rfl (Has.s rfl) rfl (HasL.flds (Has.s rfl)) rfl) ?_
 refine Walk.nil ?_
 refine Leaf.thenN ?_
 refine CWalk.ret ?_
 obtain rfl := Option.some.inj hm
 exact Leaf.retC1 rfl (HasR.cv (HasR.obj (ls := [(false, 1, Fact.rep [] ((0 : UInt32) : UInt32)), (false, 1, Fact.rep [] ((3 : Int) : Int)), (false, 1, Fact.rep [] ((2 : Int) : Int)), (false, 1, Fact.rep [] ((3 : Int) : Int)), (false, 1, Fact.rep [] ((12 : Int) : Int)), (false, 1, Fact.rep [] ((2 : Int) : Int))]) ty24 rfl rfl (Has.s rfl) rfl (HasGs.cons (HasG.s rfl) (HasGs.cons (HasG.s rfl) (HasGs.cons (HasG.s rfl) (HasGs.cons (HasG.s rfl) (HasGs.cons (HasG.s rfl) (HasGs.cons (HasG.s rfl) HasGs.nil))))))) (Cv.trans (Cv.trans (Cv.flds (CvL.cons Cv.fl (CvL.cons Cv.fl (CvL.cons Cv.fl (CvL.cons Cv.fl (CvL.cons Cv.fl (CvL.cons Cv.fl CvL.nil))))))) (Cv.close (T := []) (chConfig (Config.mk (0 : UInt32) (3 : Int) (2 : Int) (3 : Int) (12 : Int) (2 : Int))))) Cv.fl))

def shape_bounds_L1 (a0 : List Arr3_Int) (s1 : Int) : Option (Ctl (Int) ((Unit) ⊕ (Unit))) :=
  (bif (decide (s1 < ((a0).length : Int))) then Option.bind (idx a0 s1) (fun x3 => (bif ((decide (x3.e0 < x3.e1)) || (decide (x3.e0 > x3.e2))) then some (Ctl.brk (Sum.inr ())) else some (Ctl.next (wI (s1 + (1 : Int)))))) else some (Ctl.brk (Sum.inl ())))
/-- freeboard/shape.bounds -/
def shape_bounds (a0 : List Arr3_Int) : Option (Bool) :=
  Option.bind (loopM (fun s : Int => shape_bounds_L1 a0 s) FUEL (0 : Int)) (fun b4 => Sum.elim (fun b5 => some true) (fun b6 => some false) b4)
set_option maxRecDepth 100000 in
set_option maxHeartbeats 2000000 in
theorem shape_bounds_c (a0 : List Arr3_Int) {r : Bool} (hm : shape_bounds a0 = some r) : Ctr Try.prog 82 [.rep 0 a0] (.fl r) [] := by
 refine ctr_of_walk [[]] 24 Try.func82 rfl rfl rfl rfl (fun w0 om => ?_)
 unfold shape_bounds at hm
 refine CWalk.sub (G' := [.fact 0 (Fact.rep [0] (a0 : List Arr3_Int))]) (sn Sub.nil) ?_
 refine CWalk.seq ?_
 refine CWalk.region ?_
 refine wo (Spec.assign Has.bool) ?_
 refine Walk.nil ?_
 refine Leaf.thenN ?_
 refine CWalk.seq ?_
 refine CWalk.seq ?_
 refine CWalk.region ?_
 refine mv ?_
 refine wo (Spec.len (Has.s rfl) Try.underlying108) ?_
 refine wo (Spec.move Has.int) ?_
 refine Walk.nil ?_
 refine Leaf.thenN ?_
 refine CWalk.block ?_
 obtain ⟨b4, hb4, hm⟩ := bind_some hm
 refine CWalk.loop (fun s : Int => [.fact 5 (Fact.rep [0] (a0 : List Arr3_Int)), .fact 6 (Fact.rep [] (((a0).length : Int) : Int)), .fact 7 (Fact.rep [] (s : Int))]) (fun b : (Unit) ⊕ (Unit) => Sum.elim (fun b => (Exit.exit 0, [])) (fun b => (Exit.ret, [.fact 2 (Fact.rep [] (false : Bool))])) b) hb4 (su (st (st Sub.nil))) ?_ ?_
 ·rintro s1 c2 hm
  replace hm : shape_bounds_L1 a0 s1 = some c2 := hm
  unfold shape_bounds_L1 at hm
  show CWalk _ [.fact 5 (Fact.rep [0] (a0 : List Arr3_Int)), .fact 6 (Fact.rep [] (((a0).length : Int) : Int)), .fact 7 (Fact.rep [] (s1 : Int))] _ _
  refine CWalk.seq ?_
  refine CWalk.region ?_
  refine wo (Spec.lssI (Has.s rfl) (Has.s rfl)) ?_
  refine Walk.nil ?_
  refine Leaf.thenN ?_
  refine CWalk.seq ?_
  refine CWalk.cond rfl (fun hb => ?_) (fun hb => ?_)
  ·have hm := cond_t hb hm
   refine CWalk.skip ?_
   refine Leaf.thenN ?_
   refine CWalk.seq ?_
   refine CWalk.block ?_
   refine CWalk.seq ?_
   refine CWalk.region ?_
   obtain ⟨x3, hx3, hm⟩ := bind_some hm
   refine wo (Spec.indexAddr hx3 sl108 (Has.s rfl) (Has.s rfl)) ?_
   refine wo ((Spec.load ty107 (Has.s rfl)).flat (T' := [])) ?_
   refine ws (Step.allocObj (ls := [(false, 1, Fact.rep [] ((0 : Int) : Int)), (false, 1, Fact.rep [] ((0 : Int) : Int)), (false, 1, Fact.rep [] ((0 : Int) : Int))]) 10 rfl rfl rfl rfl zl107) ?_
   refine ws (Step.storeObj (ls := [(false, 1, Fact.rep [] (x3.e0 : Int)), (false, 1, Fact.rep [] (x3.e1 : Int)), (false, 1, Fact.rep [] (x3.e2 : Int))]) rfl ty107 rfl rfl (Has.s rfl) rfl (HasL.flds (Has.cv (Has.s rfl) (Cv.trans (Cv.opens (chArr3_Int x3)) (Cv.flds (CvL.cons Cv.fl (CvL.cons Cv.fl (CvL.cons Cv.fl CvL.nil))))))) rfl) ?_
   refine Walk.nil ?_
   refine Leaf.thenN ?_
   refine CWalk.seq ?_
   refine CWalk.region ?_
   refine wo (Spec.idxC (i := 0) sm107 rfl (Has.cv (Has.s rfl) (Cv.isvP rfl))) ?_
   refine wo (Spec.loadF (i := 0) ty3 rfl (Has.s rfl) rfl (HasG.s rfl)) ?_
   refine wo (Spec.idxC (i := 1) sm107 rfl (Has.cv (Has.s rfl) (Cv.isvP rfl))) ?_
   refine wo (Spec.loadF (i := 1) ty3 rfl (Has.s rfl) rfl (HasG.s rfl)) ?_
   refine wo (Spec.lssI (Has.s rfl) (Has.s rfl)) ?_
   refine mv ?_
   refine wg rfl rfl (fun hb => Spec.idxC (i := 0) sm107 rfl (Has.cv (Has.s rfl) (Cv.isvP rfl))) ?_
   refine wg rfl rfl (fun hb => Spec.loadF (i := 0) ty3 rfl (Has.u rfl hb) rfl (HasG.s rfl)) ?_
   refine wg rfl rfl (fun hb => Spec.idxC (i := 2) sm107 rfl (Has.cv (Has.s rfl) (Cv.isvP rfl))) ?_
   refine wg rfl rfl (fun hb => Spec.loadF (i := 2) ty3 rfl (Has.u rfl hb) rfl (HasG.s rfl)) ?_
   refine wg rfl rfl (fun hb => Spec.gtrI (Has.u rfl hb) (Has.u rfl hb)) ?_
   refine wo (Spec.or (Has.s rfl) (fun h => Has.u rfl h)) ?_
   refine Walk.nil ?_
   refine Leaf.thenN ?_
   refine CWalk.cond rfl (fun hb => ?_) (fun hb => ?_)
   ·have hm := cond_t hb hm
    refine CWalk.seq ?_
    refine CWalk.region ?_
    refine wo (Spec.assign Has.bool) ?_
    refine Walk.nil ?_
    refine Leaf.thenN ?_
    refine CWalk.ret ?_
    refine Leaf.blockR ?_
    refine Leaf.thenR ?_
    exact Leaf.brk hm (fun h => nomatch h) rfl (st Sub.nil)
   ·have hm := cond_f hb hm
    refine CWalk.skip ?_
    refine Leaf.blockN ?_
    refine Leaf.thenN ?_
    refine CWalk.region ?_
    refine wo (Spec.addI (Has.s rfl) Has.int) ?_
    refine mv ?_
    refine Walk.nil ?_
    exact Leaf.next hm (su (st (st Sub.nil)))
  ·have hm := cond_f hb hm
   refine CWalk.exit ?_
   refine Leaf.thenE ?_
   exact Leaf.brk hm (fun h => nomatch h) rfl (Sub.nil)
 ·intro _
  rcases b4 with b5 | b6
  ·have hm := selim_l hm
   refine Leaf.blockE ?_
   refine Leaf.thenN ?_
   refine CWalk.seq ?_
   refine CWalk.region ?_
   refine wo (Spec.assign Has.bool) ?_
   refine Walk.nil ?_
   refine Leaf.thenN ?_
   refine CWalk.ret ?_
   obtain rfl := Option.some.inj hm
   exact Leaf.retC1 rfl (HasR.cv (HasR.tmp (Has.s rfl)) Cv.fl)
  ·have hm := selim_r hm
   refine Leaf.blockR ?_
   refine Leaf.thenR ?_
   obtain rfl := Option.some.inj hm
   exact Leaf.retC1 rfl (HasR.cv (HasR.tmp (Has.s rfl)) Cv.fl)

/-- freeboard/shape.Check -/
def shape_Check (a0 : Config) : Option (Int) :=
  Option.bind (shape_bounds ([(Arr3_Int.mk a0.Members (3 : Int) (16 : Int)), (Arr3_Int.mk a0.Chunk (1 : Int) (8 : Int)), (Arr3_Int.mk a0.Rows (1 : Int) (8 : Int)), (Arr3_Int.mk a0.Heads (2 : Int) (8 : Int))])) (fun x1 => Option.bind (gO (!(!x1)) (shape_bounds ([(Arr3_Int.mk a0.Log (wI ((wI (a0.Members + (1 : Int))) * (wI (a0.Heads + (1 : Int))))) (255 : Int))]))) (fun x2 => (bif ((!x1) || (!x2)) then some (8 : Int) else some (0 : Int))))
set_option maxRecDepth 100000 in
set_option maxHeartbeats 2000000 in
theorem shape_Check_c (a0 : Config) {r : Int} (hm : shape_Check a0 = some r) : Ctr Try.prog 80 [.rep 0 a0] (.fl r) [] := by
 refine ctr_of_walk [[]] 35 Try.func80 rfl rfl rfl rfl (fun w0 om => ?_)
 unfold shape_Check at hm
 refine CWalk.sub (G' := [.fact 0 (Fact.rep [] (a0 : Config))]) (Sub.cons (Has.fl (Has.s rfl)) Sub.nil) ?_
 refine CWalk.seq ?_
 refine CWalk.region ?_
 refine ws (Step.boxObj (ls := [(false, 1, Fact.rep [] (a0.Id : UInt32)), (false, 1, Fact.rep [] (a0.Members : Int)), (false, 1, Fact.rep [] (a0.Chunk : Int)), (false, 1, Fact.rep [] (a0.Rows : Int)), (false, 1, Fact.rep [] (a0.Log : Int)), (false, 1, Fact.rep [] (a0.Heads : Int))]) 10 rfl rfl rfl rfl (HasL.flds (Has.cv (Has.s rfl) (Cv.trans (Cv.opens (chConfig a0)) (Cv.flds (CvL.cons Cv.fl (CvL.cons Cv.fl (CvL.cons Cv.fl (CvL.cons Cv.fl (CvL.cons Cv.fl (CvL.cons Cv.fl CvL.nil))))))))))) ?_
 refine wo (Spec.assign Has.int) ?_
 refine Walk.nil ?_
 refine Leaf.thenN ?_
 refine CWalk.seq ?_
 refine CWalk.region ?_
 refine wo (Spec.fieldAddrO fd24_1 (Has.cv (Has.s rfl) (Cv.isvP rfl))) ?_
 refine wo (Spec.loadF (i := 1) ty3 rfl (Has.s rfl) rfl (HasG.s rfl)) ?_
 refine wo (Spec.buildA (us := [(0, .tmp 5), (1, .const (.int .i64 3)), (2, .const (.int .i64 16))]) (ls' := [(false, 1, Fact.rep [] (a0.Members : Int)), (false, 1, Fact.rep [] ((3 : Int) : Int)), (false, 1, Fact.rep [] ((16 : Int) : Int))]) bd107 rfl (BP.cons rfl rfl (Has.s rfl) (Has.s rfl) (BP.cons rfl rfl Has.int Has.int (BP.cons rfl rfl Has.int Has.int BP.nil)))) ?_
 refine wo (Spec.fieldAddrO fd24_2 (Has.cv (Has.s rfl) (Cv.isvP rfl))) ?_
 refine wo (Spec.loadF (i := 2) ty3 rfl (Has.s rfl) rfl (HasG.s rfl)) ?_
 refine wo (Spec.buildA (us := [(0, .tmp 8), (1, .const (.int .i64 1)), (2, .const (.int .i64 8))]) (ls' := [(false, 1, Fact.rep [] (a0.Chunk : Int)), (false, 1, Fact.rep [] ((1 : Int) : Int)), (false, 1, Fact.rep [] ((8 : Int) : Int))]) bd107 rfl (BP.cons rfl rfl (Has.s rfl) (Has.s rfl) (BP.cons rfl rfl Has.int Has.int (BP.cons rfl rfl Has.int Has.int BP.nil)))) ?_
 refine wo (Spec.fieldAddrO fd24_3 (Has.cv (Has.s rfl) (Cv.isvP rfl))) ?_
 refine wo (Spec.loadF (i := 3) ty3 rfl (Has.s rfl) rfl (HasG.s rfl)) ?_
 refine wo (Spec.buildA (us := [(0, .tmp 11), (1, .const (.int .i64 1)), (2, .const (.int .i64 8))]) (ls' := [(false, 1, Fact.rep [] (a0.Rows : Int)), (false, 1, Fact.rep [] ((1 : Int) : Int)), (false, 1, Fact.rep [] ((8 : Int) : Int))]) bd107 rfl (BP.cons rfl rfl (Has.s rfl) (Has.s rfl) (BP.cons rfl rfl Has.int Has.int (BP.cons rfl rfl Has.int Has.int BP.nil)))) ?_
 refine wo (Spec.fieldAddrO fd24_5 (Has.cv (Has.s rfl) (Cv.isvP rfl))) ?_
 refine wo (Spec.loadF (i := 5) ty3 rfl (Has.s rfl) rfl (HasG.s rfl)) ?_
 refine wo (Spec.buildA (us := [(0, .tmp 14), (1, .const (.int .i64 2)), (2, .const (.int .i64 8))]) (ls' := [(false, 1, Fact.rep [] (a0.Heads : Int)), (false, 1, Fact.rep [] ((2 : Int) : Int)), (false, 1, Fact.rep [] ((8 : Int) : Int))]) bd107 rfl (BP.cons rfl rfl (Has.s rfl) (Has.s rfl) (BP.cons rfl rfl Has.int Has.int (BP.cons rfl rfl Has.int Has.int BP.nil)))) ?_
 refine wo (Spec.lit (xs := [.tmp 6, .tmp 9, .tmp 12, .tmp 15]) (T := []) 17 rfl ow108 rfl rfl rfl rfl (HasEach.cons (Has.fl (Has.cv (Has.s rfl) (Cv.trans (Cv.flds (CvL.cons Cv.fl (CvL.cons Cv.fl (CvL.cons Cv.fl CvL.nil)))) (Cv.close (T := []) (chArr3_Int (Arr3_Int.mk a0.Members (3 : Int) (16 : Int))))))) (HasEach.cons (Has.fl (Has.cv (Has.s rfl) (Cv.trans (Cv.flds (CvL.cons Cv.fl (CvL.cons Cv.fl (CvL.cons Cv.fl CvL.nil)))) (Cv.close (T := []) (chArr3_Int (Arr3_Int.mk a0.Chunk (1 : Int) (8 : Int))))))) (HasEach.cons (Has.fl (Has.cv (Has.s rfl) (Cv.trans (Cv.flds (CvL.cons Cv.fl (CvL.cons Cv.fl (CvL.cons Cv.fl CvL.nil)))) (Cv.close (T := []) (chArr3_Int (Arr3_Int.mk a0.Rows (1 : Int) (8 : Int))))))) (HasEach.cons (Has.fl (Has.cv (Has.s rfl) (Cv.trans (Cv.flds (CvL.cons Cv.fl (CvL.cons Cv.fl (CvL.cons Cv.fl CvL.nil)))) (Cv.close (T := []) (chArr3_Int (Arr3_Int.mk a0.Heads (2 : Int) (8 : Int))))))) HasEach.nil))))) ?_
 obtain ⟨x1, hx1, hm⟩ := bind_some hm
 refine wo (f := Fact.rep [] (x1 : Bool)) (Spec.callE [17] 18 rfl en82 (shape_bounds_c ([(Arr3_Int.mk a0.Members (3 : Int) (16 : Int)), (Arr3_Int.mk a0.Chunk (1 : Int) (8 : Int)), (Arr3_Int.mk a0.Rows (1 : Int) (8 : Int)), (Arr3_Int.mk a0.Heads (2 : Int) (8 : Int))]) hx1) (HasAll.cons (Has.m (Has.s rfl) rfl) HasAll.nil)) ?_
 refine wo (Spec.assign (Has.s rfl)) ?_
 refine Walk.nil ?_
 refine Leaf.thenN ?_
 refine CWalk.seq ?_
 refine CWalk.seq ?_
 refine CWalk.region ?_
 refine mv ?_
 refine wo (Spec.not (Has.s rfl)) ?_
 refine mv ?_
 refine wg rfl rfl (fun hb => Spec.fieldAddrO fd24_4 (Has.cv (Has.s rfl) (Cv.isvP rfl))) ?_
 refine wg rfl rfl (fun hb => Spec.loadF (i := 4) ty3 rfl (Has.u rfl hb) rfl (HasG.s rfl)) ?_
 refine wg rfl rfl (fun hb => Spec.fieldAddrO fd24_1 (Has.cv (Has.s rfl) (Cv.isvP rfl))) ?_
 refine wg rfl rfl (fun hb => Spec.loadF (i := 1) ty3 rfl (Has.u rfl hb) rfl (HasG.s rfl)) ?_
 refine wg rfl rfl (fun hb => Spec.addI (Has.u rfl hb) Has.int) ?_
 refine wg rfl rfl (fun hb => Spec.fieldAddrO fd24_5 (Has.cv (Has.s rfl) (Cv.isvP rfl))) ?_
 refine wg rfl rfl (fun hb => Spec.loadF (i := 5) ty3 rfl (Has.u rfl hb) rfl (HasG.s rfl)) ?_
 refine wg rfl rfl (fun hb => Spec.addI (Has.u rfl hb) Has.int) ?_
 refine wg rfl rfl (fun hb => Spec.mulI (Has.u rfl hb) (Has.u rfl hb)) ?_
 refine wg rfl rfl (fun hb => Spec.buildA (us := [(0, .tmp 22), (1, .tmp 29), (2, .const (.int .i64 255))]) (ls' := [(false, 1, Fact.rep [] (a0.Log : Int)), (false, 1, Fact.rep [] ((wI ((wI (a0.Members + (1 : Int))) * (wI (a0.Heads + (1 : Int))))) : Int)), (false, 1, Fact.rep [] ((255 : Int) : Int))]) bd107 rfl (BP.cons rfl rfl (Has.u rfl hb) (Has.u rfl hb) (BP.cons rfl rfl (Has.u rfl hb) (Has.u rfl hb) (BP.cons rfl rfl Has.int Has.int BP.nil)))) ?_
 refine wg rfl rfl (fun hb => Spec.lit (xs := [.tmp 30]) (T := []) 19 rfl ow108 rfl rfl rfl rfl (HasEach.cons (Has.fl (Has.cv (Has.u rfl hb) (Cv.trans (Cv.flds (CvL.cons Cv.fl (CvL.cons Cv.fl (CvL.cons Cv.fl CvL.nil)))) (Cv.close (T := []) (chArr3_Int (Arr3_Int.mk a0.Log (wI ((wI (a0.Members + (1 : Int))) * (wI (a0.Heads + (1 : Int))))) (255 : Int))))))) HasEach.nil)) ?_
 obtain ⟨x2, hx2, hm⟩ := bind_some hm
 refine wg (f := Fact.rep [] (x2 : Bool)) rfl rfl (fun hb => Spec.callE [19] 20 rfl en82 (shape_bounds_c ([(Arr3_Int.mk a0.Log (wI ((wI (a0.Members + (1 : Int))) * (wI (a0.Heads + (1 : Int))))) (255 : Int))]) (gO_t hx2 (not_t hb))) (HasAll.cons (Has.m (Has.u rfl hb) rfl) HasAll.nil)) ?_
 refine wg rfl rfl (fun hb => Spec.not (Has.u rfl hb)) ?_
 refine wo (Spec.or (Has.s rfl) (fun h => Has.u rfl h)) ?_
 refine Walk.nil ?_
 refine Leaf.thenN ?_
 refine CWalk.cond rfl (fun hb => ?_) (fun hb => ?_)
 ·have hm := cond_t hb hm
  refine CWalk.seq ?_
  refine CWalk.region ?_
  refine wo (Spec.assign Has.int) ?_
  refine Walk.nil ?_
  refine Leaf.thenN ?_
  refine CWalk.ret ?_
  refine Leaf.thenR ?_
  obtain rfl := Option.some.inj hm
  exact Leaf.retC1 rfl (HasR.cv (HasR.tmp (Has.s rfl)) Cv.fl)
 ·have hm := cond_f hb hm
  refine CWalk.skip ?_
  refine Leaf.thenN ?_
  refine CWalk.seq ?_
  refine CWalk.region ?_
  refine wo (Spec.assign Has.int) ?_
  refine Walk.nil ?_
  refine Leaf.thenN ?_
  refine CWalk.ret ?_
  obtain rfl := Option.some.inj hm
  exact Leaf.retC1 rfl (HasR.cv (HasR.tmp (Has.s rfl)) Cv.fl)

/-- freeboard/shape.told -/
def shape_told (a0 : Config) (a1 : Int) : Option (Int × Int) :=
  Option.bind (shape_Check a0) (fun x1 => (bif (x1 != (0 : Int)) then some ((0 : Int), x1) else some (a1, (0 : Int))))
set_option maxRecDepth 100000 in
set_option maxHeartbeats 2000000 in
theorem shape_told_c (a0 : Config) (a1 : Int) {r : Int × Int} (hm : shape_told a0 a1 = some r) : Ctr Try.prog 73 [.rep 0 a0, .rep 0 a1] (.tup2 (.fl r.1) (.fl r.2)) [] := by
 refine ctr_of_walk [[]] 13 Try.func73 rfl rfl rfl rfl (fun w0 om => ?_)
 unfold shape_told at hm
 refine CWalk.sub (G' := [.fact 0 (Fact.rep [] (a0 : Config)), .fact 1 (Fact.rep [] (a1 : Int))]) (Sub.cons (Has.fl (Has.s rfl)) (Sub.cons (Has.fl (Has.s rfl)) Sub.nil)) ?_
 refine CWalk.seq ?_
 refine CWalk.region ?_
 refine ws (Step.boxObj (ls := [(false, 1, Fact.rep [] (a0.Id : UInt32)), (false, 1, Fact.rep [] (a0.Members : Int)), (false, 1, Fact.rep [] (a0.Chunk : Int)), (false, 1, Fact.rep [] (a0.Rows : Int)), (false, 1, Fact.rep [] (a0.Log : Int)), (false, 1, Fact.rep [] (a0.Heads : Int))]) 10 rfl rfl rfl rfl (HasL.flds (Has.cv (Has.s rfl) (Cv.trans (Cv.opens (chConfig a0)) (Cv.flds (CvL.cons Cv.fl (CvL.cons Cv.fl (CvL.cons Cv.fl (CvL.cons Cv.fl (CvL.cons Cv.fl (CvL.cons Cv.fl CvL.nil))))))))))) ?_
 refine wo (Spec.assign Has.int) ?_
 refine wo (Spec.assign Has.int) ?_
 refine Walk.nil ?_
 refine Leaf.thenN ?_
 refine CWalk.seq ?_
 refine CWalk.seq ?_
 refine CWalk.region ?_
 refine wo (Spec.loadObj (ls := [(false, 1, Fact.rep [] (a0.Id : UInt32)), (false, 1, Fact.rep [] (a0.Members : Int)), (false, 1, Fact.rep [] (a0.Chunk : Int)), (false, 1, Fact.rep [] (a0.Rows : Int)), (false, 1, Fact.rep [] (a0.Log : Int)), (false, 1, Fact.rep [] (a0.Heads : Int))]) ty24 rfl rfl (Has.s rfl) rfl (HasGs.cons (HasG.s rfl) (HasGs.cons (HasG.s rfl) (HasGs.cons (HasG.s rfl) (HasGs.cons (HasG.s rfl) (HasGs.cons (HasG.s rfl) (HasGs.cons (HasG.s rfl) HasGs.nil))))))) ?_
 obtain ⟨x1, hx1, hm⟩ := bind_some hm
 refine wo (f := Fact.rep [] (x1 : Int)) (Spec.callE [] 17 rfl en80 (shape_Check_c a0 hx1) (HasAll.cons (Has.fl (Has.cv (Has.s rfl) (Cv.trans (Cv.flds (CvL.cons Cv.fl (CvL.cons Cv.fl (CvL.cons Cv.fl (CvL.cons Cv.fl (CvL.cons Cv.fl (CvL.cons Cv.fl CvL.nil))))))) (Cv.close (T := []) (chConfig a0))))) HasAll.nil)) ?_
 refine wo (Spec.assign (Has.s rfl)) ?_
 refine Walk.nil ?_
 refine Leaf.thenN ?_
 refine CWalk.seq ?_
 refine CWalk.region ?_
 refine mv ?_
 refine wo (Spec.neqI (Has.s rfl) Has.int) ?_
 refine Walk.nil ?_
 refine Leaf.thenN ?_
 refine CWalk.cond rfl (fun hb => ?_) (fun hb => ?_)
 ·have hm := cond_t hb hm
  refine CWalk.seq ?_
  refine CWalk.region ?_
  refine mv ?_
  refine wo (Spec.assign Has.int) ?_
  refine wo (Spec.assign (Has.s rfl)) ?_
  refine Walk.nil ?_
  refine Leaf.thenN ?_
  refine CWalk.ret ?_
  refine Leaf.thenR ?_
  obtain rfl := Option.some.inj hm
  exact Leaf.retC2 rfl (HasR.cv (HasR.tmp (Has.s rfl)) Cv.fl) (HasR.cv (HasR.tmp (Has.s rfl)) Cv.fl)
 ·have hm := cond_f hb hm
  refine CWalk.skip ?_
  refine Leaf.thenN ?_
  refine CWalk.seq ?_
  refine CWalk.region ?_
  refine mv ?_
  refine wo (Spec.assign (Has.s rfl)) ?_
  refine wo (Spec.assign Has.int) ?_
  refine Walk.nil ?_
  refine Leaf.thenN ?_
  refine CWalk.ret ?_
  obtain rfl := Option.some.inj hm
  exact Leaf.retC2 rfl (HasR.cv (HasR.tmp (Has.s rfl)) Cv.fl) (HasR.cv (HasR.tmp (Has.s rfl)) Cv.fl)

/-- freeboard/shape.Stripes -/
def shape_Stripes (a0 : Config) : Option (Int × Int) :=
  Option.bind (shape_told a0 (wI (a0.Chunk * a0.Rows))) (fun x1 => some (x1.1, x1.2))
set_option maxRecDepth 100000 in
set_option maxHeartbeats 2000000 in
theorem shape_Stripes_c (a0 : Config) {r : Int × Int} (hm : shape_Stripes a0 = some r) : Ctr Try.prog 52 [.rep 0 a0] (.tup2 (.fl r.1) (.fl r.2)) [] := by
 refine ctr_of_walk [[]] 13 Try.func52 rfl rfl rfl rfl (fun w0 om => ?_)
 unfold shape_Stripes at hm
 refine CWalk.sub (G' := [.fact 0 (Fact.rep [] (a0 : Config))]) (Sub.cons (Has.fl (Has.s rfl)) Sub.nil) ?_
 refine CWalk.seq ?_
 refine CWalk.region ?_
 refine ws (Step.boxObj (ls := [(false, 1, Fact.rep [] (a0.Id : UInt32)), (false, 1, Fact.rep [] (a0.Members : Int)), (false, 1, Fact.rep [] (a0.Chunk : Int)), (false, 1, Fact.rep [] (a0.Rows : Int)), (false, 1, Fact.rep [] (a0.Log : Int)), (false, 1, Fact.rep [] (a0.Heads : Int))]) 10 rfl rfl rfl rfl (HasL.flds (Has.cv (Has.s rfl) (Cv.trans (Cv.opens (chConfig a0)) (Cv.flds (CvL.cons Cv.fl (CvL.cons Cv.fl (CvL.cons Cv.fl (CvL.cons Cv.fl (CvL.cons Cv.fl (CvL.cons Cv.fl CvL.nil))))))))))) ?_
 refine wo (Spec.assign Has.int) ?_
 refine wo (Spec.assign Has.int) ?_
 refine Walk.nil ?_
 refine Leaf.thenN ?_
 refine CWalk.seq ?_
 refine CWalk.region ?_
 refine wo (Spec.loadObj (ls := [(false, 1, Fact.rep [] (a0.Id : UInt32)), (false, 1, Fact.rep [] (a0.Members : Int)), (false, 1, Fact.rep [] (a0.Chunk : Int)), (false, 1, Fact.rep [] (a0.Rows : Int)), (false, 1, Fact.rep [] (a0.Log : Int)), (false, 1, Fact.rep [] (a0.Heads : Int))]) ty24 rfl rfl (Has.s rfl) rfl (HasGs.cons (HasG.s rfl) (HasGs.cons (HasG.s rfl) (HasGs.cons (HasG.s rfl) (HasGs.cons (HasG.s rfl) (HasGs.cons (HasG.s rfl) (HasGs.cons (HasG.s rfl) HasGs.nil))))))) ?_
 refine wo (Spec.fieldAddrO fd24_2 (Has.cv (Has.s rfl) (Cv.isvP rfl))) ?_
 refine wo (Spec.loadF (i := 2) ty3 rfl (Has.s rfl) rfl (HasG.s rfl)) ?_
 refine wo (Spec.fieldAddrO fd24_3 (Has.cv (Has.s rfl) (Cv.isvP rfl))) ?_
 refine wo (Spec.loadF (i := 3) ty3 rfl (Has.s rfl) rfl (HasG.s rfl)) ?_
 refine wo (Spec.mulI (Has.s rfl) (Has.s rfl)) ?_
 obtain ⟨x1, hx1, hm⟩ := bind_some hm
 refine wo (f := Fact.tup2 (Fact.rep [] (x1.1 : Int)) (Fact.rep [] (x1.2 : Int))) (Spec.callE [] 17 rfl en73 (shape_told_c a0 (wI (a0.Chunk * a0.Rows)) hx1) (HasAll.cons (Has.fl (Has.cv (Has.s rfl) (Cv.trans (Cv.flds (CvL.cons Cv.fl (CvL.cons Cv.fl (CvL.cons Cv.fl (CvL.cons Cv.fl (CvL.cons Cv.fl (CvL.cons Cv.fl CvL.nil))))))) (Cv.close (T := []) (chConfig a0))))) (HasAll.cons (Has.fl (Has.s rfl)) HasAll.nil))) ?_
 refine wo (Spec.ext0 (Has.s rfl)) ?_
 refine wo (Spec.ext1 (Has.s rfl)) ?_
 refine wo (Spec.assign (Has.s rfl)) ?_
 refine wo (Spec.assign (Has.s rfl)) ?_
 refine Walk.nil ?_
 refine Leaf.thenN ?_
 refine CWalk.ret ?_
 obtain rfl := Option.some.inj hm
 exact Leaf.retC2 rfl (HasR.cv (HasR.tmp (Has.s rfl)) Cv.fl) (HasR.cv (HasR.tmp (Has.s rfl)) Cv.fl)

def head_New_J1 (a0 : Config) (a1 : Int) (j2 : Bool) : Option (Head × Int) :=
  (bif j2 then some ((Head.mk (0 : Int) ([] : List (List UInt8)) ([] : List Bool) (0 : UInt8) false (0 : UInt32)), (2 : Int)) else Option.bind (makeL ([] : List UInt8) a0.Members) (fun x3 => Option.bind (makeL false (wI (a0.Members - (1 : Int)))) (fun x4 => some ((Head.mk a1 x3 x4 (0 : UInt8) false (0 : UInt32)), (0 : Int)))))
/-- freeboard/head.New -/
def head_New (a0 : Config) (a1 : Int) : Option (Head × Int) :=
  Option.bind (shape_Stripes a0) (fun x1 => (bif (x1.2 != (0 : Int)) then some ((Head.mk (0 : Int) ([] : List (List UInt8)) ([] : List Bool) (0 : UInt8) false (0 : UInt32)), x1.2) else (bif (decide (a1 < (0 : Int))) then (head_New_J1 a0 a1 (decide (a1 < (0 : Int)))) else (head_New_J1 a0 a1 (decide (a1 ≥ x1.1))))))
set_option maxRecDepth 100000 in
set_option maxHeartbeats 2000000 in
theorem head_New_c (a0 : Config) (a1 : Int) {r : Head × Int} (hm : head_New a0 a1 = some r) : Ctr Try.prog 21 [.rep 0 a0, .rep 0 a1] (.tup2 (.flds [(false, 1, (.fl r.1.Stripe)), (false, 1, (.own 0 none 31 r.1.Blocks)), (false, 1, (.own 1 none 4 r.1.Dirty)), (false, 1, (.fl r.1.Phase)), (false, 1, (.fl r.1.Deals)), (false, 1, (.fl r.1.Seq))]) (.fl r.2)) [] := by
 refine ctr_of_walk [[25], [26]] 34 Try.func21 rfl rfl rfl rfl (fun w0 om => ?_)
 unfold head_New at hm
 refine CWalk.sub (G' := [.fact 0 (Fact.rep [] (a0 : Config)), .fact 1 (Fact.rep [] (a1 : Int))]) (Sub.cons (Has.fl (Has.s rfl)) (Sub.cons (Has.fl (Has.s rfl)) Sub.nil)) ?_
 refine CWalk.seq ?_
 refine CWalk.region ?_
 refine ws (Step.boxObj (ls := [(false, 1, Fact.rep [] (a0.Id : UInt32)), (false, 1, Fact.rep [] (a0.Members : Int)), (false, 1, Fact.rep [] (a0.Chunk : Int)), (false, 1, Fact.rep [] (a0.Rows : Int)), (false, 1, Fact.rep [] (a0.Log : Int)), (false, 1, Fact.rep [] (a0.Heads : Int))]) 10 rfl rfl rfl rfl (HasL.flds (Has.cv (Has.s rfl) (Cv.trans (Cv.opens (chConfig a0)) (Cv.flds (CvL.cons Cv.fl (CvL.cons Cv.fl (CvL.cons Cv.fl (CvL.cons Cv.fl (CvL.cons Cv.fl (CvL.cons Cv.fl CvL.nil))))))))))) ?_
 refine ws (Step.allocObj (ls := [(false, 1, Fact.rep [] ((0 : Int) : Int)), (false, 1, Fact.nilv), (false, 1, Fact.nilv), (false, 1, Fact.rep [] ((0 : UInt8) : UInt8)), (false, 1, Fact.rep [] (false : Bool)), (false, 1, Fact.rep [] ((0 : UInt32) : UInt32))]) 17 rfl rfl rfl rfl zl28) ?_
 refine wo (Spec.assign Has.int) ?_
 refine Walk.nil ?_
 refine Leaf.thenN ?_
 refine CWalk.seq ?_
 refine CWalk.region ?_
 refine wo (Spec.loadObj (ls := [(false, 1, Fact.rep [] (a0.Id : UInt32)), (false, 1, Fact.rep [] (a0.Members : Int)), (false, 1, Fact.rep [] (a0.Chunk : Int)), (false, 1, Fact.rep [] (a0.Rows : Int)), (false, 1, Fact.rep [] (a0.Log : Int)), (false, 1, Fact.rep [] (a0.Heads : Int))]) ty24 rfl rfl (Has.s rfl) rfl (HasGs.cons (HasG.s rfl) (HasGs.cons (HasG.s rfl) (HasGs.cons (HasG.s rfl) (HasGs.cons (HasG.s rfl) (HasGs.cons (HasG.s rfl) (HasGs.cons (HasG.s rfl) HasGs.nil))))))) ?_
 obtain ⟨x1, hx1, hm⟩ := bind_some hm
 refine wo (f := Fact.tup2 (Fact.rep [] (x1.1 : Int)) (Fact.rep [] (x1.2 : Int))) (Spec.callE [] 24 rfl en52 (shape_Stripes_c a0 hx1) (HasAll.cons (Has.fl (Has.cv (Has.s rfl) (Cv.trans (Cv.flds (CvL.cons Cv.fl (CvL.cons Cv.fl (CvL.cons Cv.fl (CvL.cons Cv.fl (CvL.cons Cv.fl (CvL.cons Cv.fl CvL.nil))))))) (Cv.close (T := []) (chConfig a0))))) HasAll.nil)) ?_
 refine mv ?_
 refine wo (Spec.ext0 (Has.s rfl)) ?_
 refine wo (Spec.ext1 (Has.s rfl)) ?_
 refine wo (Spec.assign (Has.s rfl)) ?_
 refine wo (Spec.assign (Has.s rfl)) ?_
 refine Walk.nil ?_
 refine Leaf.thenN ?_
 refine CWalk.seq ?_
 refine CWalk.block ?_
 refine CWalk.seq ?_
 refine CWalk.region ?_
 refine mv ?_
 refine wo (Spec.neqI (Has.s rfl) Has.int) ?_
 refine wo (Spec.assign (Has.s rfl)) ?_
 refine Walk.nil ?_
 refine Leaf.thenN ?_
 refine CWalk.cond rfl (fun hb => ?_) (fun hb => ?_)
 ·have hm := cond_t hb hm
  refine CWalk.seq ?_
  refine CWalk.region ?_
  refine wo (Spec.build (us := []) (ls' := [(false, 1, Fact.rep [] ((0 : Int) : Int)), (false, 1, Fact.nilv), (false, 1, Fact.nilv), (false, 1, Fact.rep [] ((0 : UInt8) : UInt8)), (false, 1, Fact.rep [] (false : Bool)), (false, 1, Fact.rep [] ((0 : UInt32) : UInt32))]) bd28 rfl BP.nil) ?_
  refine mv ?_
  refine ws (Step.storeObj (ls := [(false, 1, Fact.rep [] ((0 : Int) : Int)), (false, 1, Fact.nilv), (false, 1, Fact.nilv), (false, 1, Fact.rep [] ((0 : UInt8) : UInt8)), (false, 1, Fact.rep [] (false : Bool)), (false, 1, Fact.rep [] ((0 : UInt32) : UInt32))]) rfl ty28 rfl rfl (Has.s rfl) rfl (HasL.flds (Has.s rfl)) rfl) ?_
  refine wo (Spec.assign (Has.s rfl)) ?_
  refine Walk.nil ?_
  refine Leaf.thenN ?_
  refine CWalk.ret ?_
  refine Leaf.blockR ?_
  refine Leaf.thenR ?_
  obtain rfl := Option.some.inj hm
  exact Leaf.retC2 rfl (HasR.cv (HasR.obj (ls := [(false, 1, Fact.rep [] ((0 : Int) : Int)), (false, 1, Fact.nilv), (false, 1, Fact.nilv), (false, 1, Fact.rep [] ((0 : UInt8) : UInt8)), (false, 1, Fact.rep [] (false : Bool)), (false, 1, Fact.rep [] ((0 : UInt32) : UInt32))]) ty28 rfl rfl (Has.s rfl) rfl (HasGs.cons (HasG.s rfl) (HasGs.cons (HasG.s rfl) (HasGs.cons (HasG.s rfl) (HasGs.cons (HasG.s rfl) (HasGs.cons (HasG.s rfl) (HasGs.cons (HasG.s rfl) HasGs.nil))))))) (Cv.flds (CvL.cons Cv.fl (CvL.cons (Cv.trans Cv.nilOw (Cv.owM (T := []) (te := []) rfl rfl)) (CvL.cons (Cv.trans Cv.nilOw (Cv.owF (T := []) (te := []) rfl)) (CvL.cons Cv.fl (CvL.cons Cv.fl (CvL.cons Cv.fl CvL.nil)))))))) (HasR.cv (HasR.tmp (Has.s rfl)) Cv.fl)
 ·have hm := cond_f hb hm
  refine CWalk.seqJ (fun p : Bool => [.fact 1 (Fact.rep [] (a1 : Int)), .fact 2 (Fact.isv 10), .fact 4 (Fact.isv 17), .fact 18 (Fact.rep [] (p : Bool)), .fact 100011 (Fact.at 11 (Fact.rep [] (a0.Id : UInt32))), .fact 100012 (Fact.at 12 (Fact.rep [] (a0.Members : Int))), .fact 100013 (Fact.at 13 (Fact.rep [] (a0.Chunk : Int))), .fact 100014 (Fact.at 14 (Fact.rep [] (a0.Rows : Int))), .fact 100015 (Fact.at 15 (Fact.rep [] (a0.Log : Int))), .fact 100016 (Fact.at 16 (Fact.rep [] (a0.Heads : Int))), .fact 100018 (Fact.at 18 (Fact.rep [] ((0 : Int) : Int))), .fact 100019 (Fact.at 19 (Fact.nilv)), .fact 100020 (Fact.at 20 (Fact.nilv)), .fact 100021 (Fact.at 21 (Fact.rep [] ((0 : UInt8) : UInt8))), .fact 100022 (Fact.at 22 (Fact.rep [] (false : Bool))), .fact 100023 (Fact.at 23 (Fact.rep [] ((0 : UInt32) : UInt32))), .fact 100010 (Fact.obj 10 [(false, 1), (false, 1), (false, 1), (false, 1), (false, 1), (false, 1)]), .fact 100017 (Fact.obj 17 [(false, 1), (false, 1), (false, 1), (false, 1), (false, 1), (false, 1)])]) (fun p : Bool => head_New_J1 a0 a1 p = some r) ?_ ?_
  ·rintro j2 hm
   replace hm : head_New_J1 a0 a1 j2 = some r := hm
   unfold head_New_J1 at hm
   show CWalk _ [.fact 1 (Fact.rep [] (a1 : Int)), .fact 2 (Fact.isv 10), .fact 4 (Fact.isv 17), .fact 18 (Fact.rep [] (j2 : Bool)), .fact 100011 (Fact.at 11 (Fact.rep [] (a0.Id : UInt32))), .fact 100012 (Fact.at 12 (Fact.rep [] (a0.Members : Int))), .fact 100013 (Fact.at 13 (Fact.rep [] (a0.Chunk : Int))), .fact 100014 (Fact.at 14 (Fact.rep [] (a0.Rows : Int))), .fact 100015 (Fact.at 15 (Fact.rep [] (a0.Log : Int))), .fact 100016 (Fact.at 16 (Fact.rep [] (a0.Heads : Int))), .fact 100018 (Fact.at 18 (Fact.rep [] ((0 : Int) : Int))), .fact 100019 (Fact.at 19 (Fact.nilv)), .fact 100020 (Fact.at 20 (Fact.nilv)), .fact 100021 (Fact.at 21 (Fact.rep [] ((0 : UInt8) : UInt8))), .fact 100022 (Fact.at 22 (Fact.rep [] (false : Bool))), .fact 100023 (Fact.at 23 (Fact.rep [] ((0 : UInt32) : UInt32))), .fact 100010 (Fact.obj 10 [(false, 1), (false, 1), (false, 1), (false, 1), (false, 1), (false, 1)]), .fact 100017 (Fact.obj 17 [(false, 1), (false, 1), (false, 1), (false, 1), (false, 1), (false, 1)])] _ _
   refine CWalk.cond rfl (fun hb => ?_) (fun hb => ?_)
   ·have hm := cond_t hb hm
    refine CWalk.seq ?_
    refine CWalk.region ?_
    refine wo (Spec.build (us := []) (ls' := [(false, 1, Fact.rep [] ((0 : Int) : Int)), (false, 1, Fact.nilv), (false, 1, Fact.nilv), (false, 1, Fact.rep [] ((0 : UInt8) : UInt8)), (false, 1, Fact.rep [] (false : Bool)), (false, 1, Fact.rep [] ((0 : UInt32) : UInt32))]) bd28 rfl BP.nil) ?_
    refine ws (Step.storeObj (ls := [(false, 1, Fact.rep [] ((0 : Int) : Int)), (false, 1, Fact.nilv), (false, 1, Fact.nilv), (false, 1, Fact.rep [] ((0 : UInt8) : UInt8)), (false, 1, Fact.rep [] (false : Bool)), (false, 1, Fact.rep [] ((0 : UInt32) : UInt32))]) rfl ty28 rfl rfl (Has.s rfl) rfl (HasL.flds (Has.s rfl)) rfl) ?_
    refine wo (Spec.assign Has.int) ?_
    refine Walk.nil ?_
    refine Leaf.thenN ?_
    refine CWalk.ret ?_
    refine Leaf.blockR ?_
    refine Leaf.thenR ?_
    obtain rfl := Option.some.inj hm
    exact Leaf.retC2 rfl (HasR.cv (HasR.obj (ls := [(false, 1, Fact.rep [] ((0 : Int) : Int)), (false, 1, Fact.nilv), (false, 1, Fact.nilv), (false, 1, Fact.rep [] ((0 : UInt8) : UInt8)), (false, 1, Fact.rep [] (false : Bool)), (false, 1, Fact.rep [] ((0 : UInt32) : UInt32))]) ty28 rfl rfl (Has.s rfl) rfl (HasGs.cons (HasG.s rfl) (HasGs.cons (HasG.s rfl) (HasGs.cons (HasG.s rfl) (HasGs.cons (HasG.s rfl) (HasGs.cons (HasG.s rfl) (HasGs.cons (HasG.s rfl) HasGs.nil))))))) (Cv.flds (CvL.cons Cv.fl (CvL.cons (Cv.trans Cv.nilOw (Cv.owM (T := []) (te := []) rfl rfl)) (CvL.cons (Cv.trans Cv.nilOw (Cv.owF (T := []) (te := []) rfl)) (CvL.cons Cv.fl (CvL.cons Cv.fl (CvL.cons Cv.fl CvL.nil)))))))) (HasR.cv (HasR.tmp (Has.s rfl)) Cv.fl)
   ·have hm := cond_f hb hm
    refine CWalk.skip ?_
    refine Leaf.blockN ?_
    refine Leaf.thenN ?_
    refine CWalk.seq ?_
    obtain ⟨x3, hx3, hm⟩ := bind_some hm
    obtain ⟨x4, hx4, hm⟩ := bind_some hm
    refine CWalk.drawM [[], [], [1], [1, 2], [], [4], [4, 5], [4, 5, 6], [0, 1, 2, 3, 4, 5, 6, 7], [0, 1, 2, 3, 4, 5, 6, 7, 8], [0, 1, 2, 3, 4, 5, 6, 7, 8, 9]] [[.fact 25 (Fact.rep [] (a1 : Int))], [.fact 26 (Fact.pto 10 1)], [.fact 27 (Fact.rep [] (a0.Members : Int))], [.fact 28 (.isv 25), .fact 100025 (Fact.own 25 [] 31 (x3 : List (List UInt8))), .killId 25], [.fact 29 (Fact.pto 10 1)], [.fact 30 (Fact.rep [] (a0.Members : Int))], [.fact 31 (Fact.rep [] ((wI (a0.Members - (1 : Int))) : Int))], [.fact 32 (.isv 26), .fact 100026 (Fact.own 26 [] 4 (x4 : List Bool)), .killId 26], [.fact 33 (Fact.flds [(false, 1, Fact.rep [] (a1 : Int)), (false, 1, Fact.isv 25), (false, 1, Fact.isv 26), (false, 1, Fact.rep [] ((0 : UInt8) : UInt8)), (false, 1, Fact.rep [] (false : Bool)), (false, 1, Fact.rep [] ((0 : UInt32) : UInt32))])], [.fact 100017 (Fact.obj 17 [(false, 1), (false, 1), (false, 1), (false, 1), (false, 1), (false, 1)]), .fact 100018 (Fact.at 18 (Fact.rep [] (a1 : Int))), .fact 100019 (Fact.at 19 (Fact.isv 25)), .fact 100020 (Fact.at 20 (Fact.isv 26)), .fact 100021 (Fact.at 21 (Fact.rep [] ((0 : UInt8) : UInt8))), .fact 100022 (Fact.at 22 (Fact.rep [] (false : Bool))), .fact 100023 (Fact.at 23 (Fact.rep [] ((0 : UInt32) : UInt32))), .kill 17, .killId 18, .killId 19, .killId 20, .killId 21, .killId 22, .killId 23], [.fact 5 (Fact.rep [] ((0 : Int) : Int))]] mixed (by kernel_rfl) (ao (so (Spec.move (Has.s rfl))) (ao (so (Spec.fieldAddrO fd24_1 (Has.cv (Has.s rfl) (Cv.isvP rfl)))) (ao (so (Spec.loadF (i := 1) ty3 rfl (Has.s rfl) rfl (HasG.s rfl))) (ao (StepG.stE (Step.makeOwn 25 hx3 rfl rfl ow25 zt31 (Has.s rfl))) (ao (so (Spec.fieldAddrO fd24_1 (Has.cv (Has.s rfl) (Cv.isvP rfl)))) (ao (so (Spec.loadF (i := 1) ty3 rfl (Has.s rfl) rfl (HasG.s rfl))) (ao (so (Spec.subI (Has.s rfl) Has.int)) (ao (StepG.stE (Step.makeOwn 26 hx4 rfl rfl ow26 zt4 (Has.s rfl))) (ao (so (Spec.build (us := [(0, .tmp 25), (1, .tmp 28), (2, .tmp 32)]) (ls' := [(false, 1, Fact.rep [] (a1 : Int)), (false, 1, Fact.isv 25), (false, 1, Fact.isv 26), (false, 1, Fact.rep [] ((0 : UInt8) : UInt8)), (false, 1, Fact.rep [] (false : Bool)), (false, 1, Fact.rep [] ((0 : UInt32) : UInt32))]) bd28 rfl (BP.cons rfl rfl (Has.s rfl) (Has.s rfl) (BP.cons rfl rfl (Has.cv (Has.s rfl) (Cv.own rfl)) (Has.s rfl) (BP.cons rfl rfl (Has.cv (Has.s rfl) (Cv.own rfl)) (Has.s rfl) BP.nil))))) (ao (StepG.stE (Step.storeObj (ls := [(false, 1, Fact.rep [] (a1 : Int)), (false, 1, Fact.isv 25), (false, 1, Fact.isv 26), (false, 1, Fact.rep [] ((0 : UInt8) : UInt8)), (false, 1, Fact.rep [] (false : Bool)), (false, 1, Fact.rep [] ((0 : UInt32) : UInt32))]) rfl ty28 rfl rfl (Has.s rfl) rfl (HasL.flds (Has.s rfl)) rfl)) (ao (so (Spec.assign Has.int)) AllM.nil))))))))))) ?_
    refine Leaf.thenN ?_
    refine CWalk.ret ?_
    obtain rfl := Option.some.inj hm
    exact Leaf.retC2 rfl (HasR.cv (HasR.obj (ls := [(false, 1, Fact.rep [] (a1 : Int)), (false, 1, Fact.isv 25), (false, 1, Fact.isv 26), (false, 1, Fact.rep [] ((0 : UInt8) : UInt8)), (false, 1, Fact.rep [] (false : Bool)), (false, 1, Fact.rep [] ((0 : UInt32) : UInt32))]) ty28 rfl rfl (Has.s rfl) rfl (HasGs.cons (HasG.s rfl) (HasGs.cons (HasG.s rfl) (HasGs.cons (HasG.s rfl) (HasGs.cons (HasG.s rfl) (HasGs.cons (HasG.s rfl) (HasGs.cons (HasG.s rfl) HasGs.nil))))))) (Cv.flds (CvL.cons Cv.fl (CvL.cons (Cv.trans (Cv.isvOw rfl) (Cv.owM (T := [25]) (te := []) rfl rfl)) (CvL.cons (Cv.trans (Cv.isvOw rfl) (Cv.owF (T := [26]) (te := []) rfl)) (CvL.cons Cv.fl (CvL.cons Cv.fl (CvL.cons Cv.fl CvL.nil)))))))) (HasR.cv (HasR.tmp (Has.s rfl)) Cv.fl)
  ·refine CWalk.seq ?_
   refine CWalk.region ?_
   refine mv ?_
   refine wo (Spec.lssI (Has.s rfl) Has.int) ?_
   refine wo (Spec.assign (Has.s rfl)) ?_
   refine Walk.nil ?_
   refine Leaf.thenN ?_
   refine CWalk.cond rfl (fun hb => ?_) (fun hb => ?_)
   ·have hm := cond_t hb hm
    refine CWalk.skip ?_
    exact Leaf.join (decide (a1 < (0 : Int))) hm (st (sn (sn (st (sf (sf (sf (sf (sf (sf (sf (sg (sg (sf (sf (sf (sn (sn Sub.nil))))))))))))))))))
   ·have hm := cond_f hb hm
    refine CWalk.region ?_
    refine mv ?_
    refine mv ?_
    refine wo (Spec.geqI (Has.s rfl) (Has.s rfl)) ?_
    refine wo (Spec.assign (Has.s rfl)) ?_
    refine Walk.nil ?_
    exact Leaf.join (decide (a1 ≥ x1.1)) hm (st (sn (sn (st (sf (sf (sf (sf (sf (sf (sf (sg (sg (sf (sf (sf (sn (sn Sub.nil))))))))))))))))))

def law16_full_L1 (a0 : UInt8) (s2 : Int) (s3 : List UInt8) : Option (Ctl (Int × (List UInt8)) ((List UInt8))) :=
  (bif (decide (s2 < ((s3).length : Int))) then Option.bind (bnd (s3).length s2) (fun x5 => some (Ctl.next ((wI (s2 + (1 : Int))), (s3).set x5 a0))) else some (Ctl.brk s3))
/-- freeboard/freeboardlaw16.full -/
def law16_full (a0 : UInt8) : Option ((List UInt8)) :=
  Option.bind (makeL (0 : UInt8) (128 : Int)) (fun x1 => Option.bind (loopM (fun s : Int × (List UInt8) => law16_full_L1 a0 s.1 s.2) FUEL ((0 : Int), x1)) (fun b6 => some b6))
set_option maxRecDepth 100000 in
set_option maxHeartbeats 2000000 in
theorem law16_full_c (a0 : UInt8) {r : (List UInt8)} (hm : law16_full a0 = some r) : Ctr Try.prog 43 [.rep 0 a0] (.own 0 none 5 r) [] := by
 refine ctr_of_walk [[10]] 17 Try.func43 rfl rfl rfl rfl (fun w0 om => ?_)
 unfold law16_full at hm
 refine CWalk.sub (G' := [.fact 0 (Fact.rep [] (a0 : UInt8))]) (Sub.cons (Has.fl (Has.s rfl)) Sub.nil) ?_
 refine CWalk.seq ?_
 refine CWalk.region ?_
 refine wo (Spec.assign Has.nilv) ?_
 refine Walk.nil ?_
 refine Leaf.thenN ?_
 refine CWalk.seq ?_
 refine CWalk.region ?_
 obtain ⟨x1, hx1, hm⟩ := bind_some hm
 refine ws (Step.makeOwn 10 hx1 rfl rfl ow31 zt5 Has.int) ?_
 refine wo (Spec.assign (Has.s rfl)) ?_
 refine Walk.nil ?_
 refine Leaf.thenN ?_
 refine CWalk.seq ?_
 refine CWalk.seq ?_
 refine CWalk.region ?_
 refine wo (Spec.assign Has.int) ?_
 refine Walk.nil ?_
 refine Leaf.thenN ?_
 refine CWalk.block ?_
 obtain ⟨b6, hb6, hm⟩ := bind_some hm
 refine CWalk.loop (fun s : Int × (List UInt8) => [.fact 0 (Fact.rep [] (a0 : UInt8)), .fact 3 (Fact.isv 10), .fact 4 (Fact.rep [] (s.1 : Int)), .fact 100010 (Fact.own 10 [] 5 (s.2 : List UInt8))]) (fun b : (List UInt8) => (Exit.exit 0, [.fact 3 (Fact.isv 10), .fact 100010 (Fact.own 10 [] 5 (b : List UInt8))])) hb6 (st (sn (st (Sub.cons (Has.ownM (Has.s rfl) rfl) Sub.nil)))) ?_ ?_
 ·rintro ⟨s2, s3⟩ c4 hm
  replace hm : law16_full_L1 a0 s2 s3 = some c4 := hm
  unfold law16_full_L1 at hm
  show CWalk _ [.fact 0 (Fact.rep [] (a0 : UInt8)), .fact 3 (Fact.isv 10), .fact 4 (Fact.rep [] (s2 : Int)), .fact 100010 (Fact.own 10 [] 5 (s3 : List UInt8))] _ _
  refine CWalk.seq ?_
  refine CWalk.seq ?_
  refine CWalk.region ?_
  refine mv ?_
  refine mv ?_
  refine wo (Spec.len (Has.cv (Has.s rfl) (Cv.own rfl)) Try.underlying31) ?_
  refine wo (Spec.lssI (Has.s rfl) (Has.s rfl)) ?_
  refine Walk.nil ?_
  refine Leaf.thenN ?_
  refine CWalk.cond rfl (fun hb => ?_) (fun hb => ?_)
  ·have hm := cond_t hb hm
   refine CWalk.skip ?_
   refine Leaf.thenN ?_
   refine CWalk.seq ?_
   refine CWalk.block ?_
   refine CWalk.region ?_
   refine mv ?_
   refine mv ?_
   refine mv ?_
   obtain ⟨x5, hx5, hm⟩ := bind_some hm
   refine wo (Spec.idxOwn hx5 ow31 (Has.s rfl) rfl (Has.s rfl)) ?_
   refine ws (Step.storeOwn (te' := []) rfl (bnd_lt hx5 rfl) ty5 (Has.s rfl) rfl (Has.s rfl) ElKeep.flat ElKeep.flat) ?_
   refine Walk.nil ?_
   refine Leaf.blockN ?_
   refine Leaf.thenN ?_
   refine CWalk.region ?_
   refine mv ?_
   refine wo (Spec.addI (Has.s rfl) Has.int) ?_
   refine wo (Spec.assign (Has.s rfl)) ?_
   refine Walk.nil ?_
   exact Leaf.next hm (st (sn (st (Sub.cons (Has.ownM (Has.s rfl) rfl) Sub.nil))))
  ·have hm := cond_f hb hm
   refine CWalk.exit ?_
   refine Leaf.thenE ?_
   exact Leaf.brk hm (fun h => nomatch h) rfl (sn (Sub.cons (Has.ownM (Has.s rfl) rfl) Sub.nil))
 ·intro _
  refine Leaf.blockE ?_
  refine Leaf.thenN ?_
  refine CWalk.seq ?_
  refine CWalk.region ?_
  refine mv ?_
  refine wo (Spec.assign (Has.s rfl)) ?_
  refine Walk.nil ?_
  refine Leaf.thenN ?_
  refine CWalk.ret ?_
  obtain rfl := Option.some.inj hm
  exact Leaf.retC1 rfl (HasR.cv (HasR.tmp (Has.s rfl)) (Cv.trans (Cv.isvOw rfl) (Cv.owF (T := [10]) (te := []) rfl)))

def slices_IndexFunc_byte_byte_L1 (a0 : List (List UInt8)) (a1 : (List UInt8) → Option Bool) (s1 : Int) : Option (Ctl (Int) ((Unit) ⊕ (Int))) :=
  (bif (decide (s1 < ((a0).length : Int))) then Option.bind (idx a0 s1) (fun x3 => Option.bind (a1 x3) (fun x4 => (bif x4 then some (Ctl.brk (Sum.inr s1)) else some (Ctl.next (wI (s1 + (1 : Int))))))) else some (Ctl.brk (Sum.inl ())))
/-- slices.IndexFunc[[][]byte,[]byte] -/
def slices_IndexFunc_byte_byte (a0 : List (List UInt8)) (a1 : (List UInt8) → Option Bool) : Option (Int) :=
  Option.bind (loopM (fun s : Int => slices_IndexFunc_byte_byte_L1 a0 a1 s) FUEL (0 : Int)) (fun b5 => Sum.elim (fun b6 => some (-1 : Int)) (fun b7 => some b7) b5)
set_option maxRecDepth 100000 in
set_option maxHeartbeats 2000000 in
theorem slices_IndexFunc_byte_byte_c (a0 : List (List UInt8)) (a1 : (List UInt8) → Option Bool) {r : Int} (hm : slices_IndexFunc_byte_byte a0 a1 = some r) : Ctr Try.prog 76 [.rep 0 a0, .fn Try.prog pre1 0 a1] (.fl r) [] := by
 refine ctr_of_walk [[]] 19 Try.func76 rfl rfl rfl rfl (fun w0 om => ?_)
 unfold slices_IndexFunc_byte_byte at hm
 refine CWalk.sub (G' := [.fact 0 (Fact.rep [0] (a0 : List (List UInt8))), .fact 1 (Fact.fn Try.prog pre1 [0] (a1))]) (sn (sn Sub.nil)) ?_
 refine CWalk.seq ?_
 refine CWalk.region ?_
 refine wo (Spec.assign Has.int) ?_
 refine Walk.nil ?_
 refine Leaf.thenN ?_
 refine CWalk.seq ?_
 refine CWalk.seq ?_
 refine CWalk.region ?_
 refine mv ?_
 refine wo (Spec.len (Has.s rfl) Try.underlying25) ?_
 refine wo (Spec.move Has.int) ?_
 refine Walk.nil ?_
 refine Leaf.thenN ?_
 refine CWalk.block ?_
 obtain ⟨b5, hb5, hm⟩ := bind_some hm
 refine CWalk.loop (fun s : Int => [.fact 0 (Fact.rep [0] (a0 : List (List UInt8))), .fact 1 (Fact.fn Try.prog pre1 [0] (a1)), .fact 7 (Fact.rep [] (((a0).length : Int) : Int)), .fact 8 (Fact.rep [] (s : Int))]) (fun b : (Unit) ⊕ (Int) => Sum.elim (fun b => (Exit.exit 0, [])) (fun b => (Exit.ret, [.fact 4 (Fact.rep [] (b : Int))])) b) hb5 (su (sn (st (st Sub.nil)))) ?_ ?_
 ·rintro s1 c2 hm
  replace hm : slices_IndexFunc_byte_byte_L1 a0 a1 s1 = some c2 := hm
  unfold slices_IndexFunc_byte_byte_L1 at hm
  show CWalk _ [.fact 0 (Fact.rep [0] (a0 : List (List UInt8))), .fact 1 (Fact.fn Try.prog pre1 [0] (a1)), .fact 7 (Fact.rep [] (((a0).length : Int) : Int)), .fact 8 (Fact.rep [] (s1 : Int))] _ _
  refine CWalk.seq ?_
  refine CWalk.region ?_
  refine wo (Spec.lssI (Has.s rfl) (Has.s rfl)) ?_
  refine Walk.nil ?_
  refine Leaf.thenN ?_
  refine CWalk.seq ?_
  refine CWalk.cond rfl (fun hb => ?_) (fun hb => ?_)
  ·have hm := cond_t hb hm
   refine CWalk.skip ?_
   refine Leaf.thenN ?_
   refine CWalk.seq ?_
   refine CWalk.block ?_
   refine CWalk.seq ?_
   refine CWalk.region ?_
   refine mv ?_
   refine wo (Spec.assign (Has.s rfl)) ?_
   refine Walk.nil ?_
   refine Leaf.thenN ?_
   refine CWalk.seq ?_
   refine CWalk.region ?_
   refine mv ?_
   refine mv ?_
   refine mv ?_
   obtain ⟨x3, hx3, hm⟩ := bind_some hm
   refine wo (Spec.indexAddr hx3 sl25 (Has.s rfl) (Has.s rfl)) ?_
   refine wo (Spec.load ty31 (Has.s rfl)) ?_
   obtain ⟨x4, hx4, hm⟩ := bind_some hm
   refine wo (Spec.callFn (xs := [.tmp 15]) (x := x3) [0] 10 rfl hx4 (Has.s rfl) (HasAll.cons (Has.m (Has.s rfl) rfl) HasAll.nil)) ?_
   refine Walk.nil ?_
   refine Leaf.thenN ?_
   refine CWalk.cond rfl (fun hb => ?_) (fun hb => ?_)
   ·have hm := cond_t hb hm
    refine CWalk.seq ?_
    refine CWalk.region ?_
    refine mv ?_
    refine wo (Spec.assign (Has.s rfl)) ?_
    refine Walk.nil ?_
    refine Leaf.thenN ?_
    refine CWalk.ret ?_
    refine Leaf.blockR ?_
    refine Leaf.thenR ?_
    exact Leaf.brk hm (fun h => nomatch h) rfl (st Sub.nil)
   ·have hm := cond_f hb hm
    refine CWalk.skip ?_
    refine Leaf.blockN ?_
    refine Leaf.thenN ?_
    refine CWalk.region ?_
    refine wo (Spec.addI (Has.s rfl) Has.int) ?_
    refine mv ?_
    refine Walk.nil ?_
    exact Leaf.next hm (su (sn (st (st Sub.nil))))
  ·have hm := cond_f hb hm
   refine CWalk.exit ?_
   refine Leaf.thenE ?_
   exact Leaf.brk hm (fun h => nomatch h) rfl (Sub.nil)
 ·intro _
  rcases b5 with b6 | b7
  ·have hm := selim_l hm
   refine Leaf.blockE ?_
   refine Leaf.thenN ?_
   refine CWalk.seq ?_
   refine CWalk.region ?_
   refine wo (Spec.assign Has.int) ?_
   refine Walk.nil ?_
   refine Leaf.thenN ?_
   refine CWalk.ret ?_
   obtain rfl := Option.some.inj hm
   exact Leaf.retC1 rfl (HasR.cv (HasR.tmp (Has.s rfl)) Cv.fl)
  ·have hm := selim_r hm
   refine Leaf.blockR ?_
   refine Leaf.thenR ?_
   obtain rfl := Option.some.inj hm
   exact Leaf.retC1 rfl (HasR.cv (HasR.tmp (Has.s rfl)) Cv.fl)

/-- slices.ContainsFunc[[][]byte,[]byte] -/
def slices_ContainsFunc_byte_byte (a0 : List (List UInt8)) (a1 : (List UInt8) → Option Bool) : Option (Bool) :=
  Option.bind (slices_IndexFunc_byte_byte a0 a1) (fun x1 => some (decide (x1 ≥ (0 : Int))))
set_option maxRecDepth 100000 in
set_option maxHeartbeats 2000000 in
theorem slices_ContainsFunc_byte_byte_c (a0 : List (List UInt8)) (a1 : (List UInt8) → Option Bool) {r : Bool} (hm : slices_ContainsFunc_byte_byte a0 a1 = some r) : Ctr Try.prog 57 [.rep 0 a0, .fn Try.prog pre1 0 a1] (.fl r) [] := by
 refine ctr_of_walk [[]] 9 Try.func57 rfl rfl rfl rfl (fun w0 om => ?_)
 unfold slices_ContainsFunc_byte_byte at hm
 refine CWalk.sub (G' := [.fact 0 (Fact.rep [0] (a0 : List (List UInt8))), .fact 1 (Fact.fn Try.prog pre1 [0] (a1))]) (sn (sn Sub.nil)) ?_
 refine CWalk.seq ?_
 refine CWalk.region ?_
 refine wo (Spec.assign Has.bool) ?_
 refine Walk.nil ?_
 refine Leaf.thenN ?_
 refine CWalk.seq ?_
 refine CWalk.region ?_
 refine mv ?_
 refine mv ?_
 obtain ⟨x1, hx1, hm⟩ := bind_some hm
 refine wo (f := Fact.rep [] (x1 : Int)) (Spec.callE [0] 10 rfl en76 (slices_IndexFunc_byte_byte_c a0 a1 hx1) (HasAll.cons (Has.m (Has.s rfl) rfl) (HasAll.cons (Has.cv (Has.s rfl) (Cv.fnM rfl)) HasAll.nil))) ?_
 refine wo (Spec.geqI (Has.s rfl) Has.int) ?_
 refine wo (Spec.assign (Has.s rfl)) ?_
 refine Walk.nil ?_
 refine Leaf.thenN ?_
 refine CWalk.ret ?_
 obtain rfl := Option.some.inj hm
 exact Leaf.retC1 rfl (HasR.cv (HasR.tmp (Has.s rfl)) Cv.fl)

/-- freeboard/head.odd -/
def head_odd (a0 : List UInt8) : Option (Bool) :=
  some ((((a0).length : Int) != (0 : Int)) && (((a0).length : Int) != (128 : Int)))
set_option maxRecDepth 100000 in
set_option maxHeartbeats 2000000 in
theorem head_odd_c (a0 : List UInt8) {r : Bool} (hm : head_odd a0 = some r) : Ctr Try.prog 58 [.rep 0 a0] (.fl r) [] := by
 refine ctr_of_walk [[]] 11 Try.func58 rfl rfl rfl rfl (fun w0 om => ?_)
 unfold head_odd at hm
 refine CWalk.sub (G' := [.fact 0 (Fact.rep [0] (a0 : List UInt8))]) (sn Sub.nil) ?_
 refine CWalk.seq ?_
 refine CWalk.region ?_
 refine wo (Spec.assign Has.bool) ?_
 refine Walk.nil ?_
 refine Leaf.thenN ?_
 refine CWalk.seq ?_
 refine CWalk.region ?_
 refine mv ?_
 refine wo (Spec.len (Has.s rfl) Try.underlying31) ?_
 refine wo (Spec.neqI (Has.s rfl) Has.int) ?_
 refine mv ?_
 refine wg rfl rfl (fun hb => Spec.move (Has.s rfl)) ?_
 refine wg rfl rfl (fun hb => Spec.len (Has.u rfl hb) Try.underlying31) ?_
 refine wg rfl rfl (fun hb => Spec.neqI (Has.u rfl hb) Has.int) ?_
 refine wo (Spec.and (Has.s rfl) (fun h => Has.u rfl h)) ?_
 refine wo (Spec.assign (Has.s rfl)) ?_
 refine Walk.nil ?_
 refine Leaf.thenN ?_
 refine CWalk.ret ?_
 obtain rfl := Option.some.inj hm
 exact Leaf.retC1 rfl (HasR.cv (HasR.tmp (Has.s rfl)) Cv.fl)

def head_Check_L1 (a1 : Head) (s3 : Bool) (s4 : Int) : Option (Ctl (Bool × Int) ((Bool) ⊕ (Unit))) :=
  (bif (decide (s4 < ((a1.Dirty).length : Int))) then Option.bind (idx a1.Dirty s4) (fun x6 => Option.bind (gO (x6) (idx a1.Blocks s4)) (fun x7 => (bif (x6 && (((x7).length : Int) == (0 : Int))) then some (Ctl.brk (Sum.inr ())) else some (Ctl.next ((s3 || x6), (wI (s4 + (1 : Int)))))))) else some (Ctl.brk (Sum.inl s3)))
/-- freeboard/head.Check -/
def head_Check (a0 : Config) (a1 : Head) : Option (Int) :=
  Option.bind (shape_Stripes a0) (fun x1 => Option.bind (gO (!((((((x1.2 != (0 : Int)) || (decide (a1.Stripe < (0 : Int)))) || (decide (a1.Stripe ≥ x1.1))) || (((a1.Blocks).length : Int) != a0.Members)) || (((a1.Dirty).length : Int) != (wI (a0.Members - (1 : Int))))) || (decide ((a1.Phase.toNat : Int) > ((4 : UInt8).toNat : Int))))) (slices_ContainsFunc_byte_byte a1.Blocks (fun y => head_odd y))) (fun x2 => (bif (((((((x1.2 != (0 : Int)) || (decide (a1.Stripe < (0 : Int)))) || (decide (a1.Stripe ≥ x1.1))) || (((a1.Blocks).length : Int) != a0.Members)) || (((a1.Dirty).length : Int) != (wI (a0.Members - (1 : Int))))) || (decide ((a1.Phase.toNat : Int) > ((4 : UInt8).toNat : Int)))) || x2) then some (8 : Int) else Option.bind (loopM (fun s : Bool × Int => head_Check_L1 a1 s.1 s.2) FUEL (false, (0 : Int))) (fun b8 => Sum.elim (fun b9 => Option.bind (idx a1.Blocks (wI (a0.Members - (1 : Int)))) (fun x10 => (bif (((((a1.Phase == (0 : UInt8)) == (decide (((x10).length : Int) > (0 : Int)))) || ((!(a1.Phase == (0 : UInt8))) && (!b9))) || ((decide ((a1.Phase.toNat : Int) ≤ ((1 : UInt8).toNat : Int))) && ((a1.Seq.toNat : Int) != ((0 : UInt32).toNat : Int)))) || (a1.Deals && ((!b9) || (decide ((a1.Phase.toNat : Int) > ((1 : UInt8).toNat : Int)))))) then some (8 : Int) else some (0 : Int)))) (fun b11 => some (8 : Int)) b8))))
set_option maxRecDepth 100000 in
set_option maxHeartbeats 2000000 in
theorem head_Check_c (a0 : Config) (a1 : Head) {r : Int} (hm : head_Check a0 a1 = some r) : Ctr Try.prog 24 [.rep 0 a0, .rep 0 a1] (.fl r) [] := by
 refine ctr_of_walk [[]] 126 Try.func24 rfl rfl rfl rfl (fun w0 om => ?_)
 unfold head_Check at hm
 refine CWalk.sub (G' := [.fact 0 (Fact.rep [] (a0 : Config)), .fact 1 (Fact.rep [0] (a1 : Head))]) (Sub.cons (Has.fl (Has.s rfl)) (sn Sub.nil)) ?_
 refine CWalk.seq ?_
 refine CWalk.region ?_
 refine ws (Step.boxObj (ls := [(false, 1, Fact.rep [] (a0.Id : UInt32)), (false, 1, Fact.rep [] (a0.Members : Int)), (false, 1, Fact.rep [] (a0.Chunk : Int)), (false, 1, Fact.rep [] (a0.Rows : Int)), (false, 1, Fact.rep [] (a0.Log : Int)), (false, 1, Fact.rep [] (a0.Heads : Int))]) 10 rfl rfl rfl rfl (HasL.flds (Has.cv (Has.s rfl) (Cv.trans (Cv.opens (chConfig a0)) (Cv.flds (CvL.cons Cv.fl (CvL.cons Cv.fl (CvL.cons Cv.fl (CvL.cons Cv.fl (CvL.cons Cv.fl (CvL.cons Cv.fl CvL.nil))))))))))) ?_
 refine ws (Step.boxObj (ls := [(false, 1, Fact.rep [] (a1.Stripe : Int)), (false, 1, Fact.rep [0] (a1.Blocks : List (List UInt8))), (false, 1, Fact.rep [0] (a1.Dirty : List Bool)), (false, 1, Fact.rep [] (a1.Phase : UInt8)), (false, 1, Fact.rep [] (a1.Deals : Bool)), (false, 1, Fact.rep [] (a1.Seq : UInt32))]) 17 rfl rfl rfl rfl (HasL.flds (Has.cv (Has.s rfl) (Cv.trans (Cv.opens (chHead a1)) (Cv.flds (CvL.cons Cv.fl (CvL.cons Cv.refl (CvL.cons Cv.refl (CvL.cons Cv.fl (CvL.cons Cv.fl (CvL.cons Cv.fl CvL.nil))))))))))) ?_
 refine wo (Spec.assign Has.int) ?_
 refine Walk.nil ?_
 refine Leaf.thenN ?_
 refine CWalk.seq ?_
 refine CWalk.region ?_
 refine wo (Spec.loadObj (ls := [(false, 1, Fact.rep [] (a0.Id : UInt32)), (false, 1, Fact.rep [] (a0.Members : Int)), (false, 1, Fact.rep [] (a0.Chunk : Int)), (false, 1, Fact.rep [] (a0.Rows : Int)), (false, 1, Fact.rep [] (a0.Log : Int)), (false, 1, Fact.rep [] (a0.Heads : Int))]) ty24 rfl rfl (Has.s rfl) rfl (HasGs.cons (HasG.s rfl) (HasGs.cons (HasG.s rfl) (HasGs.cons (HasG.s rfl) (HasGs.cons (HasG.s rfl) (HasGs.cons (HasG.s rfl) (HasGs.cons (HasG.s rfl) HasGs.nil))))))) ?_
 obtain ⟨x1, hx1, hm⟩ := bind_some hm
 refine wo (f := Fact.tup2 (Fact.rep [] (x1.1 : Int)) (Fact.rep [] (x1.2 : Int))) (Spec.callE [] 24 rfl en52 (shape_Stripes_c a0 hx1) (HasAll.cons (Has.fl (Has.cv (Has.s rfl) (Cv.trans (Cv.flds (CvL.cons Cv.fl (CvL.cons Cv.fl (CvL.cons Cv.fl (CvL.cons Cv.fl (CvL.cons Cv.fl (CvL.cons Cv.fl CvL.nil))))))) (Cv.close (T := []) (chConfig a0))))) HasAll.nil)) ?_
 refine mv ?_
 refine wo (Spec.ext0 (Has.s rfl)) ?_
 refine wo (Spec.ext1 (Has.s rfl)) ?_
 refine wo (Spec.assign (Has.s rfl)) ?_
 refine wo (Spec.assign (Has.s rfl)) ?_
 refine Walk.nil ?_
 refine Leaf.thenN ?_
 refine CWalk.seq ?_
 refine CWalk.seq ?_
 refine CWalk.region ?_
 refine mv ?_
 refine wo (Spec.neqI (Has.s rfl) Has.int) ?_
 refine mv ?_
 refine wg rfl rfl (fun hb => Spec.fieldAddrO fd28_0 (Has.cv (Has.s rfl) (Cv.isvP rfl))) ?_
 refine wg rfl rfl (fun hb => Spec.loadF (i := 0) ty3 rfl (Has.u rfl hb) rfl (HasG.s rfl)) ?_
 refine wg rfl rfl (fun hb => Spec.lssI (Has.u rfl hb) Has.int) ?_
 refine wo (Spec.or (Has.s rfl) (fun h => Has.u rfl h)) ?_
 refine mv ?_
 refine wg rfl rfl (fun hb => Spec.fieldAddrO fd28_0 (Has.cv (Has.s rfl) (Cv.isvP rfl))) ?_
 refine wg rfl rfl (fun hb => Spec.loadF (i := 0) ty3 rfl (Has.u rfl hb) rfl (HasG.s rfl)) ?_
 refine wg rfl rfl (fun hb => Spec.move (Has.s rfl)) ?_
 refine wg rfl rfl (fun hb => Spec.geqI (Has.u rfl hb) (Has.u rfl hb)) ?_
 refine wo (Spec.or (Has.s rfl) (fun h => Has.u rfl h)) ?_
 refine mv ?_
 refine wg rfl rfl (fun hb => Spec.fieldAddrO fd28_1 (Has.cv (Has.s rfl) (Cv.isvP rfl))) ?_
 refine wg rfl rfl (fun hb => Spec.loadF (i := 1) ty25 rfl (Has.u rfl hb) rfl (HasG.s rfl)) ?_
 refine wg rfl rfl (fun hb => Spec.len (Has.u rfl hb) Try.underlying25) ?_
 refine wg rfl rfl (fun hb => Spec.fieldAddrO fd24_1 (Has.cv (Has.s rfl) (Cv.isvP rfl))) ?_
 refine wg rfl rfl (fun hb => Spec.loadF (i := 1) ty3 rfl (Has.u rfl hb) rfl (HasG.s rfl)) ?_
 refine wg rfl rfl (fun hb => Spec.neqI (Has.u rfl hb) (Has.u rfl hb)) ?_
 refine wo (Spec.or (Has.s rfl) (fun h => Has.u rfl h)) ?_
 refine mv ?_
 refine wg rfl rfl (fun hb => Spec.fieldAddrO fd28_2 (Has.cv (Has.s rfl) (Cv.isvP rfl))) ?_
 refine wg rfl rfl (fun hb => Spec.loadF (i := 2) ty26 rfl (Has.u rfl hb) rfl (HasG.s rfl)) ?_
 refine wg rfl rfl (fun hb => Spec.len (Has.u rfl hb) Try.underlying26) ?_
 refine wg rfl rfl (fun hb => Spec.fieldAddrO fd24_1 (Has.cv (Has.s rfl) (Cv.isvP rfl))) ?_
 refine wg rfl rfl (fun hb => Spec.loadF (i := 1) ty3 rfl (Has.u rfl hb) rfl (HasG.s rfl)) ?_
 refine wg rfl rfl (fun hb => Spec.subI (Has.u rfl hb) Has.int) ?_
 refine wg rfl rfl (fun hb => Spec.neqI (Has.u rfl hb) (Has.u rfl hb)) ?_
 refine wo (Spec.or (Has.s rfl) (fun h => Has.u rfl h)) ?_
 refine mv ?_
 refine wg rfl rfl (fun hb => Spec.fieldAddrO fd28_3 (Has.cv (Has.s rfl) (Cv.isvP rfl))) ?_
 refine wg rfl rfl (fun hb => Spec.loadF (i := 3) ty5 rfl (Has.u rfl hb) rfl (HasG.s rfl)) ?_
 refine wg rfl rfl (fun hb => Spec.gtrN (α := UInt8) (Has.u rfl hb) (Has.u8 4 rfl)) ?_
 refine wo (Spec.or (Has.s rfl) (fun h => Has.u rfl h)) ?_
 refine mv ?_
 refine wg rfl rfl (fun hb => Spec.fieldAddrO fd28_1 (Has.cv (Has.s rfl) (Cv.isvP rfl))) ?_
 refine wg rfl rfl (fun hb => Spec.loadF (i := 1) ty25 rfl (Has.u rfl hb) rfl (HasG.s rfl)) ?_
 obtain ⟨x2, hx2, hm⟩ := bind_some hm
 refine wg (f := Fact.rep [] (x2 : Bool)) rfl rfl (fun hb => Spec.callE [0] 25 rfl en57 (slices_ContainsFunc_byte_byte_c a1.Blocks (fun y => head_odd y) (gO_t hx2 (not_t hb))) (HasAll.cons (Has.m (Has.u rfl hb) rfl) (HasAll.cons (Has.cv Has.func (Cv.fn (pu := []) (pc := []) (shc := []) en58 CvF.nil CvF.nil (fun y r h => head_odd_c y h))) HasAll.nil))) ?_
 refine wo (Spec.or (Has.s rfl) (fun h => Has.u rfl h)) ?_
 refine Walk.nil ?_
 refine Leaf.thenN ?_
 refine CWalk.cond rfl (fun hb => ?_) (fun hb => ?_)
 ·have hm := cond_t hb hm
  refine CWalk.seq ?_
  refine CWalk.region ?_
  refine wo (Spec.assign Has.int) ?_
  refine Walk.nil ?_
  refine Leaf.thenN ?_
  refine CWalk.ret ?_
  refine Leaf.thenR ?_
  obtain rfl := Option.some.inj hm
  exact Leaf.retC1 rfl (HasR.cv (HasR.tmp (Has.s rfl)) Cv.fl)
 ·have hm := cond_f hb hm
  refine CWalk.skip ?_
  refine Leaf.thenN ?_
  refine CWalk.seq ?_
  refine CWalk.region ?_
  refine wo (Spec.assign Has.bool) ?_
  refine Walk.nil ?_
  refine Leaf.thenN ?_
  refine CWalk.seq ?_
  refine CWalk.seq ?_
  refine CWalk.region ?_
  refine wo (Spec.fieldAddrO fd28_2 (Has.cv (Has.s rfl) (Cv.isvP rfl))) ?_
  refine wo (Spec.loadF (i := 2) ty26 rfl (Has.s rfl) rfl (HasG.s rfl)) ?_
  refine wo (Spec.len (Has.s rfl) Try.underlying26) ?_
  refine wo (Spec.move Has.int) ?_
  refine Walk.nil ?_
  refine Leaf.thenN ?_
  refine CWalk.block ?_
  obtain ⟨b8, hb8, hm⟩ := bind_some hm
  refine CWalk.loop (fun s : Bool × Int => [.fact 2 (Fact.isv 10), .fact 3 (Fact.isv 17), .fact 7 (Fact.rep [] (s.1 : Bool)), .fact 58 (Fact.rep [0] (a1.Dirty : List Bool)), .fact 59 (Fact.rep [] (((a1.Dirty).length : Int) : Int)), .fact 60 (Fact.rep [] (s.2 : Int)), .fact 100011 (Fact.at 11 (Fact.rep [] (a0.Id : UInt32))), .fact 100012 (Fact.at 12 (Fact.rep [] (a0.Members : Int))), .fact 100013 (Fact.at 13 (Fact.rep [] (a0.Chunk : Int))), .fact 100014 (Fact.at 14 (Fact.rep [] (a0.Rows : Int))), .fact 100015 (Fact.at 15 (Fact.rep [] (a0.Log : Int))), .fact 100016 (Fact.at 16 (Fact.rep [] (a0.Heads : Int))), .fact 100018 (Fact.at 18 (Fact.rep [] (a1.Stripe : Int))), .fact 100019 (Fact.at 19 (Fact.rep [0] (a1.Blocks : List (List UInt8)))), .fact 100020 (Fact.at 20 (Fact.rep [0] (a1.Dirty : List Bool))), .fact 100021 (Fact.at 21 (Fact.rep [] (a1.Phase : UInt8))), .fact 100022 (Fact.at 22 (Fact.rep [] (a1.Deals : Bool))), .fact 100023 (Fact.at 23 (Fact.rep [] (a1.Seq : UInt32))), .fact 100010 (Fact.obj 10 [(false, 1), (false, 1), (false, 1), (false, 1), (false, 1), (false, 1)]), .fact 100017 (Fact.obj 17 [(false, 1), (false, 1), (false, 1), (false, 1), (false, 1), (false, 1)])]) (fun b : (Bool) ⊕ (Unit) => Sum.elim (fun b => (Exit.exit 0, [.fact 2 (Fact.isv 10), .fact 3 (Fact.isv 17), .fact 7 (Fact.rep [] (b : Bool)), .fact 100011 (Fact.at 11 (Fact.rep [] (a0.Id : UInt32))), .fact 100012 (Fact.at 12 (Fact.rep [] (a0.Members : Int))), .fact 100013 (Fact.at 13 (Fact.rep [] (a0.Chunk : Int))), .fact 100014 (Fact.at 14 (Fact.rep [] (a0.Rows : Int))), .fact 100015 (Fact.at 15 (Fact.rep [] (a0.Log : Int))), .fact 100016 (Fact.at 16 (Fact.rep [] (a0.Heads : Int))), .fact 100018 (Fact.at 18 (Fact.rep [] (a1.Stripe : Int))), .fact 100019 (Fact.at 19 (Fact.rep [0] (a1.Blocks : List (List UInt8)))), .fact 100020 (Fact.at 20 (Fact.rep [0] (a1.Dirty : List Bool))), .fact 100021 (Fact.at 21 (Fact.rep [] (a1.Phase : UInt8))), .fact 100022 (Fact.at 22 (Fact.rep [] (a1.Deals : Bool))), .fact 100023 (Fact.at 23 (Fact.rep [] (a1.Seq : UInt32))), .fact 100010 (Fact.obj 10 [(false, 1), (false, 1), (false, 1), (false, 1), (false, 1), (false, 1)]), .fact 100017 (Fact.obj 17 [(false, 1), (false, 1), (false, 1), (false, 1), (false, 1), (false, 1)])])) (fun b => (Exit.ret, [.fact 4 (Fact.rep [] ((8 : Int) : Int))])) b) hb8 (sn (sn (st (su (st (st (sf (sf (sf (sf (sf (sf (sf (sm (sm (sf (sf (sf (sn (sn Sub.nil)))))))))))))))))))) ?_ ?_
  ·rintro ⟨s3, s4⟩ c5 hm
   replace hm : head_Check_L1 a1 s3 s4 = some c5 := hm
   unfold head_Check_L1 at hm
   show CWalk _ [.fact 2 (Fact.isv 10), .fact 3 (Fact.isv 17), .fact 7 (Fact.rep [] (s3 : Bool)), .fact 58 (Fact.rep [0] (a1.Dirty : List Bool)), .fact 59 (Fact.rep [] (((a1.Dirty).length : Int) : Int)), .fact 60 (Fact.rep [] (s4 : Int)), .fact 100011 (Fact.at 11 (Fact.rep [] (a0.Id : UInt32))), .fact 100012 (Fact.at 12 (Fact.rep [] (a0.Members : Int))), .fact 100013 (Fact.at 13 (Fact.rep [] (a0.Chunk : Int))), .fact 100014 (Fact.at 14 (Fact.rep [] (a0.Rows : Int))), .fact 100015 (Fact.at 15 (Fact.rep [] (a0.Log : Int))), .fact 100016 (Fact.at 16 (Fact.rep [] (a0.Heads : Int))), .fact 100018 (Fact.at 18 (Fact.rep [] (a1.Stripe : Int))), .fact 100019 (Fact.at 19 (Fact.rep [0] (a1.Blocks : List (List UInt8)))), .fact 100020 (Fact.at 20 (Fact.rep [0] (a1.Dirty : List Bool))), .fact 100021 (Fact.at 21 (Fact.rep [] (a1.Phase : UInt8))), .fact 100022 (Fact.at 22 (Fact.rep [] (a1.Deals : Bool))), .fact 100023 (Fact.at 23 (Fact.rep [] (a1.Seq : UInt32))), .fact 100010 (Fact.obj 10 [(false, 1), (false, 1), (false, 1), (false, 1), (false, 1), (false, 1)]), .fact 100017 (Fact.obj 17 [(false, 1), (false, 1), (false, 1), (false, 1), (false, 1), (false, 1)])] _ _
   refine CWalk.seq ?_
   refine CWalk.region ?_
   refine wo (Spec.lssI (Has.s rfl) (Has.s rfl)) ?_
   refine Walk.nil ?_
   refine Leaf.thenN ?_
   refine CWalk.seq ?_
   refine CWalk.cond rfl (fun hb => ?_) (fun hb => ?_)
   ·have hm := cond_t hb hm
    refine CWalk.skip ?_
    refine Leaf.thenN ?_
    refine CWalk.seq ?_
    refine CWalk.block ?_
    refine CWalk.seq ?_
    refine CWalk.region ?_
    refine mv ?_
    obtain ⟨x6, hx6, hm⟩ := bind_some hm
    refine wo (Spec.indexAddr hx6 sl26 (Has.s rfl) (Has.s rfl)) ?_
    refine wo ((Spec.load ty4 (Has.s rfl)).flat (T' := [])) ?_
    refine wo (Spec.assign (Has.s rfl)) ?_
    refine wo (Spec.assign (Has.s rfl)) ?_
    refine Walk.nil ?_
    refine Leaf.thenN ?_
    refine CWalk.seq ?_
    refine CWalk.seq ?_
    refine CWalk.region ?_
    refine mv ?_
    refine mv ?_
    refine wg rfl rfl (fun hb => Spec.fieldAddrO fd28_1 (Has.cv (Has.s rfl) (Cv.isvP rfl))) ?_
    refine wg rfl rfl (fun hb => Spec.loadF (i := 1) ty25 rfl (Has.u rfl hb) rfl (HasG.s rfl)) ?_
    refine wg rfl rfl (fun hb => Spec.move (Has.s rfl)) ?_
    obtain ⟨x7, hx7, hm⟩ := bind_some hm
    refine wg rfl rfl (fun hb => Spec.indexAddr (gO_t hx7 hb) sl25 (Has.u rfl hb) (Has.u rfl hb)) ?_
    refine wg rfl rfl (fun hb => Spec.load ty31 (Has.u rfl hb)) ?_
    refine wg rfl rfl (fun hb => Spec.len (Has.u rfl hb) Try.underlying31) ?_
    refine wg rfl rfl (fun hb => Spec.eqlI (Has.u rfl hb) Has.int) ?_
    refine wo (Spec.and (Has.s rfl) (fun h => Has.u rfl h)) ?_
    refine Walk.nil ?_
    refine Leaf.thenN ?_
    refine CWalk.cond rfl (fun hb => ?_) (fun hb => ?_)
    ·have hm := cond_t hb hm
     refine CWalk.seq ?_
     refine CWalk.region ?_
     refine wo (Spec.assign Has.int) ?_
     refine Walk.nil ?_
     refine Leaf.thenN ?_
     refine CWalk.ret ?_
     refine Leaf.thenR ?_
     refine Leaf.blockR ?_
     refine Leaf.thenR ?_
     exact Leaf.brk hm (fun h => nomatch h) rfl (st Sub.nil)
    ·have hm := cond_f hb hm
     refine CWalk.skip ?_
     refine Leaf.thenN ?_
     refine CWalk.region ?_
     refine mv ?_
     refine mv ?_
     refine wg rfl rfl (fun hb => Spec.move (Has.s rfl)) ?_
     refine wo (Spec.or (Has.s rfl) (fun h => Has.u rfl h)) ?_
     refine wo (Spec.assign (Has.s rfl)) ?_
     refine Walk.nil ?_
     refine Leaf.blockN ?_
     refine Leaf.thenN ?_
     refine CWalk.region ?_
     refine wo (Spec.addI (Has.s rfl) Has.int) ?_
     refine mv ?_
     refine Walk.nil ?_
     exact Leaf.next hm (sn (sn (st (su (st (st (sf (sf (sf (sf (sf (sf (sf (sm (sm (sf (sf (sf (sn (sn Sub.nil))))))))))))))))))))
   ·have hm := cond_f hb hm
    refine CWalk.exit ?_
    refine Leaf.thenE ?_
    exact Leaf.brk hm (fun h => nomatch h) rfl (sn (sn (st (sf (sf (sf (sf (sf (sf (sf (sm (sm (sf (sf (sf (sn (sn Sub.nil)))))))))))))))))
  ·intro _
   rcases b8 with b9 | b11
   ·have hm := selim_l hm
    refine Leaf.blockE ?_
    refine Leaf.thenN ?_
    refine CWalk.seq ?_
    obtain ⟨x10, hx10, hm⟩ := bind_some hm
    refine CWalk.drawM [[], [0], [0, 1], [], [3], [], [5], [5, 6], [3, 4, 5, 6, 7], [3, 4, 5, 6, 7, 8], [3, 4, 5, 6, 7, 8, 9], [3, 4, 5, 6, 7, 8, 9, 10], [0, 1, 2], [0, 1, 2, 3, 4, 5, 6, 7, 8, 9, 10, 11, 12]] [[.fact 80 (Fact.pto 17 3)], [.fact 81 (Fact.rep [] (a1.Phase : UInt8))], [.fact 82 (Fact.rep [] ((a1.Phase == (0 : UInt8)) : Bool))], [.fact 83 (Fact.pto 17 1)], [.fact 84 (Fact.rep [0] (a1.Blocks : List (List UInt8)))], [.fact 85 (Fact.pto 10 1)], [.fact 86 (Fact.rep [] (a0.Members : Int))], [.fact 87 (Fact.rep [] ((wI (a0.Members - (1 : Int))) : Int))], [.fact 88 (Fact.ptr [0] (x10 : List UInt8))], [.fact 89 (Fact.rep [0] (x10 : List UInt8))], [.fact 90 (Fact.rep [] (((x10).length : Int) : Int))], [.fact 91 (Fact.rep [] ((decide (((x10).length : Int) > (0 : Int))) : Bool))], [.fact 10 (Fact.rep [] ((a1.Phase == (0 : UInt8)) : Bool))], [.fact 11 (Fact.rep [] ((decide (((x10).length : Int) > (0 : Int))) : Bool))]] mixed (by kernel_rfl) (ao (so (Spec.fieldAddrO fd28_3 (Has.cv (Has.s rfl) (Cv.isvP rfl)))) (ao (so (Spec.loadF (i := 3) ty5 rfl (Has.s rfl) rfl (HasG.s rfl))) (ao (so (Spec.eqlB (Has.s rfl) (Has.u8 0 rfl))) (ao (so (Spec.fieldAddrO fd28_1 (Has.cv (Has.s rfl) (Cv.isvP rfl)))) (ao (so (Spec.loadF (i := 1) ty25 rfl (Has.s rfl) rfl (HasG.s rfl))) (ao (so (Spec.fieldAddrO fd24_1 (Has.cv (Has.s rfl) (Cv.isvP rfl)))) (ao (so (Spec.loadF (i := 1) ty3 rfl (Has.s rfl) rfl (HasG.s rfl))) (ao (so (Spec.subI (Has.s rfl) Has.int)) (ao (so (Spec.indexAddr hx10 sl25 (Has.s rfl) (Has.s rfl))) (ao (so (Spec.load ty31 (Has.s rfl))) (ao (so (Spec.len (Has.s rfl) Try.underlying31)) (ao (so (Spec.gtrI (Has.s rfl) Has.int)) (ao (so (Spec.assign (Has.s rfl))) (ao (so (Spec.assign (Has.s rfl))) AllM.nil)))))))))))))) ?_
    refine Leaf.thenN ?_
    refine CWalk.seq ?_
    refine CWalk.seq ?_
    refine CWalk.region ?_
    refine mv ?_
    refine mv ?_
    refine wo (Spec.eqlT (Has.s rfl) (Has.s rfl) Try.underlying4) ?_
    refine mv ?_
    refine wg rfl rfl (fun hb => Spec.move (Has.s rfl)) ?_
    refine wg rfl rfl (fun hb => Spec.not (Has.u rfl hb)) ?_
    refine wg rfl rfl (fun hb => Spec.move (Has.u rfl hb)) ?_
    refine Walk.opgu rfl rfl rfl (fun hb => Spec.move (Has.s rfl)) ?_
    refine Walk.opgu rfl rfl rfl (fun hb => Spec.not (Has.u rfl hb)) ?_
    refine wg rfl rfl (fun hb => Spec.and (Has.u rfl hb) (fun h => Has.u rfl ⟨hb, h⟩)) ?_
    refine wo (Spec.or (Has.s rfl) (fun h => Has.u rfl h)) ?_
    refine mv ?_
    refine wg rfl rfl (fun hb => Spec.fieldAddrO fd28_3 (Has.cv (Has.s rfl) (Cv.isvP rfl))) ?_
    refine wg rfl rfl (fun hb => Spec.loadF (i := 3) ty5 rfl (Has.u rfl hb) rfl (HasG.s rfl)) ?_
    refine wg rfl rfl (fun hb => Spec.leqN (α := UInt8) (Has.u rfl hb) (Has.u8 1 rfl)) ?_
    refine wg rfl rfl (fun hb => Spec.move (Has.u rfl hb)) ?_
    refine Walk.opgu rfl rfl rfl (fun hb => Spec.fieldAddrO fd28_5 (Has.cv (Has.s rfl) (Cv.isvP rfl))) ?_
    refine Walk.opgu rfl rfl rfl (fun hb => Spec.loadF (i := 5) ty22 rfl (Has.u rfl hb) rfl (HasG.s rfl)) ?_
    refine Walk.opgu rfl rfl rfl (fun hb => Spec.neqN (α := UInt32) (Has.u rfl hb) (Has.u32 0 rfl)) ?_
    refine wg rfl rfl (fun hb => Spec.and (Has.u rfl hb) (fun h => Has.u rfl ⟨hb, h⟩)) ?_
    refine wo (Spec.or (Has.s rfl) (fun h => Has.u rfl h)) ?_
    refine mv ?_
    refine wg rfl rfl (fun hb => Spec.fieldAddrO fd28_4 (Has.cv (Has.s rfl) (Cv.isvP rfl))) ?_
    refine wg rfl rfl (fun hb => Spec.loadF (i := 4) ty4 rfl (Has.u rfl hb) rfl (HasG.s rfl)) ?_
    refine wg rfl rfl (fun hb => Spec.move (Has.u rfl hb)) ?_
    refine Walk.opgu rfl rfl rfl (fun hb => Spec.move (Has.s rfl)) ?_
    refine Walk.opgu rfl rfl rfl (fun hb => Spec.not (Has.u rfl hb)) ?_
    refine Walk.opgu rfl rfl rfl (fun hb => Spec.move (Has.u rfl hb)) ?_
    refine Walk.opgu rfl rfl rfl (fun hb => Spec.fieldAddrO fd28_3 (Has.cv (Has.s rfl) (Cv.isvP rfl))) ?_
    refine Walk.opgu rfl rfl rfl (fun hb => Spec.loadF (i := 3) ty5 rfl (Has.u rfl hb) rfl (HasG.s rfl)) ?_
    refine Walk.opgu rfl rfl rfl (fun hb => Spec.gtrN (α := UInt8) (Has.u rfl hb) (Has.u8 1 rfl)) ?_
    refine Walk.opgu rfl rfl rfl (fun hb => Spec.or (Has.u rfl hb) (fun h => Has.u rfl ⟨hb, h⟩)) ?_
    refine wg rfl rfl (fun hb => Spec.and (Has.u rfl hb) (fun h => Has.u rfl ⟨hb, h⟩)) ?_
    refine wo (Spec.or (Has.s rfl) (fun h => Has.u rfl h)) ?_
    refine Walk.nil ?_
    refine Leaf.thenN ?_
    refine CWalk.cond rfl (fun hb => ?_) (fun hb => ?_)
    ·have hm := cond_t hb hm
     refine CWalk.seq ?_
     refine CWalk.region ?_
     refine wo (Spec.assign Has.int) ?_
     refine Walk.nil ?_
     refine Leaf.thenN ?_
     refine CWalk.ret ?_
     refine Leaf.thenR ?_
     obtain rfl := Option.some.inj hm
     exact Leaf.retC1 rfl (HasR.cv (HasR.tmp (Has.s rfl)) Cv.fl)
    ·have hm := cond_f hb hm
     refine CWalk.skip ?_
     refine Leaf.thenN ?_
     refine CWalk.seq ?_
     refine CWalk.region ?_
     refine wo (Spec.assign Has.int) ?_
     refine Walk.nil ?_
     refine Leaf.thenN ?_
     refine CWalk.ret ?_
     obtain rfl := Option.some.inj hm
     exact Leaf.retC1 rfl (HasR.cv (HasR.tmp (Has.s rfl)) Cv.fl)
   ·have hm := selim_r hm
    refine Leaf.blockR ?_
    refine Leaf.thenR ?_
    obtain rfl := Option.some.inj hm
    exact Leaf.retC1 rfl (HasR.cv (HasR.tmp (Has.s rfl)) Cv.fl)

/-- slices.Clone[[]bool,bool] -/
def slices_Clone_bool_bool (a0 : List Bool) : Option ((List Bool)) :=
  Option.bind (app ([] : List Bool) a0) (fun x1 => some x1)
set_option maxRecDepth 100000 in
set_option maxHeartbeats 2000000 in
theorem slices_Clone_bool_bool_c (a0 : List Bool) {r : (List Bool)} (hm : slices_Clone_bool_bool a0 = some r) : Ctr Try.prog 56 [.rep 0 a0] (.own 0 none 4 r) [] := by
 refine ctr_of_walk [[10]] 8 Try.func56 rfl rfl rfl rfl (fun w0 om => ?_)
 unfold slices_Clone_bool_bool at hm
 refine CWalk.sub (G' := [.fact 0 (Fact.rep [0] (a0 : List Bool))]) (sn Sub.nil) ?_
 refine CWalk.seq ?_
 refine CWalk.region ?_
 refine wo (Spec.assign Has.nilv) ?_
 refine Walk.nil ?_
 refine Leaf.thenN ?_
 refine CWalk.seq ?_
 refine CWalk.seq ?_
 refine CWalk.region ?_
 refine mv ?_
 refine wo (Spec.eqlNil Try.underlying26 (Has.s rfl)) ?_
 refine Walk.nil ?_
 refine Leaf.thenN ?_
 refine CWalk.condNil rfl (fun hb => ?_) ?_
 ·have hm : some ([] : List Bool) = some r := by first | simpa [app, hb] using hm | simpa [hb] using hm
  refine CWalk.seq ?_
  refine CWalk.region ?_
  refine wo (Spec.assign Has.nilv) ?_
  refine Walk.nil ?_
  refine Leaf.thenN ?_
  refine CWalk.ret ?_
  refine Leaf.thenR ?_
  obtain rfl := Option.some.inj hm
  exact Leaf.retC1 rfl (HasR.cv (HasR.tmp (Has.s rfl)) (Cv.trans Cv.nilOw (Cv.owF (T := []) (te := []) rfl)))
 ·skip
  refine CWalk.skip ?_
  refine Leaf.thenN ?_
  refine CWalk.seq ?_
  refine CWalk.region ?_
  refine ws (Step.lit0 (α := Bool) 10 rfl rfl ow26) ?_
  refine mv ?_
  obtain ⟨x1, hx1, hm⟩ := bind_some hm
  refine ws (Step.append (te' := []) 10 hx1 rfl rfl ow26 (Has.s rfl) rfl (Has.s rfl) ElKeep.flat ElKeep.flat) ?_
  refine wo (Spec.assign (Has.s rfl)) ?_
  refine Walk.nil ?_
  refine Leaf.thenN ?_
  refine CWalk.ret ?_
  obtain rfl := Option.some.inj hm
  exact Leaf.retC1 rfl (HasR.cv (HasR.tmp (Has.s rfl)) (Cv.trans (Cv.isvOw rfl) (Cv.owF (T := [10]) (te := []) rfl)))

/-- slices.Clone[[]byte,byte] -/
def slices_Clone_byte_byte (a0 : List UInt8) : Option ((List UInt8)) :=
  Option.bind (app ([] : List UInt8) a0) (fun x1 => some x1)
set_option maxRecDepth 100000 in
set_option maxHeartbeats 2000000 in
theorem slices_Clone_byte_byte_c (a0 : List UInt8) {r : (List UInt8)} (hm : slices_Clone_byte_byte a0 = some r) : Ctr Try.prog 44 [.rep 0 a0] (.own 0 none 5 r) [] := by
 refine ctr_of_walk [[10]] 8 Try.func44 rfl rfl rfl rfl (fun w0 om => ?_)
 unfold slices_Clone_byte_byte at hm
 refine CWalk.sub (G' := [.fact 0 (Fact.rep [0] (a0 : List UInt8))]) (sn Sub.nil) ?_
 refine CWalk.seq ?_
 refine CWalk.region ?_
 refine wo (Spec.assign Has.nilv) ?_
 refine Walk.nil ?_
 refine Leaf.thenN ?_
 refine CWalk.seq ?_
 refine CWalk.seq ?_
 refine CWalk.region ?_
 refine mv ?_
 refine wo (Spec.eqlNil Try.underlying31 (Has.s rfl)) ?_
 refine Walk.nil ?_
 refine Leaf.thenN ?_
 refine CWalk.condNil rfl (fun hb => ?_) ?_
 ·have hm : some ([] : List UInt8) = some r := by first | simpa [app, hb] using hm | simpa [hb] using hm
  refine CWalk.seq ?_
  refine CWalk.region ?_
  refine wo (Spec.assign Has.nilv) ?_
  refine Walk.nil ?_
  refine Leaf.thenN ?_
  refine CWalk.ret ?_
  refine Leaf.thenR ?_
  obtain rfl := Option.some.inj hm
  exact Leaf.retC1 rfl (HasR.cv (HasR.tmp (Has.s rfl)) (Cv.trans Cv.nilOw (Cv.owF (T := []) (te := []) rfl)))
 ·skip
  refine CWalk.skip ?_
  refine Leaf.thenN ?_
  refine CWalk.seq ?_
  refine CWalk.region ?_
  refine ws (Step.lit0 (α := UInt8) 10 rfl rfl ow31) ?_
  refine mv ?_
  obtain ⟨x1, hx1, hm⟩ := bind_some hm
  refine ws (Step.append (te' := []) 10 hx1 rfl rfl ow31 (Has.s rfl) rfl (Has.s rfl) ElKeep.flat ElKeep.flat) ?_
  refine wo (Spec.assign (Has.s rfl)) ?_
  refine Walk.nil ?_
  refine Leaf.thenN ?_
  refine CWalk.ret ?_
  obtain rfl := Option.some.inj hm
  exact Leaf.retC1 rfl (HasR.cv (HasR.tmp (Has.s rfl)) (Cv.trans (Cv.isvOw rfl) (Cv.owF (T := [10]) (te := []) rfl)))

def head_Twin_L1 (a0 : Head) (s2 : Int) (s3 : List (List UInt8)) : Option (Ctl (Int × (List (List UInt8))) ((List (List UInt8)))) :=
  (bif (decide (s2 < ((a0.Blocks).length : Int))) then Option.bind (idx a0.Blocks s2) (fun x5 => Option.bind (slices_Clone_byte_byte x5) (fun x6 => Option.bind (app s3 ([x6])) (fun x7 => some (Ctl.next ((wI (s2 + (1 : Int))), x7))))) else some (Ctl.brk s3))
/-- freeboard/head.Twin -/
def head_Twin (a0 : Head) : Option (Head) :=
  Option.bind (slices_Clone_bool_bool a0.Dirty) (fun x1 => Option.bind (loopM (fun s : Int × (List (List UInt8)) => head_Twin_L1 a0 s.1 s.2) FUEL ((0 : Int), ([] : List (List UInt8)))) (fun b8 => some (Head.mk a0.Stripe b8 x1 a0.Phase a0.Deals a0.Seq)))
set_option maxRecDepth 100000 in
set_option maxHeartbeats 2000000 in
theorem head_Twin_c (a0 : Head) {r : Head} (hm : head_Twin a0 = some r) : Ctr Try.prog 23 [.rep 0 a0] (.flds [(false, 1, (.fl r.Stripe)), (false, 1, (.own 0 (some 1) 31 r.Blocks)), (false, 1, (.own 2 none 4 r.Dirty)), (false, 1, (.fl r.Phase)), (false, 1, (.fl r.Deals)), (false, 1, (.fl r.Seq))]) [] := by
 refine ctr_of_walk [[27], [25, 26], [24]] 28 Try.func23 rfl rfl rfl rfl (fun w0 om => ?_)
 unfold head_Twin at hm
 refine CWalk.sub (G' := [.fact 0 (Fact.rep [0] (a0 : Head))]) (sn Sub.nil) ?_
 refine CWalk.seq ?_
 refine CWalk.region ?_
 refine ws (Step.boxObj (ls := [(false, 1, Fact.rep [] (a0.Stripe : Int)), (false, 1, Fact.rep [0] (a0.Blocks : List (List UInt8))), (false, 1, Fact.rep [0] (a0.Dirty : List Bool)), (false, 1, Fact.rep [] (a0.Phase : UInt8)), (false, 1, Fact.rep [] (a0.Deals : Bool)), (false, 1, Fact.rep [] (a0.Seq : UInt32))]) 10 rfl rfl rfl rfl (HasL.flds (Has.cv (Has.s rfl) (Cv.trans (Cv.opens (chHead a0)) (Cv.flds (CvL.cons Cv.fl (CvL.cons Cv.refl (CvL.cons Cv.refl (CvL.cons Cv.fl (CvL.cons Cv.fl (CvL.cons Cv.fl CvL.nil))))))))))) ?_
 refine ws (Step.allocObj (ls := [(false, 1, Fact.rep [] ((0 : Int) : Int)), (false, 1, Fact.nilv), (false, 1, Fact.nilv), (false, 1, Fact.rep [] ((0 : UInt8) : UInt8)), (false, 1, Fact.rep [] (false : Bool)), (false, 1, Fact.rep [] ((0 : UInt32) : UInt32))]) 17 rfl rfl rfl rfl zl28) ?_
 refine Walk.nil ?_
 refine Leaf.thenN ?_
 refine CWalk.seq ?_
 refine CWalk.region ?_
 refine wo (Spec.fieldAddrO fd28_2 (Has.cv (Has.s rfl) (Cv.isvP rfl))) ?_
 refine wo (Spec.loadF (i := 2) ty26 rfl (Has.s rfl) rfl (HasG.s rfl)) ?_
 obtain ⟨x1, hx1, hm⟩ := bind_some hm
 refine wo (f := Fact.ow [24] [] 4 (x1 : List Bool)) (Spec.callE [0] 24 rfl en56 (slices_Clone_bool_bool_c a0.Dirty hx1) (HasAll.cons (Has.m (Has.s rfl) rfl) HasAll.nil)) ?_
 refine wo (Spec.fieldAddrO fd28_2 (Has.cv (Has.s rfl) (Cv.isvP rfl))) ?_
 refine ws (Step.storeF (i := 2) (f := Fact.ow [24] [] 4 (x1 : List Bool)) rfl ty26 rfl (Has.s rfl) rfl (Has.cv (Has.s rfl) (Cv.trans Cv.owSl (Cv.slRep (T' := [24]) rfl rfl))) (Has.s rfl) rfl) ?_
 refine Walk.nil ?_
 refine Leaf.thenN ?_
 refine CWalk.seq ?_
 refine CWalk.region ?_
 refine wo (Spec.fieldAddrO fd28_1 (Has.cv (Has.s rfl) (Cv.isvP rfl))) ?_
 refine wo (Spec.loadF (i := 1) ty25 rfl (Has.s rfl) rfl (HasG.s rfl)) ?_
 refine wo (Spec.assign (Has.s rfl)) ?_
 refine Walk.nil ?_
 refine Leaf.thenN ?_
 refine CWalk.seq ?_
 refine CWalk.region ?_
 refine wo (Spec.fieldAddrO fd28_1 (Has.cv (Has.s rfl) (Cv.isvP rfl))) ?_
 refine ws (Step.storeF (i := 1) (f := Fact.nilv) rfl ty25 rfl (Has.s rfl) rfl (Has.cv Has.nilv (Cv.nil (T := []))) Has.nilv rfl) ?_
 refine Walk.nil ?_
 refine Leaf.thenN ?_
 refine CWalk.seq ?_
 refine CWalk.seq ?_
 refine CWalk.region ?_
 refine mv ?_
 refine wo (Spec.len (Has.s rfl) Try.underlying25) ?_
 refine wo (Spec.move Has.int) ?_
 refine Walk.nil ?_
 refine Leaf.thenN ?_
 refine CWalk.block ?_
 obtain ⟨b8, hb8, hm⟩ := bind_some hm
 refine CWalk.loop (fun s : Int × (List (List UInt8)) => [.fact 1 (Fact.isv 10), .fact 2 (Fact.isv 17), .fact 13 (Fact.rep [0] (a0.Blocks : List (List UInt8))), .fact 14 (Fact.rep [] (((a0.Blocks).length : Int) : Int)), .fact 15 (Fact.rep [] (s.1 : Int)), .fact 100011 (Fact.at 11 (Fact.rep [] (a0.Stripe : Int))), .fact 100012 (Fact.at 12 (Fact.ow [27] [25, 26] 31 (s.2 : List (List UInt8)))), .fact 100013 (Fact.at 13 (Fact.ow [24] [] 4 (x1 : List Bool))), .fact 100014 (Fact.at 14 (Fact.rep [] (a0.Phase : UInt8))), .fact 100015 (Fact.at 15 (Fact.rep [] (a0.Deals : Bool))), .fact 100016 (Fact.at 16 (Fact.rep [] (a0.Seq : UInt32))), .fact 100018 (Fact.at 18 (Fact.rep [] ((0 : Int) : Int))), .fact 100019 (Fact.at 19 (Fact.nilv)), .fact 100020 (Fact.at 20 (Fact.nilv)), .fact 100021 (Fact.at 21 (Fact.rep [] ((0 : UInt8) : UInt8))), .fact 100022 (Fact.at 22 (Fact.rep [] (false : Bool))), .fact 100023 (Fact.at 23 (Fact.rep [] ((0 : UInt32) : UInt32))), .fact 100010 (Fact.obj 10 [(false, 1), (false, 1), (false, 1), (false, 1), (false, 1), (false, 1)]), .fact 100017 (Fact.obj 17 [(false, 1), (false, 1), (false, 1), (false, 1), (false, 1), (false, 1)])]) (fun b : (List (List UInt8)) => (Exit.exit 0, [.fact 1 (Fact.isv 10), .fact 2 (Fact.isv 17), .fact 100011 (Fact.at 11 (Fact.rep [] (a0.Stripe : Int))), .fact 100012 (Fact.at 12 (Fact.ow [27] [25, 26] 31 (b : List (List UInt8)))), .fact 100013 (Fact.at 13 (Fact.ow [24] [] 4 (x1 : List Bool))), .fact 100014 (Fact.at 14 (Fact.rep [] (a0.Phase : UInt8))), .fact 100015 (Fact.at 15 (Fact.rep [] (a0.Deals : Bool))), .fact 100016 (Fact.at 16 (Fact.rep [] (a0.Seq : UInt32))), .fact 100018 (Fact.at 18 (Fact.rep [] ((0 : Int) : Int))), .fact 100019 (Fact.at 19 (Fact.nilv)), .fact 100020 (Fact.at 20 (Fact.nilv)), .fact 100021 (Fact.at 21 (Fact.rep [] ((0 : UInt8) : UInt8))), .fact 100022 (Fact.at 22 (Fact.rep [] (false : Bool))), .fact 100023 (Fact.at 23 (Fact.rep [] ((0 : UInt32) : UInt32))), .fact 100010 (Fact.obj 10 [(false, 1), (false, 1), (false, 1), (false, 1), (false, 1), (false, 1)]), .fact 100017 (Fact.obj 17 [(false, 1), (false, 1), (false, 1), (false, 1), (false, 1), (false, 1)])])) hb8 (sn (sn (su (st (st (sf (Sub.cons (Has.at (HasG.cv (HasG.s rfl) (Cv.trans Cv.nilOw (Cv.owM (T := []) (te := []) rfl rfl)))) (Sub.cons (Has.at (HasG.cv (HasG.s rfl) (Cv.owF (T := [24]) (te := []) rfl))) (sf (sf (sf (sf (sg (sg (sf (sf (sf (sn (sn Sub.nil))))))))))))))))))) ?_ ?_
 ·rintro ⟨s2, s3⟩ c4 hm
  replace hm : head_Twin_L1 a0 s2 s3 = some c4 := hm
  unfold head_Twin_L1 at hm
  show CWalk _ [.fact 1 (Fact.isv 10), .fact 2 (Fact.isv 17), .fact 13 (Fact.rep [0] (a0.Blocks : List (List UInt8))), .fact 14 (Fact.rep [] (((a0.Blocks).length : Int) : Int)), .fact 15 (Fact.rep [] (s2 : Int)), .fact 100011 (Fact.at 11 (Fact.rep [] (a0.Stripe : Int))), .fact 100012 (Fact.at 12 (Fact.ow [27] [25, 26] 31 (s3 : List (List UInt8)))), .fact 100013 (Fact.at 13 (Fact.ow [24] [] 4 (x1 : List Bool))), .fact 100014 (Fact.at 14 (Fact.rep [] (a0.Phase : UInt8))), .fact 100015 (Fact.at 15 (Fact.rep [] (a0.Deals : Bool))), .fact 100016 (Fact.at 16 (Fact.rep [] (a0.Seq : UInt32))), .fact 100018 (Fact.at 18 (Fact.rep [] ((0 : Int) : Int))), .fact 100019 (Fact.at 19 (Fact.nilv)), .fact 100020 (Fact.at 20 (Fact.nilv)), .fact 100021 (Fact.at 21 (Fact.rep [] ((0 : UInt8) : UInt8))), .fact 100022 (Fact.at 22 (Fact.rep [] (false : Bool))), .fact 100023 (Fact.at 23 (Fact.rep [] ((0 : UInt32) : UInt32))), .fact 100010 (Fact.obj 10 [(false, 1), (false, 1), (false, 1), (false, 1), (false, 1), (false, 1)]), .fact 100017 (Fact.obj 17 [(false, 1), (false, 1), (false, 1), (false, 1), (false, 1), (false, 1)])] _ _
  refine CWalk.seq ?_
  refine CWalk.region ?_
  refine wo (Spec.lssI (Has.s rfl) (Has.s rfl)) ?_
  refine Walk.nil ?_
  refine Leaf.thenN ?_
  refine CWalk.seq ?_
  refine CWalk.cond rfl (fun hb => ?_) (fun hb => ?_)
  ·have hm := cond_t hb hm
   refine CWalk.skip ?_
   refine Leaf.thenN ?_
   refine CWalk.seq ?_
   refine CWalk.block ?_
   refine CWalk.seq ?_
   refine CWalk.region ?_
   obtain ⟨x5, hx5, hm⟩ := bind_some hm
   refine wo (Spec.indexAddr hx5 sl25 (Has.s rfl) (Has.s rfl)) ?_
   refine wo (Spec.load ty31 (Has.s rfl)) ?_
   refine wo (Spec.assign (Has.s rfl)) ?_
   refine Walk.nil ?_
   refine Leaf.thenN ?_
   obtain ⟨x6, hx6, hm⟩ := bind_some hm
   obtain ⟨x7, hx7, hm⟩ := bind_some hm
   refine CWalk.drawM [[], [0], [], [2], [2, 3], [0, 1, 2, 3, 4], [0, 1, 2, 3, 4, 5], [0, 1, 2, 3, 4, 5, 6]] [[.fact 19 (Fact.pto 10 1)], [.fact 20 (Fact.ow [27] [25, 26] 31 (s3 : List (List UInt8)))], [.fact 21 (Fact.rep [0] (x5 : List UInt8))], [.fact 22 (Fact.ow [25] [] 5 (x6 : List UInt8))], [.fact 23 (Fact.rep [26, 25] ([x6] : List (List UInt8)))], [.fact 24 (Fact.ow [27] [25, 26] 31 (x7 : List (List UInt8))), .kill 27], [.fact 25 (Fact.pto 10 1)], [.fact 100012 (Fact.at 12 (Fact.ow [27] [25, 26] 31 (x7 : List (List UInt8)))), .fact 100010 (Fact.obj 10 [(false, 1), (false, 1), (false, 1), (false, 1), (false, 1), (false, 1)]), .kill 10, .killId 12]] mixed (by kernel_rfl) (ao (so (Spec.fieldAddrO fd28_1 (Has.cv (Has.s rfl) (Cv.isvP rfl)))) (ao (so (Spec.loadF (i := 1) ty25 rfl (Has.s rfl) rfl (HasG.s rfl))) (ao (so (Spec.move (Has.s rfl))) (ao (so (Spec.callE [0] 25 rfl en44 (slices_Clone_byte_byte_c x5 hx6) (HasAll.cons (Has.m (Has.s rfl) rfl) HasAll.nil))) (ao (so (Spec.lit (xs := [.tmp 22]) (T := [25]) 26 rfl ow25 rfl rfl rfl rfl (HasEach.cons (Has.m (Has.cv (Has.s rfl) (Cv.trans Cv.owSl (Cv.slRep (T' := [25]) rfl rfl))) rfl) HasEach.nil))) (ao (StepG.stE (Step.appendOw (T := [27]) (te' := [25, 26]) hx7 rfl rfl rfl ow25 (Has.s rfl) (Has.s rfl) (ElKeeps.tags rfl rfl) (ElKeeps.tags rfl rfl))) (ao (so (Spec.fieldAddrO fd28_1 (Has.cv (Has.s rfl) (Cv.isvP rfl)))) (ao (StepG.stE (Step.storeF (i := 1) (f := Fact.ow [27] [25, 26] 31 (x7 : List (List UInt8))) rfl ty25 rfl (Has.s rfl) rfl (Has.cv (Has.s rfl) (Cv.trans Cv.owSl (Cv.slRep (T' := [25, 26, 27]) rfl rfl))) (Has.s rfl) rfl)) AllM.nil)))))))) ?_
   refine Leaf.blockN ?_
   refine Leaf.thenN ?_
   refine CWalk.region ?_
   refine wo (Spec.addI (Has.s rfl) Has.int) ?_
   refine mv ?_
   refine Walk.nil ?_
   exact Leaf.next hm (sn (sn (su (st (st (sf (Sub.cons (Has.at (HasG.cv (HasG.s rfl) (Cv.owM (T := [27]) (te := [25, 26]) rfl rfl))) (Sub.cons (Has.at (HasG.cv (HasG.s rfl) (Cv.owF (T := [24]) (te := []) rfl))) (sf (sf (sf (sf (sg (sg (sf (sf (sf (sn (sn Sub.nil)))))))))))))))))))
  ·have hm := cond_f hb hm
   refine CWalk.exit ?_
   refine Leaf.thenE ?_
   exact Leaf.brk hm (fun h => nomatch h) rfl (sn (sn (sf (Sub.cons (Has.at (HasG.cv (HasG.s rfl) (Cv.owM (T := [27]) (te := [25, 26]) rfl rfl))) (Sub.cons (Has.at (HasG.cv (HasG.s rfl) (Cv.owF (T := [24]) (te := []) rfl))) (sf (sf (sf (sf (sg (sg (sf (sf (sf (sn (sn Sub.nil))))))))))))))))
 ·intro _
  refine Leaf.blockE ?_
  refine Leaf.thenN ?_
  refine CWalk.seq ?_
  refine CWalk.region ?_
  refine wo (Spec.loadObj (ls := [(false, 1, Fact.rep [] (a0.Stripe : Int)), (false, 1, Fact.ow [27] [25, 26] 31 (b8 : List (List UInt8))), (false, 1, Fact.ow [24] [] 4 (x1 : List Bool)), (false, 1, Fact.rep [] (a0.Phase : UInt8)), (false, 1, Fact.rep [] (a0.Deals : Bool)), (false, 1, Fact.rep [] (a0.Seq : UInt32))]) ty28 rfl rfl (Has.s rfl) rfl (HasGs.cons (HasG.s rfl) (HasGs.cons (HasG.s rfl) (HasGs.cons (HasG.s rfl) (HasGs.cons (HasG.s rfl) (HasGs.cons (HasG.s rfl) (HasGs.cons (HasG.s rfl) HasGs.nil))))))) ?_
  refine ws (Step.storeObj (ls := [(false, 1, Fact.rep [] (a0.Stripe : Int)), (false, 1, Fact.ow [27] [25, 26] 31 (b8 : List (List UInt8))), (false, 1, Fact.ow [24] [] 4 (x1 : List Bool)), (false, 1, Fact.rep [] (a0.Phase : UInt8)), (false, 1, Fact.rep [] (a0.Deals : Bool)), (false, 1, Fact.rep [] (a0.Seq : UInt32))]) rfl ty28 rfl rfl (Has.s rfl) rfl (HasL.flds (Has.s rfl)) rfl) ?_
  refine Walk.nil ?_
  refine Leaf.thenN ?_
  refine CWalk.ret ?_
  obtain rfl := Option.some.inj hm
  exact Leaf.retC1 rfl (HasR.cv (HasR.obj (ls := [(false, 1, Fact.rep [] (a0.Stripe : Int)), (false, 1, Fact.ow [27] [25, 26] 31 (b8 : List (List UInt8))), (false, 1, Fact.ow [24] [] 4 (x1 : List Bool)), (false, 1, Fact.rep [] (a0.Phase : UInt8)), (false, 1, Fact.rep [] (a0.Deals : Bool)), (false, 1, Fact.rep [] (a0.Seq : UInt32))]) ty28 rfl rfl (Has.s rfl) rfl (HasGs.cons (HasG.s rfl) (HasGs.cons (HasG.s rfl) (HasGs.cons (HasG.s rfl) (HasGs.cons (HasG.s rfl) (HasGs.cons (HasG.s rfl) (HasGs.cons (HasG.s rfl) HasGs.nil))))))) (Cv.flds (CvL.cons Cv.fl (CvL.cons (Cv.owM (T := [27]) (te := [25, 26]) rfl rfl) (CvL.cons (Cv.owF (T := [24]) (te := []) rfl) (CvL.cons Cv.fl (CvL.cons Cv.fl (CvL.cons Cv.fl CvL.nil))))))))

/-- freeboard/head.block -/
def head_block (a0 : List UInt8) : Option ((List UInt8)) :=
  (bif (((a0).length : Int) == (0 : Int)) then Option.bind (makeL (0 : UInt8) (128 : Int)) (fun x1 => some x1) else Option.bind (slices_Clone_byte_byte a0) (fun x2 => some x2))
set_option maxRecDepth 100000 in
set_option maxHeartbeats 2000000 in
theorem head_block_c (a0 : List UInt8) {r : (List UInt8)} (hm : head_block a0 = some r) : Ctr Try.prog 50 [.rep 0 a0] (.own 0 none 5 r) [] := by
 refine ctr_of_walk [[10, 11]] 9 Try.func50 rfl rfl rfl rfl (fun w0 om => ?_)
 unfold head_block at hm
 refine CWalk.sub (G' := [.fact 0 (Fact.rep [0] (a0 : List UInt8))]) (sn Sub.nil) ?_
 refine CWalk.seq ?_
 refine CWalk.region ?_
 refine wo (Spec.assign Has.nilv) ?_
 refine Walk.nil ?_
 refine Leaf.thenN ?_
 refine CWalk.seq ?_
 refine CWalk.seq ?_
 refine CWalk.region ?_
 refine mv ?_
 refine wo (Spec.len (Has.s rfl) Try.underlying31) ?_
 refine wo (Spec.eqlI (Has.s rfl) Has.int) ?_
 refine Walk.nil ?_
 refine Leaf.thenN ?_
 refine CWalk.cond rfl (fun hb => ?_) (fun hb => ?_)
 ·have hm := cond_t hb hm
  refine CWalk.seq ?_
  refine CWalk.region ?_
  obtain ⟨x1, hx1, hm⟩ := bind_some hm
  refine ws (Step.makeOwn 10 hx1 rfl rfl ow31 zt5 Has.int) ?_
  refine wo (Spec.assign (Has.s rfl)) ?_
  refine Walk.nil ?_
  refine Leaf.thenN ?_
  refine CWalk.ret ?_
  refine Leaf.thenR ?_
  obtain rfl := Option.some.inj hm
  exact Leaf.retC1 rfl (HasR.cv (HasR.tmp (Has.s rfl)) (Cv.trans (Cv.isvOw rfl) (Cv.owF (T := [10]) (te := []) rfl)))
 ·have hm := cond_f hb hm
  refine CWalk.skip ?_
  refine Leaf.thenN ?_
  refine CWalk.seq ?_
  refine CWalk.region ?_
  refine mv ?_
  obtain ⟨x2, hx2, hm⟩ := bind_some hm
  refine wo (f := Fact.ow [11] [] 5 (x2 : List UInt8)) (Spec.callE [0] 11 rfl en44 (slices_Clone_byte_byte_c a0 hx2) (HasAll.cons (Has.m (Has.s rfl) rfl) HasAll.nil)) ?_
  refine wo (Spec.assign (Has.s rfl)) ?_
  refine Walk.nil ?_
  refine Leaf.thenN ?_
  refine CWalk.ret ?_
  obtain rfl := Option.some.inj hm
  exact Leaf.retC1 rfl (HasR.cv (HasR.tmp (Has.s rfl)) (Cv.owF (T := [11]) (te := []) rfl))

def head_Take_J1 (j1 : Int) (j2 : List (List UInt8)) (j3 : List Bool) (j4 : UInt8) (j5 : Bool) (j6 : UInt32) (j7 : Int) : Option (Head × Int) :=
  some ((Head.mk j1 j2 j3 j4 j5 j6), j7)
def head_Take_J2 (j11 : Int) (j12 : Int) (j13 : List (List UInt8)) (j14 : List Bool) (j15 : UInt8) (j16 : Bool) (j17 : UInt32) : Option (Head × Int) :=
  (head_Take_J1 j12 j13 j14 j15 j16 j17 j11)
def head_Take_J3 (x10 : Head) (j18 : Int) (j19 : List (List UInt8)) (j20 : List Bool) (j21 : UInt8) : Option (Head × Int) :=
  (bif (j18 == (0 : Int)) then (head_Take_J2 j18 x10.Stripe j19 j20 j21 x10.Deals x10.Seq) else (head_Take_J2 j18 (0 : Int) ([] : List (List UInt8)) ([] : List Bool) (0 : UInt8) false (0 : UInt32)))
/-- freeboard/head.Take -/
def head_Take (a0 : Config) (a1 : Head) (a2 : Int) (a3 : List UInt8) : Option (Head × Int) :=
  Option.bind (head_Check a0 a1) (fun x8 => (bif (x8 != (0 : Int)) then (head_Take_J1 (0 : Int) ([] : List (List UInt8)) ([] : List Bool) (0 : UInt8) false (0 : UInt32) x8) else (bif ((decide (a2 < (0 : Int))) || (decide (a2 ≥ (wI (a0.Members - (1 : Int)))))) then (head_Take_J1 (0 : Int) ([] : List (List UInt8)) ([] : List Bool) (0 : UInt8) false (0 : UInt32) (2 : Int)) else Option.bind (head_odd a3) (fun x9 => (bif x9 then (head_Take_J1 (0 : Int) ([] : List (List UInt8)) ([] : List Bool) (0 : UInt8) false (0 : UInt32) (3 : Int)) else Option.bind (head_Twin a1) (fun x10 => (bif (decide ((x10.Phase.toNat : Int) > ((1 : UInt8).toNat : Int))) then (head_Take_J3 x10 (160 : Int) x10.Blocks x10.Dirty x10.Phase) else Option.bind (bnd (x10.Blocks).length (wI (a0.Members - (1 : Int)))) (fun x22 => Option.bind (head_block a3) (fun x23 => Option.bind (bnd ((x10.Blocks).set x22 ([] : List UInt8)).length a2) (fun x24 => Option.bind (bnd (x10.Dirty).length a2) (fun x25 => (head_Take_J3 x10 (0 : Int) (((x10.Blocks).set x22 ([] : List UInt8)).set x24 x23) ((x10.Dirty).set x25 true) (0 : UInt8)))))))))))))
set_option maxRecDepth 100000 in
set_option maxHeartbeats 2000000 in
theorem head_Take_c (a0 : Config) (a1 : Head) (a2 : Int) (a3 : List UInt8) {r : Head × Int} (hm : head_Take a0 a1 a2 a3 = some r) : Ctr Try.prog 17 [.rep 0 a0, .rep 0 a1, .rep 0 a2, .rep 0 a3] (.tup2 (.flds [(false, 1, (.fl r.1.Stripe)), (false, 1, (.own 0 (some 1) 31 r.1.Blocks)), (false, 1, (.own 2 none 4 r.1.Dirty)), (false, 1, (.fl r.1.Phase)), (false, 1, (.fl r.1.Deals)), (false, 1, (.fl r.1.Seq))]) (.fl r.2)) [] := by
 refine ctr_of_walk [[58, 68], [59, 70], [60, 69]] 18 Try.func17 rfl rfl rfl rfl (fun w0 om => ?_)
 unfold head_Take at hm
 refine CWalk.sub (G' := [.fact 0 (Fact.rep [] (a0 : Config)), .fact 1 (Fact.rep [0] (a1 : Head)), .fact 2 (Fact.rep [] (a2 : Int)), .fact 3 (Fact.rep [0] (a3 : List UInt8))]) (Sub.cons (Has.fl (Has.s rfl)) (sn (Sub.cons (Has.fl (Has.s rfl)) (sn Sub.nil)))) ?_
 refine CWalk.seq ?_
 refine CWalk.region ?_
 refine ws (Step.boxObj (ls := [(false, 1, Fact.rep [] (a0.Id : UInt32)), (false, 1, Fact.rep [] (a0.Members : Int)), (false, 1, Fact.rep [] (a0.Chunk : Int)), (false, 1, Fact.rep [] (a0.Rows : Int)), (false, 1, Fact.rep [] (a0.Log : Int)), (false, 1, Fact.rep [] (a0.Heads : Int))]) 10 rfl rfl rfl rfl (HasL.flds (Has.cv (Has.s rfl) (Cv.trans (Cv.opens (chConfig a0)) (Cv.flds (CvL.cons Cv.fl (CvL.cons Cv.fl (CvL.cons Cv.fl (CvL.cons Cv.fl (CvL.cons Cv.fl (CvL.cons Cv.fl CvL.nil))))))))))) ?_
 refine ws (Step.boxObj (ls := [(false, 1, Fact.rep [] (a1.Stripe : Int)), (false, 1, Fact.rep [0] (a1.Blocks : List (List UInt8))), (false, 1, Fact.rep [0] (a1.Dirty : List Bool)), (false, 1, Fact.rep [] (a1.Phase : UInt8)), (false, 1, Fact.rep [] (a1.Deals : Bool)), (false, 1, Fact.rep [] (a1.Seq : UInt32))]) 17 rfl rfl rfl rfl (HasL.flds (Has.cv (Has.s rfl) (Cv.trans (Cv.opens (chHead a1)) (Cv.flds (CvL.cons Cv.fl (CvL.cons Cv.refl (CvL.cons Cv.refl (CvL.cons Cv.fl (CvL.cons Cv.fl (CvL.cons Cv.fl CvL.nil))))))))))) ?_
 refine ws (Step.boxObj (ls := [(false, 1, Fact.rep [] (a2 : Int))]) 24 rfl rfl rfl rfl (HasL.one (Has.s rfl) rfl (Has.s rfl))) ?_
 refine ws (Step.boxObj (ls := [(false, 1, Fact.rep [0] (a3 : List UInt8))]) 26 rfl rfl rfl rfl (HasL.one (Has.s rfl) rfl (Has.s rfl))) ?_
 refine ws (Step.allocObj (ls := [(false, 1, Fact.rep [] ((0 : Int) : Int)), (false, 1, Fact.nilv), (false, 1, Fact.nilv), (false, 1, Fact.rep [] ((0 : UInt8) : UInt8)), (false, 1, Fact.rep [] (false : Bool)), (false, 1, Fact.rep [] ((0 : UInt32) : UInt32))]) 28 rfl rfl rfl rfl zl28) ?_
 refine wo (Spec.assign Has.int) ?_
 refine Walk.nil ?_
 refine Leaf.thenN ?_
 refine CWalk.seq ?_
 refine CWalk.region ?_
 refine wo (Spec.loadObj (ls := [(false, 1, Fact.rep [] (a0.Id : UInt32)), (false, 1, Fact.rep [] (a0.Members : Int)), (false, 1, Fact.rep [] (a0.Chunk : Int)), (false, 1, Fact.rep [] (a0.Rows : Int)), (false, 1, Fact.rep [] (a0.Log : Int)), (false, 1, Fact.rep [] (a0.Heads : Int))]) ty24 rfl rfl (Has.s rfl) rfl (HasGs.cons (HasG.s rfl) (HasGs.cons (HasG.s rfl) (HasGs.cons (HasG.s rfl) (HasGs.cons (HasG.s rfl) (HasGs.cons (HasG.s rfl) (HasGs.cons (HasG.s rfl) HasGs.nil))))))) ?_
 refine wo (Spec.loadObj (ls := [(false, 1, Fact.rep [] (a1.Stripe : Int)), (false, 1, Fact.rep [0] (a1.Blocks : List (List UInt8))), (false, 1, Fact.rep [0] (a1.Dirty : List Bool)), (false, 1, Fact.rep [] (a1.Phase : UInt8)), (false, 1, Fact.rep [] (a1.Deals : Bool)), (false, 1, Fact.rep [] (a1.Seq : UInt32))]) ty28 rfl rfl (Has.s rfl) rfl (HasGs.cons (HasG.s rfl) (HasGs.cons (HasG.s rfl) (HasGs.cons (HasG.s rfl) (HasGs.cons (HasG.s rfl) (HasGs.cons (HasG.s rfl) (HasGs.cons (HasG.s rfl) HasGs.nil))))))) ?_
 refine wo (Spec.loadF (i := 0) ty3 rfl (Has.cv (Has.s rfl) (Cv.isvP rfl)) rfl (HasG.s rfl)) ?_
 refine wo (Spec.loadF (i := 0) ty31 rfl (Has.cv (Has.s rfl) (Cv.isvP rfl)) rfl (HasG.s rfl)) ?_
 refine wo (Spec.makeFunc (xs := []) (ys := [.tmp 4, .tmp 7, .tmp 6]) rfl rfl HasF.nil (HasF.cons (Has.s rfl) (HasF.cons (Has.s rfl) (HasF.cons (Has.s rfl) HasF.nil))) (fun _ _ _ => rfl)) ?_
 refine Walk.inline (S := Int × (List (List UInt8)) × (List Bool) × UInt8 × Bool × UInt32 × Int) (fun p : Int × (List (List UInt8)) × (List Bool) × UInt8 × Bool × UInt32 × Int => [.fact 8 (Fact.isv 28), .fact 15 (Fact.tup2 (Fact.flds [(false, 1, Fact.rep [] (p.1 : Int)), (false, 1, Fact.ow [58, 68] [59, 70] 31 (p.2.1 : List (List UInt8))), (false, 1, Fact.ow [60, 69] [] 4 (p.2.2.1 : List Bool)), (false, 1, Fact.rep [] (p.2.2.2.1 : UInt8)), (false, 1, Fact.rep [] (p.2.2.2.2.1 : Bool)), (false, 1, Fact.rep [] (p.2.2.2.2.2.1 : UInt32))]) (Fact.rep [] (p.2.2.2.2.2.2 : Int))), .fact 100029 (Fact.at 29 (Fact.rep [] ((0 : Int) : Int))), .fact 100030 (Fact.at 30 (Fact.nilv)), .fact 100031 (Fact.at 31 (Fact.nilv)), .fact 100032 (Fact.at 32 (Fact.rep [] ((0 : UInt8) : UInt8))), .fact 100033 (Fact.at 33 (Fact.rep [] (false : Bool))), .fact 100034 (Fact.at 34 (Fact.rep [] ((0 : UInt32) : UInt32))), .fact 100028 (Fact.obj 28 [(false, 1), (false, 1), (false, 1), (false, 1), (false, 1), (false, 1)])]) (fun p : Int × (List (List UInt8)) × (List Bool) × UInt8 × Bool × UInt32 × Int => head_Take_J1 p.1 p.2.1 p.2.2.1 p.2.2.2.1 p.2.2.2.2.1 p.2.2.2.2.2.1 p.2.2.2.2.2.2 = some r) (fun u1 => [.fact 100011 (Fact.at 11 (Fact.rep [] (a0.Id : UInt32))), .fact 100012 (Fact.at 12 (Fact.rep [] (a0.Members : Int))), .fact 100013 (Fact.at 13 (Fact.rep [] (a0.Chunk : Int))), .fact 100014 (Fact.at 14 (Fact.rep [] (a0.Rows : Int))), .fact 100015 (Fact.at 15 (Fact.rep [] (a0.Log : Int))), .fact 100016 (Fact.at 16 (Fact.rep [] (a0.Heads : Int))), .fact 100025 (Fact.at 25 (Fact.rep [] (a2 : Int))), .fact 100027 (Fact.at 27 (Fact.rep [0] (a3 : List UInt8))), .fact 100029 (Fact.at 29 (Fact.rep [] ((0 : Int) : Int))), .fact 100030 (Fact.at 30 (Fact.nilv)), .fact 100031 (Fact.at 31 (Fact.nilv)), .fact 100032 (Fact.at 32 (Fact.rep [] ((0 : UInt8) : UInt8))), .fact 100033 (Fact.at 33 (Fact.rep [] (false : Bool))), .fact 100034 (Fact.at 34 (Fact.rep [] ((0 : UInt32) : UInt32))), .fact 902008 (Fact.cst (u1 8) (Fact.isv 28)), .fact 100010 (Fact.obj 10 [(false, 1), (false, 1), (false, 1), (false, 1), (false, 1), (false, 1)]), .fact 100024 (Fact.obj 24 [(false, 1)]), .fact 100026 (Fact.obj 26 [(false, 1)]), .fact 100028 (Fact.obj 28 [(false, 1), (false, 1), (false, 1), (false, 1), (false, 1), (false, 1)])]) (FA := [Fact.flds [(false, 1, Fact.rep [] (a0.Id : UInt32)), (false, 1, Fact.rep [] (a0.Members : Int)), (false, 1, Fact.rep [] (a0.Chunk : Int)), (false, 1, Fact.rep [] (a0.Rows : Int)), (false, 1, Fact.rep [] (a0.Log : Int)), (false, 1, Fact.rep [] (a0.Heads : Int))], Fact.flds [(false, 1, Fact.rep [] (a1.Stripe : Int)), (false, 1, Fact.rep [0] (a1.Blocks : List (List UInt8))), (false, 1, Fact.rep [0] (a1.Dirty : List Bool)), (false, 1, Fact.rep [] (a1.Phase : UInt8)), (false, 1, Fact.rep [] (a1.Deals : Bool)), (false, 1, Fact.rep [] (a1.Seq : UInt32))], Fact.rep [] (a2 : Int), Fact.rep [0] (a3 : List UInt8), Fact.fnv 49 [] [Fact.isv 10, Fact.isv 26, Fact.isv 24]]) rfl Try.func48 rfl rfl rfl (CallOk.fn en48 (HasF.cons (Has.s rfl) (HasF.cons (Has.s rfl) (HasF.cons (Has.s rfl) (HasF.cons (Has.s rfl) (HasF.cons (Has.s rfl) HasF.nil)))))) (fun u1 => (ck (ck (ck (ck (ck (ck (ck (ck (ck (ck (ck (ck (ck (ck (cs 902000 8 (ck (ck (ck (ck Carry.nil)))))))))))))))))))) (fun u1 => ?_) ?_
 ·refine CWalk.seq ?_
  refine CWalk.region ?_
  refine ws (Step.boxObj (ls := [(false, 1, Fact.rep [] (a0.Id : UInt32)), (false, 1, Fact.rep [] (a0.Members : Int)), (false, 1, Fact.rep [] (a0.Chunk : Int)), (false, 1, Fact.rep [] (a0.Rows : Int)), (false, 1, Fact.rep [] (a0.Log : Int)), (false, 1, Fact.rep [] (a0.Heads : Int))]) 35 rfl rfl rfl rfl (HasL.flds (Has.s rfl))) ?_
  refine ws (Step.boxObj (ls := [(false, 1, Fact.rep [] (a1.Stripe : Int)), (false, 1, Fact.rep [0] (a1.Blocks : List (List UInt8))), (false, 1, Fact.rep [0] (a1.Dirty : List Bool)), (false, 1, Fact.rep [] (a1.Phase : UInt8)), (false, 1, Fact.rep [] (a1.Deals : Bool)), (false, 1, Fact.rep [] (a1.Seq : UInt32))]) 42 rfl rfl rfl rfl (HasL.flds (Has.s rfl))) ?_
  refine ws (Step.allocObj (ls := [(false, 1, Fact.rep [] ((0 : Int) : Int)), (false, 1, Fact.nilv), (false, 1, Fact.nilv), (false, 1, Fact.rep [] ((0 : UInt8) : UInt8)), (false, 1, Fact.rep [] (false : Bool)), (false, 1, Fact.rep [] ((0 : UInt32) : UInt32))]) 49 rfl rfl rfl rfl zl28) ?_
  refine wo (Spec.assign Has.int) ?_
  refine Walk.nil ?_
  refine Leaf.thenN ?_
  refine CWalk.seq ?_
  refine CWalk.seq ?_
  refine CWalk.region ?_
  refine wo (Spec.loadObj (ls := [(false, 1, Fact.rep [] (a0.Id : UInt32)), (false, 1, Fact.rep [] (a0.Members : Int)), (false, 1, Fact.rep [] (a0.Chunk : Int)), (false, 1, Fact.rep [] (a0.Rows : Int)), (false, 1, Fact.rep [] (a0.Log : Int)), (false, 1, Fact.rep [] (a0.Heads : Int))]) ty24 rfl rfl (Has.s rfl) rfl (HasGs.cons (HasG.s rfl) (HasGs.cons (HasG.s rfl) (HasGs.cons (HasG.s rfl) (HasGs.cons (HasG.s rfl) (HasGs.cons (HasG.s rfl) (HasGs.cons (HasG.s rfl) HasGs.nil))))))) ?_
  refine wo (Spec.loadObj (ls := [(false, 1, Fact.rep [] (a1.Stripe : Int)), (false, 1, Fact.rep [0] (a1.Blocks : List (List UInt8))), (false, 1, Fact.rep [0] (a1.Dirty : List Bool)), (false, 1, Fact.rep [] (a1.Phase : UInt8)), (false, 1, Fact.rep [] (a1.Deals : Bool)), (false, 1, Fact.rep [] (a1.Seq : UInt32))]) ty28 rfl rfl (Has.s rfl) rfl (HasGs.cons (HasG.s rfl) (HasGs.cons (HasG.s rfl) (HasGs.cons (HasG.s rfl) (HasGs.cons (HasG.s rfl) (HasGs.cons (HasG.s rfl) (HasGs.cons (HasG.s rfl) HasGs.nil))))))) ?_
  obtain ⟨x8, hx8, hm⟩ := bind_some hm
  refine wo (f := Fact.rep [] (x8 : Int)) (Spec.callE [0] 56 rfl en24 (head_Check_c a0 a1 hx8) (HasAll.cons (Has.fl (Has.cv (Has.s rfl) (Cv.trans (Cv.flds (CvL.cons Cv.fl (CvL.cons Cv.fl (CvL.cons Cv.fl (CvL.cons Cv.fl (CvL.cons Cv.fl (CvL.cons Cv.fl CvL.nil))))))) (Cv.close (T := []) (chConfig a0))))) (HasAll.cons (Has.m (Has.cv (Has.s rfl) (Cv.trans (Cv.flds (CvL.cons Cv.fl (CvL.cons (Cv.m rfl) (CvL.cons (Cv.m rfl) (CvL.cons Cv.fl (CvL.cons Cv.fl (CvL.cons Cv.fl CvL.nil))))))) (Cv.close (T := [0]) (chHead a1)))) rfl) HasAll.nil))) ?_
  refine wo (Spec.assign (Has.s rfl)) ?_
  refine Walk.nil ?_
  refine Leaf.thenN ?_
  refine CWalk.seq ?_
  refine CWalk.region ?_
  refine mv ?_
  refine wo (Spec.neqI (Has.s rfl) Has.int) ?_
  refine Walk.nil ?_
  refine Leaf.thenN ?_
  refine CWalk.cond rfl (fun hb => ?_) (fun hb => ?_)
  ·have hm := cond_t hb hm
   refine CWalk.ret ?_
   refine Leaf.thenR ?_
   exact Leaf.in2 ((0 : Int), ([] : List (List UInt8)), ([] : List Bool), (0 : UInt8), false, (0 : UInt32), x8) hm rfl rfl (HasR.cv (HasR.obj (ls := [(false, 1, Fact.rep [] ((0 : Int) : Int)), (false, 1, Fact.nilv), (false, 1, Fact.nilv), (false, 1, Fact.rep [] ((0 : UInt8) : UInt8)), (false, 1, Fact.rep [] (false : Bool)), (false, 1, Fact.rep [] ((0 : UInt32) : UInt32))]) ty28 rfl rfl (Has.s rfl) rfl (HasGs.cons (HasG.s rfl) (HasGs.cons (HasG.s rfl) (HasGs.cons (HasG.s rfl) (HasGs.cons (HasG.s rfl) (HasGs.cons (HasG.s rfl) (HasGs.cons (HasG.s rfl) HasGs.nil))))))) (Cv.flds (CvL.cons Cv.fl (CvL.cons (Cv.trans Cv.nilOw (Cv.owM (T := []) (te := []) rfl rfl)) (CvL.cons (Cv.trans Cv.nilOw (Cv.owF (T := []) (te := []) rfl)) (CvL.cons Cv.fl (CvL.cons Cv.fl (CvL.cons Cv.fl CvL.nil)))))))) (HasR.cv (HasR.tmp (Has.s rfl)) Cv.fl) (ls 902008 (Low.res (lf (lg (lg (lf (lf (lf (lo Low.nil)))))))))
  ·have hm := cond_f hb hm
   refine CWalk.skip ?_
   refine Leaf.thenN ?_
   refine CWalk.seq ?_
   refine CWalk.seq ?_
   refine CWalk.region ?_
   refine mv ?_
   refine wo (Spec.lssI (Has.s rfl) Has.int) ?_
   refine mv ?_
   refine wg rfl rfl (fun hb => Spec.move (Has.s rfl)) ?_
   refine wg rfl rfl (fun hb => Spec.fieldAddrO fd24_1 (Has.cv (Has.s rfl) (Cv.isvP rfl))) ?_
   refine wg rfl rfl (fun hb => Spec.loadF (i := 1) ty3 rfl (Has.u rfl hb) rfl (HasG.s rfl)) ?_
   refine wg rfl rfl (fun hb => Spec.subI (Has.u rfl hb) Has.int) ?_
   refine wg rfl rfl (fun hb => Spec.geqI (Has.u rfl hb) (Has.u rfl hb)) ?_
   refine wo (Spec.or (Has.s rfl) (fun h => Has.u rfl h)) ?_
   refine Walk.nil ?_
   refine Leaf.thenN ?_
   refine CWalk.cond rfl (fun hb => ?_) (fun hb => ?_)
   ·have hm := cond_t hb hm
    refine CWalk.seq ?_
    refine CWalk.region ?_
    refine wo (Spec.loadObj (ls := [(false, 1, Fact.rep [] ((0 : Int) : Int)), (false, 1, Fact.nilv), (false, 1, Fact.nilv), (false, 1, Fact.rep [] ((0 : UInt8) : UInt8)), (false, 1, Fact.rep [] (false : Bool)), (false, 1, Fact.rep [] ((0 : UInt32) : UInt32))]) ty28 rfl rfl (Has.s rfl) rfl (HasGs.cons (HasG.s rfl) (HasGs.cons (HasG.s rfl) (HasGs.cons (HasG.s rfl) (HasGs.cons (HasG.s rfl) (HasGs.cons (HasG.s rfl) (HasGs.cons (HasG.s rfl) HasGs.nil))))))) ?_
    refine ws (Step.storeObj (ls := [(false, 1, Fact.rep [] ((0 : Int) : Int)), (false, 1, Fact.nilv), (false, 1, Fact.nilv), (false, 1, Fact.rep [] ((0 : UInt8) : UInt8)), (false, 1, Fact.rep [] (false : Bool)), (false, 1, Fact.rep [] ((0 : UInt32) : UInt32))]) rfl ty28 rfl rfl (Has.s rfl) rfl (HasL.flds (Has.s rfl)) rfl) ?_
    refine wo (Spec.assign Has.int) ?_
    refine Walk.nil ?_
    refine Leaf.thenN ?_
    refine CWalk.ret ?_
    refine Leaf.thenR ?_
    exact Leaf.in2 ((0 : Int), ([] : List (List UInt8)), ([] : List Bool), (0 : UInt8), false, (0 : UInt32), (2 : Int)) hm rfl rfl (HasR.cv (HasR.obj (ls := [(false, 1, Fact.rep [] ((0 : Int) : Int)), (false, 1, Fact.nilv), (false, 1, Fact.nilv), (false, 1, Fact.rep [] ((0 : UInt8) : UInt8)), (false, 1, Fact.rep [] (false : Bool)), (false, 1, Fact.rep [] ((0 : UInt32) : UInt32))]) ty28 rfl rfl (Has.s rfl) rfl (HasGs.cons (HasG.s rfl) (HasGs.cons (HasG.s rfl) (HasGs.cons (HasG.s rfl) (HasGs.cons (HasG.s rfl) (HasGs.cons (HasG.s rfl) (HasGs.cons (HasG.s rfl) HasGs.nil))))))) (Cv.flds (CvL.cons Cv.fl (CvL.cons (Cv.trans Cv.nilOw (Cv.owM (T := []) (te := []) rfl rfl)) (CvL.cons (Cv.trans Cv.nilOw (Cv.owF (T := []) (te := []) rfl)) (CvL.cons Cv.fl (CvL.cons Cv.fl (CvL.cons Cv.fl CvL.nil)))))))) (HasR.cv (HasR.tmp (Has.s rfl)) Cv.fl) (ls 902008 (Low.res (lf (lg (lg (lf (lf (lf (lo Low.nil)))))))))
   ·have hm := cond_f hb hm
    refine CWalk.skip ?_
    refine Leaf.thenN ?_
    refine CWalk.seq ?_
    refine CWalk.seq ?_
    refine CWalk.region ?_
    refine mv ?_
    obtain ⟨x9, hx9, hm⟩ := bind_some hm
    refine wo (f := Fact.rep [] (x9 : Bool)) (Spec.callE [0] 57 rfl en58 (head_odd_c a3 hx9) (HasAll.cons (Has.m (Has.s rfl) rfl) HasAll.nil)) ?_
    refine Walk.nil ?_
    refine Leaf.thenN ?_
    refine CWalk.cond rfl (fun hb => ?_) (fun hb => ?_)
    ·have hm := cond_t hb hm
     refine CWalk.seq ?_
     refine CWalk.region ?_
     refine wo (Spec.loadObj (ls := [(false, 1, Fact.rep [] ((0 : Int) : Int)), (false, 1, Fact.nilv), (false, 1, Fact.nilv), (false, 1, Fact.rep [] ((0 : UInt8) : UInt8)), (false, 1, Fact.rep [] (false : Bool)), (false, 1, Fact.rep [] ((0 : UInt32) : UInt32))]) ty28 rfl rfl (Has.s rfl) rfl (HasGs.cons (HasG.s rfl) (HasGs.cons (HasG.s rfl) (HasGs.cons (HasG.s rfl) (HasGs.cons (HasG.s rfl) (HasGs.cons (HasG.s rfl) (HasGs.cons (HasG.s rfl) HasGs.nil))))))) ?_
     refine ws (Step.storeObj (ls := [(false, 1, Fact.rep [] ((0 : Int) : Int)), (false, 1, Fact.nilv), (false, 1, Fact.nilv), (false, 1, Fact.rep [] ((0 : UInt8) : UInt8)), (false, 1, Fact.rep [] (false : Bool)), (false, 1, Fact.rep [] ((0 : UInt32) : UInt32))]) rfl ty28 rfl rfl (Has.s rfl) rfl (HasL.flds (Has.s rfl)) rfl) ?_
     refine wo (Spec.assign Has.int) ?_
     refine Walk.nil ?_
     refine Leaf.thenN ?_
     refine CWalk.ret ?_
     refine Leaf.thenR ?_
     exact Leaf.in2 ((0 : Int), ([] : List (List UInt8)), ([] : List Bool), (0 : UInt8), false, (0 : UInt32), (3 : Int)) hm rfl rfl (HasR.cv (HasR.obj (ls := [(false, 1, Fact.rep [] ((0 : Int) : Int)), (false, 1, Fact.nilv), (false, 1, Fact.nilv), (false, 1, Fact.rep [] ((0 : UInt8) : UInt8)), (false, 1, Fact.rep [] (false : Bool)), (false, 1, Fact.rep [] ((0 : UInt32) : UInt32))]) ty28 rfl rfl (Has.s rfl) rfl (HasGs.cons (HasG.s rfl) (HasGs.cons (HasG.s rfl) (HasGs.cons (HasG.s rfl) (HasGs.cons (HasG.s rfl) (HasGs.cons (HasG.s rfl) (HasGs.cons (HasG.s rfl) HasGs.nil))))))) (Cv.flds (CvL.cons Cv.fl (CvL.cons (Cv.trans Cv.nilOw (Cv.owM (T := []) (te := []) rfl rfl)) (CvL.cons (Cv.trans Cv.nilOw (Cv.owF (T := []) (te := []) rfl)) (CvL.cons Cv.fl (CvL.cons Cv.fl (CvL.cons Cv.fl CvL.nil)))))))) (HasR.cv (HasR.tmp (Has.s rfl)) Cv.fl) (ls 902008 (Low.res (lf (lg (lg (lf (lf (lf (lo Low.nil)))))))))
    ·have hm := cond_f hb hm
     refine CWalk.skip ?_
     refine Leaf.thenN ?_
     refine CWalk.seq ?_
     refine CWalk.region ?_
     refine wo (Spec.loadObj (ls := [(false, 1, Fact.rep [] (a1.Stripe : Int)), (false, 1, Fact.rep [0] (a1.Blocks : List (List UInt8))), (false, 1, Fact.rep [0] (a1.Dirty : List Bool)), (false, 1, Fact.rep [] (a1.Phase : UInt8)), (false, 1, Fact.rep [] (a1.Deals : Bool)), (false, 1, Fact.rep [] (a1.Seq : UInt32))]) ty28 rfl rfl (Has.s rfl) rfl (HasGs.cons (HasG.s rfl) (HasGs.cons (HasG.s rfl) (HasGs.cons (HasG.s rfl) (HasGs.cons (HasG.s rfl) (HasGs.cons (HasG.s rfl) (HasGs.cons (HasG.s rfl) HasGs.nil))))))) ?_
     obtain ⟨x10, hx10, hm⟩ := bind_some hm
     refine wo (f := Fact.flds [(false, 1, Fact.rep [] (x10.Stripe : Int)), (false, 1, Fact.ow [58] [59] 31 (x10.Blocks : List (List UInt8))), (false, 1, Fact.ow [60] [] 4 (x10.Dirty : List Bool)), (false, 1, Fact.rep [] (x10.Phase : UInt8)), (false, 1, Fact.rep [] (x10.Deals : Bool)), (false, 1, Fact.rep [] (x10.Seq : UInt32))]) (Spec.callE [0] 58 rfl en23 (head_Twin_c a1 hx10) (HasAll.cons (Has.m (Has.cv (Has.s rfl) (Cv.trans (Cv.flds (CvL.cons Cv.fl (CvL.cons (Cv.m rfl) (CvL.cons (Cv.m rfl) (CvL.cons Cv.fl (CvL.cons Cv.fl (CvL.cons Cv.fl CvL.nil))))))) (Cv.close (T := [0]) (chHead a1)))) rfl) HasAll.nil)) ?_
     refine ws (Step.allocObj (ls := [(false, 1, Fact.rep [] ((0 : Int) : Int)), (false, 1, Fact.nilv), (false, 1, Fact.nilv), (false, 1, Fact.rep [] ((0 : UInt8) : UInt8)), (false, 1, Fact.rep [] (false : Bool)), (false, 1, Fact.rep [] ((0 : UInt32) : UInt32))]) 61 rfl rfl rfl rfl zl28) ?_
     refine ws (Step.storeObj (ls := [(false, 1, Fact.rep [] (x10.Stripe : Int)), (false, 1, Fact.ow [58] [59] 31 (x10.Blocks : List (List UInt8))), (false, 1, Fact.ow [60] [] 4 (x10.Dirty : List Bool)), (false, 1, Fact.rep [] (x10.Phase : UInt8)), (false, 1, Fact.rep [] (x10.Deals : Bool)), (false, 1, Fact.rep [] (x10.Seq : UInt32))]) rfl ty28 rfl rfl (Has.s rfl) rfl (HasL.flds (Has.s rfl)) rfl) ?_
     refine Walk.nil ?_
     refine Leaf.thenN ?_
     refine CWalk.seqJ (fun p : Int × Int × (List (List UInt8)) × (List Bool) × UInt8 × Bool × UInt32 => [.fact 10 (Fact.isv 49), .fact 11 (Fact.rep [] (p.1 : Int)), .fact 902008 (Fact.cst (u1 8) (Fact.isv 28)), .fact 100050 (Fact.at 50 (Fact.rep [] (p.2.1 : Int))), .fact 100051 (Fact.at 51 (Fact.ow [58, 68] [59, 70] 31 (p.2.2.1 : List (List UInt8)))), .fact 100052 (Fact.at 52 (Fact.ow [60, 69] [] 4 (p.2.2.2.1 : List Bool))), .fact 100053 (Fact.at 53 (Fact.rep [] (p.2.2.2.2.1 : UInt8))), .fact 100054 (Fact.at 54 (Fact.rep [] (p.2.2.2.2.2.1 : Bool))), .fact 100055 (Fact.at 55 (Fact.rep [] (p.2.2.2.2.2.2 : UInt32))), .fact 100029 (Fact.at 29 (Fact.rep [] ((0 : Int) : Int))), .fact 100030 (Fact.at 30 (Fact.nilv)), .fact 100031 (Fact.at 31 (Fact.nilv)), .fact 100032 (Fact.at 32 (Fact.rep [] ((0 : UInt8) : UInt8))), .fact 100033 (Fact.at 33 (Fact.rep [] (false : Bool))), .fact 100034 (Fact.at 34 (Fact.rep [] ((0 : UInt32) : UInt32))), .fact 100049 (Fact.obj 49 [(false, 1), (false, 1), (false, 1), (false, 1), (false, 1), (false, 1)]), .fact 100028 (Fact.obj 28 [(false, 1), (false, 1), (false, 1), (false, 1), (false, 1), (false, 1)])]) (fun p : Int × Int × (List (List UInt8)) × (List Bool) × UInt8 × Bool × UInt32 => head_Take_J2 p.1 p.2.1 p.2.2.1 p.2.2.2.1 p.2.2.2.2.1 p.2.2.2.2.2.1 p.2.2.2.2.2.2 = some r) ?_ ?_
     ·rintro ⟨j11, j12, j13, j14, j15, j16, j17⟩ hm
      replace hm : head_Take_J2 j11 j12 j13 j14 j15 j16 j17 = some r := hm
      unfold head_Take_J2 at hm
      show CWalk _ [.fact 10 (Fact.isv 49), .fact 11 (Fact.rep [] (j11 : Int)), .fact 902008 (Fact.cst (u1 8) (Fact.isv 28)), .fact 100050 (Fact.at 50 (Fact.rep [] (j12 : Int))), .fact 100051 (Fact.at 51 (Fact.ow [58, 68] [59, 70] 31 (j13 : List (List UInt8)))), .fact 100052 (Fact.at 52 (Fact.ow [60, 69] [] 4 (j14 : List Bool))), .fact 100053 (Fact.at 53 (Fact.rep [] (j15 : UInt8))), .fact 100054 (Fact.at 54 (Fact.rep [] (j16 : Bool))), .fact 100055 (Fact.at 55 (Fact.rep [] (j17 : UInt32))), .fact 100029 (Fact.at 29 (Fact.rep [] ((0 : Int) : Int))), .fact 100030 (Fact.at 30 (Fact.nilv)), .fact 100031 (Fact.at 31 (Fact.nilv)), .fact 100032 (Fact.at 32 (Fact.rep [] ((0 : UInt8) : UInt8))), .fact 100033 (Fact.at 33 (Fact.rep [] (false : Bool))), .fact 100034 (Fact.at 34 (Fact.rep [] ((0 : UInt32) : UInt32))), .fact 100049 (Fact.obj 49 [(false, 1), (false, 1), (false, 1), (false, 1), (false, 1), (false, 1)]), .fact 100028 (Fact.obj 28 [(false, 1), (false, 1), (false, 1), (false, 1), (false, 1), (false, 1)])] _ _
      refine CWalk.ret ?_
      exact Leaf.in2 (j12, j13, j14, j15, j16, j17, j11) hm rfl rfl (HasR.cv (HasR.obj (ls := [(false, 1, Fact.rep [] (j12 : Int)), (false, 1, Fact.ow [58, 68] [59, 70] 31 (j13 : List (List UInt8))), (false, 1, Fact.ow [60, 69] [] 4 (j14 : List Bool)), (false, 1, Fact.rep [] (j15 : UInt8)), (false, 1, Fact.rep [] (j16 : Bool)), (false, 1, Fact.rep [] (j17 : UInt32))]) ty28 rfl rfl (Has.s rfl) rfl (HasGs.cons (HasG.s rfl) (HasGs.cons (HasG.s rfl) (HasGs.cons (HasG.s rfl) (HasGs.cons (HasG.s rfl) (HasGs.cons (HasG.s rfl) (HasGs.cons (HasG.s rfl) HasGs.nil))))))) (Cv.flds (CvL.cons Cv.fl (CvL.cons (Cv.owM (T := [58, 68]) (te := [59, 70]) rfl rfl) (CvL.cons (Cv.owF (T := [60, 69]) (te := []) rfl) (CvL.cons Cv.fl (CvL.cons Cv.fl (CvL.cons Cv.fl CvL.nil)))))))) (HasR.cv (HasR.tmp (Has.s rfl)) Cv.fl) (ls 902008 (Low.res (lf (lg (lg (lf (lf (lf (lo Low.nil)))))))))
     ·refine CWalk.seq ?_
      refine CWalk.region ?_
      refine mv ?_
      refine Walk.inline (S := Int × (List (List UInt8)) × (List Bool) × UInt8) (fun p : Int × (List (List UInt8)) × (List Bool) × UInt8 => [.fact 10 (Fact.isv 49), .fact 12 (Fact.isv 61), .fact 34 (Fact.rep [] (p.1 : Int)), .fact 902008 (Fact.cst (u1 8) (Fact.isv 28)), .fact 100050 (Fact.at 50 (Fact.rep [] ((0 : Int) : Int))), .fact 100051 (Fact.at 51 (Fact.nilv)), .fact 100052 (Fact.at 52 (Fact.nilv)), .fact 100053 (Fact.at 53 (Fact.rep [] ((0 : UInt8) : UInt8))), .fact 100054 (Fact.at 54 (Fact.rep [] (false : Bool))), .fact 100055 (Fact.at 55 (Fact.rep [] ((0 : UInt32) : UInt32))), .fact 100062 (Fact.at 62 (Fact.rep [] (x10.Stripe : Int))), .fact 100063 (Fact.at 63 (Fact.ow [58, 68] [59, 70] 31 (p.2.1 : List (List UInt8)))), .fact 100064 (Fact.at 64 (Fact.ow [60, 69] [] 4 (p.2.2.1 : List Bool))), .fact 100065 (Fact.at 65 (Fact.rep [] (p.2.2.2 : UInt8))), .fact 100066 (Fact.at 66 (Fact.rep [] (x10.Deals : Bool))), .fact 100067 (Fact.at 67 (Fact.rep [] (x10.Seq : UInt32))), .fact 100029 (Fact.at 29 (Fact.rep [] ((0 : Int) : Int))), .fact 100030 (Fact.at 30 (Fact.nilv)), .fact 100031 (Fact.at 31 (Fact.nilv)), .fact 100032 (Fact.at 32 (Fact.rep [] ((0 : UInt8) : UInt8))), .fact 100033 (Fact.at 33 (Fact.rep [] (false : Bool))), .fact 100034 (Fact.at 34 (Fact.rep [] ((0 : UInt32) : UInt32))), .fact 100049 (Fact.obj 49 [(false, 1), (false, 1), (false, 1), (false, 1), (false, 1), (false, 1)]), .fact 100061 (Fact.obj 61 [(false, 1), (false, 1), (false, 1), (false, 1), (false, 1), (false, 1)]), .fact 100028 (Fact.obj 28 [(false, 1), (false, 1), (false, 1), (false, 1), (false, 1), (false, 1)])]) (fun p : Int × (List (List UInt8)) × (List Bool) × UInt8 => head_Take_J3 x10 p.1 p.2.1 p.2.2.1 p.2.2.2 = some r) (fun u2 => [.fact 100011 (Fact.at 11 (Fact.rep [] (a0.Id : UInt32))), .fact 100012 (Fact.at 12 (Fact.rep [] (a0.Members : Int))), .fact 100013 (Fact.at 13 (Fact.rep [] (a0.Chunk : Int))), .fact 100014 (Fact.at 14 (Fact.rep [] (a0.Rows : Int))), .fact 100015 (Fact.at 15 (Fact.rep [] (a0.Log : Int))), .fact 100016 (Fact.at 16 (Fact.rep [] (a0.Heads : Int))), .fact 100025 (Fact.at 25 (Fact.rep [] (a2 : Int))), .fact 100027 (Fact.at 27 (Fact.rep [0] (a3 : List UInt8))), .fact 100029 (Fact.at 29 (Fact.rep [] ((0 : Int) : Int))), .fact 100030 (Fact.at 30 (Fact.nilv)), .fact 100031 (Fact.at 31 (Fact.nilv)), .fact 100032 (Fact.at 32 (Fact.rep [] ((0 : UInt8) : UInt8))), .fact 100033 (Fact.at 33 (Fact.rep [] (false : Bool))), .fact 100034 (Fact.at 34 (Fact.rep [] ((0 : UInt32) : UInt32))), .fact 100050 (Fact.at 50 (Fact.rep [] ((0 : Int) : Int))), .fact 100051 (Fact.at 51 (Fact.nilv)), .fact 100052 (Fact.at 52 (Fact.nilv)), .fact 100053 (Fact.at 53 (Fact.rep [] ((0 : UInt8) : UInt8))), .fact 100054 (Fact.at 54 (Fact.rep [] (false : Bool))), .fact 100055 (Fact.at 55 (Fact.rep [] ((0 : UInt32) : UInt32))), .fact 100062 (Fact.at 62 (Fact.rep [] (x10.Stripe : Int))), .fact 100063 (Fact.at 63 (Fact.ow [58] [59] 31 (x10.Blocks : List (List UInt8)))), .fact 100064 (Fact.at 64 (Fact.ow [60] [] 4 (x10.Dirty : List Bool))), .fact 100065 (Fact.at 65 (Fact.rep [] (x10.Phase : UInt8))), .fact 100066 (Fact.at 66 (Fact.rep [] (x10.Deals : Bool))), .fact 100067 (Fact.at 67 (Fact.rep [] (x10.Seq : UInt32))), .fact 902008 (Fact.cst (u1 8) (Fact.isv 28)), .fact 904010 (Fact.cst (u2 10) (Fact.isv 49)), .fact 904012 (Fact.cst (u2 12) (Fact.isv 61)), .fact 100010 (Fact.obj 10 [(false, 1), (false, 1), (false, 1), (false, 1), (false, 1), (false, 1)]), .fact 100024 (Fact.obj 24 [(false, 1)]), .fact 100026 (Fact.obj 26 [(false, 1)]), .fact 100028 (Fact.obj 28 [(false, 1), (false, 1), (false, 1), (false, 1), (false, 1), (false, 1)]), .fact 100049 (Fact.obj 49 [(false, 1), (false, 1), (false, 1), (false, 1), (false, 1), (false, 1)]), .fact 100061 (Fact.obj 61 [(false, 1), (false, 1), (false, 1), (false, 1), (false, 1), (false, 1)])]) (FA := [Fact.isv 61, Fact.isv 10, Fact.isv 26, Fact.isv 24]) rfl Try.func49 rfl rfl rfl (CallOk.valE en49 (Has.s rfl) (HasF.cons (Has.s rfl) HasF.nil)) (fun u2 => (ck (ck (ck (ck (ck (ck (ck (ck (ck (ck (ck (ck (ck (ck (ck (ck (ck (ck (ck (ck (ck (ck (ck (ck (ck (ck (ck (cs 904000 10 (cs 904000 12 (ck (ck (ck (ck (ck (ck Carry.nil)))))))))))))))))))))))))))))))))))) (fun u2 => ?_) ?_
      ·refine CWalk.seq ?_
       refine CWalk.region ?_
       refine wo (Spec.assign Has.int) ?_
       refine Walk.nil ?_
       refine Leaf.thenN ?_
       refine CWalk.seq ?_
       refine CWalk.seq ?_
       refine CWalk.region ?_
       refine mv ?_
       refine wo (Spec.nilCheckI (Has.s rfl) rfl) ?_
       refine wo (Spec.fieldAddrO fd28_3 (Has.cv (Has.s rfl) (Cv.isvP rfl))) ?_
       refine wo (Spec.loadF (i := 3) ty5 rfl (Has.s rfl) rfl (HasG.s rfl)) ?_
       refine wo (Spec.gtrN (α := UInt8) (Has.s rfl) (Has.u8 1 rfl)) ?_
       refine Walk.nil ?_
       refine Leaf.thenN ?_
       refine CWalk.cond rfl (fun hb => ?_) (fun hb => ?_)
       ·have hm := cond_t hb hm
        refine CWalk.seq ?_
        refine CWalk.region ?_
        refine wo (Spec.assign Has.int) ?_
        refine Walk.nil ?_
        refine Leaf.thenN ?_
        refine CWalk.ret ?_
        refine Leaf.thenR ?_
        exact Leaf.in1 ((160 : Int), x10.Blocks, x10.Dirty, x10.Phase) hm rfl rfl (HasR.cv (HasR.tmp (Has.s rfl)) Cv.fl) (ls 904010 (ls 904012 (Low.res (lc (lf (lg (lg (lf (lf (lf (lf (Low.keepG (HasG.cv (HasG.s rfl) (Cv.owM (T := [58]) (te := [59]) rfl rfl)) (Low.keepG (HasG.cv (HasG.s rfl) (Cv.owF (T := [60]) (te := []) rfl)) (lf (lf (lf (lf (lg (lg (lf (lf (lf (lo (lo (lo Low.nil)))))))))))))))))))))))))
       ·have hm := cond_f hb hm
        refine CWalk.skip ?_
        refine Leaf.thenN ?_
        refine CWalk.seq ?_
        refine CWalk.region ?_
        refine mv ?_
        refine wo (Spec.nilCheckI (Has.s rfl) rfl) ?_
        refine wo (Spec.fieldAddrO fd28_3 (Has.cv (Has.s rfl) (Cv.isvP rfl))) ?_
        refine ws (Step.storeF (i := 3) (f := Fact.rep [] ((0 : UInt8) : UInt8)) rfl ty5 rfl (Has.s rfl) rfl (Has.u8 0 rfl) (Has.u8 0 rfl) rfl) ?_
        refine Walk.nil ?_
        refine Leaf.thenN ?_
        refine CWalk.seq ?_
        refine CWalk.ad (Ad.owF (i := 63) 68 rfl rfl rfl (ElT.tags rfl) rfl (Cv.owM (T := [58]) (te := [59]) (T' := [58]) (te' := [59]) rfl rfl)) ?_
        obtain ⟨x22, hx22, hm⟩ := bind_some hm
        refine CWalk.drawM [[], [0], [0, 1], [0, 1, 2], [], [4], [4, 5], [0, 1, 2, 3, 4, 5, 6], [0, 1, 2, 3, 4, 5, 6, 7]] [[.fact 14 (Fact.isv 61)], [.fact 15 (Fact.isv 61)], [.fact 16 (Fact.pto 61 1)], [.fact 17 (Fact.isv 68)], [.fact 18 (Fact.pto 10 1)], [.fact 19 (Fact.rep [] (a0.Members : Int))], [.fact 20 (Fact.rep [] ((wI (a0.Members - (1 : Int))) : Int))], [.fact 21 (Fact.pto 68 (x22 * Rp.n (List UInt8)))], [.fact 100068 (Fact.own 68 [59] 31 ((x10.Blocks).set x22 ([] : List UInt8) : List (List UInt8))), .kill 68]] mixed (by kernel_rfl) (ao (so (Spec.move (Has.s rfl))) (ao (so (Spec.nilCheckI (Has.s rfl) rfl)) (ao (so (Spec.fieldAddrO fd28_1 (Has.cv (Has.s rfl) (Cv.isvP rfl)))) (ao (so (Spec.loadF (i := 1) ty25 rfl (Has.s rfl) rfl (HasG.s rfl))) (ao (so (Spec.fieldAddrO fd24_1 (Has.cv (Has.s rfl) (Cv.isvP rfl)))) (ao (so (Spec.loadF (i := 1) ty3 rfl (Has.s rfl) rfl (HasG.s rfl))) (ao (so (Spec.subI (Has.s rfl) Has.int)) (ao (so (Spec.idxOwn hx22 ow25 (Has.s rfl) rfl (Has.s rfl))) (ao (StepG.stE (Step.storeOwn (te' := [59]) rfl (bnd_lt hx22 rfl) ty31 (Has.s rfl) rfl (Has.nil UInt8) (ElKeep.tags rfl rfl) (ElKeep.tags rfl rfl))) AllM.nil))))))))) ?_
        refine Leaf.thenN ?_
        refine CWalk.seq ?_
        refine CWalk.ad (Ad.owF (i := 64) 69 rfl rfl rfl ElT.flat rfl (Cv.owF (T := [60]) (te := []) (T' := [60]) (te' := []) rfl)) ?_
        obtain ⟨x23, hx23, hm⟩ := bind_some hm
        obtain ⟨x24, hx24, hm⟩ := bind_some hm
        obtain ⟨x25, hx25, hm⟩ := bind_some hm
        refine CWalk.drawM [[], [0], [0, 1], [0, 1, 2], [], [], [5], [5, 6], [5, 6, 7], [], [], [10], [0, 1, 2, 3, 4, 5, 6, 7, 8, 10, 11], [0, 1, 2, 3, 4, 5, 6, 7, 8, 10, 11, 12], [0, 1, 2, 3, 4, 5, 6, 7, 8, 9, 10, 11, 12, 13], [0, 1, 2, 3, 4, 5, 6, 7, 8, 9, 10, 11, 12, 13, 14]] [[.fact 22 (Fact.isv 61)], [.fact 23 (Fact.isv 61)], [.fact 24 (Fact.pto 61 1)], [.fact 25 (Fact.isv 68)], [.fact 26 (Fact.rep [] (a2 : Int))], [.fact 27 (Fact.isv 61)], [.fact 28 (Fact.isv 61)], [.fact 29 (Fact.pto 61 2)], [.fact 30 (Fact.isv 69)], [.fact 31 (Fact.rep [] (a2 : Int))], [.fact 32 (Fact.rep [0] (a3 : List UInt8))], [.fact 33 (Fact.ow [70] [] 5 (x23 : List UInt8))], [.fact 34 (Fact.pto 68 (x24 * Rp.n (List UInt8)))], [.fact 100068 (Fact.own 68 [59, 70] 31 (((x10.Blocks).set x22 ([] : List UInt8)).set x24 x23 : List (List UInt8))), .kill 68], [.fact 35 (Fact.pto 69 (x25 * Rp.n Bool))], [.fact 100069 (Fact.own 69 [] 4 ((x10.Dirty).set x25 true : List Bool)), .kill 69]] mixed (by kernel_rfl) (ao (so (Spec.move (Has.s rfl))) (ao (so (Spec.nilCheckI (Has.s rfl) rfl)) (ao (so (Spec.fieldAddrO fd28_1 (Has.cv (Has.s rfl) (Cv.isvP rfl)))) (ao (so (Spec.loadF (i := 1) ty25 rfl (Has.s rfl) rfl (HasG.s rfl))) (ao (so (Spec.loadF (i := 0) ty3 rfl (Has.cv (Has.s rfl) (Cv.isvP rfl)) rfl (HasG.s rfl))) (ao (so (Spec.move (Has.s rfl))) (ao (so (Spec.nilCheckI (Has.s rfl) rfl)) (ao (so (Spec.fieldAddrO fd28_2 (Has.cv (Has.s rfl) (Cv.isvP rfl)))) (ao (so (Spec.loadF (i := 2) ty26 rfl (Has.s rfl) rfl (HasG.s rfl))) (ao (so (Spec.loadF (i := 0) ty3 rfl (Has.cv (Has.s rfl) (Cv.isvP rfl)) rfl (HasG.s rfl))) (ao (so (Spec.loadF (i := 0) ty31 rfl (Has.cv (Has.s rfl) (Cv.isvP rfl)) rfl (HasG.s rfl))) (ao (so (Spec.callE [0] 70 rfl en50 (head_block_c a3 hx23) (HasAll.cons (Has.m (Has.s rfl) rfl) HasAll.nil))) (ao (so (Spec.idxOwn hx24 ow25 (Has.s rfl) rfl (Has.s rfl))) (ao (StepG.stE (Step.storeOwn (te' := [59, 70]) rfl (bnd_lt hx24 rfl) ty31 (Has.s rfl) rfl (Has.cv (Has.s rfl) (Cv.trans Cv.owSl (Cv.slRep (T' := [70]) rfl rfl))) (ElKeep.tags rfl rfl) (ElKeep.tags rfl rfl))) (ao (so (Spec.idxOwn hx25 ow26 (Has.s rfl) rfl (Has.s rfl))) (ao (StepG.stE (Step.storeOwn (te' := []) rfl (bnd_lt hx25 rfl) ty4 (Has.s rfl) rfl Has.bool ElKeep.flat ElKeep.flat)) AllM.nil)))))))))))))))) ?_
        refine Leaf.thenN ?_
        refine CWalk.seq ?_
        refine CWalk.region ?_
        refine wo (Spec.assign Has.int) ?_
        refine Walk.nil ?_
        refine Leaf.thenN ?_
        refine CWalk.ret ?_
        exact Leaf.in1 ((0 : Int), ((x10.Blocks).set x22 ([] : List UInt8)).set x24 x23, (x10.Dirty).set x25 true, (0 : UInt8)) hm rfl rfl (HasR.cv (HasR.tmp (Has.s rfl)) Cv.fl) (ls 904010 (ls 904012 (Low.res (lc (lf (lg (lg (lf (lf (lf (lf (Low.keepG (HasG.cv (HasG.s rfl) (Cv.trans (Cv.isvOw rfl) (Cv.owM (T := [68]) (te := [59, 70]) rfl rfl))) (Low.keepG (HasG.cv (HasG.s rfl) (Cv.trans (Cv.isvOw rfl) (Cv.owF (T := [69]) (te := []) rfl))) (lf (lf (lf (lf (lg (lg (lf (lf (lf (lo (lo (lo Low.nil)))))))))))))))))))))))))
      ·rintro ⟨j18, j19, j20, j21⟩ hm
       replace hm : head_Take_J3 x10 j18 j19 j20 j21 = some r := hm
       unfold head_Take_J3 at hm
       show Walk _ _ _ [.fact 10 (Fact.isv 49), .fact 12 (Fact.isv 61), .fact 34 (Fact.rep [] (j18 : Int)), .fact 902008 (Fact.cst (u1 8) (Fact.isv 28)), .fact 100050 (Fact.at 50 (Fact.rep [] ((0 : Int) : Int))), .fact 100051 (Fact.at 51 (Fact.nilv)), .fact 100052 (Fact.at 52 (Fact.nilv)), .fact 100053 (Fact.at 53 (Fact.rep [] ((0 : UInt8) : UInt8))), .fact 100054 (Fact.at 54 (Fact.rep [] (false : Bool))), .fact 100055 (Fact.at 55 (Fact.rep [] ((0 : UInt32) : UInt32))), .fact 100062 (Fact.at 62 (Fact.rep [] (x10.Stripe : Int))), .fact 100063 (Fact.at 63 (Fact.ow [58, 68] [59, 70] 31 (j19 : List (List UInt8)))), .fact 100064 (Fact.at 64 (Fact.ow [60, 69] [] 4 (j20 : List Bool))), .fact 100065 (Fact.at 65 (Fact.rep [] (j21 : UInt8))), .fact 100066 (Fact.at 66 (Fact.rep [] (x10.Deals : Bool))), .fact 100067 (Fact.at 67 (Fact.rep [] (x10.Seq : UInt32))), .fact 100029 (Fact.at 29 (Fact.rep [] ((0 : Int) : Int))), .fact 100030 (Fact.at 30 (Fact.nilv)), .fact 100031 (Fact.at 31 (Fact.nilv)), .fact 100032 (Fact.at 32 (Fact.rep [] ((0 : UInt8) : UInt8))), .fact 100033 (Fact.at 33 (Fact.rep [] (false : Bool))), .fact 100034 (Fact.at 34 (Fact.rep [] ((0 : UInt32) : UInt32))), .fact 100049 (Fact.obj 49 [(false, 1), (false, 1), (false, 1), (false, 1), (false, 1), (false, 1)]), .fact 100061 (Fact.obj 61 [(false, 1), (false, 1), (false, 1), (false, 1), (false, 1), (false, 1)]), .fact 100028 (Fact.obj 28 [(false, 1), (false, 1), (false, 1), (false, 1), (false, 1), (false, 1)])] _
       refine wo (Spec.assign (Has.s rfl)) ?_
       refine Walk.nil ?_
       refine Leaf.thenN ?_
       refine CWalk.seq ?_
       refine CWalk.region ?_
       refine mv ?_
       refine wo (Spec.eqlI (Has.s rfl) Has.int) ?_
       refine Walk.nil ?_
       refine Leaf.thenN ?_
       refine CWalk.cond rfl (fun hb => ?_) (fun hb => ?_)
       ·have hm := cond_t hb hm
        refine CWalk.region ?_
        refine wo (Spec.loadObj (ls := [(false, 1, Fact.rep [] (x10.Stripe : Int)), (false, 1, Fact.ow [58, 68] [59, 70] 31 (j19 : List (List UInt8))), (false, 1, Fact.ow [60, 69] [] 4 (j20 : List Bool)), (false, 1, Fact.rep [] (j21 : UInt8)), (false, 1, Fact.rep [] (x10.Deals : Bool)), (false, 1, Fact.rep [] (x10.Seq : UInt32))]) ty28 rfl rfl (Has.s rfl) rfl (HasGs.cons (HasG.s rfl) (HasGs.cons (HasG.s rfl) (HasGs.cons (HasG.s rfl) (HasGs.cons (HasG.s rfl) (HasGs.cons (HasG.s rfl) (HasGs.cons (HasG.s rfl) HasGs.nil))))))) ?_
        refine ws (Step.storeObj (ls := [(false, 1, Fact.rep [] (x10.Stripe : Int)), (false, 1, Fact.ow [58, 68] [59, 70] 31 (j19 : List (List UInt8))), (false, 1, Fact.ow [60, 69] [] 4 (j20 : List Bool)), (false, 1, Fact.rep [] (j21 : UInt8)), (false, 1, Fact.rep [] (x10.Deals : Bool)), (false, 1, Fact.rep [] (x10.Seq : UInt32))]) rfl ty28 rfl rfl (Has.s rfl) rfl (HasL.flds (Has.s rfl)) rfl) ?_
        refine Walk.nil ?_
        exact Leaf.join (j18, x10.Stripe, j19, j20, j21, x10.Deals, x10.Seq) hm (sn (st (sc (sf (Sub.cons (Has.at (HasG.cv (HasG.s rfl) (Cv.owM (T := [58, 68]) (te := [59, 70]) rfl rfl))) (Sub.cons (Has.at (HasG.cv (HasG.s rfl) (Cv.owF (T := [60, 69]) (te := []) rfl))) (sf (sf (sf (sf (sg (sg (sf (sf (sf (sn (sn Sub.nil)))))))))))))))))
       ·have hm := cond_f hb hm
        refine CWalk.skip ?_
        exact Leaf.join (j18, (0 : Int), ([] : List (List UInt8)), ([] : List Bool), (0 : UInt8), false, (0 : UInt32)) hm (sn (st (sc (sf (Sub.cons (Has.at (HasG.cv (HasG.s rfl) (Cv.trans Cv.nilOw (Cv.owM (T := []) (te := []) rfl rfl)))) (Sub.cons (Has.at (HasG.cv (HasG.s rfl) (Cv.trans Cv.nilOw (Cv.owF (T := []) (te := []) rfl)))) (sf (sf (sf (sf (sg (sg (sf (sf (sf (sn (sn Sub.nil)))))))))))))))))
 ·rintro ⟨j1, j2, j3, j4, j5, j6, j7⟩ hm
  replace hm : head_Take_J1 j1 j2 j3 j4 j5 j6 j7 = some r := hm
  unfold head_Take_J1 at hm
  show Walk _ _ _ [.fact 8 (Fact.isv 28), .fact 15 (Fact.tup2 (Fact.flds [(false, 1, Fact.rep [] (j1 : Int)), (false, 1, Fact.ow [58, 68] [59, 70] 31 (j2 : List (List UInt8))), (false, 1, Fact.ow [60, 69] [] 4 (j3 : List Bool)), (false, 1, Fact.rep [] (j4 : UInt8)), (false, 1, Fact.rep [] (j5 : Bool)), (false, 1, Fact.rep [] (j6 : UInt32))]) (Fact.rep [] (j7 : Int))), .fact 100029 (Fact.at 29 (Fact.rep [] ((0 : Int) : Int))), .fact 100030 (Fact.at 30 (Fact.nilv)), .fact 100031 (Fact.at 31 (Fact.nilv)), .fact 100032 (Fact.at 32 (Fact.rep [] ((0 : UInt8) : UInt8))), .fact 100033 (Fact.at 33 (Fact.rep [] (false : Bool))), .fact 100034 (Fact.at 34 (Fact.rep [] ((0 : UInt32) : UInt32))), .fact 100028 (Fact.obj 28 [(false, 1), (false, 1), (false, 1), (false, 1), (false, 1), (false, 1)])] _
  refine wo (Spec.ext0 (Has.s rfl)) ?_
  refine wo (Spec.ext1 (Has.s rfl)) ?_
  refine ws (Step.storeObj (ls := [(false, 1, Fact.rep [] (j1 : Int)), (false, 1, Fact.ow [58, 68] [59, 70] 31 (j2 : List (List UInt8))), (false, 1, Fact.ow [60, 69] [] 4 (j3 : List Bool)), (false, 1, Fact.rep [] (j4 : UInt8)), (false, 1, Fact.rep [] (j5 : Bool)), (false, 1, Fact.rep [] (j6 : UInt32))]) rfl ty28 rfl rfl (Has.s rfl) rfl (HasL.flds (Has.s rfl)) rfl) ?_
  refine wo (Spec.assign (Has.s rfl)) ?_
  refine Walk.nil ?_
  refine Leaf.thenN ?_
  refine CWalk.ret ?_
  obtain rfl := Option.some.inj hm
  exact Leaf.retC2 rfl (HasR.cv (HasR.obj (ls := [(false, 1, Fact.rep [] (j1 : Int)), (false, 1, Fact.ow [58, 68] [59, 70] 31 (j2 : List (List UInt8))), (false, 1, Fact.ow [60, 69] [] 4 (j3 : List Bool)), (false, 1, Fact.rep [] (j4 : UInt8)), (false, 1, Fact.rep [] (j5 : Bool)), (false, 1, Fact.rep [] (j6 : UInt32))]) ty28 rfl rfl (Has.s rfl) rfl (HasGs.cons (HasG.s rfl) (HasGs.cons (HasG.s rfl) (HasGs.cons (HasG.s rfl) (HasGs.cons (HasG.s rfl) (HasGs.cons (HasG.s rfl) (HasGs.cons (HasG.s rfl) HasGs.nil))))))) (Cv.flds (CvL.cons Cv.fl (CvL.cons (Cv.owM (T := [58, 68]) (te := [59, 70]) rfl rfl) (CvL.cons (Cv.owF (T := [60, 69]) (te := []) rfl) (CvL.cons Cv.fl (CvL.cons Cv.fl (CvL.cons Cv.fl CvL.nil)))))))) (HasR.cv (HasR.tmp (Has.s rfl)) Cv.fl)

/-- freeboard/head.may -/
def head_may (a0 : Int) (a1 : UInt8) : Option (Bool) :=
  (bif (a0 == (0 : Int)) then some (a1 == (0 : UInt8)) else (bif (a0 == (1 : Int)) then some (a1 == (1 : UInt8)) else (bif (a0 == (2 : Int)) then some (a1 == (2 : UInt8)) else (bif (a0 == (3 : Int)) then some ((a1 == (1 : UInt8)) || (a1 == (3 : UInt8))) else some (a1 == (4 : UInt8))))))
set_option maxRecDepth 100000 in
set_option maxHeartbeats 2000000 in
theorem head_may_c (a0 : Int) (a1 : UInt8) {r : Bool} (hm : head_may a0 a1 = some r) : Ctr Try.prog 78 [.rep 0 a0, .rep 0 a1] (.fl r) [] := by
 refine ctr_of_walk [[]] 28 Try.func78 rfl rfl rfl rfl (fun w0 om => ?_)
 unfold head_may at hm
 refine CWalk.sub (G' := [.fact 0 (Fact.rep [] (a0 : Int)), .fact 1 (Fact.rep [] (a1 : UInt8))]) (Sub.cons (Has.fl (Has.s rfl)) (Sub.cons (Has.fl (Has.s rfl)) Sub.nil)) ?_
 refine CWalk.seq ?_
 refine CWalk.region ?_
 refine wo (Spec.assign Has.bool) ?_
 refine Walk.nil ?_
 refine Leaf.thenN ?_
 refine CWalk.seq ?_
 refine CWalk.seq ?_
 refine CWalk.region ?_
 refine mv ?_
 refine Walk.nil ?_
 refine Leaf.thenN ?_
 refine CWalk.block ?_
 refine CWalk.seq ?_
 refine CWalk.region ?_
 refine wo (Spec.eqlI (Has.s rfl) Has.int) ?_
 refine wo (Spec.assign (Has.s rfl)) ?_
 refine Walk.nil ?_
 refine Leaf.thenN ?_
 refine CWalk.cond rfl (fun hb => ?_) (fun hb => ?_)
 ·have hm := cond_t hb hm
  refine CWalk.seq ?_
  refine CWalk.region ?_
  refine mv ?_
  refine wo (Spec.eqlB (Has.s rfl) (Has.u8 0 rfl)) ?_
  refine wo (Spec.assign (Has.s rfl)) ?_
  refine Walk.nil ?_
  refine Leaf.thenN ?_
  refine CWalk.ret ?_
  refine Leaf.blockR ?_
  refine Leaf.thenR ?_
  obtain rfl := Option.some.inj hm
  exact Leaf.retC1 rfl (HasR.cv (HasR.tmp (Has.s rfl)) Cv.fl)
 ·have hm := cond_f hb hm
  refine CWalk.seq ?_
  refine CWalk.region ?_
  refine wo (Spec.eqlI (Has.s rfl) Has.int) ?_
  refine wo (Spec.assign (Has.s rfl)) ?_
  refine Walk.nil ?_
  refine Leaf.thenN ?_
  refine CWalk.cond rfl (fun hb => ?_) (fun hb => ?_)
  ·have hm := cond_t hb hm
   refine CWalk.seq ?_
   refine CWalk.region ?_
   refine mv ?_
   refine wo (Spec.eqlB (Has.s rfl) (Has.u8 1 rfl)) ?_
   refine wo (Spec.assign (Has.s rfl)) ?_
   refine Walk.nil ?_
   refine Leaf.thenN ?_
   refine CWalk.ret ?_
   refine Leaf.blockR ?_
   refine Leaf.thenR ?_
   obtain rfl := Option.some.inj hm
   exact Leaf.retC1 rfl (HasR.cv (HasR.tmp (Has.s rfl)) Cv.fl)
  ·have hm := cond_f hb hm
   refine CWalk.seq ?_
   refine CWalk.region ?_
   refine wo (Spec.eqlI (Has.s rfl) Has.int) ?_
   refine wo (Spec.assign (Has.s rfl)) ?_
   refine Walk.nil ?_
   refine Leaf.thenN ?_
   refine CWalk.cond rfl (fun hb => ?_) (fun hb => ?_)
   ·have hm := cond_t hb hm
    refine CWalk.seq ?_
    refine CWalk.region ?_
    refine mv ?_
    refine wo (Spec.eqlB (Has.s rfl) (Has.u8 2 rfl)) ?_
    refine wo (Spec.assign (Has.s rfl)) ?_
    refine Walk.nil ?_
    refine Leaf.thenN ?_
    refine CWalk.ret ?_
    refine Leaf.blockR ?_
    refine Leaf.thenR ?_
    obtain rfl := Option.some.inj hm
    exact Leaf.retC1 rfl (HasR.cv (HasR.tmp (Has.s rfl)) Cv.fl)
   ·have hm := cond_f hb hm
    refine CWalk.seq ?_
    refine CWalk.region ?_
    refine wo (Spec.eqlI (Has.s rfl) Has.int) ?_
    refine wo (Spec.assign (Has.s rfl)) ?_
    refine Walk.nil ?_
    refine Leaf.thenN ?_
    refine CWalk.cond rfl (fun hb => ?_) (fun hb => ?_)
    ·have hm := cond_t hb hm
     refine CWalk.seq ?_
     refine CWalk.region ?_
     refine mv ?_
     refine wo (Spec.eqlB (Has.s rfl) (Has.u8 1 rfl)) ?_
     refine mv ?_
     refine wg rfl rfl (fun hb => Spec.move (Has.s rfl)) ?_
     refine wg rfl rfl (fun hb => Spec.eqlB (Has.u rfl hb) (Has.u8 3 rfl)) ?_
     refine wo (Spec.or (Has.s rfl) (fun h => Has.u rfl h)) ?_
     refine wo (Spec.assign (Has.s rfl)) ?_
     refine Walk.nil ?_
     refine Leaf.thenN ?_
     refine CWalk.ret ?_
     refine Leaf.blockR ?_
     refine Leaf.thenR ?_
     obtain rfl := Option.some.inj hm
     exact Leaf.retC1 rfl (HasR.cv (HasR.tmp (Has.s rfl)) Cv.fl)
    ·have hm := cond_f hb hm
     refine CWalk.skip ?_
     refine Leaf.blockN ?_
     refine Leaf.thenN ?_
     refine CWalk.seq ?_
     refine CWalk.region ?_
     refine mv ?_
     refine wo (Spec.eqlB (Has.s rfl) (Has.u8 4 rfl)) ?_
     refine wo (Spec.assign (Has.s rfl)) ?_
     refine Walk.nil ?_
     refine Leaf.thenN ?_
     refine CWalk.ret ?_
     obtain rfl := Option.some.inj hm
     exact Leaf.retC1 rfl (HasR.cv (HasR.tmp (Has.s rfl)) Cv.fl)

def slices_Index_bool_bool_L1 (a0 : List Bool) (a1 : Bool) (s1 : Int) : Option (Ctl (Int) ((Unit) ⊕ (Int))) :=
  (bif (decide (s1 < ((a0).length : Int))) then Option.bind (idx a0 s1) (fun x3 => (bif (a1 == x3) then some (Ctl.brk (Sum.inr s1)) else some (Ctl.next (wI (s1 + (1 : Int)))))) else some (Ctl.brk (Sum.inl ())))
/-- slices.Index[[]bool,bool] -/
def slices_Index_bool_bool (a0 : List Bool) (a1 : Bool) : Option (Int) :=
  Option.bind (loopM (fun s : Int => slices_Index_bool_bool_L1 a0 a1 s) FUEL (0 : Int)) (fun b4 => Sum.elim (fun b5 => some (-1 : Int)) (fun b6 => some b6) b4)
set_option maxRecDepth 100000 in
set_option maxHeartbeats 2000000 in
theorem slices_Index_bool_bool_c (a0 : List Bool) (a1 : Bool) {r : Int} (hm : slices_Index_bool_bool a0 a1 = some r) : Ctr Try.prog 81 [.rep 0 a0, .rep 0 a1] (.fl r) [] := by
 refine ctr_of_walk [[]] 19 Try.func81 rfl rfl rfl rfl (fun w0 om => ?_)
 unfold slices_Index_bool_bool at hm
 refine CWalk.sub (G' := [.fact 0 (Fact.rep [0] (a0 : List Bool)), .fact 1 (Fact.rep [] (a1 : Bool))]) (sn (Sub.cons (Has.fl (Has.s rfl)) Sub.nil)) ?_
 refine CWalk.seq ?_
 refine CWalk.region ?_
 refine wo (Spec.assign Has.int) ?_
 refine Walk.nil ?_
 refine Leaf.thenN ?_
 refine CWalk.seq ?_
 refine CWalk.seq ?_
 refine CWalk.region ?_
 refine mv ?_
 refine wo (Spec.len (Has.s rfl) Try.underlying26) ?_
 refine wo (Spec.move Has.int) ?_
 refine Walk.nil ?_
 refine Leaf.thenN ?_
 refine CWalk.block ?_
 obtain ⟨b4, hb4, hm⟩ := bind_some hm
 refine CWalk.loop (fun s : Int => [.fact 0 (Fact.rep [0] (a0 : List Bool)), .fact 1 (Fact.rep [] (a1 : Bool)), .fact 7 (Fact.rep [] (((a0).length : Int) : Int)), .fact 8 (Fact.rep [] (s : Int))]) (fun b : (Unit) ⊕ (Int) => Sum.elim (fun b => (Exit.exit 0, [])) (fun b => (Exit.ret, [.fact 4 (Fact.rep [] (b : Int))])) b) hb4 (su (st (st (st Sub.nil)))) ?_ ?_
 ·rintro s1 c2 hm
  replace hm : slices_Index_bool_bool_L1 a0 a1 s1 = some c2 := hm
  unfold slices_Index_bool_bool_L1 at hm
  show CWalk _ [.fact 0 (Fact.rep [0] (a0 : List Bool)), .fact 1 (Fact.rep [] (a1 : Bool)), .fact 7 (Fact.rep [] (((a0).length : Int) : Int)), .fact 8 (Fact.rep [] (s1 : Int))] _ _
  refine CWalk.seq ?_
  refine CWalk.region ?_
  refine wo (Spec.lssI (Has.s rfl) (Has.s rfl)) ?_
  refine Walk.nil ?_
  refine Leaf.thenN ?_
  refine CWalk.seq ?_
  refine CWalk.cond rfl (fun hb => ?_) (fun hb => ?_)
  ·have hm := cond_t hb hm
   refine CWalk.skip ?_
   refine Leaf.thenN ?_
   refine CWalk.seq ?_
   refine CWalk.block ?_
   refine CWalk.seq ?_
   refine CWalk.region ?_
   refine mv ?_
   refine wo (Spec.assign (Has.s rfl)) ?_
   refine Walk.nil ?_
   refine Leaf.thenN ?_
   refine CWalk.seq ?_
   refine CWalk.region ?_
   refine mv ?_
   refine mv ?_
   refine mv ?_
   obtain ⟨x3, hx3, hm⟩ := bind_some hm
   refine wo (Spec.indexAddr hx3 sl26 (Has.s rfl) (Has.s rfl)) ?_
   refine wo ((Spec.load ty4 (Has.s rfl)).flat (T' := [])) ?_
   refine wo (Spec.eqlT (Has.s rfl) (Has.s rfl) Try.underlying4) ?_
   refine Walk.nil ?_
   refine Leaf.thenN ?_
   refine CWalk.cond rfl (fun hb => ?_) (fun hb => ?_)
   ·have hm := cond_t hb hm
    refine CWalk.seq ?_
    refine CWalk.region ?_
    refine mv ?_
    refine wo (Spec.assign (Has.s rfl)) ?_
    refine Walk.nil ?_
    refine Leaf.thenN ?_
    refine CWalk.ret ?_
    refine Leaf.blockR ?_
    refine Leaf.thenR ?_
    exact Leaf.brk hm (fun h => nomatch h) rfl (st Sub.nil)
   ·have hm := cond_f hb hm
    refine CWalk.skip ?_
    refine Leaf.blockN ?_
    refine Leaf.thenN ?_
    refine CWalk.region ?_
    refine wo (Spec.addI (Has.s rfl) Has.int) ?_
    refine mv ?_
    refine Walk.nil ?_
    exact Leaf.next hm (su (st (st (st Sub.nil))))
  ·have hm := cond_f hb hm
   refine CWalk.exit ?_
   refine Leaf.thenE ?_
   exact Leaf.brk hm (fun h => nomatch h) rfl (Sub.nil)
 ·intro _
  rcases b4 with b5 | b6
  ·have hm := selim_l hm
   refine Leaf.blockE ?_
   refine Leaf.thenN ?_
   refine CWalk.seq ?_
   refine CWalk.region ?_
   refine wo (Spec.assign Has.int) ?_
   refine Walk.nil ?_
   refine Leaf.thenN ?_
   refine CWalk.ret ?_
   obtain rfl := Option.some.inj hm
   exact Leaf.retC1 rfl (HasR.cv (HasR.tmp (Has.s rfl)) Cv.fl)
  ·have hm := selim_r hm
   refine Leaf.blockR ?_
   refine Leaf.thenR ?_
   obtain rfl := Option.some.inj hm
   exact Leaf.retC1 rfl (HasR.cv (HasR.tmp (Has.s rfl)) Cv.fl)

/-- slices.Contains[[]bool,bool] -/
def slices_Contains_bool_bool (a0 : List Bool) (a1 : Bool) : Option (Bool) :=
  Option.bind (slices_Index_bool_bool a0 a1) (fun x1 => some (decide (x1 ≥ (0 : Int))))
set_option maxRecDepth 100000 in
set_option maxHeartbeats 2000000 in
theorem slices_Contains_bool_bool_c (a0 : List Bool) (a1 : Bool) {r : Bool} (hm : slices_Contains_bool_bool a0 a1 = some r) : Ctr Try.prog 79 [.rep 0 a0, .rep 0 a1] (.fl r) [] := by
 refine ctr_of_walk [[]] 9 Try.func79 rfl rfl rfl rfl (fun w0 om => ?_)
 unfold slices_Contains_bool_bool at hm
 refine CWalk.sub (G' := [.fact 0 (Fact.rep [0] (a0 : List Bool)), .fact 1 (Fact.rep [] (a1 : Bool))]) (sn (Sub.cons (Has.fl (Has.s rfl)) Sub.nil)) ?_
 refine CWalk.seq ?_
 refine CWalk.region ?_
 refine wo (Spec.assign Has.bool) ?_
 refine Walk.nil ?_
 refine Leaf.thenN ?_
 refine CWalk.seq ?_
 refine CWalk.region ?_
 refine mv ?_
 refine mv ?_
 obtain ⟨x1, hx1, hm⟩ := bind_some hm
 refine wo (f := Fact.rep [] (x1 : Int)) (Spec.callE [0] 10 rfl en81 (slices_Index_bool_bool_c a0 a1 hx1) (HasAll.cons (Has.m (Has.s rfl) rfl) (HasAll.cons (Has.fl (Has.s rfl)) HasAll.nil))) ?_
 refine wo (Spec.geqI (Has.s rfl) Has.int) ?_
 refine wo (Spec.assign (Has.s rfl)) ?_
 refine Walk.nil ?_
 refine Leaf.thenN ?_
 refine CWalk.ret ?_
 obtain rfl := Option.some.inj hm
 exact Leaf.retC1 rfl (HasR.cv (HasR.tmp (Has.s rfl)) Cv.fl)

def head_Make_J1 (j3 : Int) (j4 : List (List UInt8)) (j5 : List Bool) (j6 : UInt8) (j7 : Bool) (j8 : UInt32) (j9 : Int) : Option (Head × Int) :=
  some ((Head.mk j3 j4 j5 j6 j7 j8), j9)
def head_Make_J2 (j10 : Int) (j11 : List (List UInt8)) (j12 : List Bool) (j13 : UInt8) (j14 : Bool) (j15 : UInt32) (j16 : Int) : Option (Head × Int) :=
  (head_Make_J1 j10 j11 j12 j13 j14 j15 j16)
def head_Make_J3 (j20 : Int) (j21 : Int) (j22 : List (List UInt8)) (j23 : List Bool) (j24 : UInt8) (j25 : Bool) (j26 : UInt32) : Option (Head × Int) :=
  (head_Make_J2 j21 j22 j23 j24 j25 j26 j20)
def head_Make_J4 (x19 : Head) (j27 : Int) (j28 : List (List UInt8)) (j29 : UInt8) : Option (Head × Int) :=
  (bif (j27 == (0 : Int)) then (head_Make_J3 j27 x19.Stripe j28 x19.Dirty j29 x19.Deals x19.Seq) else (head_Make_J3 j27 (0 : Int) ([] : List (List UInt8)) ([] : List Bool) (0 : UInt8) false (0 : UInt32)))
def head_Make_J5 (x19 : Head) (j32 : List (List UInt8)) : Option (Head × Int) :=
  (head_Make_J4 x19 (0 : Int) j32 (1 : UInt8))
/-- freeboard/head.Make -/
def head_Make (a0 : Config) (a1 : Head) (a2 : List UInt8) : Option (Head × Int) :=
  Option.bind (head_Check a0 a1) (fun x1 => (bif (x1 != (0 : Int)) then some ((Head.mk (0 : Int) ([] : List (List UInt8)) ([] : List Bool) (0 : UInt8) false (0 : UInt32)), x1) else Option.bind (head_odd a2) (fun x2 => (bif x2 then some ((Head.mk (0 : Int) ([] : List (List UInt8)) ([] : List Bool) (0 : UInt8) false (0 : UInt32)), (3 : Int)) else Option.bind (head_Check a0 a1) (fun x17 => (bif (x17 != (0 : Int)) then (head_Make_J2 (0 : Int) ([] : List (List UInt8)) ([] : List Bool) (0 : UInt8) false (0 : UInt32) x17) else (bif ((decide ((0 : Int) < (0 : Int))) || (decide ((0 : Int) ≥ (wI (a0.Members - (1 : Int)))))) then (head_Make_J2 (0 : Int) ([] : List (List UInt8)) ([] : List Bool) (0 : UInt8) false (0 : UInt32) (2 : Int)) else Option.bind (head_odd ([] : List UInt8)) (fun x18 => (bif x18 then (head_Make_J2 (0 : Int) ([] : List (List UInt8)) ([] : List Bool) (0 : UInt8) false (0 : UInt32) (3 : Int)) else Option.bind (head_Twin a1) (fun x19 => Option.bind (head_may (0 : Int) x19.Phase) (fun x30 => Option.bind (gO ((!(!x30)) && (((0 : Int) == (0 : Int)))) (slices_Contains_bool_bool x19.Dirty true)) (fun x31 => (bif ((!x30) || (((0 : Int) == (0 : Int)) && (!x31))) then (head_Make_J4 x19 (6 : Int) x19.Blocks x19.Phase) else Option.bind (head_block a2) (fun x33 => Option.bind (bnd (x19.Blocks).length (wI (a0.Members - (1 : Int)))) (fun x34 => (head_Make_J5 x19 ((x19.Blocks).set x34 x33)))))))))))))))))
set_option maxRecDepth 100000 in
set_option maxHeartbeats 2000000 in
theorem head_Make_c (a0 : Config) (a1 : Head) (a2 : List UInt8) {r : Head × Int} (hm : head_Make a0 a1 a2 = some r) : Ctr Try.prog 28 [.rep 0 a0, .rep 0 a1, .rep 0 a2] (.tup2 (.flds [(false, 1, (.fl r.1.Stripe)), (false, 1, (.own 0 (some 1) 31 r.1.Blocks)), (false, 1, (.own 2 none 4 r.1.Dirty)), (false, 1, (.fl r.1.Phase)), (false, 1, (.fl r.1.Deals)), (false, 1, (.fl r.1.Seq))]) (.fl r.2)) [] := by
 refine ctr_of_walk [[83, 95], [84, 96], [85]] 25 Try.func28 rfl rfl rfl rfl (fun w0 om => ?_)
 unfold head_Make at hm
 refine CWalk.sub (G' := [.fact 0 (Fact.rep [] (a0 : Config)), .fact 1 (Fact.rep [0] (a1 : Head)), .fact 2 (Fact.rep [0] (a2 : List UInt8))]) (Sub.cons (Has.fl (Has.s rfl)) (sn (sn Sub.nil))) ?_
 refine CWalk.seq ?_
 refine CWalk.region ?_
 refine ws (Step.boxObj (ls := [(false, 1, Fact.rep [] (a0.Id : UInt32)), (false, 1, Fact.rep [] (a0.Members : Int)), (false, 1, Fact.rep [] (a0.Chunk : Int)), (false, 1, Fact.rep [] (a0.Rows : Int)), (false, 1, Fact.rep [] (a0.Log : Int)), (false, 1, Fact.rep [] (a0.Heads : Int))]) 10 rfl rfl rfl rfl (HasL.flds (Has.cv (Has.s rfl) (Cv.trans (Cv.opens (chConfig a0)) (Cv.flds (CvL.cons Cv.fl (CvL.cons Cv.fl (CvL.cons Cv.fl (CvL.cons Cv.fl (CvL.cons Cv.fl (CvL.cons Cv.fl CvL.nil))))))))))) ?_
 refine ws (Step.boxObj (ls := [(false, 1, Fact.rep [] (a1.Stripe : Int)), (false, 1, Fact.rep [0] (a1.Blocks : List (List UInt8))), (false, 1, Fact.rep [0] (a1.Dirty : List Bool)), (false, 1, Fact.rep [] (a1.Phase : UInt8)), (false, 1, Fact.rep [] (a1.Deals : Bool)), (false, 1, Fact.rep [] (a1.Seq : UInt32))]) 17 rfl rfl rfl rfl (HasL.flds (Has.cv (Has.s rfl) (Cv.trans (Cv.opens (chHead a1)) (Cv.flds (CvL.cons Cv.fl (CvL.cons Cv.refl (CvL.cons Cv.refl (CvL.cons Cv.fl (CvL.cons Cv.fl (CvL.cons Cv.fl CvL.nil))))))))))) ?_
 refine ws (Step.boxObj (ls := [(false, 1, Fact.rep [0] (a2 : List UInt8))]) 24 rfl rfl rfl rfl (HasL.one (Has.s rfl) rfl (Has.s rfl))) ?_
 refine ws (Step.allocObj (ls := [(false, 1, Fact.rep [] ((0 : Int) : Int)), (false, 1, Fact.nilv), (false, 1, Fact.nilv), (false, 1, Fact.rep [] ((0 : UInt8) : UInt8)), (false, 1, Fact.rep [] (false : Bool)), (false, 1, Fact.rep [] ((0 : UInt32) : UInt32))]) 26 rfl rfl rfl rfl zl28) ?_
 refine wo (Spec.assign Has.int) ?_
 refine Walk.nil ?_
 refine Leaf.thenN ?_
 refine CWalk.seq ?_
 refine CWalk.seq ?_
 refine CWalk.region ?_
 refine wo (Spec.loadObj (ls := [(false, 1, Fact.rep [] (a0.Id : UInt32)), (false, 1, Fact.rep [] (a0.Members : Int)), (false, 1, Fact.rep [] (a0.Chunk : Int)), (false, 1, Fact.rep [] (a0.Rows : Int)), (false, 1, Fact.rep [] (a0.Log : Int)), (false, 1, Fact.rep [] (a0.Heads : Int))]) ty24 rfl rfl (Has.s rfl) rfl (HasGs.cons (HasG.s rfl) (HasGs.cons (HasG.s rfl) (HasGs.cons (HasG.s rfl) (HasGs.cons (HasG.s rfl) (HasGs.cons (HasG.s rfl) (HasGs.cons (HasG.s rfl) HasGs.nil))))))) ?_
 refine wo (Spec.loadObj (ls := [(false, 1, Fact.rep [] (a1.Stripe : Int)), (false, 1, Fact.rep [0] (a1.Blocks : List (List UInt8))), (false, 1, Fact.rep [0] (a1.Dirty : List Bool)), (false, 1, Fact.rep [] (a1.Phase : UInt8)), (false, 1, Fact.rep [] (a1.Deals : Bool)), (false, 1, Fact.rep [] (a1.Seq : UInt32))]) ty28 rfl rfl (Has.s rfl) rfl (HasGs.cons (HasG.s rfl) (HasGs.cons (HasG.s rfl) (HasGs.cons (HasG.s rfl) (HasGs.cons (HasG.s rfl) (HasGs.cons (HasG.s rfl) (HasGs.cons (HasG.s rfl) HasGs.nil))))))) ?_
 obtain ⟨x1, hx1, hm⟩ := bind_some hm
 refine wo (f := Fact.rep [] (x1 : Int)) (Spec.callE [0] 33 rfl en24 (head_Check_c a0 a1 hx1) (HasAll.cons (Has.fl (Has.cv (Has.s rfl) (Cv.trans (Cv.flds (CvL.cons Cv.fl (CvL.cons Cv.fl (CvL.cons Cv.fl (CvL.cons Cv.fl (CvL.cons Cv.fl (CvL.cons Cv.fl CvL.nil))))))) (Cv.close (T := []) (chConfig a0))))) (HasAll.cons (Has.m (Has.cv (Has.s rfl) (Cv.trans (Cv.flds (CvL.cons Cv.fl (CvL.cons (Cv.m rfl) (CvL.cons (Cv.m rfl) (CvL.cons Cv.fl (CvL.cons Cv.fl (CvL.cons Cv.fl CvL.nil))))))) (Cv.close (T := [0]) (chHead a1)))) rfl) HasAll.nil))) ?_
 refine wo (Spec.assign (Has.s rfl)) ?_
 refine Walk.nil ?_
 refine Leaf.thenN ?_
 refine CWalk.seq ?_
 refine CWalk.region ?_
 refine mv ?_
 refine wo (Spec.neqI (Has.s rfl) Has.int) ?_
 refine Walk.nil ?_
 refine Leaf.thenN ?_
 refine CWalk.cond rfl (fun hb => ?_) (fun hb => ?_)
 ·have hm := cond_t hb hm
  refine CWalk.seq ?_
  refine CWalk.region ?_
  refine wo (Spec.build (us := []) (ls' := [(false, 1, Fact.rep [] ((0 : Int) : Int)), (false, 1, Fact.nilv), (false, 1, Fact.nilv), (false, 1, Fact.rep [] ((0 : UInt8) : UInt8)), (false, 1, Fact.rep [] (false : Bool)), (false, 1, Fact.rep [] ((0 : UInt32) : UInt32))]) bd28 rfl BP.nil) ?_
  refine mv ?_
  refine ws (Step.storeObj (ls := [(false, 1, Fact.rep [] ((0 : Int) : Int)), (false, 1, Fact.nilv), (false, 1, Fact.nilv), (false, 1, Fact.rep [] ((0 : UInt8) : UInt8)), (false, 1, Fact.rep [] (false : Bool)), (false, 1, Fact.rep [] ((0 : UInt32) : UInt32))]) rfl ty28 rfl rfl (Has.s rfl) rfl (HasL.flds (Has.s rfl)) rfl) ?_
  refine wo (Spec.assign (Has.s rfl)) ?_
  refine Walk.nil ?_
  refine Leaf.thenN ?_
  refine CWalk.ret ?_
  refine Leaf.thenR ?_
  obtain rfl := Option.some.inj hm
  exact Leaf.retC2 rfl (HasR.cv (HasR.obj (ls := [(false, 1, Fact.rep [] ((0 : Int) : Int)), (false, 1, Fact.nilv), (false, 1, Fact.nilv), (false, 1, Fact.rep [] ((0 : UInt8) : UInt8)), (false, 1, Fact.rep [] (false : Bool)), (false, 1, Fact.rep [] ((0 : UInt32) : UInt32))]) ty28 rfl rfl (Has.s rfl) rfl (HasGs.cons (HasG.s rfl) (HasGs.cons (HasG.s rfl) (HasGs.cons (HasG.s rfl) (HasGs.cons (HasG.s rfl) (HasGs.cons (HasG.s rfl) (HasGs.cons (HasG.s rfl) HasGs.nil))))))) (Cv.flds (CvL.cons Cv.fl (CvL.cons (Cv.trans Cv.nilOw (Cv.owM (T := []) (te := []) rfl rfl)) (CvL.cons (Cv.trans Cv.nilOw (Cv.owF (T := []) (te := []) rfl)) (CvL.cons Cv.fl (CvL.cons Cv.fl (CvL.cons Cv.fl CvL.nil)))))))) (HasR.cv (HasR.tmp (Has.s rfl)) Cv.fl)
 ·have hm := cond_f hb hm
  refine CWalk.skip ?_
  refine Leaf.thenN ?_
  refine CWalk.seq ?_
  refine CWalk.seq ?_
  refine CWalk.region ?_
  refine wo (Spec.loadF (i := 0) ty31 rfl (Has.cv (Has.s rfl) (Cv.isvP rfl)) rfl (HasG.s rfl)) ?_
  obtain ⟨x2, hx2, hm⟩ := bind_some hm
  refine wo (f := Fact.rep [] (x2 : Bool)) (Spec.callE [0] 34 rfl en58 (head_odd_c a2 hx2) (HasAll.cons (Has.m (Has.s rfl) rfl) HasAll.nil)) ?_
  refine Walk.nil ?_
  refine Leaf.thenN ?_
  refine CWalk.cond rfl (fun hb => ?_) (fun hb => ?_)
  ·have hm := cond_t hb hm
   refine CWalk.seq ?_
   refine CWalk.region ?_
   refine wo (Spec.build (us := []) (ls' := [(false, 1, Fact.rep [] ((0 : Int) : Int)), (false, 1, Fact.nilv), (false, 1, Fact.nilv), (false, 1, Fact.rep [] ((0 : UInt8) : UInt8)), (false, 1, Fact.rep [] (false : Bool)), (false, 1, Fact.rep [] ((0 : UInt32) : UInt32))]) bd28 rfl BP.nil) ?_
   refine ws (Step.storeObj (ls := [(false, 1, Fact.rep [] ((0 : Int) : Int)), (false, 1, Fact.nilv), (false, 1, Fact.nilv), (false, 1, Fact.rep [] ((0 : UInt8) : UInt8)), (false, 1, Fact.rep [] (false : Bool)), (false, 1, Fact.rep [] ((0 : UInt32) : UInt32))]) rfl ty28 rfl rfl (Has.s rfl) rfl (HasL.flds (Has.s rfl)) rfl) ?_
   refine wo (Spec.assign Has.int) ?_
   refine Walk.nil ?_
   refine Leaf.thenN ?_
   refine CWalk.ret ?_
   refine Leaf.thenR ?_
   obtain rfl := Option.some.inj hm
   exact Leaf.retC2 rfl (HasR.cv (HasR.obj (ls := [(false, 1, Fact.rep [] ((0 : Int) : Int)), (false, 1, Fact.nilv), (false, 1, Fact.nilv), (false, 1, Fact.rep [] ((0 : UInt8) : UInt8)), (false, 1, Fact.rep [] (false : Bool)), (false, 1, Fact.rep [] ((0 : UInt32) : UInt32))]) ty28 rfl rfl (Has.s rfl) rfl (HasGs.cons (HasG.s rfl) (HasGs.cons (HasG.s rfl) (HasGs.cons (HasG.s rfl) (HasGs.cons (HasG.s rfl) (HasGs.cons (HasG.s rfl) (HasGs.cons (HasG.s rfl) HasGs.nil))))))) (Cv.flds (CvL.cons Cv.fl (CvL.cons (Cv.trans Cv.nilOw (Cv.owM (T := []) (te := []) rfl rfl)) (CvL.cons (Cv.trans Cv.nilOw (Cv.owF (T := []) (te := []) rfl)) (CvL.cons Cv.fl (CvL.cons Cv.fl (CvL.cons Cv.fl CvL.nil)))))))) (HasR.cv (HasR.tmp (Has.s rfl)) Cv.fl)
  ·have hm := cond_f hb hm
   refine CWalk.skip ?_
   refine Leaf.thenN ?_
   refine CWalk.seq ?_
   refine CWalk.region ?_
   refine wo (Spec.loadObj (ls := [(false, 1, Fact.rep [] (a0.Id : UInt32)), (false, 1, Fact.rep [] (a0.Members : Int)), (false, 1, Fact.rep [] (a0.Chunk : Int)), (false, 1, Fact.rep [] (a0.Rows : Int)), (false, 1, Fact.rep [] (a0.Log : Int)), (false, 1, Fact.rep [] (a0.Heads : Int))]) ty24 rfl rfl (Has.s rfl) rfl (HasGs.cons (HasG.s rfl) (HasGs.cons (HasG.s rfl) (HasGs.cons (HasG.s rfl) (HasGs.cons (HasG.s rfl) (HasGs.cons (HasG.s rfl) (HasGs.cons (HasG.s rfl) HasGs.nil))))))) ?_
   refine wo (Spec.loadObj (ls := [(false, 1, Fact.rep [] (a1.Stripe : Int)), (false, 1, Fact.rep [0] (a1.Blocks : List (List UInt8))), (false, 1, Fact.rep [0] (a1.Dirty : List Bool)), (false, 1, Fact.rep [] (a1.Phase : UInt8)), (false, 1, Fact.rep [] (a1.Deals : Bool)), (false, 1, Fact.rep [] (a1.Seq : UInt32))]) ty28 rfl rfl (Has.s rfl) rfl (HasGs.cons (HasG.s rfl) (HasGs.cons (HasG.s rfl) (HasGs.cons (HasG.s rfl) (HasGs.cons (HasG.s rfl) (HasGs.cons (HasG.s rfl) (HasGs.cons (HasG.s rfl) HasGs.nil))))))) ?_
   refine wo (Spec.makeFunc (xs := []) (ys := [.tmp 5, .tmp 3]) rfl rfl HasF.nil (HasF.cons (Has.s rfl) (HasF.cons (Has.s rfl) HasF.nil)) (fun _ _ _ => rfl)) ?_
   refine Walk.inline (S := Int × (List (List UInt8)) × (List Bool) × UInt8 × Bool × UInt32 × Int) (fun p : Int × (List (List UInt8)) × (List Bool) × UInt8 × Bool × UInt32 × Int => [.fact 6 (Fact.isv 26), .fact 22 (Fact.tup2 (Fact.flds [(false, 1, Fact.rep [] (p.1 : Int)), (false, 1, Fact.ow [83, 95] [84, 96] 31 (p.2.1 : List (List UInt8))), (false, 1, Fact.ow [85] [] 4 (p.2.2.1 : List Bool)), (false, 1, Fact.rep [] (p.2.2.2.1 : UInt8)), (false, 1, Fact.rep [] (p.2.2.2.2.1 : Bool)), (false, 1, Fact.rep [] (p.2.2.2.2.2.1 : UInt32))]) (Fact.rep [] (p.2.2.2.2.2.2 : Int))), .fact 100027 (Fact.at 27 (Fact.rep [] ((0 : Int) : Int))), .fact 100028 (Fact.at 28 (Fact.nilv)), .fact 100029 (Fact.at 29 (Fact.nilv)), .fact 100030 (Fact.at 30 (Fact.rep [] ((0 : UInt8) : UInt8))), .fact 100031 (Fact.at 31 (Fact.rep [] (false : Bool))), .fact 100032 (Fact.at 32 (Fact.rep [] ((0 : UInt32) : UInt32))), .fact 100026 (Fact.obj 26 [(false, 1), (false, 1), (false, 1), (false, 1), (false, 1), (false, 1)])]) (fun p : Int × (List (List UInt8)) × (List Bool) × UInt8 × Bool × UInt32 × Int => head_Make_J1 p.1 p.2.1 p.2.2.1 p.2.2.2.1 p.2.2.2.2.1 p.2.2.2.2.2.1 p.2.2.2.2.2.2 = some r) (fun u1 => [.fact 100011 (Fact.at 11 (Fact.rep [] (a0.Id : UInt32))), .fact 100012 (Fact.at 12 (Fact.rep [] (a0.Members : Int))), .fact 100013 (Fact.at 13 (Fact.rep [] (a0.Chunk : Int))), .fact 100014 (Fact.at 14 (Fact.rep [] (a0.Rows : Int))), .fact 100015 (Fact.at 15 (Fact.rep [] (a0.Log : Int))), .fact 100016 (Fact.at 16 (Fact.rep [] (a0.Heads : Int))), .fact 100025 (Fact.at 25 (Fact.rep [0] (a2 : List UInt8))), .fact 100027 (Fact.at 27 (Fact.rep [] ((0 : Int) : Int))), .fact 100028 (Fact.at 28 (Fact.nilv)), .fact 100029 (Fact.at 29 (Fact.nilv)), .fact 100030 (Fact.at 30 (Fact.rep [] ((0 : UInt8) : UInt8))), .fact 100031 (Fact.at 31 (Fact.rep [] (false : Bool))), .fact 100032 (Fact.at 32 (Fact.rep [] ((0 : UInt32) : UInt32))), .fact 902006 (Fact.cst (u1 6) (Fact.isv 26)), .fact 100010 (Fact.obj 10 [(false, 1), (false, 1), (false, 1), (false, 1), (false, 1), (false, 1)]), .fact 100024 (Fact.obj 24 [(false, 1)]), .fact 100026 (Fact.obj 26 [(false, 1), (false, 1), (false, 1), (false, 1), (false, 1), (false, 1)])]) (FA := [Fact.flds [(false, 1, Fact.rep [] (a0.Id : UInt32)), (false, 1, Fact.rep [] (a0.Members : Int)), (false, 1, Fact.rep [] (a0.Chunk : Int)), (false, 1, Fact.rep [] (a0.Rows : Int)), (false, 1, Fact.rep [] (a0.Log : Int)), (false, 1, Fact.rep [] (a0.Heads : Int))], Fact.flds [(false, 1, Fact.rep [] (a1.Stripe : Int)), (false, 1, Fact.rep [0] (a1.Blocks : List (List UInt8))), (false, 1, Fact.rep [0] (a1.Dirty : List Bool)), (false, 1, Fact.rep [] (a1.Phase : UInt8)), (false, 1, Fact.rep [] (a1.Deals : Bool)), (false, 1, Fact.rep [] (a1.Seq : UInt32))], Fact.rep [] ((0 : Int) : Int), Fact.fnv 64 [] [Fact.isv 24, Fact.isv 10]]) rfl Try.func63 rfl rfl rfl (CallOk.fn en63 (HasF.cons (Has.s rfl) (HasF.cons (Has.s rfl) (HasF.cons Has.int (HasF.cons (Has.s rfl) HasF.nil))))) (fun u1 => (ck (ck (ck (ck (ck (ck (ck (ck (ck (ck (ck (ck (ck (cs 902000 6 (ck (ck (ck Carry.nil)))))))))))))))))) (fun u1 => ?_) ?_
   ·refine CWalk.seq ?_
    refine CWalk.region ?_
    refine ws (Step.boxObj (ls := [(false, 1, Fact.rep [] (a0.Id : UInt32)), (false, 1, Fact.rep [] (a0.Members : Int)), (false, 1, Fact.rep [] (a0.Chunk : Int)), (false, 1, Fact.rep [] (a0.Rows : Int)), (false, 1, Fact.rep [] (a0.Log : Int)), (false, 1, Fact.rep [] (a0.Heads : Int))]) 35 rfl rfl rfl rfl (HasL.flds (Has.s rfl))) ?_
    refine ws (Step.boxObj (ls := [(false, 1, Fact.rep [] (a1.Stripe : Int)), (false, 1, Fact.rep [0] (a1.Blocks : List (List UInt8))), (false, 1, Fact.rep [0] (a1.Dirty : List Bool)), (false, 1, Fact.rep [] (a1.Phase : UInt8)), (false, 1, Fact.rep [] (a1.Deals : Bool)), (false, 1, Fact.rep [] (a1.Seq : UInt32))]) 42 rfl rfl rfl rfl (HasL.flds (Has.s rfl))) ?_
    refine ws (Step.boxObj (ls := [(false, 1, Fact.rep [] ((0 : Int) : Int))]) 49 rfl rfl rfl rfl (HasL.one (Has.s rfl) rfl (Has.s rfl))) ?_
    refine ws (Step.boxObj (ls := [(false, 1, Fact.fnv 64 [] [Fact.isv 24, Fact.isv 10])]) 51 rfl rfl rfl rfl (HasL.fnv (Has.s rfl))) ?_
    refine ws (Step.allocObj (ls := [(false, 1, Fact.rep [] ((0 : Int) : Int)), (false, 1, Fact.nilv), (false, 1, Fact.nilv), (false, 1, Fact.rep [] ((0 : UInt8) : UInt8)), (false, 1, Fact.rep [] (false : Bool)), (false, 1, Fact.rep [] ((0 : UInt32) : UInt32))]) 53 rfl rfl rfl rfl zl28) ?_
    refine wo (Spec.assign Has.int) ?_
    refine Walk.nil ?_
    refine Leaf.thenN ?_
    refine CWalk.seq ?_
    refine CWalk.region ?_
    refine wo (Spec.loadObj (ls := [(false, 1, Fact.rep [] (a0.Id : UInt32)), (false, 1, Fact.rep [] (a0.Members : Int)), (false, 1, Fact.rep [] (a0.Chunk : Int)), (false, 1, Fact.rep [] (a0.Rows : Int)), (false, 1, Fact.rep [] (a0.Log : Int)), (false, 1, Fact.rep [] (a0.Heads : Int))]) ty24 rfl rfl (Has.s rfl) rfl (HasGs.cons (HasG.s rfl) (HasGs.cons (HasG.s rfl) (HasGs.cons (HasG.s rfl) (HasGs.cons (HasG.s rfl) (HasGs.cons (HasG.s rfl) (HasGs.cons (HasG.s rfl) HasGs.nil))))))) ?_
    refine wo (Spec.loadObj (ls := [(false, 1, Fact.rep [] (a1.Stripe : Int)), (false, 1, Fact.rep [0] (a1.Blocks : List (List UInt8))), (false, 1, Fact.rep [0] (a1.Dirty : List Bool)), (false, 1, Fact.rep [] (a1.Phase : UInt8)), (false, 1, Fact.rep [] (a1.Deals : Bool)), (false, 1, Fact.rep [] (a1.Seq : UInt32))]) ty28 rfl rfl (Has.s rfl) rfl (HasGs.cons (HasG.s rfl) (HasGs.cons (HasG.s rfl) (HasGs.cons (HasG.s rfl) (HasGs.cons (HasG.s rfl) (HasGs.cons (HasG.s rfl) (HasGs.cons (HasG.s rfl) HasGs.nil))))))) ?_
    refine wo (Spec.makeFunc (xs := []) (ys := [.tmp 6, .tmp 7]) rfl rfl HasF.nil (HasF.cons (Has.s rfl) (HasF.cons (Has.s rfl) HasF.nil)) (fun _ _ _ => rfl)) ?_
    refine Walk.inline (S := Int × (List (List UInt8)) × (List Bool) × UInt8 × Bool × UInt32 × Int) (fun p : Int × (List (List UInt8)) × (List Bool) × UInt8 × Bool × UInt32 × Int => [.fact 8 (Fact.isv 53), .fact 13 (Fact.tup2 (Fact.flds [(false, 1, Fact.rep [] (p.1 : Int)), (false, 1, Fact.ow [83, 95] [84, 96] 31 (p.2.1 : List (List UInt8))), (false, 1, Fact.ow [85] [] 4 (p.2.2.1 : List Bool)), (false, 1, Fact.rep [] (p.2.2.2.1 : UInt8)), (false, 1, Fact.rep [] (p.2.2.2.2.1 : Bool)), (false, 1, Fact.rep [] (p.2.2.2.2.2.1 : UInt32))]) (Fact.rep [] (p.2.2.2.2.2.2 : Int))), .fact 902006 (Fact.cst (u1 6) (Fact.isv 26)), .fact 100054 (Fact.at 54 (Fact.rep [] ((0 : Int) : Int))), .fact 100055 (Fact.at 55 (Fact.nilv)), .fact 100056 (Fact.at 56 (Fact.nilv)), .fact 100057 (Fact.at 57 (Fact.rep [] ((0 : UInt8) : UInt8))), .fact 100058 (Fact.at 58 (Fact.rep [] (false : Bool))), .fact 100059 (Fact.at 59 (Fact.rep [] ((0 : UInt32) : UInt32))), .fact 100027 (Fact.at 27 (Fact.rep [] ((0 : Int) : Int))), .fact 100028 (Fact.at 28 (Fact.nilv)), .fact 100029 (Fact.at 29 (Fact.nilv)), .fact 100030 (Fact.at 30 (Fact.rep [] ((0 : UInt8) : UInt8))), .fact 100031 (Fact.at 31 (Fact.rep [] (false : Bool))), .fact 100032 (Fact.at 32 (Fact.rep [] ((0 : UInt32) : UInt32))), .fact 100053 (Fact.obj 53 [(false, 1), (false, 1), (false, 1), (false, 1), (false, 1), (false, 1)]), .fact 100026 (Fact.obj 26 [(false, 1), (false, 1), (false, 1), (false, 1), (false, 1), (false, 1)])]) (fun p : Int × (List (List UInt8)) × (List Bool) × UInt8 × Bool × UInt32 × Int => head_Make_J2 p.1 p.2.1 p.2.2.1 p.2.2.2.1 p.2.2.2.2.1 p.2.2.2.2.2.1 p.2.2.2.2.2.2 = some r) (fun u2 => [.fact 100011 (Fact.at 11 (Fact.rep [] (a0.Id : UInt32))), .fact 100012 (Fact.at 12 (Fact.rep [] (a0.Members : Int))), .fact 100013 (Fact.at 13 (Fact.rep [] (a0.Chunk : Int))), .fact 100014 (Fact.at 14 (Fact.rep [] (a0.Rows : Int))), .fact 100015 (Fact.at 15 (Fact.rep [] (a0.Log : Int))), .fact 100016 (Fact.at 16 (Fact.rep [] (a0.Heads : Int))), .fact 100025 (Fact.at 25 (Fact.rep [0] (a2 : List UInt8))), .fact 100027 (Fact.at 27 (Fact.rep [] ((0 : Int) : Int))), .fact 100028 (Fact.at 28 (Fact.nilv)), .fact 100029 (Fact.at 29 (Fact.nilv)), .fact 100030 (Fact.at 30 (Fact.rep [] ((0 : UInt8) : UInt8))), .fact 100031 (Fact.at 31 (Fact.rep [] (false : Bool))), .fact 100032 (Fact.at 32 (Fact.rep [] ((0 : UInt32) : UInt32))), .fact 100050 (Fact.at 50 (Fact.rep [] ((0 : Int) : Int))), .fact 100052 (Fact.at 52 (Fact.fnv 64 [] [Fact.isv 24, Fact.isv 10])), .fact 100054 (Fact.at 54 (Fact.rep [] ((0 : Int) : Int))), .fact 100055 (Fact.at 55 (Fact.nilv)), .fact 100056 (Fact.at 56 (Fact.nilv)), .fact 100057 (Fact.at 57 (Fact.rep [] ((0 : UInt8) : UInt8))), .fact 100058 (Fact.at 58 (Fact.rep [] (false : Bool))), .fact 100059 (Fact.at 59 (Fact.rep [] ((0 : UInt32) : UInt32))), .fact 902006 (Fact.cst (u1 6) (Fact.isv 26)), .fact 904008 (Fact.cst (u2 8) (Fact.isv 53)), .fact 100010 (Fact.obj 10 [(false, 1), (false, 1), (false, 1), (false, 1), (false, 1), (false, 1)]), .fact 100024 (Fact.obj 24 [(false, 1)]), .fact 100026 (Fact.obj 26 [(false, 1), (false, 1), (false, 1), (false, 1), (false, 1), (false, 1)]), .fact 100049 (Fact.obj 49 [(false, 1)]), .fact 100051 (Fact.obj 51 [(false, 1)]), .fact 100053 (Fact.obj 53 [(false, 1), (false, 1), (false, 1), (false, 1), (false, 1), (false, 1)])]) (FA := [Fact.flds [(false, 1, Fact.rep [] (a0.Id : UInt32)), (false, 1, Fact.rep [] (a0.Members : Int)), (false, 1, Fact.rep [] (a0.Chunk : Int)), (false, 1, Fact.rep [] (a0.Rows : Int)), (false, 1, Fact.rep [] (a0.Log : Int)), (false, 1, Fact.rep [] (a0.Heads : Int))], Fact.flds [(false, 1, Fact.rep [] (a1.Stripe : Int)), (false, 1, Fact.rep [0] (a1.Blocks : List (List UInt8))), (false, 1, Fact.rep [0] (a1.Dirty : List Bool)), (false, 1, Fact.rep [] (a1.Phase : UInt8)), (false, 1, Fact.rep [] (a1.Deals : Bool)), (false, 1, Fact.rep [] (a1.Seq : UInt32))], Fact.rep [] ((0 : Int) : Int), Fact.nilv, Fact.fnv 77 [] [Fact.isv 49, Fact.isv 51]]) rfl Try.func48 rfl rfl rfl (CallOk.fn en48 (HasF.cons (Has.s rfl) (HasF.cons (Has.s rfl) (HasF.cons Has.int (HasF.cons Has.nilv (HasF.cons (Has.s rfl) HasF.nil)))))) (fun u2 => (ck (ck (ck (ck (ck (ck (ck (ck (ck (ck (ck (ck (ck (ck (ck (ck (ck (ck (ck (ck (ck (ck (cs 904000 8 (ck (ck (ck (ck (ck (ck Carry.nil)))))))))))))))))))))))))))))) (fun u2 => ?_) ?_
    ·refine CWalk.seq ?_
     refine CWalk.region ?_
     refine ws (Step.boxObj (ls := [(false, 1, Fact.rep [] (a0.Id : UInt32)), (false, 1, Fact.rep [] (a0.Members : Int)), (false, 1, Fact.rep [] (a0.Chunk : Int)), (false, 1, Fact.rep [] (a0.Rows : Int)), (false, 1, Fact.rep [] (a0.Log : Int)), (false, 1, Fact.rep [] (a0.Heads : Int))]) 60 rfl rfl rfl rfl (HasL.flds (Has.s rfl))) ?_
     refine ws (Step.boxObj (ls := [(false, 1, Fact.rep [] (a1.Stripe : Int)), (false, 1, Fact.rep [0] (a1.Blocks : List (List UInt8))), (false, 1, Fact.rep [0] (a1.Dirty : List Bool)), (false, 1, Fact.rep [] (a1.Phase : UInt8)), (false, 1, Fact.rep [] (a1.Deals : Bool)), (false, 1, Fact.rep [] (a1.Seq : UInt32))]) 67 rfl rfl rfl rfl (HasL.flds (Has.s rfl))) ?_
     refine ws (Step.allocObj (ls := [(false, 1, Fact.rep [] ((0 : Int) : Int)), (false, 1, Fact.nilv), (false, 1, Fact.nilv), (false, 1, Fact.rep [] ((0 : UInt8) : UInt8)), (false, 1, Fact.rep [] (false : Bool)), (false, 1, Fact.rep [] ((0 : UInt32) : UInt32))]) 74 rfl rfl rfl rfl zl28) ?_
     refine wo (Spec.assign Has.int) ?_
     refine Walk.nil ?_
     refine Leaf.thenN ?_
     refine CWalk.seq ?_
     refine CWalk.seq ?_
     refine CWalk.region ?_
     refine wo (Spec.loadObj (ls := [(false, 1, Fact.rep [] (a0.Id : UInt32)), (false, 1, Fact.rep [] (a0.Members : Int)), (false, 1, Fact.rep [] (a0.Chunk : Int)), (false, 1, Fact.rep [] (a0.Rows : Int)), (false, 1, Fact.rep [] (a0.Log : Int)), (false, 1, Fact.rep [] (a0.Heads : Int))]) ty24 rfl rfl (Has.s rfl) rfl (HasGs.cons (HasG.s rfl) (HasGs.cons (HasG.s rfl) (HasGs.cons (HasG.s rfl) (HasGs.cons (HasG.s rfl) (HasGs.cons (HasG.s rfl) (HasGs.cons (HasG.s rfl) HasGs.nil))))))) ?_
     refine wo (Spec.loadObj (ls := [(false, 1, Fact.rep [] (a1.Stripe : Int)), (false, 1, Fact.rep [0] (a1.Blocks : List (List UInt8))), (false, 1, Fact.rep [0] (a1.Dirty : List Bool)), (false, 1, Fact.rep [] (a1.Phase : UInt8)), (false, 1, Fact.rep [] (a1.Deals : Bool)), (false, 1, Fact.rep [] (a1.Seq : UInt32))]) ty28 rfl rfl (Has.s rfl) rfl (HasGs.cons (HasG.s rfl) (HasGs.cons (HasG.s rfl) (HasGs.cons (HasG.s rfl) (HasGs.cons (HasG.s rfl) (HasGs.cons (HasG.s rfl) (HasGs.cons (HasG.s rfl) HasGs.nil))))))) ?_
     obtain ⟨x17, hx17, hm⟩ := bind_some hm
     refine wo (f := Fact.rep [] (x17 : Int)) (Spec.callE [0] 81 rfl en24 (head_Check_c a0 a1 hx17) (HasAll.cons (Has.fl (Has.cv (Has.s rfl) (Cv.trans (Cv.flds (CvL.cons Cv.fl (CvL.cons Cv.fl (CvL.cons Cv.fl (CvL.cons Cv.fl (CvL.cons Cv.fl (CvL.cons Cv.fl CvL.nil))))))) (Cv.close (T := []) (chConfig a0))))) (HasAll.cons (Has.m (Has.cv (Has.s rfl) (Cv.trans (Cv.flds (CvL.cons Cv.fl (CvL.cons (Cv.m rfl) (CvL.cons (Cv.m rfl) (CvL.cons Cv.fl (CvL.cons Cv.fl (CvL.cons Cv.fl CvL.nil))))))) (Cv.close (T := [0]) (chHead a1)))) rfl) HasAll.nil))) ?_
     refine wo (Spec.assign (Has.s rfl)) ?_
     refine Walk.nil ?_
     refine Leaf.thenN ?_
     refine CWalk.seq ?_
     refine CWalk.region ?_
     refine mv ?_
     refine wo (Spec.neqI (Has.s rfl) Has.int) ?_
     refine Walk.nil ?_
     refine Leaf.thenN ?_
     refine CWalk.cond rfl (fun hb => ?_) (fun hb => ?_)
     ·have hm := cond_t hb hm
      refine CWalk.ret ?_
      refine Leaf.thenR ?_
      exact Leaf.in2 ((0 : Int), ([] : List (List UInt8)), ([] : List Bool), (0 : UInt8), false, (0 : UInt32), x17) hm rfl rfl (HasR.cv (HasR.obj (ls := [(false, 1, Fact.rep [] ((0 : Int) : Int)), (false, 1, Fact.nilv), (false, 1, Fact.nilv), (false, 1, Fact.rep [] ((0 : UInt8) : UInt8)), (false, 1, Fact.rep [] (false : Bool)), (false, 1, Fact.rep [] ((0 : UInt32) : UInt32))]) ty28 rfl rfl (Has.s rfl) rfl (HasGs.cons (HasG.s rfl) (HasGs.cons (HasG.s rfl) (HasGs.cons (HasG.s rfl) (HasGs.cons (HasG.s rfl) (HasGs.cons (HasG.s rfl) (HasGs.cons (HasG.s rfl) HasGs.nil))))))) (Cv.flds (CvL.cons Cv.fl (CvL.cons (Cv.trans Cv.nilOw (Cv.owM (T := []) (te := []) rfl rfl)) (CvL.cons (Cv.trans Cv.nilOw (Cv.owF (T := []) (te := []) rfl)) (CvL.cons Cv.fl (CvL.cons Cv.fl (CvL.cons Cv.fl CvL.nil)))))))) (HasR.cv (HasR.tmp (Has.s rfl)) Cv.fl) (ls 904008 (Low.res (lc (lf (lg (lg (lf (lf (lf (lf (lg (lg (lf (lf (lf (lo (lo Low.nil)))))))))))))))))
     ·have hm := cond_f hb hm
      refine CWalk.skip ?_
      refine Leaf.thenN ?_
      refine CWalk.seq ?_
      refine CWalk.seq ?_
      refine CWalk.region ?_
      refine mv ?_
      refine wo (Spec.lssI (Has.s rfl) Has.int) ?_
      refine mv ?_
      refine wg rfl rfl (fun hb => Spec.move (Has.s rfl)) ?_
      refine wg rfl rfl (fun hb => Spec.fieldAddrO fd24_1 (Has.cv (Has.s rfl) (Cv.isvP rfl))) ?_
      refine wg rfl rfl (fun hb => Spec.loadF (i := 1) ty3 rfl (Has.u rfl hb) rfl (HasG.s rfl)) ?_
      refine wg rfl rfl (fun hb => Spec.subI (Has.u rfl hb) Has.int) ?_
      refine wg rfl rfl (fun hb => Spec.geqI (Has.u rfl hb) (Has.u rfl hb)) ?_
      refine wo (Spec.or (Has.s rfl) (fun h => Has.u rfl h)) ?_
      refine Walk.nil ?_
      refine Leaf.thenN ?_
      refine CWalk.cond rfl (fun hb => ?_) (fun hb => ?_)
      ·have hm := cond_t hb hm
       refine CWalk.seq ?_
       refine CWalk.region ?_
       refine wo (Spec.loadObj (ls := [(false, 1, Fact.rep [] ((0 : Int) : Int)), (false, 1, Fact.nilv), (false, 1, Fact.nilv), (false, 1, Fact.rep [] ((0 : UInt8) : UInt8)), (false, 1, Fact.rep [] (false : Bool)), (false, 1, Fact.rep [] ((0 : UInt32) : UInt32))]) ty28 rfl rfl (Has.s rfl) rfl (HasGs.cons (HasG.s rfl) (HasGs.cons (HasG.s rfl) (HasGs.cons (HasG.s rfl) (HasGs.cons (HasG.s rfl) (HasGs.cons (HasG.s rfl) (HasGs.cons (HasG.s rfl) HasGs.nil))))))) ?_
       refine ws (Step.storeObj (ls := [(false, 1, Fact.rep [] ((0 : Int) : Int)), (false, 1, Fact.nilv), (false, 1, Fact.nilv), (false, 1, Fact.rep [] ((0 : UInt8) : UInt8)), (false, 1, Fact.rep [] (false : Bool)), (false, 1, Fact.rep [] ((0 : UInt32) : UInt32))]) rfl ty28 rfl rfl (Has.s rfl) rfl (HasL.flds (Has.s rfl)) rfl) ?_
       refine wo (Spec.assign Has.int) ?_
       refine Walk.nil ?_
       refine Leaf.thenN ?_
       refine CWalk.ret ?_
       refine Leaf.thenR ?_
       exact Leaf.in2 ((0 : Int), ([] : List (List UInt8)), ([] : List Bool), (0 : UInt8), false, (0 : UInt32), (2 : Int)) hm rfl rfl (HasR.cv (HasR.obj (ls := [(false, 1, Fact.rep [] ((0 : Int) : Int)), (false, 1, Fact.nilv), (false, 1, Fact.nilv), (false, 1, Fact.rep [] ((0 : UInt8) : UInt8)), (false, 1, Fact.rep [] (false : Bool)), (false, 1, Fact.rep [] ((0 : UInt32) : UInt32))]) ty28 rfl rfl (Has.s rfl) rfl (HasGs.cons (HasG.s rfl) (HasGs.cons (HasG.s rfl) (HasGs.cons (HasG.s rfl) (HasGs.cons (HasG.s rfl) (HasGs.cons (HasG.s rfl) (HasGs.cons (HasG.s rfl) HasGs.nil))))))) (Cv.flds (CvL.cons Cv.fl (CvL.cons (Cv.trans Cv.nilOw (Cv.owM (T := []) (te := []) rfl rfl)) (CvL.cons (Cv.trans Cv.nilOw (Cv.owF (T := []) (te := []) rfl)) (CvL.cons Cv.fl (CvL.cons Cv.fl (CvL.cons Cv.fl CvL.nil)))))))) (HasR.cv (HasR.tmp (Has.s rfl)) Cv.fl) (ls 904008 (Low.res (lc (lf (lg (lg (lf (lf (lf (lf (lg (lg (lf (lf (lf (lo (lo Low.nil)))))))))))))))))
      ·have hm := cond_f hb hm
       refine CWalk.skip ?_
       refine Leaf.thenN ?_
       refine CWalk.seq ?_
       refine CWalk.seq ?_
       refine CWalk.region ?_
       refine mv ?_
       obtain ⟨x18, hx18, hm⟩ := bind_some hm
       refine wo (f := Fact.rep [] (x18 : Bool)) (Spec.callE [] 82 rfl en58 (head_odd_c ([] : List UInt8) hx18) (HasAll.cons (Has.m (Has.cv (Has.s rfl) (Cv.nil (T := []))) rfl) HasAll.nil)) ?_
       refine Walk.nil ?_
       refine Leaf.thenN ?_
       refine CWalk.cond rfl (fun hb => ?_) (fun hb => ?_)
       ·have hm := cond_t hb hm
        refine CWalk.seq ?_
        refine CWalk.region ?_
        refine wo (Spec.loadObj (ls := [(false, 1, Fact.rep [] ((0 : Int) : Int)), (false, 1, Fact.nilv), (false, 1, Fact.nilv), (false, 1, Fact.rep [] ((0 : UInt8) : UInt8)), (false, 1, Fact.rep [] (false : Bool)), (false, 1, Fact.rep [] ((0 : UInt32) : UInt32))]) ty28 rfl rfl (Has.s rfl) rfl (HasGs.cons (HasG.s rfl) (HasGs.cons (HasG.s rfl) (HasGs.cons (HasG.s rfl) (HasGs.cons (HasG.s rfl) (HasGs.cons (HasG.s rfl) (HasGs.cons (HasG.s rfl) HasGs.nil))))))) ?_
        refine ws (Step.storeObj (ls := [(false, 1, Fact.rep [] ((0 : Int) : Int)), (false, 1, Fact.nilv), (false, 1, Fact.nilv), (false, 1, Fact.rep [] ((0 : UInt8) : UInt8)), (false, 1, Fact.rep [] (false : Bool)), (false, 1, Fact.rep [] ((0 : UInt32) : UInt32))]) rfl ty28 rfl rfl (Has.s rfl) rfl (HasL.flds (Has.s rfl)) rfl) ?_
        refine wo (Spec.assign Has.int) ?_
        refine Walk.nil ?_
        refine Leaf.thenN ?_
        refine CWalk.ret ?_
        refine Leaf.thenR ?_
        exact Leaf.in2 ((0 : Int), ([] : List (List UInt8)), ([] : List Bool), (0 : UInt8), false, (0 : UInt32), (3 : Int)) hm rfl rfl (HasR.cv (HasR.obj (ls := [(false, 1, Fact.rep [] ((0 : Int) : Int)), (false, 1, Fact.nilv), (false, 1, Fact.nilv), (false, 1, Fact.rep [] ((0 : UInt8) : UInt8)), (false, 1, Fact.rep [] (false : Bool)), (false, 1, Fact.rep [] ((0 : UInt32) : UInt32))]) ty28 rfl rfl (Has.s rfl) rfl (HasGs.cons (HasG.s rfl) (HasGs.cons (HasG.s rfl) (HasGs.cons (HasG.s rfl) (HasGs.cons (HasG.s rfl) (HasGs.cons (HasG.s rfl) (HasGs.cons (HasG.s rfl) HasGs.nil))))))) (Cv.flds (CvL.cons Cv.fl (CvL.cons (Cv.trans Cv.nilOw (Cv.owM (T := []) (te := []) rfl rfl)) (CvL.cons (Cv.trans Cv.nilOw (Cv.owF (T := []) (te := []) rfl)) (CvL.cons Cv.fl (CvL.cons Cv.fl (CvL.cons Cv.fl CvL.nil)))))))) (HasR.cv (HasR.tmp (Has.s rfl)) Cv.fl) (ls 904008 (Low.res (lc (lf (lg (lg (lf (lf (lf (lf (lg (lg (lf (lf (lf (lo (lo Low.nil)))))))))))))))))
       ·have hm := cond_f hb hm
        refine CWalk.skip ?_
        refine Leaf.thenN ?_
        refine CWalk.seq ?_
        refine CWalk.region ?_
        refine wo (Spec.loadObj (ls := [(false, 1, Fact.rep [] (a1.Stripe : Int)), (false, 1, Fact.rep [0] (a1.Blocks : List (List UInt8))), (false, 1, Fact.rep [0] (a1.Dirty : List Bool)), (false, 1, Fact.rep [] (a1.Phase : UInt8)), (false, 1, Fact.rep [] (a1.Deals : Bool)), (false, 1, Fact.rep [] (a1.Seq : UInt32))]) ty28 rfl rfl (Has.s rfl) rfl (HasGs.cons (HasG.s rfl) (HasGs.cons (HasG.s rfl) (HasGs.cons (HasG.s rfl) (HasGs.cons (HasG.s rfl) (HasGs.cons (HasG.s rfl) (HasGs.cons (HasG.s rfl) HasGs.nil))))))) ?_
        obtain ⟨x19, hx19, hm⟩ := bind_some hm
        refine wo (f := Fact.flds [(false, 1, Fact.rep [] (x19.Stripe : Int)), (false, 1, Fact.ow [83] [84] 31 (x19.Blocks : List (List UInt8))), (false, 1, Fact.ow [85] [] 4 (x19.Dirty : List Bool)), (false, 1, Fact.rep [] (x19.Phase : UInt8)), (false, 1, Fact.rep [] (x19.Deals : Bool)), (false, 1, Fact.rep [] (x19.Seq : UInt32))]) (Spec.callE [0] 83 rfl en23 (head_Twin_c a1 hx19) (HasAll.cons (Has.m (Has.cv (Has.s rfl) (Cv.trans (Cv.flds (CvL.cons Cv.fl (CvL.cons (Cv.m rfl) (CvL.cons (Cv.m rfl) (CvL.cons Cv.fl (CvL.cons Cv.fl (CvL.cons Cv.fl CvL.nil))))))) (Cv.close (T := [0]) (chHead a1)))) rfl) HasAll.nil)) ?_
        refine ws (Step.allocObj (ls := [(false, 1, Fact.rep [] ((0 : Int) : Int)), (false, 1, Fact.nilv), (false, 1, Fact.nilv), (false, 1, Fact.rep [] ((0 : UInt8) : UInt8)), (false, 1, Fact.rep [] (false : Bool)), (false, 1, Fact.rep [] ((0 : UInt32) : UInt32))]) 86 rfl rfl rfl rfl zl28) ?_
        refine ws (Step.storeObj (ls := [(false, 1, Fact.rep [] (x19.Stripe : Int)), (false, 1, Fact.ow [83] [84] 31 (x19.Blocks : List (List UInt8))), (false, 1, Fact.ow [85] [] 4 (x19.Dirty : List Bool)), (false, 1, Fact.rep [] (x19.Phase : UInt8)), (false, 1, Fact.rep [] (x19.Deals : Bool)), (false, 1, Fact.rep [] (x19.Seq : UInt32))]) rfl ty28 rfl rfl (Has.s rfl) rfl (HasL.flds (Has.s rfl)) rfl) ?_
        refine Walk.nil ?_
        refine Leaf.thenN ?_
        refine CWalk.seqJ (fun p : Int × Int × (List (List UInt8)) × (List Bool) × UInt8 × Bool × UInt32 => [.fact 10 (Fact.isv 74), .fact 11 (Fact.rep [] (p.1 : Int)), .fact 902006 (Fact.cst (u1 6) (Fact.isv 26)), .fact 904008 (Fact.cst (u2 8) (Fact.isv 53)), .fact 100075 (Fact.at 75 (Fact.rep [] (p.2.1 : Int))), .fact 100076 (Fact.at 76 (Fact.ow [83, 95] [84, 96] 31 (p.2.2.1 : List (List UInt8)))), .fact 100077 (Fact.at 77 (Fact.ow [85] [] 4 (p.2.2.2.1 : List Bool))), .fact 100078 (Fact.at 78 (Fact.rep [] (p.2.2.2.2.1 : UInt8))), .fact 100079 (Fact.at 79 (Fact.rep [] (p.2.2.2.2.2.1 : Bool))), .fact 100080 (Fact.at 80 (Fact.rep [] (p.2.2.2.2.2.2 : UInt32))), .fact 100027 (Fact.at 27 (Fact.rep [] ((0 : Int) : Int))), .fact 100028 (Fact.at 28 (Fact.nilv)), .fact 100029 (Fact.at 29 (Fact.nilv)), .fact 100030 (Fact.at 30 (Fact.rep [] ((0 : UInt8) : UInt8))), .fact 100031 (Fact.at 31 (Fact.rep [] (false : Bool))), .fact 100032 (Fact.at 32 (Fact.rep [] ((0 : UInt32) : UInt32))), .fact 100054 (Fact.at 54 (Fact.rep [] ((0 : Int) : Int))), .fact 100055 (Fact.at 55 (Fact.nilv)), .fact 100056 (Fact.at 56 (Fact.nilv)), .fact 100057 (Fact.at 57 (Fact.rep [] ((0 : UInt8) : UInt8))), .fact 100058 (Fact.at 58 (Fact.rep [] (false : Bool))), .fact 100059 (Fact.at 59 (Fact.rep [] ((0 : UInt32) : UInt32))), .fact 100074 (Fact.obj 74 [(false, 1), (false, 1), (false, 1), (false, 1), (false, 1), (false, 1)]), .fact 100026 (Fact.obj 26 [(false, 1), (false, 1), (false, 1), (false, 1), (false, 1), (false, 1)]), .fact 100053 (Fact.obj 53 [(false, 1), (false, 1), (false, 1), (false, 1), (false, 1), (false, 1)])]) (fun p : Int × Int × (List (List UInt8)) × (List Bool) × UInt8 × Bool × UInt32 => head_Make_J3 p.1 p.2.1 p.2.2.1 p.2.2.2.1 p.2.2.2.2.1 p.2.2.2.2.2.1 p.2.2.2.2.2.2 = some r) ?_ ?_
        ·rintro ⟨j20, j21, j22, j23, j24, j25, j26⟩ hm
         replace hm : head_Make_J3 j20 j21 j22 j23 j24 j25 j26 = some r := hm
         unfold head_Make_J3 at hm
         show CWalk _ [.fact 10 (Fact.isv 74), .fact 11 (Fact.rep [] (j20 : Int)), .fact 902006 (Fact.cst (u1 6) (Fact.isv 26)), .fact 904008 (Fact.cst (u2 8) (Fact.isv 53)), .fact 100075 (Fact.at 75 (Fact.rep [] (j21 : Int))), .fact 100076 (Fact.at 76 (Fact.ow [83, 95] [84, 96] 31 (j22 : List (List UInt8)))), .fact 100077 (Fact.at 77 (Fact.ow [85] [] 4 (j23 : List Bool))), .fact 100078 (Fact.at 78 (Fact.rep [] (j24 : UInt8))), .fact 100079 (Fact.at 79 (Fact.rep [] (j25 : Bool))), .fact 100080 (Fact.at 80 (Fact.rep [] (j26 : UInt32))), .fact 100027 (Fact.at 27 (Fact.rep [] ((0 : Int) : Int))), .fact 100028 (Fact.at 28 (Fact.nilv)), .fact 100029 (Fact.at 29 (Fact.nilv)), .fact 100030 (Fact.at 30 (Fact.rep [] ((0 : UInt8) : UInt8))), .fact 100031 (Fact.at 31 (Fact.rep [] (false : Bool))), .fact 100032 (Fact.at 32 (Fact.rep [] ((0 : UInt32) : UInt32))), .fact 100054 (Fact.at 54 (Fact.rep [] ((0 : Int) : Int))), .fact 100055 (Fact.at 55 (Fact.nilv)), .fact 100056 (Fact.at 56 (Fact.nilv)), .fact 100057 (Fact.at 57 (Fact.rep [] ((0 : UInt8) : UInt8))), .fact 100058 (Fact.at 58 (Fact.rep [] (false : Bool))), .fact 100059 (Fact.at 59 (Fact.rep [] ((0 : UInt32) : UInt32))), .fact 100074 (Fact.obj 74 [(false, 1), (false, 1), (false, 1), (false, 1), (false, 1), (false, 1)]), .fact 100026 (Fact.obj 26 [(false, 1), (false, 1), (false, 1), (false, 1), (false, 1), (false, 1)]), .fact 100053 (Fact.obj 53 [(false, 1), (false, 1), (false, 1), (false, 1), (false, 1), (false, 1)])] _ _
         refine CWalk.ret ?_
         exact Leaf.in2 (j21, j22, j23, j24, j25, j26, j20) hm rfl rfl (HasR.cv (HasR.obj (ls := [(false, 1, Fact.rep [] (j21 : Int)), (false, 1, Fact.ow [83, 95] [84, 96] 31 (j22 : List (List UInt8))), (false, 1, Fact.ow [85] [] 4 (j23 : List Bool)), (false, 1, Fact.rep [] (j24 : UInt8)), (false, 1, Fact.rep [] (j25 : Bool)), (false, 1, Fact.rep [] (j26 : UInt32))]) ty28 rfl rfl (Has.s rfl) rfl (HasGs.cons (HasG.s rfl) (HasGs.cons (HasG.s rfl) (HasGs.cons (HasG.s rfl) (HasGs.cons (HasG.s rfl) (HasGs.cons (HasG.s rfl) (HasGs.cons (HasG.s rfl) HasGs.nil))))))) (Cv.flds (CvL.cons Cv.fl (CvL.cons (Cv.owM (T := [83, 95]) (te := [84, 96]) rfl rfl) (CvL.cons (Cv.owF (T := [85]) (te := []) rfl) (CvL.cons Cv.fl (CvL.cons Cv.fl (CvL.cons Cv.fl CvL.nil)))))))) (HasR.cv (HasR.tmp (Has.s rfl)) Cv.fl) (ls 904008 (Low.res (lc (lf (lg (lg (lf (lf (lf (lf (lg (lg (lf (lf (lf (lo (lo Low.nil)))))))))))))))))
        ·refine CWalk.seq ?_
         refine CWalk.region ?_
         refine mv ?_
         refine Walk.inline (S := Int × (List (List UInt8)) × UInt8) (fun p : Int × (List (List UInt8)) × UInt8 => [.fact 10 (Fact.isv 74), .fact 12 (Fact.isv 86), .fact 34 (Fact.rep [] (p.1 : Int)), .fact 902006 (Fact.cst (u1 6) (Fact.isv 26)), .fact 904008 (Fact.cst (u2 8) (Fact.isv 53)), .fact 100075 (Fact.at 75 (Fact.rep [] ((0 : Int) : Int))), .fact 100076 (Fact.at 76 (Fact.nilv)), .fact 100077 (Fact.at 77 (Fact.nilv)), .fact 100078 (Fact.at 78 (Fact.rep [] ((0 : UInt8) : UInt8))), .fact 100079 (Fact.at 79 (Fact.rep [] (false : Bool))), .fact 100080 (Fact.at 80 (Fact.rep [] ((0 : UInt32) : UInt32))), .fact 100087 (Fact.at 87 (Fact.rep [] (x19.Stripe : Int))), .fact 100088 (Fact.at 88 (Fact.ow [83, 95] [84, 96] 31 (p.2.1 : List (List UInt8)))), .fact 100089 (Fact.at 89 (Fact.ow [85] [] 4 (x19.Dirty : List Bool))), .fact 100090 (Fact.at 90 (Fact.rep [] (p.2.2 : UInt8))), .fact 100091 (Fact.at 91 (Fact.rep [] (x19.Deals : Bool))), .fact 100092 (Fact.at 92 (Fact.rep [] (x19.Seq : UInt32))), .fact 100027 (Fact.at 27 (Fact.rep [] ((0 : Int) : Int))), .fact 100028 (Fact.at 28 (Fact.nilv)), .fact 100029 (Fact.at 29 (Fact.nilv)), .fact 100030 (Fact.at 30 (Fact.rep [] ((0 : UInt8) : UInt8))), .fact 100031 (Fact.at 31 (Fact.rep [] (false : Bool))), .fact 100032 (Fact.at 32 (Fact.rep [] ((0 : UInt32) : UInt32))), .fact 100054 (Fact.at 54 (Fact.rep [] ((0 : Int) : Int))), .fact 100055 (Fact.at 55 (Fact.nilv)), .fact 100056 (Fact.at 56 (Fact.nilv)), .fact 100057 (Fact.at 57 (Fact.rep [] ((0 : UInt8) : UInt8))), .fact 100058 (Fact.at 58 (Fact.rep [] (false : Bool))), .fact 100059 (Fact.at 59 (Fact.rep [] ((0 : UInt32) : UInt32))), .fact 100074 (Fact.obj 74 [(false, 1), (false, 1), (false, 1), (false, 1), (false, 1), (false, 1)]), .fact 100086 (Fact.obj 86 [(false, 1), (false, 1), (false, 1), (false, 1), (false, 1), (false, 1)]), .fact 100026 (Fact.obj 26 [(false, 1), (false, 1), (false, 1), (false, 1), (false, 1), (false, 1)]), .fact 100053 (Fact.obj 53 [(false, 1), (false, 1), (false, 1), (false, 1), (false, 1), (false, 1)])]) (fun p : Int × (List (List UInt8)) × UInt8 => head_Make_J4 x19 p.1 p.2.1 p.2.2 = some r) (fun u3 => [.fact 100011 (Fact.at 11 (Fact.rep [] (a0.Id : UInt32))), .fact 100012 (Fact.at 12 (Fact.rep [] (a0.Members : Int))), .fact 100013 (Fact.at 13 (Fact.rep [] (a0.Chunk : Int))), .fact 100014 (Fact.at 14 (Fact.rep [] (a0.Rows : Int))), .fact 100015 (Fact.at 15 (Fact.rep [] (a0.Log : Int))), .fact 100016 (Fact.at 16 (Fact.rep [] (a0.Heads : Int))), .fact 100025 (Fact.at 25 (Fact.rep [0] (a2 : List UInt8))), .fact 100027 (Fact.at 27 (Fact.rep [] ((0 : Int) : Int))), .fact 100028 (Fact.at 28 (Fact.nilv)), .fact 100029 (Fact.at 29 (Fact.nilv)), .fact 100030 (Fact.at 30 (Fact.rep [] ((0 : UInt8) : UInt8))), .fact 100031 (Fact.at 31 (Fact.rep [] (false : Bool))), .fact 100032 (Fact.at 32 (Fact.rep [] ((0 : UInt32) : UInt32))), .fact 100050 (Fact.at 50 (Fact.rep [] ((0 : Int) : Int))), .fact 100052 (Fact.at 52 (Fact.fnv 64 [] [Fact.isv 24, Fact.isv 10])), .fact 100054 (Fact.at 54 (Fact.rep [] ((0 : Int) : Int))), .fact 100055 (Fact.at 55 (Fact.nilv)), .fact 100056 (Fact.at 56 (Fact.nilv)), .fact 100057 (Fact.at 57 (Fact.rep [] ((0 : UInt8) : UInt8))), .fact 100058 (Fact.at 58 (Fact.rep [] (false : Bool))), .fact 100059 (Fact.at 59 (Fact.rep [] ((0 : UInt32) : UInt32))), .fact 100075 (Fact.at 75 (Fact.rep [] ((0 : Int) : Int))), .fact 100076 (Fact.at 76 (Fact.nilv)), .fact 100077 (Fact.at 77 (Fact.nilv)), .fact 100078 (Fact.at 78 (Fact.rep [] ((0 : UInt8) : UInt8))), .fact 100079 (Fact.at 79 (Fact.rep [] (false : Bool))), .fact 100080 (Fact.at 80 (Fact.rep [] ((0 : UInt32) : UInt32))), .fact 100087 (Fact.at 87 (Fact.rep [] (x19.Stripe : Int))), .fact 100088 (Fact.at 88 (Fact.ow [83] [84] 31 (x19.Blocks : List (List UInt8)))), .fact 100089 (Fact.at 89 (Fact.ow [85] [] 4 (x19.Dirty : List Bool))), .fact 100090 (Fact.at 90 (Fact.rep [] (x19.Phase : UInt8))), .fact 100091 (Fact.at 91 (Fact.rep [] (x19.Deals : Bool))), .fact 100092 (Fact.at 92 (Fact.rep [] (x19.Seq : UInt32))), .fact 902006 (Fact.cst (u1 6) (Fact.isv 26)), .fact 904008 (Fact.cst (u2 8) (Fact.isv 53)), .fact 906010 (Fact.cst (u3 10) (Fact.isv 74)), .fact 906012 (Fact.cst (u3 12) (Fact.isv 86)), .fact 100010 (Fact.obj 10 [(false, 1), (false, 1), (false, 1), (false, 1), (false, 1), (false, 1)]), .fact 100024 (Fact.obj 24 [(false, 1)]), .fact 100026 (Fact.obj 26 [(false, 1), (false, 1), (false, 1), (false, 1), (false, 1), (false, 1)]), .fact 100049 (Fact.obj 49 [(false, 1)]), .fact 100051 (Fact.obj 51 [(false, 1)]), .fact 100053 (Fact.obj 53 [(false, 1), (false, 1), (false, 1), (false, 1), (false, 1), (false, 1)]), .fact 100074 (Fact.obj 74 [(false, 1), (false, 1), (false, 1), (false, 1), (false, 1), (false, 1)]), .fact 100086 (Fact.obj 86 [(false, 1), (false, 1), (false, 1), (false, 1), (false, 1), (false, 1)])]) (FA := [Fact.isv 86, Fact.isv 49, Fact.isv 51]) rfl Try.func77 rfl rfl rfl (CallOk.valE en77 (Has.s rfl) (HasF.cons (Has.s rfl) HasF.nil)) (fun u3 => (ck (ck (ck (ck (ck (ck (ck (ck (ck (ck (ck (ck (ck (ck (ck (ck (ck (ck (ck (ck (ck (ck (ck (ck (ck (ck (ck (ck (ck (ck (ck (ck (ck (ck (ck (cs 906000 10 (cs 906000 12 (ck (ck (ck (ck (ck (ck (ck (ck Carry.nil)))))))))))))))))))))))))))))))))))))))))))))) (fun u3 => ?_) ?_
         ·refine CWalk.seq ?_
          refine CWalk.region ?_
          refine wo (Spec.assign Has.int) ?_
          refine Walk.nil ?_
          refine Leaf.thenN ?_
          refine CWalk.seq ?_
          refine CWalk.seq ?_
          obtain ⟨x30, hx30, hm⟩ := bind_some hm
          obtain ⟨x31, hx31, hm⟩ := bind_some hm
          refine CWalk.drawM [[], [], [1], [1, 2], [1, 2, 3], [0, 1, 2, 3, 4], [0, 1, 2, 3, 4, 5], [0, 1, 2, 3, 4, 5, 6], [0, 1, 2, 3, 4, 5, 6, 7], [0, 1, 2, 3, 4, 5, 6, 7, 8], [0, 1, 2, 3, 4, 5, 6, 7, 8, 9], [0, 1, 2, 3, 4, 5, 6, 7, 8, 9, 10], [0, 1, 2, 3, 4, 5, 6, 7, 8, 9, 10, 11], [0, 1, 2, 3, 4, 5, 6, 7, 8, 9, 10, 11, 12], [0, 1, 2, 3, 4, 5, 6, 7, 8, 9, 10, 11, 12, 13], [0, 1, 2, 3, 4, 5, 6, 7, 8, 9, 10, 11, 12, 13, 14], [0, 1, 2, 3, 4, 5, 6, 7, 8, 9, 10, 11, 12, 13, 14, 15], [0, 1, 2, 3, 4, 5, 6, 7, 8, 9, 10, 11, 12, 13, 14, 15, 16], [0, 1, 2, 3, 4, 5, 6, 7, 8, 9, 10, 11, 12, 13, 14, 15, 16, 17]] [[.fact 5 (Fact.rep [] ((0 : Int) : Int))], [.fact 6 (Fact.isv 86)], [.fact 7 (Fact.isv 86)], [.fact 8 (Fact.pto 86 3)], [.fact 9 (Fact.rep [] (x19.Phase : UInt8))], [.fact 10 (Fact.rep [] (x30 : Bool))], [.fact 11 (Fact.rep [] ((!x30) : Bool))], [.fact 12 (Fact.rep [] ((!x30) : Bool))], [.fact 13 (Fact.under ((!x30) = false) (.rep [] ((0 : Int) : Int)))], [.fact 14 (Fact.under ((!x30) = false) (.rep [] (((0 : Int) == (0 : Int)) : Bool)))], [.fact 15 (Fact.under ((!x30) = false) (.rep [] (((0 : Int) == (0 : Int)) : Bool)))], [.fact 16 (Fact.under (((!x30) = false) ∧ (((0 : Int) == (0 : Int)) = true)) (.isv 86))], [.fact 17 (Fact.under (((!x30) = false) ∧ (((0 : Int) == (0 : Int)) = true)) (.isv 86))], [.fact 18 (Fact.under (((!x30) = false) ∧ (((0 : Int) == (0 : Int)) = true)) (.pto 86 2))], [.fact 19 (Fact.under (((!x30) = false) ∧ (((0 : Int) == (0 : Int)) = true)) (.ow [85] [] 4 (x19.Dirty : List Bool)))], [.fact 20 (Fact.under (((!x30) = false) ∧ (((0 : Int) == (0 : Int)) = true)) (.rep [] (x31 : Bool)))], [.fact 21 (Fact.under (((!x30) = false) ∧ (((0 : Int) == (0 : Int)) = true)) (.rep [] ((!x31) : Bool)))], [.fact 22 (Fact.under ((!x30) = false) (.rep [] ((((0 : Int) == (0 : Int)) && (!x31)) : Bool)))], [.fact 23 (Fact.rep [] (((!x30) || (((0 : Int) == (0 : Int)) && (!x31))) : Bool))]] mixed (by kernel_rfl) (ao (so (Spec.loadF (i := 0) ty3 rfl (Has.cv (Has.s rfl) (Cv.isvP rfl)) rfl (HasG.s rfl))) (ao (so (Spec.move (Has.s rfl))) (ao (so (Spec.nilCheckI (Has.s rfl) rfl)) (ao (so (Spec.fieldAddrO fd28_3 (Has.cv (Has.s rfl) (Cv.isvP rfl)))) (ao (so (Spec.loadF (i := 3) ty5 rfl (Has.s rfl) rfl (HasG.s rfl))) (ao (so (Spec.callE [] 93 rfl en78 (head_may_c (0 : Int) x19.Phase hx30) (HasAll.cons (Has.fl (Has.s rfl)) (HasAll.cons (Has.fl (Has.s rfl)) HasAll.nil)))) (ao (so (Spec.not (Has.s rfl))) (ao (so (Spec.move (Has.s rfl))) (ao (StepG.opg rfl rfl rfl (fun hb => Spec.loadF (i := 0) ty3 rfl (Has.cv (Has.s rfl) (Cv.isvP rfl)) rfl (HasG.s rfl))) (ao (StepG.opg rfl rfl rfl (fun hb => Spec.eqlI (Has.u rfl hb) Has.int)) (ao (StepG.opg rfl rfl rfl (fun hb => Spec.move (Has.u rfl hb))) (ao (StepG.opgu rfl rfl rfl (fun hb => Spec.move (Has.s rfl))) (ao (StepG.opgu rfl rfl rfl (fun hb => Spec.nilCheckI (Has.u rfl hb) rfl)) (ao (StepG.opgu rfl rfl rfl (fun hb => Spec.fieldAddrO fd28_2 (Has.cv (Has.u rfl hb) (Cv.isvP rfl)))) (ao (StepG.opgu rfl rfl rfl (fun hb => Spec.loadF (i := 2) ty26 rfl (Has.u rfl hb) rfl (HasG.s rfl))) (ao (StepG.opgu rfl rfl rfl (fun hb => Spec.callE [85] 94 rfl en79 (slices_Contains_bool_bool_c x19.Dirty true (gO_t hx31 (and_t (not_t hb.1) hb.2))) (HasAll.cons (Has.m (Has.cv (Has.u rfl hb) (Cv.trans Cv.owSl (Cv.slRep (T' := [85]) rfl rfl))) rfl) (HasAll.cons (Has.fl Has.bool) HasAll.nil)))) (ao (StepG.opgu rfl rfl rfl (fun hb => Spec.not (Has.u rfl hb))) (ao (StepG.opg rfl rfl rfl (fun hb => Spec.and (Has.u rfl hb) (fun h => Has.u rfl ⟨hb, h⟩))) (ao (so (Spec.or (Has.s rfl) (fun h => Has.u rfl h))) AllM.nil))))))))))))))))))) ?_
          refine Leaf.thenN ?_
          refine CWalk.cond rfl (fun hb => ?_) (fun hb => ?_)
          ·have hm := cond_t hb hm
           refine CWalk.seq ?_
           refine CWalk.region ?_
           refine wo (Spec.assign Has.int) ?_
           refine Walk.nil ?_
           refine Leaf.thenN ?_
           refine CWalk.ret ?_
           refine Leaf.thenR ?_
           exact Leaf.in1 ((6 : Int), x19.Blocks, x19.Phase) hm rfl rfl (HasR.cv (HasR.tmp (Has.s rfl)) Cv.fl) (ls 906010 (ls 906012 (Low.res (lc (lc (lf (lg (lg (lf (lf (lf (lf (Low.keepG (HasG.cv (HasG.s rfl) (Cv.owM (T := [83]) (te := [84]) rfl rfl)) (Low.keepG (HasG.cv (HasG.s rfl) (Cv.owF (T := [85]) (te := []) rfl)) (lf (lf (lf (lf (lg (lg (lf (lf (lf (lf (lg (lg (lf (lf (lf (lo (lo (lo (lo Low.nil)))))))))))))))))))))))))))))))))
          ·have hm := cond_f hb hm
           refine CWalk.skip ?_
           refine Leaf.thenN ?_
           refine CWalk.seq ?_
           refine CWalk.region ?_
           refine wo (Spec.loadF (α := Int) (i := 0) ty96 rfl (Has.cv (Has.s rfl) (Cv.isvP rfl)) rfl (HasG.s rfl)) ?_
           refine mv ?_
           refine Walk.inline (S := (List (List UInt8))) (fun p : (List (List UInt8)) => [.fact 26 (Fact.top), .fact 902006 (Fact.cst (u1 6) (Fact.isv 26)), .fact 904008 (Fact.cst (u2 8) (Fact.isv 53)), .fact 906010 (Fact.cst (u3 10) (Fact.isv 74)), .fact 906012 (Fact.cst (u3 12) (Fact.isv 86)), .fact 100027 (Fact.at 27 (Fact.rep [] ((0 : Int) : Int))), .fact 100028 (Fact.at 28 (Fact.nilv)), .fact 100029 (Fact.at 29 (Fact.nilv)), .fact 100030 (Fact.at 30 (Fact.rep [] ((0 : UInt8) : UInt8))), .fact 100031 (Fact.at 31 (Fact.rep [] (false : Bool))), .fact 100032 (Fact.at 32 (Fact.rep [] ((0 : UInt32) : UInt32))), .fact 100054 (Fact.at 54 (Fact.rep [] ((0 : Int) : Int))), .fact 100055 (Fact.at 55 (Fact.nilv)), .fact 100056 (Fact.at 56 (Fact.nilv)), .fact 100057 (Fact.at 57 (Fact.rep [] ((0 : UInt8) : UInt8))), .fact 100058 (Fact.at 58 (Fact.rep [] (false : Bool))), .fact 100059 (Fact.at 59 (Fact.rep [] ((0 : UInt32) : UInt32))), .fact 100075 (Fact.at 75 (Fact.rep [] ((0 : Int) : Int))), .fact 100076 (Fact.at 76 (Fact.nilv)), .fact 100077 (Fact.at 77 (Fact.nilv)), .fact 100078 (Fact.at 78 (Fact.rep [] ((0 : UInt8) : UInt8))), .fact 100079 (Fact.at 79 (Fact.rep [] (false : Bool))), .fact 100080 (Fact.at 80 (Fact.rep [] ((0 : UInt32) : UInt32))), .fact 100087 (Fact.at 87 (Fact.rep [] (x19.Stripe : Int))), .fact 100088 (Fact.at 88 (Fact.isv 95)), .fact 100089 (Fact.at 89 (Fact.ow [85] [] 4 (x19.Dirty : List Bool))), .fact 100090 (Fact.at 90 (Fact.rep [] ((1 : UInt8) : UInt8))), .fact 100091 (Fact.at 91 (Fact.rep [] (x19.Deals : Bool))), .fact 100092 (Fact.at 92 (Fact.rep [] (x19.Seq : UInt32))), .fact 100026 (Fact.obj 26 [(false, 1), (false, 1), (false, 1), (false, 1), (false, 1), (false, 1)]), .fact 100053 (Fact.obj 53 [(false, 1), (false, 1), (false, 1), (false, 1), (false, 1), (false, 1)]), .fact 100074 (Fact.obj 74 [(false, 1), (false, 1), (false, 1), (false, 1), (false, 1), (false, 1)]), .fact 100086 (Fact.obj 86 [(false, 1), (false, 1), (false, 1), (false, 1), (false, 1), (false, 1)]), .fact 100095 (Fact.own 95 [84, 96] 31 (p : List (List UInt8)))]) (fun p : (List (List UInt8)) => head_Make_J5 x19 p = some r) (fun u4 => [.fact 100011 (Fact.at 11 (Fact.rep [] (a0.Id : UInt32))), .fact 100012 (Fact.at 12 (Fact.rep [] (a0.Members : Int))), .fact 100013 (Fact.at 13 (Fact.rep [] (a0.Chunk : Int))), .fact 100014 (Fact.at 14 (Fact.rep [] (a0.Rows : Int))), .fact 100015 (Fact.at 15 (Fact.rep [] (a0.Log : Int))), .fact 100016 (Fact.at 16 (Fact.rep [] (a0.Heads : Int))), .fact 100025 (Fact.at 25 (Fact.rep [0] (a2 : List UInt8))), .fact 100027 (Fact.at 27 (Fact.rep [] ((0 : Int) : Int))), .fact 100028 (Fact.at 28 (Fact.nilv)), .fact 100029 (Fact.at 29 (Fact.nilv)), .fact 100030 (Fact.at 30 (Fact.rep [] ((0 : UInt8) : UInt8))), .fact 100031 (Fact.at 31 (Fact.rep [] (false : Bool))), .fact 100032 (Fact.at 32 (Fact.rep [] ((0 : UInt32) : UInt32))), .fact 100054 (Fact.at 54 (Fact.rep [] ((0 : Int) : Int))), .fact 100055 (Fact.at 55 (Fact.nilv)), .fact 100056 (Fact.at 56 (Fact.nilv)), .fact 100057 (Fact.at 57 (Fact.rep [] ((0 : UInt8) : UInt8))), .fact 100058 (Fact.at 58 (Fact.rep [] (false : Bool))), .fact 100059 (Fact.at 59 (Fact.rep [] ((0 : UInt32) : UInt32))), .fact 100075 (Fact.at 75 (Fact.rep [] ((0 : Int) : Int))), .fact 100076 (Fact.at 76 (Fact.nilv)), .fact 100077 (Fact.at 77 (Fact.nilv)), .fact 100078 (Fact.at 78 (Fact.rep [] ((0 : UInt8) : UInt8))), .fact 100079 (Fact.at 79 (Fact.rep [] (false : Bool))), .fact 100080 (Fact.at 80 (Fact.rep [] ((0 : UInt32) : UInt32))), .fact 100087 (Fact.at 87 (Fact.rep [] (x19.Stripe : Int))), .fact 100088 (Fact.at 88 (Fact.ow [83] [84] 31 (x19.Blocks : List (List UInt8)))), .fact 100089 (Fact.at 89 (Fact.ow [85] [] 4 (x19.Dirty : List Bool))), .fact 100090 (Fact.at 90 (Fact.rep [] (x19.Phase : UInt8))), .fact 100091 (Fact.at 91 (Fact.rep [] (x19.Deals : Bool))), .fact 100092 (Fact.at 92 (Fact.rep [] (x19.Seq : UInt32))), .fact 902006 (Fact.cst (u1 6) (Fact.isv 26)), .fact 904008 (Fact.cst (u2 8) (Fact.isv 53)), .fact 906010 (Fact.cst (u3 10) (Fact.isv 74)), .fact 906012 (Fact.cst (u3 12) (Fact.isv 86)), .fact 100010 (Fact.obj 10 [(false, 1), (false, 1), (false, 1), (false, 1), (false, 1), (false, 1)]), .fact 100024 (Fact.obj 24 [(false, 1)]), .fact 100026 (Fact.obj 26 [(false, 1), (false, 1), (false, 1), (false, 1), (false, 1), (false, 1)]), .fact 100053 (Fact.obj 53 [(false, 1), (false, 1), (false, 1), (false, 1), (false, 1), (false, 1)]), .fact 100074 (Fact.obj 74 [(false, 1), (false, 1), (false, 1), (false, 1), (false, 1), (false, 1)]), .fact 100086 (Fact.obj 86 [(false, 1), (false, 1), (false, 1), (false, 1), (false, 1), (false, 1)])]) (FA := [Fact.isv 86, Fact.isv 24, Fact.isv 10]) rfl Try.func64 rfl rfl rfl (CallOk.valE en64 (Has.s rfl) (HasF.cons (Has.s rfl) HasF.nil)) (fun u4 => (ck (ck (ck (ck (ck (ck (ck (ck (ck (ck (ck (ck (ck (ck (ck (ck (ck (ck (ck (ck (ck (ck (ck (ck (ck (ck (ck (ck (ck (ck (ck (ck (ck (ck (ck (ck (ck (ck (ck (ck (ck Carry.nil)))))))))))))))))))))))))))))))))))))))))) (fun u4 => ?_) ?_
           ·refine CWalk.seq ?_
            refine CWalk.region ?_
            refine mv ?_
            refine wo (Spec.nilCheckI (Has.s rfl) rfl) ?_
            refine wo (Spec.fieldAddrO fd28_3 (Has.cv (Has.s rfl) (Cv.isvP rfl))) ?_
            refine ws (Step.storeF (i := 3) (f := Fact.rep [] ((1 : UInt8) : UInt8)) rfl ty5 rfl (Has.s rfl) rfl (Has.u8 1 rfl) (Has.u8 1 rfl) rfl) ?_
            refine Walk.nil ?_
            refine Leaf.thenN ?_
            refine CWalk.ad (Ad.owF (i := 88) 95 rfl rfl rfl (ElT.tags rfl) rfl (Cv.owM (T := [83]) (te := [84]) (T' := [83]) (te' := [84]) rfl rfl)) ?_
            obtain ⟨x33, hx33, hm⟩ := bind_some hm
            obtain ⟨x34, hx34, hm⟩ := bind_some hm
            refine CWalk.drawM [[], [0], [0, 1], [0, 1, 2], [], [4], [4, 5], [], [7], [0, 1, 2, 3, 4, 5, 6, 7, 8], [0, 1, 2, 3, 4, 5, 6, 7, 8, 9]] [[.fact 7 (Fact.isv 86)], [.fact 8 (Fact.isv 86)], [.fact 9 (Fact.pto 86 1)], [.fact 10 (Fact.isv 95)], [.fact 11 (Fact.pto 10 1)], [.fact 12 (Fact.rep [] (a0.Members : Int))], [.fact 13 (Fact.rep [] ((wI (a0.Members - (1 : Int))) : Int))], [.fact 14 (Fact.rep [0] (a2 : List UInt8))], [.fact 15 (Fact.ow [96] [] 5 (x33 : List UInt8))], [.fact 16 (Fact.pto 95 (x34 * Rp.n (List UInt8)))], [.fact 100095 (Fact.own 95 [84, 96] 31 ((x19.Blocks).set x34 x33 : List (List UInt8))), .kill 95]] mixed (by kernel_rfl) (ao (so (Spec.move (Has.s rfl))) (ao (so (Spec.nilCheckI (Has.s rfl) rfl)) (ao (so (Spec.fieldAddrO fd28_1 (Has.cv (Has.s rfl) (Cv.isvP rfl)))) (ao (so (Spec.loadF (i := 1) ty25 rfl (Has.s rfl) rfl (HasG.s rfl))) (ao (so (Spec.fieldAddrO fd24_1 (Has.cv (Has.s rfl) (Cv.isvP rfl)))) (ao (so (Spec.loadF (i := 1) ty3 rfl (Has.s rfl) rfl (HasG.s rfl))) (ao (so (Spec.subI (Has.s rfl) Has.int)) (ao (so (Spec.loadF (i := 0) ty31 rfl (Has.cv (Has.s rfl) (Cv.isvP rfl)) rfl (HasG.s rfl))) (ao (so (Spec.callE [0] 96 rfl en50 (head_block_c a2 hx33) (HasAll.cons (Has.m (Has.s rfl) rfl) HasAll.nil))) (ao (so (Spec.idxOwn hx34 ow25 (Has.s rfl) rfl (Has.s rfl))) (ao (StepG.stE (Step.storeOwn (te' := [84, 96]) rfl (bnd_lt hx34 rfl) ty31 (Has.s rfl) rfl (Has.cv (Has.s rfl) (Cv.trans Cv.owSl (Cv.slRep (T' := [96]) rfl rfl))) (ElKeep.tags rfl rfl) (ElKeep.tags rfl rfl))) AllM.nil))))))))))) ?_
            exact Leaf.inN (Leaf.in0 (f0 := Fact.top) ((x19.Blocks).set x34 x33) hm rfl rfl (fun _ _ => trivial) (Low.res (lc (lc (lc (lc (lf (lg (lg (lf (lf (lf (lf (lg (lg (lf (lf (lf (lf (lg (lg (lf (lf (lf (lf (lg (Low.keepG (HasG.cv (HasG.s rfl) (Cv.owF (T := [85]) (te := []) rfl)) (lf (lf (lf (lo (lo (lo (lo (Low.keepR (fun _ _ _ _ h => h) (Has.ownM (Has.s rfl) rfl) Low.nil)))))))))))))))))))))))))))))))))))
           ·rintro j32 hm
            replace hm : head_Make_J5 x19 j32 = some r := hm
            unfold head_Make_J5 at hm
            show Walk _ _ _ [.fact 26 (Fact.top), .fact 902006 (Fact.cst (u1 6) (Fact.isv 26)), .fact 904008 (Fact.cst (u2 8) (Fact.isv 53)), .fact 906010 (Fact.cst (u3 10) (Fact.isv 74)), .fact 906012 (Fact.cst (u3 12) (Fact.isv 86)), .fact 100027 (Fact.at 27 (Fact.rep [] ((0 : Int) : Int))), .fact 100028 (Fact.at 28 (Fact.nilv)), .fact 100029 (Fact.at 29 (Fact.nilv)), .fact 100030 (Fact.at 30 (Fact.rep [] ((0 : UInt8) : UInt8))), .fact 100031 (Fact.at 31 (Fact.rep [] (false : Bool))), .fact 100032 (Fact.at 32 (Fact.rep [] ((0 : UInt32) : UInt32))), .fact 100054 (Fact.at 54 (Fact.rep [] ((0 : Int) : Int))), .fact 100055 (Fact.at 55 (Fact.nilv)), .fact 100056 (Fact.at 56 (Fact.nilv)), .fact 100057 (Fact.at 57 (Fact.rep [] ((0 : UInt8) : UInt8))), .fact 100058 (Fact.at 58 (Fact.rep [] (false : Bool))), .fact 100059 (Fact.at 59 (Fact.rep [] ((0 : UInt32) : UInt32))), .fact 100075 (Fact.at 75 (Fact.rep [] ((0 : Int) : Int))), .fact 100076 (Fact.at 76 (Fact.nilv)), .fact 100077 (Fact.at 77 (Fact.nilv)), .fact 100078 (Fact.at 78 (Fact.rep [] ((0 : UInt8) : UInt8))), .fact 100079 (Fact.at 79 (Fact.rep [] (false : Bool))), .fact 100080 (Fact.at 80 (Fact.rep [] ((0 : UInt32) : UInt32))), .fact 100087 (Fact.at 87 (Fact.rep [] (x19.Stripe : Int))), .fact 100088 (Fact.at 88 (Fact.isv 95)), .fact 100089 (Fact.at 89 (Fact.ow [85] [] 4 (x19.Dirty : List Bool))), .fact 100090 (Fact.at 90 (Fact.rep [] ((1 : UInt8) : UInt8))), .fact 100091 (Fact.at 91 (Fact.rep [] (x19.Deals : Bool))), .fact 100092 (Fact.at 92 (Fact.rep [] (x19.Seq : UInt32))), .fact 100026 (Fact.obj 26 [(false, 1), (false, 1), (false, 1), (false, 1), (false, 1), (false, 1)]), .fact 100053 (Fact.obj 53 [(false, 1), (false, 1), (false, 1), (false, 1), (false, 1), (false, 1)]), .fact 100074 (Fact.obj 74 [(false, 1), (false, 1), (false, 1), (false, 1), (false, 1), (false, 1)]), .fact 100086 (Fact.obj 86 [(false, 1), (false, 1), (false, 1), (false, 1), (false, 1), (false, 1)]), .fact 100095 (Fact.own 95 [84, 96] 31 (j32 : List (List UInt8)))] _
            refine Walk.nil ?_
            refine Leaf.thenN ?_
            refine CWalk.seq ?_
            refine CWalk.region ?_
            refine wo (Spec.assign Has.int) ?_
            refine Walk.nil ?_
            refine Leaf.thenN ?_
            refine CWalk.ret ?_
            exact Leaf.in1 ((0 : Int), j32, (1 : UInt8)) hm rfl rfl (HasR.cv (HasR.tmp (Has.s rfl)) Cv.fl) (ls 906010 (ls 906012 (Low.res (lc (lc (lf (lg (lg (lf (lf (lf (lf (Low.keepG (HasG.cv (HasG.s rfl) (Cv.trans (Cv.isvOw rfl) (Cv.owM (T := [95]) (te := [84, 96]) rfl rfl))) (Low.keepG (HasG.cv (HasG.s rfl) (Cv.owF (T := [85]) (te := []) rfl)) (lf (lf (lf (lf (lg (lg (lf (lf (lf (lf (lg (lg (lf (lf (lf (lo (lo (lo (lo Low.nil)))))))))))))))))))))))))))))))))
         ·rintro ⟨j27, j28, j29⟩ hm
          replace hm : head_Make_J4 x19 j27 j28 j29 = some r := hm
          unfold head_Make_J4 at hm
          show Walk _ _ _ [.fact 10 (Fact.isv 74), .fact 12 (Fact.isv 86), .fact 34 (Fact.rep [] (j27 : Int)), .fact 902006 (Fact.cst (u1 6) (Fact.isv 26)), .fact 904008 (Fact.cst (u2 8) (Fact.isv 53)), .fact 100075 (Fact.at 75 (Fact.rep [] ((0 : Int) : Int))), .fact 100076 (Fact.at 76 (Fact.nilv)), .fact 100077 (Fact.at 77 (Fact.nilv)), .fact 100078 (Fact.at 78 (Fact.rep [] ((0 : UInt8) : UInt8))), .fact 100079 (Fact.at 79 (Fact.rep [] (false : Bool))), .fact 100080 (Fact.at 80 (Fact.rep [] ((0 : UInt32) : UInt32))), .fact 100087 (Fact.at 87 (Fact.rep [] (x19.Stripe : Int))), .fact 100088 (Fact.at 88 (Fact.ow [83, 95] [84, 96] 31 (j28 : List (List UInt8)))), .fact 100089 (Fact.at 89 (Fact.ow [85] [] 4 (x19.Dirty : List Bool))), .fact 100090 (Fact.at 90 (Fact.rep [] (j29 : UInt8))), .fact 100091 (Fact.at 91 (Fact.rep [] (x19.Deals : Bool))), .fact 100092 (Fact.at 92 (Fact.rep [] (x19.Seq : UInt32))), .fact 100027 (Fact.at 27 (Fact.rep [] ((0 : Int) : Int))), .fact 100028 (Fact.at 28 (Fact.nilv)), .fact 100029 (Fact.at 29 (Fact.nilv)), .fact 100030 (Fact.at 30 (Fact.rep [] ((0 : UInt8) : UInt8))), .fact 100031 (Fact.at 31 (Fact.rep [] (false : Bool))), .fact 100032 (Fact.at 32 (Fact.rep [] ((0 : UInt32) : UInt32))), .fact 100054 (Fact.at 54 (Fact.rep [] ((0 : Int) : Int))), .fact 100055 (Fact.at 55 (Fact.nilv)), .fact 100056 (Fact.at 56 (Fact.nilv)), .fact 100057 (Fact.at 57 (Fact.rep [] ((0 : UInt8) : UInt8))), .fact 100058 (Fact.at 58 (Fact.rep [] (false : Bool))), .fact 100059 (Fact.at 59 (Fact.rep [] ((0 : UInt32) : UInt32))), .fact 100074 (Fact.obj 74 [(false, 1), (false, 1), (false, 1), (false, 1), (false, 1), (false, 1)]), .fact 100086 (Fact.obj 86 [(false, 1), (false, 1), (false, 1), (false, 1), (false, 1), (false, 1)]), .fact 100026 (Fact.obj 26 [(false, 1), (false, 1), (false, 1), (false, 1), (false, 1), (false, 1)]), .fact 100053 (Fact.obj 53 [(false, 1), (false, 1), (false, 1), (false, 1), (false, 1), (false, 1)])] _
          refine wo (Spec.assign (Has.s rfl)) ?_
          refine Walk.nil ?_
          refine Leaf.thenN ?_
          refine CWalk.seq ?_
          refine CWalk.region ?_
          refine mv ?_
          refine wo (Spec.eqlI (Has.s rfl) Has.int) ?_
          refine Walk.nil ?_
          refine Leaf.thenN ?_
          refine CWalk.cond rfl (fun hb => ?_) (fun hb => ?_)
          ·have hm := cond_t hb hm
           refine CWalk.region ?_
           refine wo (Spec.loadObj (ls := [(false, 1, Fact.rep [] (x19.Stripe : Int)), (false, 1, Fact.ow [83, 95] [84, 96] 31 (j28 : List (List UInt8))), (false, 1, Fact.ow [85] [] 4 (x19.Dirty : List Bool)), (false, 1, Fact.rep [] (j29 : UInt8)), (false, 1, Fact.rep [] (x19.Deals : Bool)), (false, 1, Fact.rep [] (x19.Seq : UInt32))]) ty28 rfl rfl (Has.s rfl) rfl (HasGs.cons (HasG.s rfl) (HasGs.cons (HasG.s rfl) (HasGs.cons (HasG.s rfl) (HasGs.cons (HasG.s rfl) (HasGs.cons (HasG.s rfl) (HasGs.cons (HasG.s rfl) HasGs.nil))))))) ?_
           refine ws (Step.storeObj (ls := [(false, 1, Fact.rep [] (x19.Stripe : Int)), (false, 1, Fact.ow [83, 95] [84, 96] 31 (j28 : List (List UInt8))), (false, 1, Fact.ow [85] [] 4 (x19.Dirty : List Bool)), (false, 1, Fact.rep [] (j29 : UInt8)), (false, 1, Fact.rep [] (x19.Deals : Bool)), (false, 1, Fact.rep [] (x19.Seq : UInt32))]) rfl ty28 rfl rfl (Has.s rfl) rfl (HasL.flds (Has.s rfl)) rfl) ?_
           refine Walk.nil ?_
           exact Leaf.join (j27, x19.Stripe, j28, x19.Dirty, j29, x19.Deals, x19.Seq) hm (sn (st (sc (sc (sf (Sub.cons (Has.at (HasG.cv (HasG.s rfl) (Cv.owM (T := [83, 95]) (te := [84, 96]) rfl rfl))) (Sub.cons (Has.at (HasG.cv (HasG.s rfl) (Cv.owF (T := [85]) (te := []) rfl))) (sf (sf (sf (sf (sg (sg (sf (sf (sf (sf (sg (sg (sf (sf (sf (sn (sn (sn Sub.nil)))))))))))))))))))))))))
          ·have hm := cond_f hb hm
           refine CWalk.skip ?_
           exact Leaf.join (j27, (0 : Int), ([] : List (List UInt8)), ([] : List Bool), (0 : UInt8), false, (0 : UInt32)) hm (sn (st (sc (sc (sf (Sub.cons (Has.at (HasG.cv (HasG.s rfl) (Cv.trans Cv.nilOw (Cv.owM (T := []) (te := []) rfl rfl)))) (Sub.cons (Has.at (HasG.cv (HasG.s rfl) (Cv.trans Cv.nilOw (Cv.owF (T := []) (te := []) rfl)))) (sf (sf (sf (sf (sg (sg (sf (sf (sf (sf (sg (sg (sf (sf (sf (sn (sn (sn Sub.nil)))))))))))))))))))))))))
    ·rintro ⟨j10, j11, j12, j13, j14, j15, j16⟩ hm
     replace hm : head_Make_J2 j10 j11 j12 j13 j14 j15 j16 = some r := hm
     unfold head_Make_J2 at hm
     show Walk _ _ _ [.fact 8 (Fact.isv 53), .fact 13 (Fact.tup2 (Fact.flds [(false, 1, Fact.rep [] (j10 : Int)), (false, 1, Fact.ow [83, 95] [84, 96] 31 (j11 : List (List UInt8))), (false, 1, Fact.ow [85] [] 4 (j12 : List Bool)), (false, 1, Fact.rep [] (j13 : UInt8)), (false, 1, Fact.rep [] (j14 : Bool)), (false, 1, Fact.rep [] (j15 : UInt32))]) (Fact.rep [] (j16 : Int))), .fact 902006 (Fact.cst (u1 6) (Fact.isv 26)), .fact 100054 (Fact.at 54 (Fact.rep [] ((0 : Int) : Int))), .fact 100055 (Fact.at 55 (Fact.nilv)), .fact 100056 (Fact.at 56 (Fact.nilv)), .fact 100057 (Fact.at 57 (Fact.rep [] ((0 : UInt8) : UInt8))), .fact 100058 (Fact.at 58 (Fact.rep [] (false : Bool))), .fact 100059 (Fact.at 59 (Fact.rep [] ((0 : UInt32) : UInt32))), .fact 100027 (Fact.at 27 (Fact.rep [] ((0 : Int) : Int))), .fact 100028 (Fact.at 28 (Fact.nilv)), .fact 100029 (Fact.at 29 (Fact.nilv)), .fact 100030 (Fact.at 30 (Fact.rep [] ((0 : UInt8) : UInt8))), .fact 100031 (Fact.at 31 (Fact.rep [] (false : Bool))), .fact 100032 (Fact.at 32 (Fact.rep [] ((0 : UInt32) : UInt32))), .fact 100053 (Fact.obj 53 [(false, 1), (false, 1), (false, 1), (false, 1), (false, 1), (false, 1)]), .fact 100026 (Fact.obj 26 [(false, 1), (false, 1), (false, 1), (false, 1), (false, 1), (false, 1)])] _
     refine wo (Spec.ext0 (Has.s rfl)) ?_
     refine wo (Spec.ext1 (Has.s rfl)) ?_
     refine ws (Step.storeObj (ls := [(false, 1, Fact.rep [] (j10 : Int)), (false, 1, Fact.ow [83, 95] [84, 96] 31 (j11 : List (List UInt8))), (false, 1, Fact.ow [85] [] 4 (j12 : List Bool)), (false, 1, Fact.rep [] (j13 : UInt8)), (false, 1, Fact.rep [] (j14 : Bool)), (false, 1, Fact.rep [] (j15 : UInt32))]) rfl ty28 rfl rfl (Has.s rfl) rfl (HasL.flds (Has.s rfl)) rfl) ?_
     refine wo (Spec.assign (Has.s rfl)) ?_
     refine Walk.nil ?_
     refine Leaf.thenN ?_
     refine CWalk.ret ?_
     exact Leaf.in2 (j10, j11, j12, j13, j14, j15, j16) hm rfl rfl (HasR.cv (HasR.obj (ls := [(false, 1, Fact.rep [] (j10 : Int)), (false, 1, Fact.ow [83, 95] [84, 96] 31 (j11 : List (List UInt8))), (false, 1, Fact.ow [85] [] 4 (j12 : List Bool)), (false, 1, Fact.rep [] (j13 : UInt8)), (false, 1, Fact.rep [] (j14 : Bool)), (false, 1, Fact.rep [] (j15 : UInt32))]) ty28 rfl rfl (Has.s rfl) rfl (HasGs.cons (HasG.s rfl) (HasGs.cons (HasG.s rfl) (HasGs.cons (HasG.s rfl) (HasGs.cons (HasG.s rfl) (HasGs.cons (HasG.s rfl) (HasGs.cons (HasG.s rfl) HasGs.nil))))))) (Cv.flds (CvL.cons Cv.fl (CvL.cons (Cv.owM (T := [83, 95]) (te := [84, 96]) rfl rfl) (CvL.cons (Cv.owF (T := [85]) (te := []) rfl) (CvL.cons Cv.fl (CvL.cons Cv.fl (CvL.cons Cv.fl CvL.nil)))))))) (HasR.cv (HasR.tmp (Has.s rfl)) Cv.fl) (ls 902006 (Low.res (lf (lg (lg (lf (lf (lf (lo Low.nil)))))))))
   ·rintro ⟨j3, j4, j5, j6, j7, j8, j9⟩ hm
    replace hm : head_Make_J1 j3 j4 j5 j6 j7 j8 j9 = some r := hm
    unfold head_Make_J1 at hm
    show Walk _ _ _ [.fact 6 (Fact.isv 26), .fact 22 (Fact.tup2 (Fact.flds [(false, 1, Fact.rep [] (j3 : Int)), (false, 1, Fact.ow [83, 95] [84, 96] 31 (j4 : List (List UInt8))), (false, 1, Fact.ow [85] [] 4 (j5 : List Bool)), (false, 1, Fact.rep [] (j6 : UInt8)), (false, 1, Fact.rep [] (j7 : Bool)), (false, 1, Fact.rep [] (j8 : UInt32))]) (Fact.rep [] (j9 : Int))), .fact 100027 (Fact.at 27 (Fact.rep [] ((0 : Int) : Int))), .fact 100028 (Fact.at 28 (Fact.nilv)), .fact 100029 (Fact.at 29 (Fact.nilv)), .fact 100030 (Fact.at 30 (Fact.rep [] ((0 : UInt8) : UInt8))), .fact 100031 (Fact.at 31 (Fact.rep [] (false : Bool))), .fact 100032 (Fact.at 32 (Fact.rep [] ((0 : UInt32) : UInt32))), .fact 100026 (Fact.obj 26 [(false, 1), (false, 1), (false, 1), (false, 1), (false, 1), (false, 1)])] _
    refine wo (Spec.ext0 (Has.s rfl)) ?_
    refine wo (Spec.ext1 (Has.s rfl)) ?_
    refine ws (Step.storeObj (ls := [(false, 1, Fact.rep [] (j3 : Int)), (false, 1, Fact.ow [83, 95] [84, 96] 31 (j4 : List (List UInt8))), (false, 1, Fact.ow [85] [] 4 (j5 : List Bool)), (false, 1, Fact.rep [] (j6 : UInt8)), (false, 1, Fact.rep [] (j7 : Bool)), (false, 1, Fact.rep [] (j8 : UInt32))]) rfl ty28 rfl rfl (Has.s rfl) rfl (HasL.flds (Has.s rfl)) rfl) ?_
    refine wo (Spec.assign (Has.s rfl)) ?_
    refine Walk.nil ?_
    refine Leaf.thenN ?_
    refine CWalk.ret ?_
    obtain rfl := Option.some.inj hm
    exact Leaf.retC2 rfl (HasR.cv (HasR.obj (ls := [(false, 1, Fact.rep [] (j3 : Int)), (false, 1, Fact.ow [83, 95] [84, 96] 31 (j4 : List (List UInt8))), (false, 1, Fact.ow [85] [] 4 (j5 : List Bool)), (false, 1, Fact.rep [] (j6 : UInt8)), (false, 1, Fact.rep [] (j7 : Bool)), (false, 1, Fact.rep [] (j8 : UInt32))]) ty28 rfl rfl (Has.s rfl) rfl (HasGs.cons (HasG.s rfl) (HasGs.cons (HasG.s rfl) (HasGs.cons (HasG.s rfl) (HasGs.cons (HasG.s rfl) (HasGs.cons (HasG.s rfl) (HasGs.cons (HasG.s rfl) HasGs.nil))))))) (Cv.flds (CvL.cons Cv.fl (CvL.cons (Cv.owM (T := [83, 95]) (te := [84, 96]) rfl rfl) (CvL.cons (Cv.owF (T := [85]) (te := []) rfl) (CvL.cons Cv.fl (CvL.cons Cv.fl (CvL.cons Cv.fl CvL.nil)))))))) (HasR.cv (HasR.tmp (Has.s rfl)) Cv.fl)

def head_Deal_J2 (s4 : Int) (j8 : List Int) (j9 : List (List UInt8)) : Option (Ctl (Int × (List Int) × (List (List UInt8))) ((List Int) × (List (List UInt8)))) :=
  some (Ctl.next ((wI (s4 + (1 : Int))), j8, j9))
def head_Deal_L1 (a1 : Head) (s4 : Int) (s5 : List Int) (s6 : List (List UInt8)) : Option (Ctl (Int × (List Int) × (List (List UInt8))) ((List Int) × (List (List UInt8)))) :=
  (bif (decide (s4 < ((a1.Dirty).length : Int))) then Option.bind (idx a1.Dirty s4) (fun x10 => (bif x10 then Option.bind (app s5 ([s4])) (fun x11 => Option.bind (idx a1.Blocks s4) (fun x12 => Option.bind (slices_Clone_byte_byte x12) (fun x13 => Option.bind (app s6 ([x13])) (fun x14 => (head_Deal_J2 s4 x11 x14))))) else (head_Deal_J2 s4 s5 s6))) else some (Ctl.brk (s5, s6)))
/-- freeboard/head.Deal -/
def head_Deal (a0 : Config) (a1 : Head) : Option (Deal × Int) :=
  Option.bind (head_Check a0 a1) (fun x1 => (bif (x1 != (0 : Int)) then some ((Deal.mk (0 : Int) ([] : List Int) ([] : List (List UInt8)) ([] : List UInt8)), x1) else (bif (a1.Phase == (0 : UInt8)) then some ((Deal.mk (0 : Int) ([] : List Int) ([] : List (List UInt8)) ([] : List UInt8)), (6 : Int)) else Option.bind (idx a1.Blocks (wI (a0.Members - (1 : Int)))) (fun x2 => Option.bind (slices_Clone_byte_byte x2) (fun x3 => Option.bind (loopM (fun s : Int × (List Int) × (List (List UInt8)) => head_Deal_L1 a1 s.1 s.2.1 s.2.2) FUEL ((0 : Int), ([] : List Int), ([] : List (List UInt8)))) (fun b15 => some ((Deal.mk a1.Stripe b15.1 b15.2 x3), (0 : Int))))))))
set_option maxRecDepth 100000 in
set_option maxHeartbeats 2000000 in
theorem head_Deal_c (a0 : Config) (a1 : Head) {r : Deal × Int} (hm : head_Deal a0 a1 = some r) : Ctr Try.prog 13 [.rep 0 a0, .rep 0 a1] (.tup2 (.flds [(false, 1, (.fl r.1.Stripe)), (false, 1, (.own 0 none 3 r.1.Slots)), (false, 1, (.own 1 (some 2) 31 r.1.Blocks)), (false, 1, (.own 3 none 5 r.1.Parity))]) (.fl r.2)) [] := by
 refine ctr_of_walk [[37], [40], [38, 39], [30]] 60 Try.func13 rfl rfl rfl rfl (fun w0 om => ?_)
 unfold head_Deal at hm
 refine CWalk.sub (G' := [.fact 0 (Fact.rep [] (a0 : Config)), .fact 1 (Fact.rep [0] (a1 : Head))]) (Sub.cons (Has.fl (Has.s rfl)) (sn Sub.nil)) ?_
 refine CWalk.seq ?_
 refine CWalk.region ?_
 refine ws (Step.boxObj (ls := [(false, 1, Fact.rep [] (a0.Id : UInt32)), (false, 1, Fact.rep [] (a0.Members : Int)), (false, 1, Fact.rep [] (a0.Chunk : Int)), (false, 1, Fact.rep [] (a0.Rows : Int)), (false, 1, Fact.rep [] (a0.Log : Int)), (false, 1, Fact.rep [] (a0.Heads : Int))]) 10 rfl rfl rfl rfl (HasL.flds (Has.cv (Has.s rfl) (Cv.trans (Cv.opens (chConfig a0)) (Cv.flds (CvL.cons Cv.fl (CvL.cons Cv.fl (CvL.cons Cv.fl (CvL.cons Cv.fl (CvL.cons Cv.fl (CvL.cons Cv.fl CvL.nil))))))))))) ?_
 refine ws (Step.boxObj (ls := [(false, 1, Fact.rep [] (a1.Stripe : Int)), (false, 1, Fact.rep [0] (a1.Blocks : List (List UInt8))), (false, 1, Fact.rep [0] (a1.Dirty : List Bool)), (false, 1, Fact.rep [] (a1.Phase : UInt8)), (false, 1, Fact.rep [] (a1.Deals : Bool)), (false, 1, Fact.rep [] (a1.Seq : UInt32))]) 17 rfl rfl rfl rfl (HasL.flds (Has.cv (Has.s rfl) (Cv.trans (Cv.opens (chHead a1)) (Cv.flds (CvL.cons Cv.fl (CvL.cons Cv.refl (CvL.cons Cv.refl (CvL.cons Cv.fl (CvL.cons Cv.fl (CvL.cons Cv.fl CvL.nil))))))))))) ?_
 refine ws (Step.allocObj (ls := [(false, 1, Fact.rep [] ((0 : Int) : Int)), (false, 1, Fact.nilv), (false, 1, Fact.nilv), (false, 1, Fact.nilv)]) 24 rfl rfl rfl rfl zl39) ?_
 refine wo (Spec.assign Has.int) ?_
 refine Walk.nil ?_
 refine Leaf.thenN ?_
 refine CWalk.seq ?_
 refine CWalk.seq ?_
 refine CWalk.region ?_
 refine wo (Spec.loadObj (ls := [(false, 1, Fact.rep [] (a0.Id : UInt32)), (false, 1, Fact.rep [] (a0.Members : Int)), (false, 1, Fact.rep [] (a0.Chunk : Int)), (false, 1, Fact.rep [] (a0.Rows : Int)), (false, 1, Fact.rep [] (a0.Log : Int)), (false, 1, Fact.rep [] (a0.Heads : Int))]) ty24 rfl rfl (Has.s rfl) rfl (HasGs.cons (HasG.s rfl) (HasGs.cons (HasG.s rfl) (HasGs.cons (HasG.s rfl) (HasGs.cons (HasG.s rfl) (HasGs.cons (HasG.s rfl) (HasGs.cons (HasG.s rfl) HasGs.nil))))))) ?_
 refine wo (Spec.loadObj (ls := [(false, 1, Fact.rep [] (a1.Stripe : Int)), (false, 1, Fact.rep [0] (a1.Blocks : List (List UInt8))), (false, 1, Fact.rep [0] (a1.Dirty : List Bool)), (false, 1, Fact.rep [] (a1.Phase : UInt8)), (false, 1, Fact.rep [] (a1.Deals : Bool)), (false, 1, Fact.rep [] (a1.Seq : UInt32))]) ty28 rfl rfl (Has.s rfl) rfl (HasGs.cons (HasG.s rfl) (HasGs.cons (HasG.s rfl) (HasGs.cons (HasG.s rfl) (HasGs.cons (HasG.s rfl) (HasGs.cons (HasG.s rfl) (HasGs.cons (HasG.s rfl) HasGs.nil))))))) ?_
 obtain ⟨x1, hx1, hm⟩ := bind_some hm
 refine wo (f := Fact.rep [] (x1 : Int)) (Spec.callE [0] 29 rfl en24 (head_Check_c a0 a1 hx1) (HasAll.cons (Has.fl (Has.cv (Has.s rfl) (Cv.trans (Cv.flds (CvL.cons Cv.fl (CvL.cons Cv.fl (CvL.cons Cv.fl (CvL.cons Cv.fl (CvL.cons Cv.fl (CvL.cons Cv.fl CvL.nil))))))) (Cv.close (T := []) (chConfig a0))))) (HasAll.cons (Has.m (Has.cv (Has.s rfl) (Cv.trans (Cv.flds (CvL.cons Cv.fl (CvL.cons (Cv.m rfl) (CvL.cons (Cv.m rfl) (CvL.cons Cv.fl (CvL.cons Cv.fl (CvL.cons Cv.fl CvL.nil))))))) (Cv.close (T := [0]) (chHead a1)))) rfl) HasAll.nil))) ?_
 refine wo (Spec.assign (Has.s rfl)) ?_
 refine Walk.nil ?_
 refine Leaf.thenN ?_
 refine CWalk.seq ?_
 refine CWalk.region ?_
 refine mv ?_
 refine wo (Spec.neqI (Has.s rfl) Has.int) ?_
 refine Walk.nil ?_
 refine Leaf.thenN ?_
 refine CWalk.cond rfl (fun hb => ?_) (fun hb => ?_)
 ·have hm := cond_t hb hm
  refine CWalk.seq ?_
  refine CWalk.region ?_
  refine wo (Spec.build (us := []) (ls' := [(false, 1, Fact.rep [] ((0 : Int) : Int)), (false, 1, Fact.nilv), (false, 1, Fact.nilv), (false, 1, Fact.nilv)]) bd39 rfl BP.nil) ?_
  refine mv ?_
  refine ws (Step.storeObj (ls := [(false, 1, Fact.rep [] ((0 : Int) : Int)), (false, 1, Fact.nilv), (false, 1, Fact.nilv), (false, 1, Fact.nilv)]) rfl ty39 rfl rfl (Has.s rfl) rfl (HasL.flds (Has.s rfl)) rfl) ?_
  refine wo (Spec.assign (Has.s rfl)) ?_
  refine Walk.nil ?_
  refine Leaf.thenN ?_
  refine CWalk.ret ?_
  refine Leaf.thenR ?_
  obtain rfl := Option.some.inj hm
  exact Leaf.retC2 rfl (HasR.cv (HasR.obj (ls := [(false, 1, Fact.rep [] ((0 : Int) : Int)), (false, 1, Fact.nilv), (false, 1, Fact.nilv), (false, 1, Fact.nilv)]) ty39 rfl rfl (Has.s rfl) rfl (HasGs.cons (HasG.s rfl) (HasGs.cons (HasG.s rfl) (HasGs.cons (HasG.s rfl) (HasGs.cons (HasG.s rfl) HasGs.nil))))) (Cv.flds (CvL.cons Cv.fl (CvL.cons (Cv.trans Cv.nilOw (Cv.owF (T := []) (te := []) rfl)) (CvL.cons (Cv.trans Cv.nilOw (Cv.owM (T := []) (te := []) rfl rfl)) (CvL.cons (Cv.trans Cv.nilOw (Cv.owF (T := []) (te := []) rfl)) CvL.nil)))))) (HasR.cv (HasR.tmp (Has.s rfl)) Cv.fl)
 ·have hm := cond_f hb hm
  refine CWalk.skip ?_
  refine Leaf.thenN ?_
  refine CWalk.seq ?_
  refine CWalk.seq ?_
  refine CWalk.region ?_
  refine wo (Spec.fieldAddrO fd28_3 (Has.cv (Has.s rfl) (Cv.isvP rfl))) ?_
  refine wo (Spec.loadF (i := 3) ty5 rfl (Has.s rfl) rfl (HasG.s rfl)) ?_
  refine wo (Spec.eqlB (Has.s rfl) (Has.u8 0 rfl)) ?_
  refine Walk.nil ?_
  refine Leaf.thenN ?_
  refine CWalk.cond rfl (fun hb => ?_) (fun hb => ?_)
  ·have hm := cond_t hb hm
   refine CWalk.seq ?_
   refine CWalk.region ?_
   refine wo (Spec.build (us := []) (ls' := [(false, 1, Fact.rep [] ((0 : Int) : Int)), (false, 1, Fact.nilv), (false, 1, Fact.nilv), (false, 1, Fact.nilv)]) bd39 rfl BP.nil) ?_
   refine ws (Step.storeObj (ls := [(false, 1, Fact.rep [] ((0 : Int) : Int)), (false, 1, Fact.nilv), (false, 1, Fact.nilv), (false, 1, Fact.nilv)]) rfl ty39 rfl rfl (Has.s rfl) rfl (HasL.flds (Has.s rfl)) rfl) ?_
   refine wo (Spec.assign Has.int) ?_
   refine Walk.nil ?_
   refine Leaf.thenN ?_
   refine CWalk.ret ?_
   refine Leaf.thenR ?_
   obtain rfl := Option.some.inj hm
   exact Leaf.retC2 rfl (HasR.cv (HasR.obj (ls := [(false, 1, Fact.rep [] ((0 : Int) : Int)), (false, 1, Fact.nilv), (false, 1, Fact.nilv), (false, 1, Fact.nilv)]) ty39 rfl rfl (Has.s rfl) rfl (HasGs.cons (HasG.s rfl) (HasGs.cons (HasG.s rfl) (HasGs.cons (HasG.s rfl) (HasGs.cons (HasG.s rfl) HasGs.nil))))) (Cv.flds (CvL.cons Cv.fl (CvL.cons (Cv.trans Cv.nilOw (Cv.owF (T := []) (te := []) rfl)) (CvL.cons (Cv.trans Cv.nilOw (Cv.owM (T := []) (te := []) rfl rfl)) (CvL.cons (Cv.trans Cv.nilOw (Cv.owF (T := []) (te := []) rfl)) CvL.nil)))))) (HasR.cv (HasR.tmp (Has.s rfl)) Cv.fl)
  ·have hm := cond_f hb hm
   refine CWalk.skip ?_
   refine Leaf.thenN ?_
   refine CWalk.seq ?_
   obtain ⟨x2, hx2, hm⟩ := bind_some hm
   obtain ⟨x3, hx3, hm⟩ := bind_some hm
   refine CWalk.drawM [[], [0], [], [2], [], [4], [4, 5], [2, 3, 4, 5, 6], [2, 3, 4, 5, 6, 7], [2, 3, 4, 5, 6, 7, 8], [0, 1, 2, 3, 4, 5, 6, 7, 8, 9], [], [0, 1, 2, 3, 4, 5, 6, 7, 8, 9, 10, 11]] [[.fact 21 (Fact.pto 17 0)], [.fact 22 (Fact.rep [] (a1.Stripe : Int))], [.fact 23 (Fact.pto 17 1)], [.fact 24 (Fact.rep [0] (a1.Blocks : List (List UInt8)))], [.fact 25 (Fact.pto 10 1)], [.fact 26 (Fact.rep [] (a0.Members : Int))], [.fact 27 (Fact.rep [] ((wI (a0.Members - (1 : Int))) : Int))], [.fact 28 (Fact.ptr [0] (x2 : List UInt8))], [.fact 29 (Fact.rep [0] (x2 : List UInt8))], [.fact 30 (Fact.ow [30] [] 5 (x3 : List UInt8))], [.fact 31 (Fact.flds [(false, 1, Fact.rep [] (a1.Stripe : Int)), (false, 1, Fact.nilv), (false, 1, Fact.nilv), (false, 1, Fact.ow [30] [] 5 (x3 : List UInt8))])], [.fact 7 (.isv 31), .fact 100031 (Fact.obj 31 [(false, 1), (false, 1), (false, 1), (false, 1)]), .fact 100032 (Fact.at 32 (Fact.rep [] ((0 : Int) : Int))), .fact 100033 (Fact.at 33 (Fact.nilv)), .fact 100034 (Fact.at 34 (Fact.nilv)), .fact 100035 (Fact.at 35 (Fact.nilv)), .killId 31, .killId 32, .killId 33, .killId 34, .killId 35], [.fact 100031 (Fact.obj 31 [(false, 1), (false, 1), (false, 1), (false, 1)]), .fact 100032 (Fact.at 32 (Fact.rep [] (a1.Stripe : Int))), .fact 100033 (Fact.at 33 (Fact.nilv)), .fact 100034 (Fact.at 34 (Fact.nilv)), .fact 100035 (Fact.at 35 (Fact.ow [30] [] 5 (x3 : List UInt8))), .kill 31, .killId 32, .killId 33, .killId 34, .killId 35]] mixed (by kernel_rfl) (ao (so (Spec.fieldAddrO fd28_0 (Has.cv (Has.s rfl) (Cv.isvP rfl)))) (ao (so (Spec.loadF (i := 0) ty3 rfl (Has.s rfl) rfl (HasG.s rfl))) (ao (so (Spec.fieldAddrO fd28_1 (Has.cv (Has.s rfl) (Cv.isvP rfl)))) (ao (so (Spec.loadF (i := 1) ty25 rfl (Has.s rfl) rfl (HasG.s rfl))) (ao (so (Spec.fieldAddrO fd24_1 (Has.cv (Has.s rfl) (Cv.isvP rfl)))) (ao (so (Spec.loadF (i := 1) ty3 rfl (Has.s rfl) rfl (HasG.s rfl))) (ao (so (Spec.subI (Has.s rfl) Has.int)) (ao (so (Spec.indexAddr hx2 sl25 (Has.s rfl) (Has.s rfl))) (ao (so (Spec.load ty31 (Has.s rfl))) (ao (so (Spec.callE [0] 30 rfl en44 (slices_Clone_byte_byte_c x2 hx3) (HasAll.cons (Has.m (Has.s rfl) rfl) HasAll.nil))) (ao (so (Spec.build (us := [(0, .tmp 22), (3, .tmp 30)]) (ls' := [(false, 1, Fact.rep [] (a1.Stripe : Int)), (false, 1, Fact.nilv), (false, 1, Fact.nilv), (false, 1, Fact.ow [30] [] 5 (x3 : List UInt8))]) bd39 rfl (BP.cons rfl rfl (Has.s rfl) (Has.s rfl) (BP.cons rfl rfl (Has.cv (Has.s rfl) (Cv.trans Cv.owSl (Cv.slRep (T' := [30]) rfl rfl))) (Has.s rfl) BP.nil)))) (ao (StepG.stE (Step.allocObj (ls := [(false, 1, Fact.rep [] ((0 : Int) : Int)), (false, 1, Fact.nilv), (false, 1, Fact.nilv), (false, 1, Fact.nilv)]) 31 rfl rfl rfl rfl zl39)) (ao (StepG.stE (Step.storeObj (ls := [(false, 1, Fact.rep [] (a1.Stripe : Int)), (false, 1, Fact.nilv), (false, 1, Fact.nilv), (false, 1, Fact.ow [30] [] 5 (x3 : List UInt8))]) rfl ty39 rfl rfl (Has.s rfl) rfl (HasL.flds (Has.s rfl)) rfl)) AllM.nil))))))))))))) ?_
   refine Leaf.thenN ?_
   refine CWalk.seq ?_
   refine CWalk.seq ?_
   refine CWalk.region ?_
   refine wo (Spec.fieldAddrO fd28_2 (Has.cv (Has.s rfl) (Cv.isvP rfl))) ?_
   refine wo (Spec.loadF (i := 2) ty26 rfl (Has.s rfl) rfl (HasG.s rfl)) ?_
   refine wo (Spec.len (Has.s rfl) Try.underlying26) ?_
   refine wo (Spec.move Has.int) ?_
   refine Walk.nil ?_
   refine Leaf.thenN ?_
   refine CWalk.block ?_
   obtain ⟨b15, hb15, hm⟩ := bind_some hm
   refine CWalk.loop (fun s : Int × (List Int) × (List (List UInt8)) => [.fact 3 (Fact.isv 17), .fact 4 (Fact.isv 24), .fact 7 (Fact.isv 31), .fact 33 (Fact.rep [0] (a1.Dirty : List Bool)), .fact 34 (Fact.rep [] (((a1.Dirty).length : Int) : Int)), .fact 35 (Fact.rep [] (s.1 : Int)), .fact 100018 (Fact.at 18 (Fact.rep [] (a1.Stripe : Int))), .fact 100019 (Fact.at 19 (Fact.rep [0] (a1.Blocks : List (List UInt8)))), .fact 100020 (Fact.at 20 (Fact.rep [0] (a1.Dirty : List Bool))), .fact 100021 (Fact.at 21 (Fact.rep [] (a1.Phase : UInt8))), .fact 100022 (Fact.at 22 (Fact.rep [] (a1.Deals : Bool))), .fact 100023 (Fact.at 23 (Fact.rep [] (a1.Seq : UInt32))), .fact 100025 (Fact.at 25 (Fact.rep [] ((0 : Int) : Int))), .fact 100026 (Fact.at 26 (Fact.nilv)), .fact 100027 (Fact.at 27 (Fact.nilv)), .fact 100028 (Fact.at 28 (Fact.nilv)), .fact 100032 (Fact.at 32 (Fact.rep [] (a1.Stripe : Int))), .fact 100033 (Fact.at 33 (Fact.ow [37] [] 3 (s.2.1 : List Int))), .fact 100034 (Fact.at 34 (Fact.ow [40] [38, 39] 31 (s.2.2 : List (List UInt8)))), .fact 100035 (Fact.at 35 (Fact.ow [30] [] 5 (x3 : List UInt8))), .fact 100017 (Fact.obj 17 [(false, 1), (false, 1), (false, 1), (false, 1), (false, 1), (false, 1)]), .fact 100024 (Fact.obj 24 [(false, 1), (false, 1), (false, 1), (false, 1)]), .fact 100031 (Fact.obj 31 [(false, 1), (false, 1), (false, 1), (false, 1)])]) (fun b : (List Int) × (List (List UInt8)) => (Exit.exit 0, [.fact 4 (Fact.isv 24), .fact 7 (Fact.isv 31), .fact 100025 (Fact.at 25 (Fact.rep [] ((0 : Int) : Int))), .fact 100026 (Fact.at 26 (Fact.nilv)), .fact 100027 (Fact.at 27 (Fact.nilv)), .fact 100028 (Fact.at 28 (Fact.nilv)), .fact 100032 (Fact.at 32 (Fact.rep [] (a1.Stripe : Int))), .fact 100033 (Fact.at 33 (Fact.ow [37] [] 3 (b.1 : List Int))), .fact 100034 (Fact.at 34 (Fact.ow [40] [38, 39] 31 (b.2 : List (List UInt8)))), .fact 100035 (Fact.at 35 (Fact.ow [30] [] 5 (x3 : List UInt8))), .fact 100024 (Fact.obj 24 [(false, 1), (false, 1), (false, 1), (false, 1)]), .fact 100031 (Fact.obj 31 [(false, 1), (false, 1), (false, 1), (false, 1)])])) hb15 (sn (sn (sn (su (st (st (sf (sm (sm (sf (sf (sf (sf (sg (sg (sg (sf (Sub.cons (Has.at (HasG.cv (HasG.s rfl) (Cv.trans Cv.nilOw (Cv.owF (T := []) (te := []) rfl)))) (Sub.cons (Has.at (HasG.cv (HasG.s rfl) (Cv.trans Cv.nilOw (Cv.owM (T := []) (te := []) rfl rfl)))) (Sub.cons (Has.at (HasG.cv (HasG.s rfl) (Cv.owF (T := [30]) (te := []) rfl))) (sn (sn (sn Sub.nil))))))))))))))))))))))) ?_ ?_
   ·rintro ⟨s4, s5, s6⟩ c7 hm
    replace hm : head_Deal_L1 a1 s4 s5 s6 = some c7 := hm
    unfold head_Deal_L1 at hm
    show CWalk _ [.fact 3 (Fact.isv 17), .fact 4 (Fact.isv 24), .fact 7 (Fact.isv 31), .fact 33 (Fact.rep [0] (a1.Dirty : List Bool)), .fact 34 (Fact.rep [] (((a1.Dirty).length : Int) : Int)), .fact 35 (Fact.rep [] (s4 : Int)), .fact 100018 (Fact.at 18 (Fact.rep [] (a1.Stripe : Int))), .fact 100019 (Fact.at 19 (Fact.rep [0] (a1.Blocks : List (List UInt8)))), .fact 100020 (Fact.at 20 (Fact.rep [0] (a1.Dirty : List Bool))), .fact 100021 (Fact.at 21 (Fact.rep [] (a1.Phase : UInt8))), .fact 100022 (Fact.at 22 (Fact.rep [] (a1.Deals : Bool))), .fact 100023 (Fact.at 23 (Fact.rep [] (a1.Seq : UInt32))), .fact 100025 (Fact.at 25 (Fact.rep [] ((0 : Int) : Int))), .fact 100026 (Fact.at 26 (Fact.nilv)), .fact 100027 (Fact.at 27 (Fact.nilv)), .fact 100028 (Fact.at 28 (Fact.nilv)), .fact 100032 (Fact.at 32 (Fact.rep [] (a1.Stripe : Int))), .fact 100033 (Fact.at 33 (Fact.ow [37] [] 3 (s5 : List Int))), .fact 100034 (Fact.at 34 (Fact.ow [40] [38, 39] 31 (s6 : List (List UInt8)))), .fact 100035 (Fact.at 35 (Fact.ow [30] [] 5 (x3 : List UInt8))), .fact 100017 (Fact.obj 17 [(false, 1), (false, 1), (false, 1), (false, 1), (false, 1), (false, 1)]), .fact 100024 (Fact.obj 24 [(false, 1), (false, 1), (false, 1), (false, 1)]), .fact 100031 (Fact.obj 31 [(false, 1), (false, 1), (false, 1), (false, 1)])] _ _
    refine CWalk.seq ?_
    refine CWalk.region ?_
    refine wo (Spec.lssI (Has.s rfl) (Has.s rfl)) ?_
    refine Walk.nil ?_
    refine Leaf.thenN ?_
    refine CWalk.seq ?_
    refine CWalk.cond rfl (fun hb => ?_) (fun hb => ?_)
    ·have hm := cond_t hb hm
     refine CWalk.skip ?_
     refine Leaf.thenN ?_
     refine CWalk.seqJ (fun p : (List Int) × (List (List UInt8)) => [.fact 3 (Fact.isv 17), .fact 4 (Fact.isv 24), .fact 7 (Fact.isv 31), .fact 33 (Fact.rep [0] (a1.Dirty : List Bool)), .fact 34 (Fact.rep [] (((a1.Dirty).length : Int) : Int)), .fact 35 (Fact.rep [] (s4 : Int)), .fact 100018 (Fact.at 18 (Fact.rep [] (a1.Stripe : Int))), .fact 100019 (Fact.at 19 (Fact.rep [0] (a1.Blocks : List (List UInt8)))), .fact 100020 (Fact.at 20 (Fact.rep [0] (a1.Dirty : List Bool))), .fact 100021 (Fact.at 21 (Fact.rep [] (a1.Phase : UInt8))), .fact 100022 (Fact.at 22 (Fact.rep [] (a1.Deals : Bool))), .fact 100023 (Fact.at 23 (Fact.rep [] (a1.Seq : UInt32))), .fact 100025 (Fact.at 25 (Fact.rep [] ((0 : Int) : Int))), .fact 100026 (Fact.at 26 (Fact.nilv)), .fact 100027 (Fact.at 27 (Fact.nilv)), .fact 100028 (Fact.at 28 (Fact.nilv)), .fact 100032 (Fact.at 32 (Fact.rep [] (a1.Stripe : Int))), .fact 100033 (Fact.at 33 (Fact.ow [37] [] 3 (p.1 : List Int))), .fact 100034 (Fact.at 34 (Fact.ow [40] [38, 39] 31 (p.2 : List (List UInt8)))), .fact 100035 (Fact.at 35 (Fact.ow [30] [] 5 (x3 : List UInt8))), .fact 100017 (Fact.obj 17 [(false, 1), (false, 1), (false, 1), (false, 1), (false, 1), (false, 1)]), .fact 100024 (Fact.obj 24 [(false, 1), (false, 1), (false, 1), (false, 1)]), .fact 100031 (Fact.obj 31 [(false, 1), (false, 1), (false, 1), (false, 1)])]) (fun p : (List Int) × (List (List UInt8)) => head_Deal_J2 s4 p.1 p.2 = some c7) ?_ ?_
     ·rintro ⟨j8, j9⟩ hm
      replace hm : head_Deal_J2 s4 j8 j9 = some c7 := hm
      unfold head_Deal_J2 at hm
      show CWalk _ [.fact 3 (Fact.isv 17), .fact 4 (Fact.isv 24), .fact 7 (Fact.isv 31), .fact 33 (Fact.rep [0] (a1.Dirty : List Bool)), .fact 34 (Fact.rep [] (((a1.Dirty).length : Int) : Int)), .fact 35 (Fact.rep [] (s4 : Int)), .fact 100018 (Fact.at 18 (Fact.rep [] (a1.Stripe : Int))), .fact 100019 (Fact.at 19 (Fact.rep [0] (a1.Blocks : List (List UInt8)))), .fact 100020 (Fact.at 20 (Fact.rep [0] (a1.Dirty : List Bool))), .fact 100021 (Fact.at 21 (Fact.rep [] (a1.Phase : UInt8))), .fact 100022 (Fact.at 22 (Fact.rep [] (a1.Deals : Bool))), .fact 100023 (Fact.at 23 (Fact.rep [] (a1.Seq : UInt32))), .fact 100025 (Fact.at 25 (Fact.rep [] ((0 : Int) : Int))), .fact 100026 (Fact.at 26 (Fact.nilv)), .fact 100027 (Fact.at 27 (Fact.nilv)), .fact 100028 (Fact.at 28 (Fact.nilv)), .fact 100032 (Fact.at 32 (Fact.rep [] (a1.Stripe : Int))), .fact 100033 (Fact.at 33 (Fact.ow [37] [] 3 (j8 : List Int))), .fact 100034 (Fact.at 34 (Fact.ow [40] [38, 39] 31 (j9 : List (List UInt8)))), .fact 100035 (Fact.at 35 (Fact.ow [30] [] 5 (x3 : List UInt8))), .fact 100017 (Fact.obj 17 [(false, 1), (false, 1), (false, 1), (false, 1), (false, 1), (false, 1)]), .fact 100024 (Fact.obj 24 [(false, 1), (false, 1), (false, 1), (false, 1)]), .fact 100031 (Fact.obj 31 [(false, 1), (false, 1), (false, 1), (false, 1)])] _ _
      refine CWalk.region ?_
      refine wo (Spec.addI (Has.s rfl) Has.int) ?_
      refine mv ?_
      refine Walk.nil ?_
      exact Leaf.next hm (sn (sn (sn (su (st (st (sf (sm (sm (sf (sf (sf (sf (sg (sg (sg (sf (Sub.cons (Has.at (HasG.cv (HasG.s rfl) (Cv.owF (T := [37]) (te := []) rfl))) (Sub.cons (Has.at (HasG.cv (HasG.s rfl) (Cv.owM (T := [40]) (te := [38, 39]) rfl rfl))) (Sub.cons (Has.at (HasG.cv (HasG.s rfl) (Cv.owF (T := [30]) (te := []) rfl))) (sn (sn (sn Sub.nil)))))))))))))))))))))))
     ·refine CWalk.block ?_
      refine CWalk.seq ?_
      refine CWalk.region ?_
      refine mv ?_
      obtain ⟨x10, hx10, hm⟩ := bind_some hm
      refine wo (Spec.indexAddr hx10 sl26 (Has.s rfl) (Has.s rfl)) ?_
      refine wo ((Spec.load ty4 (Has.s rfl)).flat (T' := [])) ?_
      refine wo (Spec.assign (Has.s rfl)) ?_
      refine wo (Spec.assign (Has.s rfl)) ?_
      refine Walk.nil ?_
      refine Leaf.thenN ?_
      refine CWalk.seq ?_
      refine CWalk.region ?_
      refine mv ?_
      refine Walk.nil ?_
      refine Leaf.thenN ?_
      refine CWalk.cond rfl (fun hb => ?_) (fun hb => ?_)
      ·have hm := cond_t hb hm
       obtain ⟨x11, hx11, hm⟩ := bind_some hm
       obtain ⟨x12, hx12, hm⟩ := bind_some hm
       obtain ⟨x13, hx13, hm⟩ := bind_some hm
       obtain ⟨x14, hx14, hm⟩ := bind_some hm
       refine CWalk.drawM [[], [0], [], [2], [0, 1, 2, 3], [], [5], [], [7], [], [7, 8, 9], [7, 8, 9, 10], [0, 1, 2, 3, 4, 7, 8, 9, 10, 11], [0, 1, 2, 3, 4, 7, 8, 9, 10, 11, 12], [0, 1, 2, 3, 4, 5, 6, 7, 8, 9, 10, 11, 12, 13], [0, 1, 2, 3, 4, 5, 6], [0, 1, 2, 3, 4, 5, 6, 7, 8, 9, 10, 11, 12, 13, 14, 15], [0, 1, 2, 3, 4, 5, 6, 7, 8, 9, 10, 11, 12, 13, 14, 15, 16], [0, 1, 2, 3, 4, 5, 6, 7, 8, 9, 10, 11, 12, 13, 14, 15, 16, 17]] [[.fact 41 (Fact.pto 31 1)], [.fact 42 (Fact.ow [37] [] 3 (s5 : List Int))], [.fact 43 (Fact.rep [] (s4 : Int))], [.fact 44 (Fact.rep [36] ([s4] : List Int))], [.fact 45 (Fact.ow [37] [] 3 (x11 : List Int)), .kill 37], [.fact 46 (Fact.pto 31 2)], [.fact 47 (Fact.ow [40] [38, 39] 31 (s6 : List (List UInt8)))], [.fact 48 (Fact.pto 17 1)], [.fact 49 (Fact.rep [0] (a1.Blocks : List (List UInt8)))], [.fact 50 (Fact.rep [] (s4 : Int))], [.fact 51 (Fact.ptr [0] (x12 : List UInt8))], [.fact 52 (Fact.rep [0] (x12 : List UInt8))], [.fact 53 (Fact.ow [38] [] 5 (x13 : List UInt8))], [.fact 54 (Fact.rep [39, 38] ([x13] : List (List UInt8)))], [.fact 55 (Fact.ow [40] [38, 39] 31 (x14 : List (List UInt8))), .kill 40], [.fact 56 (Fact.pto 31 1)], [.fact 100033 (Fact.at 33 (Fact.ow [37] [] 3 (x11 : List Int))), .fact 100031 (Fact.obj 31 [(false, 1), (false, 1), (false, 1), (false, 1)]), .kill 31, .killId 33], [.fact 57 (Fact.pto 31 2)], [.fact 100034 (Fact.at 34 (Fact.ow [40] [38, 39] 31 (x14 : List (List UInt8)))), .fact 100031 (Fact.obj 31 [(false, 1), (false, 1), (false, 1), (false, 1)]), .kill 31, .killId 34]] mixed (by kernel_rfl) (ao (so (Spec.fieldAddrO fd39_1 (Has.cv (Has.s rfl) (Cv.isvP rfl)))) (ao (so (Spec.loadF (i := 1) ty37 rfl (Has.s rfl) rfl (HasG.s rfl))) (ao (so (Spec.move (Has.s rfl))) (ao (so (Spec.lit (xs := [.tmp 43]) (T := []) 36 rfl ow37 rfl rfl rfl rfl (HasEach.cons (Has.fl (Has.s rfl)) HasEach.nil))) (ao (StepG.stE (Step.appendOw (T := [37]) (te' := []) hx11 rfl rfl rfl ow37 (Has.s rfl) (Has.s rfl) ElKeeps.flat ElKeeps.flat)) (ao (so (Spec.fieldAddrO fd39_2 (Has.cv (Has.s rfl) (Cv.isvP rfl)))) (ao (so (Spec.loadF (i := 2) ty25 rfl (Has.s rfl) rfl (HasG.s rfl))) (ao (so (Spec.fieldAddrO fd28_1 (Has.cv (Has.s rfl) (Cv.isvP rfl)))) (ao (so (Spec.loadF (i := 1) ty25 rfl (Has.s rfl) rfl (HasG.s rfl))) (ao (so (Spec.move (Has.s rfl))) (ao (so (Spec.indexAddr hx12 sl25 (Has.s rfl) (Has.s rfl))) (ao (so (Spec.load ty31 (Has.s rfl))) (ao (so (Spec.callE [0] 38 rfl en44 (slices_Clone_byte_byte_c x12 hx13) (HasAll.cons (Has.m (Has.s rfl) rfl) HasAll.nil))) (ao (so (Spec.lit (xs := [.tmp 53]) (T := [38]) 39 rfl ow25 rfl rfl rfl rfl (HasEach.cons (Has.m (Has.cv (Has.s rfl) (Cv.trans Cv.owSl (Cv.slRep (T' := [38]) rfl rfl))) rfl) HasEach.nil))) (ao (StepG.stE (Step.appendOw (T := [40]) (te' := [38, 39]) hx14 rfl rfl rfl ow25 (Has.s rfl) (Has.s rfl) (ElKeeps.tags rfl rfl) (ElKeeps.tags rfl rfl))) (ao (so (Spec.fieldAddrO fd39_1 (Has.cv (Has.s rfl) (Cv.isvP rfl)))) (ao (StepG.stE (Step.storeF (i := 1) (f := Fact.ow [37] [] 3 (x11 : List Int)) rfl ty37 rfl (Has.s rfl) rfl (Has.cv (Has.s rfl) (Cv.trans Cv.owSl (Cv.slRep (T' := [37]) rfl rfl))) (Has.s rfl) rfl)) (ao (so (Spec.fieldAddrO fd39_2 (Has.cv (Has.s rfl) (Cv.isvP rfl)))) (ao (StepG.stE (Step.storeF (i := 2) (f := Fact.ow [40] [38, 39] 31 (x14 : List (List UInt8))) rfl ty25 rfl (Has.s rfl) rfl (Has.cv (Has.s rfl) (Cv.trans Cv.owSl (Cv.slRep (T' := [38, 39, 40]) rfl rfl))) (Has.s rfl) rfl)) AllM.nil))))))))))))))))))) ?_
       refine Leaf.blockN ?_
       exact Leaf.join (x11, x14) hm (sn (sn (sn (su (st (st (sf (sm (sm (sf (sf (sf (sf (sg (sg (sg (sf (Sub.cons (Has.at (HasG.cv (HasG.s rfl) (Cv.owF (T := [37]) (te := []) rfl))) (Sub.cons (Has.at (HasG.cv (HasG.s rfl) (Cv.owM (T := [40]) (te := [38, 39]) rfl rfl))) (Sub.cons (Has.at (HasG.cv (HasG.s rfl) (Cv.owF (T := [30]) (te := []) rfl))) (sn (sn (sn Sub.nil)))))))))))))))))))))))
      ·have hm := cond_f hb hm
       refine CWalk.skip ?_
       refine Leaf.blockN ?_
       exact Leaf.join (s5, s6) hm (sn (sn (sn (su (st (st (sf (sm (sm (sf (sf (sf (sf (sg (sg (sg (sf (Sub.cons (Has.at (HasG.cv (HasG.s rfl) (Cv.owF (T := [37]) (te := []) rfl))) (Sub.cons (Has.at (HasG.cv (HasG.s rfl) (Cv.owM (T := [40]) (te := [38, 39]) rfl rfl))) (Sub.cons (Has.at (HasG.cv (HasG.s rfl) (Cv.owF (T := [30]) (te := []) rfl))) (sn (sn (sn Sub.nil)))))))))))))))))))))))
    ·have hm := cond_f hb hm
     refine CWalk.exit ?_
     refine Leaf.thenE ?_
     exact Leaf.brk hm (fun h => nomatch h) rfl (sn (sn (sf (sg (sg (sg (sf (Sub.cons (Has.at (HasG.cv (HasG.s rfl) (Cv.owF (T := [37]) (te := []) rfl))) (Sub.cons (Has.at (HasG.cv (HasG.s rfl) (Cv.owM (T := [40]) (te := [38, 39]) rfl rfl))) (Sub.cons (Has.at (HasG.cv (HasG.s rfl) (Cv.owF (T := [30]) (te := []) rfl))) (sn (sn Sub.nil))))))))))))
   ·intro _
    refine Leaf.blockE ?_
    refine Leaf.thenN ?_
    refine CWalk.seq ?_
    refine CWalk.region ?_
    refine wo (Spec.loadObj (ls := [(false, 1, Fact.rep [] (a1.Stripe : Int)), (false, 1, Fact.ow [37] [] 3 (b15.1 : List Int)), (false, 1, Fact.ow [40] [38, 39] 31 (b15.2 : List (List UInt8))), (false, 1, Fact.ow [30] [] 5 (x3 : List UInt8))]) ty39 rfl rfl (Has.s rfl) rfl (HasGs.cons (HasG.s rfl) (HasGs.cons (HasG.s rfl) (HasGs.cons (HasG.s rfl) (HasGs.cons (HasG.s rfl) HasGs.nil))))) ?_
    refine ws (Step.storeObj (ls := [(false, 1, Fact.rep [] (a1.Stripe : Int)), (false, 1, Fact.ow [37] [] 3 (b15.1 : List Int)), (false, 1, Fact.ow [40] [38, 39] 31 (b15.2 : List (List UInt8))), (false, 1, Fact.ow [30] [] 5 (x3 : List UInt8))]) rfl ty39 rfl rfl (Has.s rfl) rfl (HasL.flds (Has.s rfl)) rfl) ?_
    refine wo (Spec.assign Has.int) ?_
    refine Walk.nil ?_
    refine Leaf.thenN ?_
    refine CWalk.ret ?_
    obtain rfl := Option.some.inj hm
    exact Leaf.retC2 rfl (HasR.cv (HasR.obj (ls := [(false, 1, Fact.rep [] (a1.Stripe : Int)), (false, 1, Fact.ow [37] [] 3 (b15.1 : List Int)), (false, 1, Fact.ow [40] [38, 39] 31 (b15.2 : List (List UInt8))), (false, 1, Fact.ow [30] [] 5 (x3 : List UInt8))]) ty39 rfl rfl (Has.s rfl) rfl (HasGs.cons (HasG.s rfl) (HasGs.cons (HasG.s rfl) (HasGs.cons (HasG.s rfl) (HasGs.cons (HasG.s rfl) HasGs.nil))))) (Cv.flds (CvL.cons Cv.fl (CvL.cons (Cv.owF (T := [37]) (te := []) rfl) (CvL.cons (Cv.owM (T := [40]) (te := [38, 39]) rfl rfl) (CvL.cons (Cv.owF (T := [30]) (te := []) rfl) CvL.nil)))))) (HasR.cv (HasR.tmp (Has.s rfl)) Cv.fl)

end Go.Proofs.Ytjefieckineneaa
