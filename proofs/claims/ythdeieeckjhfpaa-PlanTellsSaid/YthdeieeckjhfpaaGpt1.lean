/- Printed by a program of ours: models of functions, and that calls do what they say. -/
import Derived.Test.YthdeieeckjhfpaaProg
import Derived.Test.YthdeieeckjhfpaaCore35
import Derived.KernelRfl
namespace Go.Proofs.Ythdeieeckjhfpaa
open Go GL
set_option linter.unusedVariables false

structure Config where
  Id : UInt32
  Members : Int
  Chunk : Int
  Rows : Int
  Log : Int
  Heads : Int
  deriving Inhabited, DecidableEq
instance : Rp Config := Rp.via (inferInstance : Rp (UInt32 × Int × Int × Int × Int × Int)) (fun x => (x.Id, x.Members, x.Chunk, x.Rows, x.Log, x.Heads))
theorem chConfig (x : Config) : Ch x [⟨inferInstance, x.Id⟩, ⟨inferInstance, x.Members⟩, ⟨inferInstance, x.Chunk⟩, ⟨inferInstance, x.Rows⟩, ⟨inferInstance, x.Log⟩, ⟨inferInstance, x.Heads⟩] := Ch.via (ChT.cons (ChT.cons (ChT.cons (ChT.cons (ChT.cons (ChT.one _))))))
instance : Lo Config := Lo.via (inferInstance : Rp (UInt32 × Int × Int × Int × Int × Int)) inferInstance (fun x : Config => (x.Id, x.Members, x.Chunk, x.Rows, x.Log, x.Heads))
theorem loConfig_0 (x : Config) : LoAt x 0 x.Id := fun F cs w h => (LoAt.fst : LoAt ((x.Id, x.Members, x.Chunk, x.Rows, x.Log, x.Heads)) 0 x.Id) F cs w h
theorem loConfig_1 (x : Config) : LoAt x 1 x.Members := fun F cs w h => ((LoAt.snd LoAt.fst) : LoAt ((x.Id, x.Members, x.Chunk, x.Rows, x.Log, x.Heads)) 1 x.Members) F cs w h
theorem loConfig_2 (x : Config) : LoAt x 2 x.Chunk := fun F cs w h => ((LoAt.snd (LoAt.snd LoAt.fst)) : LoAt ((x.Id, x.Members, x.Chunk, x.Rows, x.Log, x.Heads)) 2 x.Chunk) F cs w h
theorem loConfig_3 (x : Config) : LoAt x 3 x.Rows := fun F cs w h => ((LoAt.snd (LoAt.snd (LoAt.snd LoAt.fst))) : LoAt ((x.Id, x.Members, x.Chunk, x.Rows, x.Log, x.Heads)) 3 x.Rows) F cs w h
theorem loConfig_4 (x : Config) : LoAt x 4 x.Log := fun F cs w h => ((LoAt.snd (LoAt.snd (LoAt.snd (LoAt.snd LoAt.fst)))) : LoAt ((x.Id, x.Members, x.Chunk, x.Rows, x.Log, x.Heads)) 4 x.Log) F cs w h
theorem loConfig_5 (x : Config) : LoAt x 5 x.Heads := fun F cs w h => ((LoAt.snd (LoAt.snd (LoAt.snd (LoAt.snd (LoAt.snd LoAt.self))))) : LoAt ((x.Id, x.Members, x.Chunk, x.Rows, x.Log, x.Heads)) 5 x.Heads) F cs w h
instance : Flat Config := ⟨fun F F' x cs w w' h => Flat.flat (α := UInt32 × Int × Int × Int × Int × Int) F F' ((x.Id, x.Members, x.Chunk, x.Rows, x.Log, x.Heads)) cs w w' h⟩

structure Head where
  Stripe : Int
  Blocks : List (List UInt8)
  Dirty : List Bool
  Phase : UInt8
  Deals : Bool
  Seq : UInt32
  deriving Inhabited, DecidableEq
instance : Rp Head := Rp.via (inferInstance : Rp (Int × (List (List UInt8)) × (List Bool) × UInt8 × Bool × UInt32)) (fun x => (x.Stripe, x.Blocks, x.Dirty, x.Phase, x.Deals, x.Seq))
theorem chHead (x : Head) : Ch x [⟨inferInstance, x.Stripe⟩, ⟨inferInstance, x.Blocks⟩, ⟨inferInstance, x.Dirty⟩, ⟨inferInstance, x.Phase⟩, ⟨inferInstance, x.Deals⟩, ⟨inferInstance, x.Seq⟩] := Ch.via (ChT.cons (ChT.cons (ChT.cons (ChT.cons (ChT.cons (ChT.one _))))))
instance : Lo Head := Lo.via (inferInstance : Rp (Int × (List (List UInt8)) × (List Bool) × UInt8 × Bool × UInt32)) inferInstance (fun x : Head => (x.Stripe, x.Blocks, x.Dirty, x.Phase, x.Deals, x.Seq))
theorem loHead_0 (x : Head) : LoAt x 0 x.Stripe := fun F cs w h => (LoAt.fst : LoAt ((x.Stripe, x.Blocks, x.Dirty, x.Phase, x.Deals, x.Seq)) 0 x.Stripe) F cs w h
theorem loHead_1 (x : Head) : LoAt x 1 x.Blocks := fun F cs w h => ((LoAt.snd LoAt.fst) : LoAt ((x.Stripe, x.Blocks, x.Dirty, x.Phase, x.Deals, x.Seq)) 1 x.Blocks) F cs w h
theorem loHead_2 (x : Head) : LoAt x 2 x.Dirty := fun F cs w h => ((LoAt.snd (LoAt.snd LoAt.fst)) : LoAt ((x.Stripe, x.Blocks, x.Dirty, x.Phase, x.Deals, x.Seq)) 2 x.Dirty) F cs w h
theorem loHead_3 (x : Head) : LoAt x 3 x.Phase := fun F cs w h => ((LoAt.snd (LoAt.snd (LoAt.snd LoAt.fst))) : LoAt ((x.Stripe, x.Blocks, x.Dirty, x.Phase, x.Deals, x.Seq)) 3 x.Phase) F cs w h
theorem loHead_4 (x : Head) : LoAt x 4 x.Deals := fun F cs w h => ((LoAt.snd (LoAt.snd (LoAt.snd (LoAt.snd LoAt.fst)))) : LoAt ((x.Stripe, x.Blocks, x.Dirty, x.Phase, x.Deals, x.Seq)) 4 x.Deals) F cs w h
theorem loHead_5 (x : Head) : LoAt x 5 x.Seq := fun F cs w h => ((LoAt.snd (LoAt.snd (LoAt.snd (LoAt.snd (LoAt.snd LoAt.self))))) : LoAt ((x.Stripe, x.Blocks, x.Dirty, x.Phase, x.Deals, x.Seq)) 5 x.Seq) F cs w h

structure Plan where
  Kind : UInt8
  Reads : List Int
  deriving Inhabited, DecidableEq
instance : Rp Plan := Rp.via (inferInstance : Rp (UInt8 × (List Int))) (fun x => (x.Kind, x.Reads))
theorem chPlan (x : Plan) : Ch x [⟨inferInstance, x.Kind⟩, ⟨inferInstance, x.Reads⟩] := Ch.via (ChT.cons (ChT.one _))
instance : Lo Plan := Lo.via (inferInstance : Rp (UInt8 × (List Int))) inferInstance (fun x : Plan => (x.Kind, x.Reads))
theorem loPlan_0 (x : Plan) : LoAt x 0 x.Kind := fun F cs w h => (LoAt.fst : LoAt ((x.Kind, x.Reads)) 0 x.Kind) F cs w h
theorem loPlan_1 (x : Plan) : LoAt x 1 x.Reads := fun F cs w h => ((LoAt.snd LoAt.self) : LoAt ((x.Kind, x.Reads)) 1 x.Reads) F cs w h

structure Arr3_Int where
  e0 : Int
  e1 : Int
  e2 : Int
  deriving Inhabited, DecidableEq
instance : Rp Arr3_Int := Rp.via (inferInstance : Rp (Int × Int × Int)) (fun x => (x.e0, x.e1, x.e2))
theorem chArr3_Int (x : Arr3_Int) : Ch x [⟨inferInstance, x.e0⟩, ⟨inferInstance, x.e1⟩, ⟨inferInstance, x.e2⟩] := Ch.via (ChT.cons (ChT.cons (ChT.one _)))
instance : Lo Arr3_Int := Lo.via (inferInstance : Rp (Int × Int × Int)) inferInstance (fun x : Arr3_Int => (x.e0, x.e1, x.e2))
theorem loArr3_Int_0 (x : Arr3_Int) : LoAt x 0 x.e0 := fun F cs w h => (LoAt.fst : LoAt ((x.e0, x.e1, x.e2)) 0 x.e0) F cs w h
theorem loArr3_Int_1 (x : Arr3_Int) : LoAt x 1 x.e1 := fun F cs w h => ((LoAt.snd LoAt.fst) : LoAt ((x.e0, x.e1, x.e2)) 1 x.e1) F cs w h
theorem loArr3_Int_2 (x : Arr3_Int) : LoAt x 2 x.e2 := fun F cs w h => ((LoAt.snd (LoAt.snd LoAt.self)) : LoAt ((x.e0, x.e1, x.e2)) 2 x.e2) F cs w h
instance : Flat Arr3_Int := ⟨fun F F' x cs w w' h => Flat.flat (α := Int × Int × Int) F F' ((x.e0, x.e1, x.e2)) cs w w' h⟩

structure Row66 where
  Config : Config
  n : Int
  deriving Inhabited, DecidableEq
instance : Rp Row66 := Rp.via (inferInstance : Rp (Config × Int)) (fun x => (x.Config, x.n))
theorem chRow66 (x : Row66) : Ch x [⟨inferInstance, x.Config⟩, ⟨inferInstance, x.n⟩] := Ch.via (ChT.cons (ChT.one _))
instance : Lo Row66 := Lo.via (inferInstance : Rp (Config × Int)) inferInstance (fun x : Row66 => (x.Config, x.n))
theorem loRow66_0 (x : Row66) : LoAt x 0 x.Config := fun F cs w h => (LoAt.fst : LoAt ((x.Config, x.n)) 0 x.Config) F cs w h
theorem loRow66_1 (x : Row66) : LoAt x 6 x.n := fun F cs w h => ((LoAt.snd LoAt.self) : LoAt ((x.Config, x.n)) 6 x.n) F cs w h
instance : Flat Row66 := ⟨fun F F' x cs w w' h => Flat.flat (α := Config × Int) F F' ((x.Config, x.n)) cs w w' h⟩

theorem ty28 : Ty Try.prog 28 (Head) := Ty.of (by kernel_rfl)
theorem fd28_1 : FieldTy Try.prog 28 1 1 1 := FieldTy.of Try.underlying28 (by kernel_rfl) rfl
theorem ty25 : Ty Try.prog 25 (List (List UInt8)) := Ty.of (by kernel_rfl)
theorem sl25 : SlTy Try.prog 25 46 (List UInt8) := SlTy.of Try.underlying25 (by kernel_rfl) rfl
theorem ty46 : Ty Try.prog 46 (List UInt8) := Ty.of (by kernel_rfl)
theorem fd28_2 : FieldTy Try.prog 28 2 2 1 := FieldTy.of Try.underlying28 (by kernel_rfl) rfl
theorem ty26 : Ty Try.prog 26 (List Bool) := Ty.of (by kernel_rfl)
theorem en7 : enters Try.prog 7 = true := by kernel_rfl
theorem zl28 : ZeroLs Try.prog 28 [(false, 1, Fact.rep [] ((0 : Int) : Int)), (false, 1, Fact.nilv), (false, 1, Fact.nilv), (false, 1, Fact.rep [] ((0 : UInt8) : UInt8)), (false, 1, Fact.rep [] (false : Bool)), (false, 1, Fact.rep [] ((0 : UInt32) : UInt32))] := ⟨⟨[.int .i64 0, .slice none 0 0, .slice none 0 0, .int .u8 0, .bool false, .int .u32 0], by kernel_rfl, fun g w => FldRel.zr (fun _ _ => rfl) (FldRel.zn (FldRel.zn (FldRel.zr (fun _ _ => rfl) (FldRel.zr (fun _ _ => rfl) (FldRel.zr (fun _ _ => rfl) (rfl))))))⟩⟩
theorem ow46 : OwnTy Try.prog 46 5 (UInt8) := OwnTy.of Try.underlying46 (by kernel_rfl) rfl (by kernel_rfl)
theorem ow25 : OwnTy Try.prog 25 46 (List UInt8) := OwnTy.of Try.underlying25 (by kernel_rfl) rfl (by kernel_rfl)
theorem mixed : Try.prog.follows .mixedOrders = true := by kernel_rfl
theorem ow26 : OwnTy Try.prog 26 4 (Bool) := OwnTy.of Try.underlying26 (by kernel_rfl) rfl (by kernel_rfl)
theorem en8 : enters Try.prog 8 = true := by kernel_rfl
theorem ty24 : Ty Try.prog 24 (Config) := Ty.of (by kernel_rfl)
theorem zl33 : ZeroLs Try.prog 33 [(false, 1, Fact.rep [] ((0 : UInt8) : UInt8)), (false, 1, Fact.nilv)] := ⟨⟨[.int .u8 0, .slice none 0 0], by kernel_rfl, fun g w => FldRel.zr (fun _ _ => rfl) (FldRel.zn (rfl))⟩⟩
theorem fd24_2 : FieldTy Try.prog 24 2 2 1 := FieldTy.of Try.underlying24 (by kernel_rfl) rfl
theorem ty3 : Ty Try.prog 3 (Int) := Ty.of (by kernel_rfl)
theorem fd24_3 : FieldTy Try.prog 24 3 3 1 := FieldTy.of Try.underlying24 (by kernel_rfl) rfl
theorem fd24_1 : FieldTy Try.prog 24 1 1 1 := FieldTy.of Try.underlying24 (by kernel_rfl) rfl
theorem bd92 : BuildTyA Try.prog 92 [(0, 1), (1, 1), (2, 1)] [(false, 1, Fact.rep [] ((0 : Int) : Int)), (false, 1, Fact.rep [] ((0 : Int) : Int)), (false, 1, Fact.rep [] ((0 : Int) : Int))] := ⟨⟨_, _, 1, [.int .i64 0, .int .i64 0, .int .i64 0], by kernel_rfl, Try.underlying92, by kernel_rfl, (fun g w => FldRel.zr (fun _ _ => rfl) (FldRel.zr (fun _ _ => rfl) (FldRel.zr (fun _ _ => rfl) (rfl)))), rfl⟩⟩
theorem fd24_5 : FieldTy Try.prog 24 5 5 1 := FieldTy.of Try.underlying24 (by kernel_rfl) rfl
theorem ow93 : OwnTy Try.prog 93 92 (Arr3_Int) := OwnTy.of Try.underlying93 (by kernel_rfl) rfl (by kernel_rfl)
theorem sl93 : SlTy Try.prog 93 92 (Arr3_Int) := SlTy.of Try.underlying93 (by kernel_rfl) rfl
theorem ty92 : Ty Try.prog 92 (Arr3_Int) := Ty.of (by kernel_rfl)
theorem zl92 : ZeroLs Try.prog 92 [(false, 1, Fact.rep [] ((0 : Int) : Int)), (false, 1, Fact.rep [] ((0 : Int) : Int)), (false, 1, Fact.rep [] ((0 : Int) : Int))] := ⟨⟨[.int .i64 0, .int .i64 0, .int .i64 0], by kernel_rfl, fun g w => FldRel.zr (fun _ _ => rfl) (FldRel.zr (fun _ _ => rfl) (FldRel.zr (fun _ _ => rfl) (rfl)))⟩⟩
theorem sm92 : SmTy Try.prog 92 3 3 1 := ⟨Try.underlying92, by kernel_rfl⟩
theorem en64 : enters Try.prog 64 = true := by kernel_rfl
theorem fd24_4 : FieldTy Try.prog 24 4 4 1 := FieldTy.of Try.underlying24 (by kernel_rfl) rfl
theorem en62 : enters Try.prog 62 = true := by kernel_rfl
theorem en49 : enters Try.prog 49 = true := by kernel_rfl
theorem en31 : enters Try.prog 31 = true := by kernel_rfl
theorem fd28_0 : FieldTy Try.prog 28 0 0 1 := FieldTy.of Try.underlying28 (by kernel_rfl) rfl
theorem fd28_3 : FieldTy Try.prog 28 3 3 1 := FieldTy.of Try.underlying28 (by kernel_rfl) rfl
theorem ty5 : Ty Try.prog 5 (UInt8) := Ty.of (by kernel_rfl)
theorem en50 : enters Try.prog 50 = true := by kernel_rfl
theorem en33 : enters Try.prog 33 = true := by kernel_rfl
theorem en32 : enters Try.prog 32 = true := by kernel_rfl
theorem sl26 : SlTy Try.prog 26 4 (Bool) := SlTy.of Try.underlying26 (by kernel_rfl) rfl
theorem ty4 : Ty Try.prog 4 (Bool) := Ty.of (by kernel_rfl)
theorem fd28_5 : FieldTy Try.prog 28 5 5 1 := FieldTy.of Try.underlying28 (by kernel_rfl) rfl
theorem ty22 : Ty Try.prog 22 (UInt32) := Ty.of (by kernel_rfl)
theorem fd28_4 : FieldTy Try.prog 28 4 4 1 := FieldTy.of Try.underlying28 (by kernel_rfl) rfl
theorem en17 : enters Try.prog 17 = true := by kernel_rfl
theorem bd33 : BuildTy Try.prog 33 [(0, 1), (1, 1)] [(false, 1, Fact.rep [] ((0 : UInt8) : UInt8)), (false, 1, Fact.nilv)] := ⟨⟨_, [.int .u8 0, .slice none 0 0], by kernel_rfl, Try.underlying33, (fun g w => FldRel.zr (fun _ _ => rfl) (FldRel.zn (rfl))), by kernel_rfl⟩⟩
theorem ty33 : Ty Try.prog 33 (Plan) := Ty.of (by kernel_rfl)
theorem en36 : enters Try.prog 36 = true := by kernel_rfl
theorem en20 : enters Try.prog 20 = true := by kernel_rfl
theorem fd33_1 : FieldTy Try.prog 33 1 1 1 := FieldTy.of Try.underlying33 (by kernel_rfl) rfl
theorem ty31 : Ty Try.prog 31 (List Int) := Ty.of (by kernel_rfl)
theorem ow31 : OwnTy Try.prog 31 3 (Int) := OwnTy.of Try.underlying31 (by kernel_rfl) rfl (by kernel_rfl)
theorem zl66 : ZeroLs Try.prog 66 [(false, 1, Fact.rep [] ((0 : UInt32) : UInt32)), (false, 1, Fact.rep [] ((0 : Int) : Int)), (false, 1, Fact.rep [] ((0 : Int) : Int)), (false, 1, Fact.rep [] ((0 : Int) : Int)), (false, 1, Fact.rep [] ((0 : Int) : Int)), (false, 1, Fact.rep [] ((0 : Int) : Int)), (false, 1, Fact.rep [] ((0 : Int) : Int))] := ⟨⟨[.int .u32 0, .int .i64 0, .int .i64 0, .int .i64 0, .int .i64 0, .int .i64 0, .int .i64 0], by kernel_rfl, fun g w => FldRel.zr (fun _ _ => rfl) (FldRel.zr (fun _ _ => rfl) (FldRel.zr (fun _ _ => rfl) (FldRel.zr (fun _ _ => rfl) (FldRel.zr (fun _ _ => rfl) (FldRel.zr (fun _ _ => rfl) (FldRel.zr (fun _ _ => rfl) (rfl)))))))⟩⟩
theorem bd66 : BuildTy Try.prog 66 [(0, 6), (6, 1)] [(true, 6, Fact.flds [(false, 1, Fact.rep [] ((0 : UInt32) : UInt32)), (false, 1, Fact.rep [] ((0 : Int) : Int)), (false, 1, Fact.rep [] ((0 : Int) : Int)), (false, 1, Fact.rep [] ((0 : Int) : Int)), (false, 1, Fact.rep [] ((0 : Int) : Int)), (false, 1, Fact.rep [] ((0 : Int) : Int))]), (false, 1, Fact.rep [] ((0 : Int) : Int))] := ⟨⟨_, [.int .u32 0, .int .i64 0, .int .i64 0, .int .i64 0, .int .i64 0, .int .i64 0, .int .i64 0], by kernel_rfl, Try.underlying66, (fun g w => FldRel.zs (c1 := [.int .u32 0, .int .i64 0, .int .i64 0, .int .i64 0, .int .i64 0, .int .i64 0]) (FldRel.zr (fun _ _ => rfl) (FldRel.zr (fun _ _ => rfl) (FldRel.zr (fun _ _ => rfl) (FldRel.zr (fun _ _ => rfl) (FldRel.zr (fun _ _ => rfl) (FldRel.zr (fun _ _ => rfl) (rfl))))))) (FldRel.zr (fun _ _ => rfl) (rfl))), by kernel_rfl⟩⟩
theorem ty66 : Ty Try.prog 66 (Row66) := Ty.of (by kernel_rfl)
theorem en51 : enters Try.prog 51 = true := by kernel_rfl
theorem en34 : enters Try.prog 34 = true := by kernel_rfl
theorem fd66_0 : FieldTy Try.prog 66 0 0 6 := FieldTy.of Try.underlying66 (by kernel_rfl) rfl
theorem fd66_1 : FieldTy Try.prog 66 1 6 1 := FieldTy.of Try.underlying66 (by kernel_rfl) rfl
theorem en52 : enters Try.prog 52 = true := by kernel_rfl
theorem en54 : enters Try.prog 54 = true := by kernel_rfl
theorem en38 : enters Try.prog 38 = true := by kernel_rfl
theorem en23 : enters Try.prog 23 = true := by kernel_rfl
theorem ow52 : OwnTy Try.prog 52 33 (Plan) := OwnTy.of Try.underlying52 (by kernel_rfl) rfl (by kernel_rfl)
theorem sl52 : SlTy Try.prog 52 33 (Plan) := SlTy.of Try.underlying52 (by kernel_rfl) rfl
theorem sl31 : SlTy Try.prog 31 3 (Int) := SlTy.of Try.underlying31 (by kernel_rfl) rfl
theorem en53 : enters Try.prog 53 = true := by kernel_rfl
theorem en37 : enters Try.prog 37 = true := by kernel_rfl
theorem en22 : enters Try.prog 22 = true := by kernel_rfl
theorem en39 : enters Try.prog 39 = true := by kernel_rfl
theorem en25 : enters Try.prog 25 = true := by kernel_rfl
theorem en24 : enters Try.prog 24 = true := by kernel_rfl
theorem en21 : enters Try.prog 21 = true := by kernel_rfl
theorem en9 : enters Try.prog 9 = true := by kernel_rfl
theorem en55 : enters Try.prog 55 = true := by kernel_rfl
theorem en56 : enters Try.prog 56 = true := by kernel_rfl
theorem en40 : enters Try.prog 40 = true := by kernel_rfl
theorem en57 : enters Try.prog 57 = true := by kernel_rfl
theorem en58 : enters Try.prog 58 = true := by kernel_rfl
theorem en18 : enters Try.prog 18 = true := by kernel_rfl
theorem en41 : enters Try.prog 41 = true := by kernel_rfl
theorem en26 : enters Try.prog 26 = true := by kernel_rfl
theorem en42 : enters Try.prog 42 = true := by kernel_rfl
theorem en43 : enters Try.prog 43 = true := by kernel_rfl
theorem en59 : enters Try.prog 59 = true := by kernel_rfl
theorem en44 : enters Try.prog 44 = true := by kernel_rfl
theorem en27 : enters Try.prog 27 = true := by kernel_rfl
theorem en10 : enters Try.prog 10 = true := by kernel_rfl
theorem fd33_0 : FieldTy Try.prog 33 0 0 1 := FieldTy.of Try.underlying33 (by kernel_rfl) rfl
theorem en11 : enters Try.prog 11 = true := by kernel_rfl
theorem en12 : enters Try.prog 12 = true := by kernel_rfl

def ref16_Great_L1 (a0 : Head) (s1 : Int) (s2 : Int) : Option (Ctl (Int × Int) (Int)) :=
  (bif ((decide (s2 < ((a0.Blocks).length : Int))) && (decide (s2 < (100 : Int)))) then Option.bind (idx a0.Blocks s2) (fun x4 => some (Ctl.next ((wI (s1 + (wI ((8 : Int) + (min ((x4).length : Int) (100000 : Int)))))), (wI (s2 + (1 : Int)))))) else some (Ctl.brk s1))
/-- freeboard/freeboardref16.Great -/
def ref16_Great (a0 : Head) : Option (Bool) :=
  Option.bind (loopM (fun s : Int × Int => ref16_Great_L1 a0 s.1 s.2) FUEL ((0 : Int), (0 : Int))) (fun b5 => some (((decide (((a0.Blocks).length : Int) > (60 : Int))) || (decide (((a0.Dirty).length : Int) > (60 : Int)))) || (decide (b5 > (10000 : Int)))))
set_option maxRecDepth 100000 in
set_option maxHeartbeats 2000000 in
theorem ref16_Great_c (a0 : Head) {r : Bool} (hm : ref16_Great a0 = some r) : Ctr Try.prog 7 [.rep 0 a0] (.fl r) [] := by
 refine ctr_of_walk [[]] 40 Try.func7 rfl rfl rfl rfl (fun w0 om => ?_)
 unfold ref16_Great at hm
 refine CWalk.sub (G' := [.fact 0 (.rep [0] (a0 : Head))]) (sn Sub.nil) ?_
 refine CWalk.seq ?_
 refine CWalk.region ?_
 refine ws (Step.boxObj (ls := [(false, 1, Fact.rep [] a0.Stripe), (false, 1, Fact.rep [0] a0.Blocks), (false, 1, Fact.rep [0] a0.Dirty), (false, 1, Fact.rep [] a0.Phase), (false, 1, Fact.rep [] a0.Deals), (false, 1, Fact.rep [] a0.Seq)]) 10 rfl rfl rfl rfl (HasL.flds (Has.cv (Has.s rfl) (Cv.trans (Cv.opens (chHead a0)) (Cv.flds (CvL.cons Cv.fl (CvL.cons Cv.refl (CvL.cons Cv.refl (CvL.cons Cv.fl (CvL.cons Cv.fl (CvL.cons Cv.fl CvL.nil))))))))))) ?_
 refine wo (Spec.assign Has.bool) ?_
 refine Walk.nil ?_
 refine Leaf.thenN ?_
 refine CWalk.seq ?_
 refine CWalk.region ?_
 refine wo (Spec.assign Has.int) ?_
 refine Walk.nil ?_
 refine Leaf.thenN ?_
 refine CWalk.seq ?_
 refine CWalk.seq ?_
 refine CWalk.region ?_
 refine wo (Spec.assign Has.int) ?_
 refine Walk.nil ?_
 refine Leaf.thenN ?_
 refine CWalk.block ?_
 obtain ⟨b5, hb5, hm⟩ := bind_some hm
 refine CWalk.loop (fun s : Int × Int => [.fact 1 (.isv 10), .fact 3 (.rep [] s.1), .fact 4 (.rep [] s.2), .fact 100011 (.at 11 (.rep [] a0.Stripe)), .fact 100012 (.at 12 (.rep [0] a0.Blocks)), .fact 100013 (.at 13 (.rep [0] a0.Dirty)), .fact 100014 (.at 14 (.rep [] a0.Phase)), .fact 100015 (.at 15 (.rep [] a0.Deals)), .fact 100016 (.at 16 (.rep [] a0.Seq)), .fact 100010 (.obj 10 [(false, 1), (false, 1), (false, 1), (false, 1), (false, 1), (false, 1)])]) (fun b : Int => (Exit.exit 0, [.fact 1 (.isv 10), .fact 3 (.rep [] (b : Int)), .fact 100011 (.at 11 (.rep [] a0.Stripe)), .fact 100012 (.at 12 (.rep [0] a0.Blocks)), .fact 100013 (.at 13 (.rep [0] a0.Dirty)), .fact 100014 (.at 14 (.rep [] a0.Phase)), .fact 100015 (.at 15 (.rep [] a0.Deals)), .fact 100016 (.at 16 (.rep [] a0.Seq)), .fact 100010 (.obj 10 [(false, 1), (false, 1), (false, 1), (false, 1), (false, 1), (false, 1)])])) hb5 (sn (st (st (sf (sm (sm (sf (sf (sf (sn Sub.nil)))))))))) ?_ ?_
 ·rintro ⟨s1, s2⟩ c3 hm
  replace hm : ref16_Great_L1 a0 s1 s2 = some c3 := hm
  unfold ref16_Great_L1 at hm
  show CWalk _ [.fact 1 (.isv 10), .fact 3 (.rep [] (s1 : Int)), .fact 4 (.rep [] (s2 : Int)), .fact 100011 (.at 11 (.rep [] a0.Stripe)), .fact 100012 (.at 12 (.rep [0] a0.Blocks)), .fact 100013 (.at 13 (.rep [0] a0.Dirty)), .fact 100014 (.at 14 (.rep [] a0.Phase)), .fact 100015 (.at 15 (.rep [] a0.Deals)), .fact 100016 (.at 16 (.rep [] a0.Seq)), .fact 100010 (.obj 10 [(false, 1), (false, 1), (false, 1), (false, 1), (false, 1), (false, 1)])] _ _
  refine CWalk.seq ?_
  refine CWalk.seq ?_
  refine CWalk.region ?_
  refine mv ?_
  refine wo (Spec.fieldAddrO fd28_1 (Has.cv (Has.s rfl) (Cv.isvP rfl))) ?_
  refine wo (Spec.loadF (i := 1) ty25 rfl (Has.s rfl) rfl (HasG.s rfl)) ?_
  refine wo (Spec.len (Has.s rfl) Try.underlying25) ?_
  refine wo (Spec.lssI (Has.s rfl) (Has.s rfl)) ?_
  refine mv ?_
  refine wg rfl rfl (fun hb => Spec.move (Has.s rfl)) ?_
  refine wg rfl rfl (fun hb => Spec.lssI (Has.u rfl hb) Has.int) ?_
  refine wo (Spec.and (Has.s rfl) (fun h => Has.u rfl h)) ?_
  refine Walk.nil ?_
  refine Leaf.thenN ?_
  refine CWalk.cond rfl (fun hb => ?_) (fun hb => ?_)
  ·have hm := cond_t hb hm
   refine CWalk.skip ?_
   refine Leaf.thenN ?_
   refine CWalk.seq ?_
   refine CWalk.block ?_
   refine CWalk.region ?_
   refine mv ?_
   refine wo (Spec.fieldAddrO fd28_1 (Has.cv (Has.s rfl) (Cv.isvP rfl))) ?_
   refine wo (Spec.loadF (i := 1) ty25 rfl (Has.s rfl) rfl (HasG.s rfl)) ?_
   refine mv ?_
   obtain ⟨x4, hx4, hm⟩ := bind_some hm
   refine wo (Spec.indexAddr hx4 sl25 (Has.s rfl) (Has.s rfl)) ?_
   refine wo (Spec.load ty46 (Has.s rfl)) ?_
   refine wo (Spec.len (Has.s rfl) Try.underlying46) ?_
   refine wo (Spec.minI (Has.s rfl) Has.int) ?_
   refine wo (Spec.addI Has.int (Has.s rfl)) ?_
   refine wo (Spec.addI (Has.s rfl) (Has.s rfl)) ?_
   refine wo (Spec.assign (Has.s rfl)) ?_
   refine Walk.nil ?_
   refine Leaf.blockN ?_
   refine Leaf.thenN ?_
   refine CWalk.region ?_
   refine mv ?_
   refine wo (Spec.addI (Has.s rfl) Has.int) ?_
   refine wo (Spec.assign (Has.s rfl)) ?_
   refine Walk.nil ?_
   exact Leaf.next hm (sn (st (st (sf (sm (sm (sf (sf (sf (sn Sub.nil))))))))))
  ·have hm := cond_f hb hm
   refine CWalk.exit ?_
   refine Leaf.thenE ?_
   exact Leaf.brk hm (fun h => nomatch h) rfl (sn (st (sf (sm (sm (sf (sf (sf (sn Sub.nil)))))))))
 ·intro _
  refine Leaf.blockE ?_
  refine Leaf.thenN ?_
  refine CWalk.seq ?_
  refine CWalk.region ?_
  refine wo (Spec.fieldAddrO fd28_1 (Has.cv (Has.s rfl) (Cv.isvP rfl))) ?_
  refine wo (Spec.loadF (i := 1) ty25 rfl (Has.s rfl) rfl (HasG.s rfl)) ?_
  refine wo (Spec.len (Has.s rfl) Try.underlying25) ?_
  refine wo (Spec.gtrI (Has.s rfl) Has.int) ?_
  refine mv ?_
  refine wg rfl rfl (fun hb => Spec.fieldAddrO fd28_2 (Has.cv (Has.s rfl) (Cv.isvP rfl))) ?_
  refine wg rfl rfl (fun hb => Spec.loadF (i := 2) ty26 rfl (Has.u rfl hb) rfl (HasG.s rfl)) ?_
  refine wg rfl rfl (fun hb => Spec.len (Has.u rfl hb) Try.underlying26) ?_
  refine wg rfl rfl (fun hb => Spec.gtrI (Has.u rfl hb) Has.int) ?_
  refine wo (Spec.or (Has.s rfl) (fun h => Has.u rfl h)) ?_
  refine mv ?_
  refine wg rfl rfl (fun hb => Spec.move (Has.s rfl)) ?_
  refine wg rfl rfl (fun hb => Spec.gtrI (Has.u rfl hb) Has.int) ?_
  refine wo (Spec.or (Has.s rfl) (fun h => Has.u rfl h)) ?_
  refine wo (Spec.assign (Has.s rfl)) ?_
  refine Walk.nil ?_
  refine Leaf.thenN ?_
  refine CWalk.ret ?_
  obtain rfl := Option.some.inj hm
  exact Leaf.retC1 rfl (HasR.cv (HasR.tmp (Has.s rfl)) Cv.fl)

def ref16_Twin_L1 (a0 : Head) (s1 : Int) (s2 : List (List UInt8)) : Option (Ctl (Int × (List (List UInt8))) ((List (List UInt8)))) :=
  (bif (decide (s1 < ((a0.Blocks).length : Int))) then Option.bind (idx a0.Blocks s1) (fun x4 => Option.bind (app ([] : List UInt8) x4) (fun x5 => Option.bind (app s2 ([x5])) (fun x6 => some (Ctl.next ((wI (s1 + (1 : Int))), x6))))) else some (Ctl.brk s2))
/-- freeboard/freeboardref16.Twin -/
def ref16_Twin (a0 : Head) : Option (Head) :=
  Option.bind (loopM (fun s : Int × (List (List UInt8)) => ref16_Twin_L1 a0 s.1 s.2) FUEL ((0 : Int), ([] : List (List UInt8)))) (fun b7 => Option.bind (app ([] : List Bool) a0.Dirty) (fun x8 => some (Head.mk a0.Stripe b7 x8 a0.Phase a0.Deals a0.Seq)))
set_option maxRecDepth 100000 in
set_option maxHeartbeats 2000000 in
theorem ref16_Twin_c (a0 : Head) {r : Head} (hm : ref16_Twin a0 = some r) : Ctr Try.prog 8 [.rep 0 a0] (.flds [(false, 1, (.fl r.Stripe)), (false, 1, (.own 0 (some 1) 46 r.Blocks)), (false, 1, (.own 2 none 4 r.Dirty)), (false, 1, (.fl r.Phase)), (false, 1, (.fl r.Deals)), (false, 1, (.fl r.Seq))]) [] := by
 refine ctr_of_walk [[33], [31, 32], [34]] 35 Try.func8 rfl rfl rfl rfl (fun w0 om => ?_)
 unfold ref16_Twin at hm
 refine CWalk.sub (G' := [.fact 0 (.rep [0] (a0 : Head))]) (sn Sub.nil) ?_
 refine CWalk.seq ?_
 refine CWalk.region ?_
 refine ws (Step.boxObj (ls := [(false, 1, Fact.rep [] a0.Stripe), (false, 1, Fact.rep [0] a0.Blocks), (false, 1, Fact.rep [0] a0.Dirty), (false, 1, Fact.rep [] a0.Phase), (false, 1, Fact.rep [] a0.Deals), (false, 1, Fact.rep [] a0.Seq)]) 10 rfl rfl rfl rfl (HasL.flds (Has.cv (Has.s rfl) (Cv.trans (Cv.opens (chHead a0)) (Cv.flds (CvL.cons Cv.fl (CvL.cons Cv.refl (CvL.cons Cv.refl (CvL.cons Cv.fl (CvL.cons Cv.fl (CvL.cons Cv.fl CvL.nil))))))))))) ?_
 refine ws (Step.allocObj (ls := [(false, 1, Fact.rep [] ((0 : Int) : Int)), (false, 1, Fact.nilv), (false, 1, Fact.nilv), (false, 1, Fact.rep [] ((0 : UInt8) : UInt8)), (false, 1, Fact.rep [] (false : Bool)), (false, 1, Fact.rep [] ((0 : UInt32) : UInt32))]) 17 rfl rfl rfl rfl zl28) ?_
 refine Walk.nil ?_
 refine Leaf.thenN ?_
 refine CWalk.seq ?_
 refine CWalk.region ?_
 refine wo (Spec.loadObj (ls := [(false, 1, Fact.rep [] a0.Stripe), (false, 1, Fact.rep [0] a0.Blocks), (false, 1, Fact.rep [0] a0.Dirty), (false, 1, Fact.rep [] a0.Phase), (false, 1, Fact.rep [] a0.Deals), (false, 1, Fact.rep [] a0.Seq)]) ty28 rfl rfl (Has.s rfl) rfl (HasGs.cons (HasG.s rfl) (HasGs.cons (HasG.s rfl) (HasGs.cons (HasG.s rfl) (HasGs.cons (HasG.s rfl) (HasGs.cons (HasG.s rfl) (HasGs.cons (HasG.s rfl) HasGs.nil))))))) ?_
 refine ws (Step.allocObj (ls := [(false, 1, Fact.rep [] ((0 : Int) : Int)), (false, 1, Fact.nilv), (false, 1, Fact.nilv), (false, 1, Fact.rep [] ((0 : UInt8) : UInt8)), (false, 1, Fact.rep [] (false : Bool)), (false, 1, Fact.rep [] ((0 : UInt32) : UInt32))]) 24 rfl rfl rfl rfl zl28) ?_
 refine ws (Step.storeObj (ls := [(false, 1, Fact.rep [] a0.Stripe), (false, 1, Fact.rep [0] a0.Blocks), (false, 1, Fact.rep [0] a0.Dirty), (false, 1, Fact.rep [] a0.Phase), (false, 1, Fact.rep [] a0.Deals), (false, 1, Fact.rep [] a0.Seq)]) rfl ty28 rfl rfl (Has.s rfl) rfl (HasL.flds (Has.s rfl)) rfl) ?_
 refine Walk.nil ?_
 refine Leaf.thenN ?_
 refine CWalk.seq ?_
 refine CWalk.region ?_
 refine wo (Spec.fieldAddrO fd28_1 (Has.cv (Has.s rfl) (Cv.isvP rfl))) ?_
 refine ws (Step.storeF (i := 1) (f := Fact.nilv) rfl ty25 rfl (Has.s rfl) rfl (Has.cv Has.nilv (Cv.nil (T := []))) Has.nilv rfl) ?_
 refine Walk.nil ?_
 refine Leaf.thenN ?_
 refine CWalk.seq ?_
 refine CWalk.seq ?_
 refine CWalk.region ?_
 refine wo (Spec.assign Has.int) ?_
 refine Walk.nil ?_
 refine Leaf.thenN ?_
 refine CWalk.block ?_
 obtain ⟨b7, hb7, hm⟩ := bind_some hm
 refine CWalk.loop (fun s : Int × (List (List UInt8)) => [.fact 1 (.isv 10), .fact 2 (.isv 17), .fact 3 (.isv 24), .fact 4 (.rep [] s.1), .fact 100011 (.at 11 (.rep [] a0.Stripe)), .fact 100012 (.at 12 (.rep [0] a0.Blocks)), .fact 100013 (.at 13 (.rep [0] a0.Dirty)), .fact 100014 (.at 14 (.rep [] a0.Phase)), .fact 100015 (.at 15 (.rep [] a0.Deals)), .fact 100016 (.at 16 (.rep [] a0.Seq)), .fact 100018 (.at 18 (.rep [] ((0 : Int) : Int))), .fact 100019 (.at 19 (.nilv)), .fact 100020 (.at 20 (.nilv)), .fact 100021 (.at 21 (.rep [] ((0 : UInt8) : UInt8))), .fact 100022 (.at 22 (.rep [] (false : Bool))), .fact 100023 (.at 23 (.rep [] ((0 : UInt32) : UInt32))), .fact 100025 (.at 25 (.rep [] a0.Stripe)), .fact 100026 (.at 26 (.ow [33] [31, 32] 46 (s.2 : List (List UInt8)))), .fact 100027 (.at 27 (.rep [0] a0.Dirty)), .fact 100028 (.at 28 (.rep [] a0.Phase)), .fact 100029 (.at 29 (.rep [] a0.Deals)), .fact 100030 (.at 30 (.rep [] a0.Seq)), .fact 100010 (.obj 10 [(false, 1), (false, 1), (false, 1), (false, 1), (false, 1), (false, 1)]), .fact 100017 (.obj 17 [(false, 1), (false, 1), (false, 1), (false, 1), (false, 1), (false, 1)]), .fact 100024 (.obj 24 [(false, 1), (false, 1), (false, 1), (false, 1), (false, 1), (false, 1)])]) (fun b : (List (List UInt8)) => (Exit.exit 0, [.fact 1 (.isv 10), .fact 2 (.isv 17), .fact 3 (.isv 24), .fact 100011 (.at 11 (.rep [] a0.Stripe)), .fact 100012 (.at 12 (.rep [0] a0.Blocks)), .fact 100013 (.at 13 (.rep [0] a0.Dirty)), .fact 100014 (.at 14 (.rep [] a0.Phase)), .fact 100015 (.at 15 (.rep [] a0.Deals)), .fact 100016 (.at 16 (.rep [] a0.Seq)), .fact 100018 (.at 18 (.rep [] ((0 : Int) : Int))), .fact 100019 (.at 19 (.nilv)), .fact 100020 (.at 20 (.nilv)), .fact 100021 (.at 21 (.rep [] ((0 : UInt8) : UInt8))), .fact 100022 (.at 22 (.rep [] (false : Bool))), .fact 100023 (.at 23 (.rep [] ((0 : UInt32) : UInt32))), .fact 100025 (.at 25 (.rep [] a0.Stripe)), .fact 100026 (.at 26 (.ow [33] [31, 32] 46 (b : List (List UInt8)))), .fact 100027 (.at 27 (.rep [0] a0.Dirty)), .fact 100028 (.at 28 (.rep [] a0.Phase)), .fact 100029 (.at 29 (.rep [] a0.Deals)), .fact 100030 (.at 30 (.rep [] a0.Seq)), .fact 100010 (.obj 10 [(false, 1), (false, 1), (false, 1), (false, 1), (false, 1), (false, 1)]), .fact 100017 (.obj 17 [(false, 1), (false, 1), (false, 1), (false, 1), (false, 1), (false, 1)]), .fact 100024 (.obj 24 [(false, 1), (false, 1), (false, 1), (false, 1), (false, 1), (false, 1)])])) hb7 (sn (sn (sn (st (sf (sm (sm (sf (sf (sf (sf (sg (sg (sf (sf (sf (sf (Sub.cons (Has.at (HasG.cv (HasG.s rfl) (Cv.trans Cv.nilOw (Cv.owM (T := []) (te := []) rfl rfl)))) (sm (sf (sf (sf (sn (sn (sn Sub.nil))))))))))))))))))))))))) ?_ ?_
 ·rintro ⟨s1, s2⟩ c3 hm
  replace hm : ref16_Twin_L1 a0 s1 s2 = some c3 := hm
  unfold ref16_Twin_L1 at hm
  show CWalk _ [.fact 1 (.isv 10), .fact 2 (.isv 17), .fact 3 (.isv 24), .fact 4 (.rep [] (s1 : Int)), .fact 100011 (.at 11 (.rep [] a0.Stripe)), .fact 100012 (.at 12 (.rep [0] a0.Blocks)), .fact 100013 (.at 13 (.rep [0] a0.Dirty)), .fact 100014 (.at 14 (.rep [] a0.Phase)), .fact 100015 (.at 15 (.rep [] a0.Deals)), .fact 100016 (.at 16 (.rep [] a0.Seq)), .fact 100018 (.at 18 (.rep [] ((0 : Int) : Int))), .fact 100019 (.at 19 (.nilv)), .fact 100020 (.at 20 (.nilv)), .fact 100021 (.at 21 (.rep [] ((0 : UInt8) : UInt8))), .fact 100022 (.at 22 (.rep [] (false : Bool))), .fact 100023 (.at 23 (.rep [] ((0 : UInt32) : UInt32))), .fact 100025 (.at 25 (.rep [] a0.Stripe)), .fact 100026 (.at 26 (.ow [33] [31, 32] 46 (s2 : List (List UInt8)))), .fact 100027 (.at 27 (.rep [0] a0.Dirty)), .fact 100028 (.at 28 (.rep [] a0.Phase)), .fact 100029 (.at 29 (.rep [] a0.Deals)), .fact 100030 (.at 30 (.rep [] a0.Seq)), .fact 100010 (.obj 10 [(false, 1), (false, 1), (false, 1), (false, 1), (false, 1), (false, 1)]), .fact 100017 (.obj 17 [(false, 1), (false, 1), (false, 1), (false, 1), (false, 1), (false, 1)]), .fact 100024 (.obj 24 [(false, 1), (false, 1), (false, 1), (false, 1), (false, 1), (false, 1)])] _ _
  refine CWalk.seq ?_
  refine CWalk.seq ?_
  refine CWalk.region ?_
  refine mv ?_
  refine wo (Spec.fieldAddrO fd28_1 (Has.cv (Has.s rfl) (Cv.isvP rfl))) ?_
  refine wo (Spec.loadF (i := 1) ty25 rfl (Has.s rfl) rfl (HasG.s rfl)) ?_
  refine wo (Spec.len (Has.s rfl) Try.underlying25) ?_
  refine wo (Spec.lssI (Has.s rfl) (Has.s rfl)) ?_
  refine Walk.nil ?_
  refine Leaf.thenN ?_
  refine CWalk.cond rfl (fun hb => ?_) (fun hb => ?_)
  ·have hm := cond_t hb hm
   refine CWalk.skip ?_
   refine Leaf.thenN ?_
   refine CWalk.seq ?_
   refine CWalk.block ?_
   refine CWalk.seq ?_
   refine CWalk.region ?_
   refine wo (Spec.assign Has.nilv) ?_
   refine Walk.nil ?_
   refine Leaf.thenN ?_
   obtain ⟨x4, hx4, hm⟩ := bind_some hm
   obtain ⟨x5, hx5, hm⟩ := bind_some hm
   obtain ⟨x6, hx6, hm⟩ := bind_some hm
   refine CWalk.drawM [[], [0], [], [], [3], [], [3, 4, 5], [3, 4, 5, 6], [2, 3, 4, 5, 6, 7], [2, 3, 4, 5, 6, 7, 8], [0, 1, 2, 3, 4, 5, 6, 7, 8, 9], [0, 1, 2, 3, 4, 5, 6, 7, 8, 9, 10], [0, 1, 2, 3, 4, 5, 6, 7, 8, 9, 10, 11]] [[.fact 15 (.pto 24 1)], [.fact 16 (.ow [33] [31, 32] 46 (s2 : List (List UInt8)))], [.fact 17 (.nilv)], [.fact 18 (.pto 10 1)], [.fact 19 (.rep [0] a0.Blocks)], [.fact 20 (.rep [] (s1 : Int))], [.fact 21 (.ptr [0] (x4 : List UInt8))], [.fact 22 (.rep [0] (x4 : List UInt8))], [.fact 23 (.ow [31] [] 5 (x5 : List UInt8))], [.fact 24 (.rep [32, 31] ([x5] : List (List UInt8)))], [.fact 25 (.ow [33] [31, 32] 46 (x6 : List (List UInt8))), .kill 33], [.fact 26 (.pto 24 1)], [.fact 100026 (.at 26 (.ow [33] [31, 32] 46 (x6 : List (List UInt8)))), .fact 100024 (.obj 24 [(false, 1), (false, 1), (false, 1), (false, 1), (false, 1), (false, 1)]), .kill 24, .killId 26]] mixed (by kernel_rfl) (ao (so (Spec.fieldAddrO fd28_1 (Has.cv (Has.s rfl) (Cv.isvP rfl)))) (ao (so (Spec.loadF (i := 1) ty25 rfl (Has.s rfl) rfl (HasG.s rfl))) (ao (so (Spec.move (Has.s rfl))) (ao (so (Spec.fieldAddrO fd28_1 (Has.cv (Has.s rfl) (Cv.isvP rfl)))) (ao (so (Spec.loadF (i := 1) ty25 rfl (Has.s rfl) rfl (HasG.s rfl))) (ao (so (Spec.move (Has.s rfl))) (ao (so (Spec.indexAddr hx4 sl25 (Has.s rfl) (Has.s rfl))) (ao (so (Spec.load ty46 (Has.s rfl))) (ao (so (Spec.appNilO (te' := []) 31 hx5 rfl ow46 (Has.s rfl) (Has.s rfl) ElKeep.flat)) (ao (so (Spec.lit (xs := [.tmp 23]) (T := [31]) 32 rfl ow25 rfl rfl rfl rfl (HasEach.cons (Has.m (Has.cv (Has.s rfl) (Cv.trans Cv.owSl (Cv.slRep (T' := [31]) rfl rfl))) rfl) HasEach.nil))) (ao (StepG.stE (Step.appendOw (T := [33]) (te' := [31, 32]) hx6 rfl rfl rfl ow25 (Has.s rfl) (Has.s rfl) (ElKeeps.tags rfl rfl) (ElKeeps.tags rfl rfl))) (ao (so (Spec.fieldAddrO fd28_1 (Has.cv (Has.s rfl) (Cv.isvP rfl)))) (ao (StepG.stE (Step.storeF (i := 1) (f := Fact.ow [33] [31, 32] 46 (x6 : List (List UInt8))) rfl ty25 rfl (Has.s rfl) rfl (Has.cv (Has.s rfl) (Cv.trans Cv.owSl (Cv.slRep (T' := [31, 32, 33]) rfl rfl))) (Has.s rfl) rfl)) AllM.nil))))))))))))) ?_
   refine Leaf.blockN ?_
   refine Leaf.thenN ?_
   refine CWalk.region ?_
   refine mv ?_
   refine wo (Spec.addI (Has.s rfl) Has.int) ?_
   refine wo (Spec.assign (Has.s rfl)) ?_
   refine Walk.nil ?_
   exact Leaf.next hm (sn (sn (sn (st (sf (sm (sm (sf (sf (sf (sf (sg (sg (sf (sf (sf (sf (Sub.cons (Has.at (HasG.cv (HasG.s rfl) (Cv.owM (T := [33]) (te := [31, 32]) rfl rfl))) (sm (sf (sf (sf (sn (sn (sn Sub.nil)))))))))))))))))))))))))
  ·have hm := cond_f hb hm
   refine CWalk.exit ?_
   refine Leaf.thenE ?_
   exact Leaf.brk hm (fun h => nomatch h) rfl (sn (sn (sn (sf (sm (sm (sf (sf (sf (sf (sg (sg (sf (sf (sf (sf (Sub.cons (Has.at (HasG.cv (HasG.s rfl) (Cv.owM (T := [33]) (te := [31, 32]) rfl rfl))) (sm (sf (sf (sf (sn (sn (sn Sub.nil))))))))))))))))))))))))
 ·intro _
  refine Leaf.blockE ?_
  refine Leaf.thenN ?_
  refine CWalk.seq ?_
  refine CWalk.region ?_
  refine wo (Spec.fieldAddrO fd28_2 (Has.cv (Has.s rfl) (Cv.isvP rfl))) ?_
  refine ws (Step.storeF (i := 2) (f := Fact.nilv) rfl ty26 rfl (Has.s rfl) rfl (Has.cv Has.nilv (Cv.nil (T := []))) Has.nilv rfl) ?_
  refine Walk.nil ?_
  refine Leaf.thenN ?_
  refine CWalk.seq ?_
  refine CWalk.region ?_
  refine wo (Spec.fieldAddrO fd28_2 (Has.cv (Has.s rfl) (Cv.isvP rfl))) ?_
  refine wo (Spec.loadF (i := 2) ty26 rfl (Has.s rfl) rfl (HasG.s rfl)) ?_
  refine wo (Spec.fieldAddrO fd28_2 (Has.cv (Has.s rfl) (Cv.isvP rfl))) ?_
  refine wo (Spec.loadF (i := 2) ty26 rfl (Has.s rfl) rfl (HasG.s rfl)) ?_
  obtain ⟨x8, hx8, hm⟩ := bind_some hm
  refine wo (Spec.appNilO (te' := []) 34 hx8 rfl ow26 (Has.s rfl) (Has.s rfl) ElKeep.flat) ?_
  refine wo (Spec.fieldAddrO fd28_2 (Has.cv (Has.s rfl) (Cv.isvP rfl))) ?_
  refine ws (Step.storeF (i := 2) (f := Fact.ow [34] [] 4 (x8 : List Bool)) rfl ty26 rfl (Has.s rfl) rfl (Has.cv (Has.s rfl) (Cv.trans Cv.owSl (Cv.slRep (T' := [34]) rfl rfl))) (Has.s rfl) rfl) ?_
  refine Walk.nil ?_
  refine Leaf.thenN ?_
  refine CWalk.seq ?_
  refine CWalk.region ?_
  refine wo (Spec.loadObj (ls := [(false, 1, Fact.rep [] a0.Stripe), (false, 1, Fact.ow [33] [31, 32] 46 (b7 : List (List UInt8))), (false, 1, Fact.ow [34] [] 4 (x8 : List Bool)), (false, 1, Fact.rep [] a0.Phase), (false, 1, Fact.rep [] a0.Deals), (false, 1, Fact.rep [] a0.Seq)]) ty28 rfl rfl (Has.s rfl) rfl (HasGs.cons (HasG.s rfl) (HasGs.cons (HasG.s rfl) (HasGs.cons (HasG.s rfl) (HasGs.cons (HasG.s rfl) (HasGs.cons (HasG.s rfl) (HasGs.cons (HasG.s rfl) HasGs.nil))))))) ?_
  refine ws (Step.storeObj (ls := [(false, 1, Fact.rep [] a0.Stripe), (false, 1, Fact.ow [33] [31, 32] 46 (b7 : List (List UInt8))), (false, 1, Fact.ow [34] [] 4 (x8 : List Bool)), (false, 1, Fact.rep [] a0.Phase), (false, 1, Fact.rep [] a0.Deals), (false, 1, Fact.rep [] a0.Seq)]) rfl ty28 rfl rfl (Has.s rfl) rfl (HasL.flds (Has.s rfl)) rfl) ?_
  refine Walk.nil ?_
  refine Leaf.thenN ?_
  refine CWalk.ret ?_
  obtain rfl := Option.some.inj hm
  exact Leaf.retC1 rfl (HasR.cv (HasR.obj (ls := [(false, 1, Fact.rep [] a0.Stripe), (false, 1, Fact.ow [33] [31, 32] 46 (b7 : List (List UInt8))), (false, 1, Fact.ow [34] [] 4 (x8 : List Bool)), (false, 1, Fact.rep [] a0.Phase), (false, 1, Fact.rep [] a0.Deals), (false, 1, Fact.rep [] a0.Seq)]) ty28 rfl rfl (Has.s rfl) rfl (HasGs.cons (HasG.s rfl) (HasGs.cons (HasG.s rfl) (HasGs.cons (HasG.s rfl) (HasGs.cons (HasG.s rfl) (HasGs.cons (HasG.s rfl) (HasGs.cons (HasG.s rfl) HasGs.nil))))))) (Cv.flds (CvL.cons Cv.fl (CvL.cons (Cv.owM (T := [33]) (te := [31, 32]) rfl rfl) (CvL.cons (Cv.owF (T := [34]) (te := []) rfl) (CvL.cons Cv.fl (CvL.cons Cv.fl (CvL.cons Cv.fl CvL.nil))))))))

def shape_bounds_L1 (a0 : List Arr3_Int) (s1 : Int) : Option (Ctl (Int) ((Unit) ⊕ (Unit))) :=
  (bif (decide (s1 < ((a0).length : Int))) then Option.bind (idx a0 s1) (fun x3 => (bif ((decide (x3.e0 < x3.e1)) || (decide (x3.e0 > x3.e2))) then some (Ctl.brk (Sum.inr ())) else some (Ctl.next (wI (s1 + (1 : Int)))))) else some (Ctl.brk (Sum.inl ())))
/-- freeboard/shape.bounds -/
def shape_bounds (a0 : List Arr3_Int) : Option (Bool) :=
  Option.bind (loopM (fun s : Int => shape_bounds_L1 a0 s) FUEL (0 : Int)) (fun b4 => Sum.elim (fun b5 => some true) (fun b6 => some false) b4)
set_option maxRecDepth 100000 in
set_option maxHeartbeats 2000000 in
theorem shape_bounds_c (a0 : List Arr3_Int) {r : Bool} (hm : shape_bounds a0 = some r) : Ctr Try.prog 64 [.rep 0 a0] (.fl r) [] := by
 refine ctr_of_walk [[]] 24 Try.func64 rfl rfl rfl rfl (fun w0 om => ?_)
 unfold shape_bounds at hm
 refine CWalk.sub (G' := [.fact 0 (.rep [0] (a0 : List Arr3_Int))]) (sn Sub.nil) ?_
 refine CWalk.seq ?_
 refine CWalk.region ?_
 refine wo (Spec.assign Has.bool) ?_
 refine Walk.nil ?_
 refine Leaf.thenN ?_
 refine CWalk.seq ?_
 refine CWalk.seq ?_
 refine CWalk.region ?_
 refine mv ?_
 refine wo (Spec.len (Has.s rfl) Try.underlying93) ?_
 refine wo (Spec.move Has.int) ?_
 refine Walk.nil ?_
 refine Leaf.thenN ?_
 refine CWalk.block ?_
 obtain ⟨b4, hb4, hm⟩ := bind_some hm
 refine CWalk.loop (fun s : Int => [.fact 5 (.rep [0] (a0 : List Arr3_Int)), .fact 6 (.rep [] (((a0).length : Int) : Int)), .fact 7 (.rep [] (s : Int))]) (fun b : (Unit) ⊕ (Unit) => Sum.elim (fun b => (Exit.exit 0, [])) (fun b => (Exit.ret, [.fact 2 (.rep [] (false : Bool))])) b) hb4 (su (st (st Sub.nil))) ?_ ?_
 ·rintro s1 c2 hm
  replace hm : shape_bounds_L1 a0 s1 = some c2 := hm
  unfold shape_bounds_L1 at hm
  show CWalk _ [.fact 5 (.rep [0] (a0 : List Arr3_Int)), .fact 6 (.rep [] (((a0).length : Int) : Int)), .fact 7 (.rep [] (s1 : Int))] _ _
  refine CWalk.seq ?_
  refine CWalk.region ?_
  refine wo (Spec.lssI (Has.s rfl) (Has.s rfl)) ?_
  refine Walk.nil ?_
  refine Leaf.thenN ?_
  refine CWalk.seq ?_
  refine CWalk.cond rfl (fun hb => ?_) (fun hb => ?_)
  ·have hm := cond_t hb hm
   refine CWalk.skip ?_
   refine Leaf.thenN ?_
   refine CWalk.seq ?_
   refine CWalk.block ?_
   refine CWalk.seq ?_
   refine CWalk.region ?_
   obtain ⟨x3, hx3, hm⟩ := bind_some hm
   refine wo (Spec.indexAddr hx3 sl93 (Has.s rfl) (Has.s rfl)) ?_
   refine wo ((Spec.load ty92 (Has.s rfl)).flat (T' := [])) ?_
   refine ws (Step.allocObj (ls := [(false, 1, Fact.rep [] ((0 : Int) : Int)), (false, 1, Fact.rep [] ((0 : Int) : Int)), (false, 1, Fact.rep [] ((0 : Int) : Int))]) 10 rfl rfl rfl rfl zl92) ?_
   refine ws (Step.storeObj (ls := [(false, 1, Fact.rep [] x3.e0), (false, 1, Fact.rep [] x3.e1), (false, 1, Fact.rep [] x3.e2)]) rfl ty92 rfl rfl (Has.s rfl) rfl (HasL.flds (Has.cv (Has.s rfl) (Cv.trans (Cv.opens (chArr3_Int x3)) (Cv.flds (CvL.cons Cv.fl (CvL.cons Cv.fl (CvL.cons Cv.fl CvL.nil))))))) rfl) ?_
   refine Walk.nil ?_
   refine Leaf.thenN ?_
   refine CWalk.seq ?_
   refine CWalk.region ?_
   refine wo (Spec.idxC (i := 0) sm92 rfl (Has.cv (Has.s rfl) (Cv.isvP rfl))) ?_
   refine wo (Spec.loadF (i := 0) ty3 rfl (Has.s rfl) rfl (HasG.s rfl)) ?_
   refine wo (Spec.idxC (i := 1) sm92 rfl (Has.cv (Has.s rfl) (Cv.isvP rfl))) ?_
   refine wo (Spec.loadF (i := 1) ty3 rfl (Has.s rfl) rfl (HasG.s rfl)) ?_
   refine wo (Spec.lssI (Has.s rfl) (Has.s rfl)) ?_
   refine mv ?_
   refine wg rfl rfl (fun hb => Spec.idxC (i := 0) sm92 rfl (Has.cv (Has.s rfl) (Cv.isvP rfl))) ?_
   refine wg rfl rfl (fun hb => Spec.loadF (i := 0) ty3 rfl (Has.u rfl hb) rfl (HasG.s rfl)) ?_
   refine wg rfl rfl (fun hb => Spec.idxC (i := 2) sm92 rfl (Has.cv (Has.s rfl) (Cv.isvP rfl))) ?_
   refine wg rfl rfl (fun hb => Spec.loadF (i := 2) ty3 rfl (Has.u rfl hb) rfl (HasG.s rfl)) ?_
   refine wg rfl rfl (fun hb => Spec.gtrI (Has.u rfl hb) (Has.u rfl hb)) ?_
   refine wo (Spec.or (Has.s rfl) (fun h => Has.u rfl h)) ?_
   refine Walk.nil ?_
   refine Leaf.thenN ?_
   refine CWalk.cond rfl (fun hb => ?_) (fun hb => ?_)
   ·have hm := cond_t hb hm
    refine CWalk.seq ?_
    refine CWalk.region ?_
    refine wo (Spec.assign Has.bool) ?_
    refine Walk.nil ?_
    refine Leaf.thenN ?_
    refine CWalk.ret ?_
    refine Leaf.blockR ?_
    refine Leaf.thenR ?_
    exact Leaf.brk hm (fun h => nomatch h) rfl (st Sub.nil)
   ·have hm := cond_f hb hm
    refine CWalk.skip ?_
    refine Leaf.blockN ?_
    refine Leaf.thenN ?_
    refine CWalk.region ?_
    refine wo (Spec.addI (Has.s rfl) Has.int) ?_
    refine mv ?_
    refine Walk.nil ?_
    exact Leaf.next hm (su (st (st Sub.nil)))
  ·have hm := cond_f hb hm
   refine CWalk.exit ?_
   refine Leaf.thenE ?_
   exact Leaf.brk hm (fun h => nomatch h) rfl (Sub.nil)
 ·intro _
  rcases b4 with b5 | b6
  ·have hm := selim_l hm
   refine Leaf.blockE ?_
   refine Leaf.thenN ?_
   refine CWalk.seq ?_
   refine CWalk.region ?_
   refine wo (Spec.assign Has.bool) ?_
   refine Walk.nil ?_
   refine Leaf.thenN ?_
   refine CWalk.ret ?_
   obtain rfl := Option.some.inj hm
   exact Leaf.retC1 rfl (HasR.cv (HasR.tmp (Has.s rfl)) Cv.fl)
  ·have hm := selim_r hm
   refine Leaf.blockR ?_
   refine Leaf.thenR ?_
   obtain rfl := Option.some.inj hm
   exact Leaf.retC1 rfl (HasR.cv (HasR.tmp (Has.s rfl)) Cv.fl)

/-- freeboard/shape.Check -/
def shape_Check (a0 : Config) : Option (Int) :=
  Option.bind (shape_bounds ([(Arr3_Int.mk a0.Members (3 : Int) (16 : Int)), (Arr3_Int.mk a0.Chunk (1 : Int) (8 : Int)), (Arr3_Int.mk a0.Rows (1 : Int) (8 : Int)), (Arr3_Int.mk a0.Heads (2 : Int) (8 : Int))])) (fun x1 => Option.bind (gO (!(!x1)) (shape_bounds ([(Arr3_Int.mk a0.Log (wI ((wI (a0.Members + (1 : Int))) * (wI (a0.Heads + (1 : Int))))) (255 : Int))]))) (fun x2 => (bif ((!x1) || (!x2)) then some (8 : Int) else some (0 : Int))))
set_option maxRecDepth 100000 in
set_option maxHeartbeats 2000000 in
theorem shape_Check_c (a0 : Config) {r : Int} (hm : shape_Check a0 = some r) : Ctr Try.prog 62 [.rep 0 a0] (.fl r) [] := by
 refine ctr_of_walk [[]] 35 Try.func62 rfl rfl rfl rfl (fun w0 om => ?_)
 unfold shape_Check at hm
 refine CWalk.sub (G' := [.fact 0 (.rep [] (a0 : Config))]) (Sub.cons (Has.fl (Has.s rfl)) Sub.nil) ?_
 refine CWalk.seq ?_
 refine CWalk.region ?_
 refine ws (Step.boxObj (ls := [(false, 1, Fact.rep [] a0.Id), (false, 1, Fact.rep [] a0.Members), (false, 1, Fact.rep [] a0.Chunk), (false, 1, Fact.rep [] a0.Rows), (false, 1, Fact.rep [] a0.Log), (false, 1, Fact.rep [] a0.Heads)]) 10 rfl rfl rfl rfl (HasL.flds (Has.cv (Has.s rfl) (Cv.trans (Cv.opens (chConfig a0)) (Cv.flds (CvL.cons Cv.fl (CvL.cons Cv.fl (CvL.cons Cv.fl (CvL.cons Cv.fl (CvL.cons Cv.fl (CvL.cons Cv.fl CvL.nil))))))))))) ?_
 refine wo (Spec.assign Has.int) ?_
 refine Walk.nil ?_
 refine Leaf.thenN ?_
 refine CWalk.seq ?_
 refine CWalk.region ?_
 refine wo (Spec.fieldAddrO fd24_1 (Has.cv (Has.s rfl) (Cv.isvP rfl))) ?_
 refine wo (Spec.loadF (i := 1) ty3 rfl (Has.s rfl) rfl (HasG.s rfl)) ?_
 refine wo (Spec.buildA (us := [(0, .tmp 5), (1, .const (.int .i64 3)), (2, .const (.int .i64 16))]) (ls' := [(false, 1, Fact.rep [] a0.Members), (false, 1, Fact.rep [] ((3 : Int) : Int)), (false, 1, Fact.rep [] ((16 : Int) : Int))]) bd92 rfl (BP.cons rfl rfl (Has.s rfl) (Has.s rfl) (BP.cons rfl rfl Has.int Has.int (BP.cons rfl rfl Has.int Has.int BP.nil)))) ?_
 refine wo (Spec.fieldAddrO fd24_2 (Has.cv (Has.s rfl) (Cv.isvP rfl))) ?_
 refine wo (Spec.loadF (i := 2) ty3 rfl (Has.s rfl) rfl (HasG.s rfl)) ?_
 refine wo (Spec.buildA (us := [(0, .tmp 8), (1, .const (.int .i64 1)), (2, .const (.int .i64 8))]) (ls' := [(false, 1, Fact.rep [] a0.Chunk), (false, 1, Fact.rep [] ((1 : Int) : Int)), (false, 1, Fact.rep [] ((8 : Int) : Int))]) bd92 rfl (BP.cons rfl rfl (Has.s rfl) (Has.s rfl) (BP.cons rfl rfl Has.int Has.int (BP.cons rfl rfl Has.int Has.int BP.nil)))) ?_
 refine wo (Spec.fieldAddrO fd24_3 (Has.cv (Has.s rfl) (Cv.isvP rfl))) ?_
 refine wo (Spec.loadF (i := 3) ty3 rfl (Has.s rfl) rfl (HasG.s rfl)) ?_
 refine wo (Spec.buildA (us := [(0, .tmp 11), (1, .const (.int .i64 1)), (2, .const (.int .i64 8))]) (ls' := [(false, 1, Fact.rep [] a0.Rows), (false, 1, Fact.rep [] ((1 : Int) : Int)), (false, 1, Fact.rep [] ((8 : Int) : Int))]) bd92 rfl (BP.cons rfl rfl (Has.s rfl) (Has.s rfl) (BP.cons rfl rfl Has.int Has.int (BP.cons rfl rfl Has.int Has.int BP.nil)))) ?_
 refine wo (Spec.fieldAddrO fd24_5 (Has.cv (Has.s rfl) (Cv.isvP rfl))) ?_
 refine wo (Spec.loadF (i := 5) ty3 rfl (Has.s rfl) rfl (HasG.s rfl)) ?_
 refine wo (Spec.buildA (us := [(0, .tmp 14), (1, .const (.int .i64 2)), (2, .const (.int .i64 8))]) (ls' := [(false, 1, Fact.rep [] a0.Heads), (false, 1, Fact.rep [] ((2 : Int) : Int)), (false, 1, Fact.rep [] ((8 : Int) : Int))]) bd92 rfl (BP.cons rfl rfl (Has.s rfl) (Has.s rfl) (BP.cons rfl rfl Has.int Has.int (BP.cons rfl rfl Has.int Has.int BP.nil)))) ?_
 refine wo (Spec.lit (xs := [.tmp 6, .tmp 9, .tmp 12, .tmp 15]) (T := []) 17 rfl ow93 rfl rfl rfl rfl (HasEach.cons (Has.fl (Has.cv (Has.s rfl) (Cv.trans (Cv.flds (CvL.cons Cv.fl (CvL.cons Cv.fl (CvL.cons Cv.fl CvL.nil)))) (Cv.close (T := []) (chArr3_Int (Arr3_Int.mk a0.Members (3 : Int) (16 : Int))))))) (HasEach.cons (Has.fl (Has.cv (Has.s rfl) (Cv.trans (Cv.flds (CvL.cons Cv.fl (CvL.cons Cv.fl (CvL.cons Cv.fl CvL.nil)))) (Cv.close (T := []) (chArr3_Int (Arr3_Int.mk a0.Chunk (1 : Int) (8 : Int))))))) (HasEach.cons (Has.fl (Has.cv (Has.s rfl) (Cv.trans (Cv.flds (CvL.cons Cv.fl (CvL.cons Cv.fl (CvL.cons Cv.fl CvL.nil)))) (Cv.close (T := []) (chArr3_Int (Arr3_Int.mk a0.Rows (1 : Int) (8 : Int))))))) (HasEach.cons (Has.fl (Has.cv (Has.s rfl) (Cv.trans (Cv.flds (CvL.cons Cv.fl (CvL.cons Cv.fl (CvL.cons Cv.fl CvL.nil)))) (Cv.close (T := []) (chArr3_Int (Arr3_Int.mk a0.Heads (2 : Int) (8 : Int))))))) HasEach.nil))))) ?_
 obtain ⟨x1, hx1, hm⟩ := bind_some hm
 refine wo (f := Fact.rep [] (x1 : Bool)) (Spec.callE [17] 18 rfl en64 (shape_bounds_c ([(Arr3_Int.mk a0.Members (3 : Int) (16 : Int)), (Arr3_Int.mk a0.Chunk (1 : Int) (8 : Int)), (Arr3_Int.mk a0.Rows (1 : Int) (8 : Int)), (Arr3_Int.mk a0.Heads (2 : Int) (8 : Int))]) hx1) (HasAll.cons (Has.m (Has.s rfl) rfl) HasAll.nil)) ?_
 refine wo (Spec.assign (Has.s rfl)) ?_
 refine Walk.nil ?_
 refine Leaf.thenN ?_
 refine CWalk.seq ?_
 refine CWalk.seq ?_
 refine CWalk.region ?_
 refine mv ?_
 refine wo (Spec.not (Has.s rfl)) ?_
 refine mv ?_
 refine wg rfl rfl (fun hb => Spec.fieldAddrO fd24_4 (Has.cv (Has.s rfl) (Cv.isvP rfl))) ?_
 refine wg rfl rfl (fun hb => Spec.loadF (i := 4) ty3 rfl (Has.u rfl hb) rfl (HasG.s rfl)) ?_
 refine wg rfl rfl (fun hb => Spec.fieldAddrO fd24_1 (Has.cv (Has.s rfl) (Cv.isvP rfl))) ?_
 refine wg rfl rfl (fun hb => Spec.loadF (i := 1) ty3 rfl (Has.u rfl hb) rfl (HasG.s rfl)) ?_
 refine wg rfl rfl (fun hb => Spec.addI (Has.u rfl hb) Has.int) ?_
 refine wg rfl rfl (fun hb => Spec.fieldAddrO fd24_5 (Has.cv (Has.s rfl) (Cv.isvP rfl))) ?_
 refine wg rfl rfl (fun hb => Spec.loadF (i := 5) ty3 rfl (Has.u rfl hb) rfl (HasG.s rfl)) ?_
 refine wg rfl rfl (fun hb => Spec.addI (Has.u rfl hb) Has.int) ?_
 refine wg rfl rfl (fun hb => Spec.mulI (Has.u rfl hb) (Has.u rfl hb)) ?_
 refine wg rfl rfl (fun hb => Spec.buildA (us := [(0, .tmp 22), (1, .tmp 29), (2, .const (.int .i64 255))]) (ls' := [(false, 1, Fact.rep [] a0.Log), (false, 1, Fact.rep [] ((wI ((wI (a0.Members + (1 : Int))) * (wI (a0.Heads + (1 : Int))))) : Int)), (false, 1, Fact.rep [] ((255 : Int) : Int))]) bd92 rfl (BP.cons rfl rfl (Has.u rfl hb) (Has.u rfl hb) (BP.cons rfl rfl (Has.u rfl hb) (Has.u rfl hb) (BP.cons rfl rfl Has.int Has.int BP.nil)))) ?_
 refine wg rfl rfl (fun hb => Spec.lit (xs := [.tmp 30]) (T := []) 19 rfl ow93 rfl rfl rfl rfl (HasEach.cons (Has.fl (Has.cv (Has.u rfl hb) (Cv.trans (Cv.flds (CvL.cons Cv.fl (CvL.cons Cv.fl (CvL.cons Cv.fl CvL.nil)))) (Cv.close (T := []) (chArr3_Int (Arr3_Int.mk a0.Log (wI ((wI (a0.Members + (1 : Int))) * (wI (a0.Heads + (1 : Int))))) (255 : Int))))))) HasEach.nil)) ?_
 obtain ⟨x2, hx2, hm⟩ := bind_some hm
 refine wg (f := Fact.rep [] (x2 : Bool)) rfl rfl (fun hb => Spec.callE [19] 20 rfl en64 (shape_bounds_c ([(Arr3_Int.mk a0.Log (wI ((wI (a0.Members + (1 : Int))) * (wI (a0.Heads + (1 : Int))))) (255 : Int))]) (gO_t hx2 (not_t hb))) (HasAll.cons (Has.m (Has.u rfl hb) rfl) HasAll.nil)) ?_
 refine wg rfl rfl (fun hb => Spec.not (Has.u rfl hb)) ?_
 refine wo (Spec.or (Has.s rfl) (fun h => Has.u rfl h)) ?_
 refine Walk.nil ?_
 refine Leaf.thenN ?_
 refine CWalk.cond rfl (fun hb => ?_) (fun hb => ?_)
 ·have hm := cond_t hb hm
  refine CWalk.seq ?_
  refine CWalk.region ?_
  refine wo (Spec.assign Has.int) ?_
  refine Walk.nil ?_
  refine Leaf.thenN ?_
  refine CWalk.ret ?_
  refine Leaf.thenR ?_
  obtain rfl := Option.some.inj hm
  exact Leaf.retC1 rfl (HasR.cv (HasR.tmp (Has.s rfl)) Cv.fl)
 ·have hm := cond_f hb hm
  refine CWalk.skip ?_
  refine Leaf.thenN ?_
  refine CWalk.seq ?_
  refine CWalk.region ?_
  refine wo (Spec.assign Has.int) ?_
  refine Walk.nil ?_
  refine Leaf.thenN ?_
  refine CWalk.ret ?_
  obtain rfl := Option.some.inj hm
  exact Leaf.retC1 rfl (HasR.cv (HasR.tmp (Has.s rfl)) Cv.fl)

/-- freeboard/shape.told -/
def shape_told (a0 : Config) (a1 : Int) : Option (Int × Int) :=
  Option.bind (shape_Check a0) (fun x1 => (bif (x1 != (0 : Int)) then some ((0 : Int), x1) else some (a1, (0 : Int))))
set_option maxRecDepth 100000 in
set_option maxHeartbeats 2000000 in
theorem shape_told_c (a0 : Config) (a1 : Int) {r : Int × Int} (hm : shape_told a0 a1 = some r) : Ctr Try.prog 49 [.rep 0 a0, .rep 0 a1] (.tup2 (.fl r.1) (.fl r.2)) [] := by
 refine ctr_of_walk [[]] 13 Try.func49 rfl rfl rfl rfl (fun w0 om => ?_)
 unfold shape_told at hm
 refine CWalk.sub (G' := [.fact 0 (.rep [] (a0 : Config)), .fact 1 (.rep [] (a1 : Int))]) (Sub.cons (Has.fl (Has.s rfl)) (Sub.cons (Has.fl (Has.s rfl)) Sub.nil)) ?_
 refine CWalk.seq ?_
 refine CWalk.region ?_
 refine ws (Step.boxObj (ls := [(false, 1, Fact.rep [] a0.Id), (false, 1, Fact.rep [] a0.Members), (false, 1, Fact.rep [] a0.Chunk), (false, 1, Fact.rep [] a0.Rows), (false, 1, Fact.rep [] a0.Log), (false, 1, Fact.rep [] a0.Heads)]) 10 rfl rfl rfl rfl (HasL.flds (Has.cv (Has.s rfl) (Cv.trans (Cv.opens (chConfig a0)) (Cv.flds (CvL.cons Cv.fl (CvL.cons Cv.fl (CvL.cons Cv.fl (CvL.cons Cv.fl (CvL.cons Cv.fl (CvL.cons Cv.fl CvL.nil))))))))))) ?_
 refine wo (Spec.assign Has.int) ?_
 refine wo (Spec.assign Has.int) ?_
 refine Walk.nil ?_
 refine Leaf.thenN ?_
 refine CWalk.seq ?_
 refine CWalk.seq ?_
 refine CWalk.region ?_
 refine wo (Spec.loadObj (ls := [(false, 1, Fact.rep [] a0.Id), (false, 1, Fact.rep [] a0.Members), (false, 1, Fact.rep [] a0.Chunk), (false, 1, Fact.rep [] a0.Rows), (false, 1, Fact.rep [] a0.Log), (false, 1, Fact.rep [] a0.Heads)]) ty24 rfl rfl (Has.s rfl) rfl (HasGs.cons (HasG.s rfl) (HasGs.cons (HasG.s rfl) (HasGs.cons (HasG.s rfl) (HasGs.cons (HasG.s rfl) (HasGs.cons (HasG.s rfl) (HasGs.cons (HasG.s rfl) HasGs.nil))))))) ?_
 obtain ⟨x1, hx1, hm⟩ := bind_some hm
 refine wo (f := Fact.rep [] (x1 : Int)) (Spec.callE [] 17 rfl en62 (shape_Check_c a0 hx1) (HasAll.cons (Has.fl (Has.cv (Has.s rfl) (Cv.trans (Cv.flds (CvL.cons Cv.fl (CvL.cons Cv.fl (CvL.cons Cv.fl (CvL.cons Cv.fl (CvL.cons Cv.fl (CvL.cons Cv.fl CvL.nil))))))) (Cv.close (T := []) (chConfig a0))))) HasAll.nil)) ?_
 refine wo (Spec.assign (Has.s rfl)) ?_
 refine Walk.nil ?_
 refine Leaf.thenN ?_
 refine CWalk.seq ?_
 refine CWalk.region ?_
 refine mv ?_
 refine wo (Spec.neqI (Has.s rfl) Has.int) ?_
 refine Walk.nil ?_
 refine Leaf.thenN ?_
 refine CWalk.cond rfl (fun hb => ?_) (fun hb => ?_)
 ·have hm := cond_t hb hm
  refine CWalk.seq ?_
  refine CWalk.region ?_
  refine mv ?_
  refine wo (Spec.assign Has.int) ?_
  refine wo (Spec.assign (Has.s rfl)) ?_
  refine Walk.nil ?_
  refine Leaf.thenN ?_
  refine CWalk.ret ?_
  refine Leaf.thenR ?_
  obtain rfl := Option.some.inj hm
  exact Leaf.retC2 rfl (HasR.cv (HasR.tmp (Has.s rfl)) Cv.fl) (HasR.cv (HasR.tmp (Has.s rfl)) Cv.fl)
 ·have hm := cond_f hb hm
  refine CWalk.skip ?_
  refine Leaf.thenN ?_
  refine CWalk.seq ?_
  refine CWalk.region ?_
  refine mv ?_
  refine wo (Spec.assign (Has.s rfl)) ?_
  refine wo (Spec.assign Has.int) ?_
  refine Walk.nil ?_
  refine Leaf.thenN ?_
  refine CWalk.ret ?_
  obtain rfl := Option.some.inj hm
  exact Leaf.retC2 rfl (HasR.cv (HasR.tmp (Has.s rfl)) Cv.fl) (HasR.cv (HasR.tmp (Has.s rfl)) Cv.fl)

/-- freeboard/shape.Stripes -/
def shape_Stripes (a0 : Config) : Option (Int × Int) :=
  Option.bind (shape_told a0 (wI (a0.Chunk * a0.Rows))) (fun x1 => some (x1.1, x1.2))
set_option maxRecDepth 100000 in
set_option maxHeartbeats 2000000 in
theorem shape_Stripes_c (a0 : Config) {r : Int × Int} (hm : shape_Stripes a0 = some r) : Ctr Try.prog 31 [.rep 0 a0] (.tup2 (.fl r.1) (.fl r.2)) [] := by
 refine ctr_of_walk [[]] 13 Try.func31 rfl rfl rfl rfl (fun w0 om => ?_)
 unfold shape_Stripes at hm
 refine CWalk.sub (G' := [.fact 0 (.rep [] (a0 : Config))]) (Sub.cons (Has.fl (Has.s rfl)) Sub.nil) ?_
 refine CWalk.seq ?_
 refine CWalk.region ?_
 refine ws (Step.boxObj (ls := [(false, 1, Fact.rep [] a0.Id), (false, 1, Fact.rep [] a0.Members), (false, 1, Fact.rep [] a0.Chunk), (false, 1, Fact.rep [] a0.Rows), (false, 1, Fact.rep [] a0.Log), (false, 1, Fact.rep [] a0.Heads)]) 10 rfl rfl rfl rfl (HasL.flds (Has.cv (Has.s rfl) (Cv.trans (Cv.opens (chConfig a0)) (Cv.flds (CvL.cons Cv.fl (CvL.cons Cv.fl (CvL.cons Cv.fl (CvL.cons Cv.fl (CvL.cons Cv.fl (CvL.cons Cv.fl CvL.nil))))))))))) ?_
 refine wo (Spec.assign Has.int) ?_
 refine wo (Spec.assign Has.int) ?_
 refine Walk.nil ?_
 refine Leaf.thenN ?_
 refine CWalk.seq ?_
 refine CWalk.region ?_
 refine wo (Spec.loadObj (ls := [(false, 1, Fact.rep [] a0.Id), (false, 1, Fact.rep [] a0.Members), (false, 1, Fact.rep [] a0.Chunk), (false, 1, Fact.rep [] a0.Rows), (false, 1, Fact.rep [] a0.Log), (false, 1, Fact.rep [] a0.Heads)]) ty24 rfl rfl (Has.s rfl) rfl (HasGs.cons (HasG.s rfl) (HasGs.cons (HasG.s rfl) (HasGs.cons (HasG.s rfl) (HasGs.cons (HasG.s rfl) (HasGs.cons (HasG.s rfl) (HasGs.cons (HasG.s rfl) HasGs.nil))))))) ?_
 refine wo (Spec.fieldAddrO fd24_2 (Has.cv (Has.s rfl) (Cv.isvP rfl))) ?_
 refine wo (Spec.loadF (i := 2) ty3 rfl (Has.s rfl) rfl (HasG.s rfl)) ?_
 refine wo (Spec.fieldAddrO fd24_3 (Has.cv (Has.s rfl) (Cv.isvP rfl))) ?_
 refine wo (Spec.loadF (i := 3) ty3 rfl (Has.s rfl) rfl (HasG.s rfl)) ?_
 refine wo (Spec.mulI (Has.s rfl) (Has.s rfl)) ?_
 obtain ⟨x1, hx1, hm⟩ := bind_some hm
 refine wo (f := Fact.tup2 (Fact.rep [] x1.1) (Fact.rep [] x1.2)) (Spec.callE [] 17 rfl en49 (shape_told_c a0 (wI (a0.Chunk * a0.Rows)) hx1) (HasAll.cons (Has.fl (Has.cv (Has.s rfl) (Cv.trans (Cv.flds (CvL.cons Cv.fl (CvL.cons Cv.fl (CvL.cons Cv.fl (CvL.cons Cv.fl (CvL.cons Cv.fl (CvL.cons Cv.fl CvL.nil))))))) (Cv.close (T := []) (chConfig a0))))) (HasAll.cons (Has.fl (Has.s rfl)) HasAll.nil))) ?_
 refine wo (Spec.ext0 (Has.s rfl)) ?_
 refine wo (Spec.ext1 (Has.s rfl)) ?_
 refine wo (Spec.assign (Has.s rfl)) ?_
 refine wo (Spec.assign (Has.s rfl)) ?_
 refine Walk.nil ?_
 refine Leaf.thenN ?_
 refine CWalk.ret ?_
 obtain rfl := Option.some.inj hm
 exact Leaf.retC2 rfl (HasR.cv (HasR.tmp (Has.s rfl)) Cv.fl) (HasR.cv (HasR.tmp (Has.s rfl)) Cv.fl)

def slices_IndexFunc_byte_byte_L1 (a0 : List (List UInt8)) (a1 : (List UInt8) → Option Bool) (s1 : Int) : Option (Ctl (Int) ((Unit) ⊕ (Int))) :=
  (bif (decide (s1 < ((a0).length : Int))) then Option.bind (idx a0 s1) (fun x3 => Option.bind (a1 x3) (fun x4 => (bif x4 then some (Ctl.brk (Sum.inr s1)) else some (Ctl.next (wI (s1 + (1 : Int))))))) else some (Ctl.brk (Sum.inl ())))
/-- slices.IndexFunc[[][]byte,[]byte] -/
def slices_IndexFunc_byte_byte (a0 : List (List UInt8)) (a1 : (List UInt8) → Option Bool) : Option (Int) :=
  Option.bind (loopM (fun s : Int => slices_IndexFunc_byte_byte_L1 a0 a1 s) FUEL (0 : Int)) (fun b5 => Sum.elim (fun b6 => some (-1 : Int)) (fun b7 => some b7) b5)
set_option maxRecDepth 100000 in
set_option maxHeartbeats 2000000 in
theorem slices_IndexFunc_byte_byte_c (a0 : List (List UInt8)) (a1 : (List UInt8) → Option Bool) {r : Int} (hm : slices_IndexFunc_byte_byte a0 a1 = some r) : Ctr Try.prog 50 [.rep 0 a0, .fn Try.prog pre1 0 a1] (.fl r) [] := by
 refine ctr_of_walk [[]] 19 Try.func50 rfl rfl rfl rfl (fun w0 om => ?_)
 unfold slices_IndexFunc_byte_byte at hm
 refine CWalk.sub (G' := [.fact 0 (.rep [0] (a0 : List (List UInt8))), .fact 1 (.fn Try.prog pre1 [0] (a1))]) (sn (sn Sub.nil)) ?_
 refine CWalk.seq ?_
 refine CWalk.region ?_
 refine wo (Spec.assign Has.int) ?_
 refine Walk.nil ?_
 refine Leaf.thenN ?_
 refine CWalk.seq ?_
 refine CWalk.seq ?_
 refine CWalk.region ?_
 refine mv ?_
 refine wo (Spec.len (Has.s rfl) Try.underlying25) ?_
 refine wo (Spec.move Has.int) ?_
 refine Walk.nil ?_
 refine Leaf.thenN ?_
 refine CWalk.block ?_
 obtain ⟨b5, hb5, hm⟩ := bind_some hm
 refine CWalk.loop (fun s : Int => [.fact 0 (.rep [0] (a0 : List (List UInt8))), .fact 1 (.fn Try.prog pre1 [0] (a1)), .fact 7 (.rep [] (((a0).length : Int) : Int)), .fact 8 (.rep [] (s : Int))]) (fun b : (Unit) ⊕ (Int) => Sum.elim (fun b => (Exit.exit 0, [])) (fun b => (Exit.ret, [.fact 4 (.rep [] (b : Int))])) b) hb5 (su (sn (st (st Sub.nil)))) ?_ ?_
 ·rintro s1 c2 hm
  replace hm : slices_IndexFunc_byte_byte_L1 a0 a1 s1 = some c2 := hm
  unfold slices_IndexFunc_byte_byte_L1 at hm
  show CWalk _ [.fact 0 (.rep [0] (a0 : List (List UInt8))), .fact 1 (.fn Try.prog pre1 [0] (a1)), .fact 7 (.rep [] (((a0).length : Int) : Int)), .fact 8 (.rep [] (s1 : Int))] _ _
  refine CWalk.seq ?_
  refine CWalk.region ?_
  refine wo (Spec.lssI (Has.s rfl) (Has.s rfl)) ?_
  refine Walk.nil ?_
  refine Leaf.thenN ?_
  refine CWalk.seq ?_
  refine CWalk.cond rfl (fun hb => ?_) (fun hb => ?_)
  ·have hm := cond_t hb hm
   refine CWalk.skip ?_
   refine Leaf.thenN ?_
   refine CWalk.seq ?_
   refine CWalk.block ?_
   refine CWalk.seq ?_
   refine CWalk.region ?_
   refine mv ?_
   refine wo (Spec.assign (Has.s rfl)) ?_
   refine Walk.nil ?_
   refine Leaf.thenN ?_
   refine CWalk.seq ?_
   refine CWalk.region ?_
   refine mv ?_
   refine mv ?_
   refine mv ?_
   obtain ⟨x3, hx3, hm⟩ := bind_some hm
   refine wo (Spec.indexAddr hx3 sl25 (Has.s rfl) (Has.s rfl)) ?_
   refine wo (Spec.load ty46 (Has.s rfl)) ?_
   obtain ⟨x4, hx4, hm⟩ := bind_some hm
   refine wo (Spec.callFn (xs := [.tmp 15]) (x := x3) [0] 10 rfl hx4 (Has.s rfl) (HasAll.cons (Has.m (Has.s rfl) rfl) HasAll.nil)) ?_
   refine Walk.nil ?_
   refine Leaf.thenN ?_
   refine CWalk.cond rfl (fun hb => ?_) (fun hb => ?_)
   ·have hm := cond_t hb hm
    refine CWalk.seq ?_
    refine CWalk.region ?_
    refine mv ?_
    refine wo (Spec.assign (Has.s rfl)) ?_
    refine Walk.nil ?_
    refine Leaf.thenN ?_
    refine CWalk.ret ?_
    refine Leaf.blockR ?_
    refine Leaf.thenR ?_
    exact Leaf.brk hm (fun h => nomatch h) rfl (st Sub.nil)
   ·have hm := cond_f hb hm
    refine CWalk.skip ?_
    refine Leaf.blockN ?_
    refine Leaf.thenN ?_
    refine CWalk.region ?_
    refine wo (Spec.addI (Has.s rfl) Has.int) ?_
    refine mv ?_
    refine Walk.nil ?_
    exact Leaf.next hm (su (sn (st (st Sub.nil))))
  ·have hm := cond_f hb hm
   refine CWalk.exit ?_
   refine Leaf.thenE ?_
   exact Leaf.brk hm (fun h => nomatch h) rfl (Sub.nil)
 ·intro _
  rcases b5 with b6 | b7
  ·have hm := selim_l hm
   refine Leaf.blockE ?_
   refine Leaf.thenN ?_
   refine CWalk.seq ?_
   refine CWalk.region ?_
   refine wo (Spec.assign Has.int) ?_
   refine Walk.nil ?_
   refine Leaf.thenN ?_
   refine CWalk.ret ?_
   obtain rfl := Option.some.inj hm
   exact Leaf.retC1 rfl (HasR.cv (HasR.tmp (Has.s rfl)) Cv.fl)
  ·have hm := selim_r hm
   refine Leaf.blockR ?_
   refine Leaf.thenR ?_
   obtain rfl := Option.some.inj hm
   exact Leaf.retC1 rfl (HasR.cv (HasR.tmp (Has.s rfl)) Cv.fl)

/-- slices.ContainsFunc[[][]byte,[]byte] -/
def slices_ContainsFunc_byte_byte (a0 : List (List UInt8)) (a1 : (List UInt8) → Option Bool) : Option (Bool) :=
  Option.bind (slices_IndexFunc_byte_byte a0 a1) (fun x1 => some (decide (x1 ≥ (0 : Int))))
set_option maxRecDepth 100000 in
set_option maxHeartbeats 2000000 in
theorem slices_ContainsFunc_byte_byte_c (a0 : List (List UInt8)) (a1 : (List UInt8) → Option Bool) {r : Bool} (hm : slices_ContainsFunc_byte_byte a0 a1 = some r) : Ctr Try.prog 32 [.rep 0 a0, .fn Try.prog pre1 0 a1] (.fl r) [] := by
 refine ctr_of_walk [[]] 9 Try.func32 rfl rfl rfl rfl (fun w0 om => ?_)
 unfold slices_ContainsFunc_byte_byte at hm
 refine CWalk.sub (G' := [.fact 0 (.rep [0] (a0 : List (List UInt8))), .fact 1 (.fn Try.prog pre1 [0] (a1))]) (sn (sn Sub.nil)) ?_
 refine CWalk.seq ?_
 refine CWalk.region ?_
 refine wo (Spec.assign Has.bool) ?_
 refine Walk.nil ?_
 refine Leaf.thenN ?_
 refine CWalk.seq ?_
 refine CWalk.region ?_
 refine mv ?_
 refine mv ?_
 obtain ⟨x1, hx1, hm⟩ := bind_some hm
 refine wo (f := Fact.rep [] (x1 : Int)) (Spec.callE [0] 10 rfl en50 (slices_IndexFunc_byte_byte_c a0 a1 hx1) (HasAll.cons (Has.m (Has.s rfl) rfl) (HasAll.cons (Has.cv (Has.s rfl) (Cv.fnM rfl)) HasAll.nil))) ?_
 refine wo (Spec.geqI (Has.s rfl) Has.int) ?_
 refine wo (Spec.assign (Has.s rfl)) ?_
 refine Walk.nil ?_
 refine Leaf.thenN ?_
 refine CWalk.ret ?_
 obtain rfl := Option.some.inj hm
 exact Leaf.retC1 rfl (HasR.cv (HasR.tmp (Has.s rfl)) Cv.fl)

/-- freeboard/head.odd -/
def head_odd (a0 : List UInt8) : Option (Bool) :=
  some ((((a0).length : Int) != (0 : Int)) && (((a0).length : Int) != (128 : Int)))
set_option maxRecDepth 100000 in
set_option maxHeartbeats 2000000 in
theorem head_odd_c (a0 : List UInt8) {r : Bool} (hm : head_odd a0 = some r) : Ctr Try.prog 33 [.rep 0 a0] (.fl r) [] := by
 refine ctr_of_walk [[]] 11 Try.func33 rfl rfl rfl rfl (fun w0 om => ?_)
 unfold head_odd at hm
 refine CWalk.sub (G' := [.fact 0 (.rep [0] (a0 : List UInt8))]) (sn Sub.nil) ?_
 refine CWalk.seq ?_
 refine CWalk.region ?_
 refine wo (Spec.assign Has.bool) ?_
 refine Walk.nil ?_
 refine Leaf.thenN ?_
 refine CWalk.seq ?_
 refine CWalk.region ?_
 refine mv ?_
 refine wo (Spec.len (Has.s rfl) Try.underlying46) ?_
 refine wo (Spec.neqI (Has.s rfl) Has.int) ?_
 refine mv ?_
 refine wg rfl rfl (fun hb => Spec.move (Has.s rfl)) ?_
 refine wg rfl rfl (fun hb => Spec.len (Has.u rfl hb) Try.underlying46) ?_
 refine wg rfl rfl (fun hb => Spec.neqI (Has.u rfl hb) Has.int) ?_
 refine wo (Spec.and (Has.s rfl) (fun h => Has.u rfl h)) ?_
 refine wo (Spec.assign (Has.s rfl)) ?_
 refine Walk.nil ?_
 refine Leaf.thenN ?_
 refine CWalk.ret ?_
 obtain rfl := Option.some.inj hm
 exact Leaf.retC1 rfl (HasR.cv (HasR.tmp (Has.s rfl)) Cv.fl)

def head_Check_L1 (a1 : Head) (s3 : Bool) (s4 : Int) : Option (Ctl (Bool × Int) ((Bool) ⊕ (Unit))) :=
  (bif (decide (s4 < ((a1.Dirty).length : Int))) then Option.bind (idx a1.Dirty s4) (fun x6 => Option.bind (gO (x6) (idx a1.Blocks s4)) (fun x7 => (bif (x6 && (((x7).length : Int) == (0 : Int))) then some (Ctl.brk (Sum.inr ())) else some (Ctl.next ((s3 || x6), (wI (s4 + (1 : Int)))))))) else some (Ctl.brk (Sum.inl s3)))
/-- freeboard/head.Check -/
def head_Check (a0 : Config) (a1 : Head) : Option (Int) :=
  Option.bind (shape_Stripes a0) (fun x1 => Option.bind (gO (!((((((x1.2 != (0 : Int)) || (decide (a1.Stripe < (0 : Int)))) || (decide (a1.Stripe ≥ x1.1))) || (((a1.Blocks).length : Int) != a0.Members)) || (((a1.Dirty).length : Int) != (wI (a0.Members - (1 : Int))))) || (decide ((a1.Phase.toNat : Int) > ((4 : UInt8).toNat : Int))))) (slices_ContainsFunc_byte_byte a1.Blocks (fun y => head_odd y))) (fun x2 => (bif (((((((x1.2 != (0 : Int)) || (decide (a1.Stripe < (0 : Int)))) || (decide (a1.Stripe ≥ x1.1))) || (((a1.Blocks).length : Int) != a0.Members)) || (((a1.Dirty).length : Int) != (wI (a0.Members - (1 : Int))))) || (decide ((a1.Phase.toNat : Int) > ((4 : UInt8).toNat : Int)))) || x2) then some (8 : Int) else Option.bind (loopM (fun s : Bool × Int => head_Check_L1 a1 s.1 s.2) FUEL (false, (0 : Int))) (fun b8 => Sum.elim (fun b9 => Option.bind (idx a1.Blocks (wI (a0.Members - (1 : Int)))) (fun x10 => (bif (((((a1.Phase == (0 : UInt8)) == (decide (((x10).length : Int) > (0 : Int)))) || ((!(a1.Phase == (0 : UInt8))) && (!b9))) || ((decide ((a1.Phase.toNat : Int) ≤ ((1 : UInt8).toNat : Int))) && ((a1.Seq.toNat : Int) != ((0 : UInt32).toNat : Int)))) || (a1.Deals && ((!b9) || (decide ((a1.Phase.toNat : Int) > ((1 : UInt8).toNat : Int)))))) then some (8 : Int) else some (0 : Int)))) (fun b11 => some (8 : Int)) b8))))
set_option maxRecDepth 100000 in
set_option maxHeartbeats 2000000 in
theorem head_Check_c (a0 : Config) (a1 : Head) {r : Int} (hm : head_Check a0 a1 = some r) : Ctr Try.prog 17 [.rep 0 a0, .rep 0 a1] (.fl r) [] := by
 refine ctr_of_walk [[]] 126 Try.func17 rfl rfl rfl rfl (fun w0 om => ?_)
 unfold head_Check at hm
 refine CWalk.sub (G' := [.fact 0 (.rep [] (a0 : Config)), .fact 1 (.rep [0] (a1 : Head))]) (Sub.cons (Has.fl (Has.s rfl)) (sn Sub.nil)) ?_
 refine CWalk.seq ?_
 refine CWalk.region ?_
 refine ws (Step.boxObj (ls := [(false, 1, Fact.rep [] a0.Id), (false, 1, Fact.rep [] a0.Members), (false, 1, Fact.rep [] a0.Chunk), (false, 1, Fact.rep [] a0.Rows), (false, 1, Fact.rep [] a0.Log), (false, 1, Fact.rep [] a0.Heads)]) 10 rfl rfl rfl rfl (HasL.flds (Has.cv (Has.s rfl) (Cv.trans (Cv.opens (chConfig a0)) (Cv.flds (CvL.cons Cv.fl (CvL.cons Cv.fl (CvL.cons Cv.fl (CvL.cons Cv.fl (CvL.cons Cv.fl (CvL.cons Cv.fl CvL.nil))))))))))) ?_
 refine ws (Step.boxObj (ls := [(false, 1, Fact.rep [] a1.Stripe), (false, 1, Fact.rep [0] a1.Blocks), (false, 1, Fact.rep [0] a1.Dirty), (false, 1, Fact.rep [] a1.Phase), (false, 1, Fact.rep [] a1.Deals), (false, 1, Fact.rep [] a1.Seq)]) 17 rfl rfl rfl rfl (HasL.flds (Has.cv (Has.s rfl) (Cv.trans (Cv.opens (chHead a1)) (Cv.flds (CvL.cons Cv.fl (CvL.cons Cv.refl (CvL.cons Cv.refl (CvL.cons Cv.fl (CvL.cons Cv.fl (CvL.cons Cv.fl CvL.nil))))))))))) ?_
 refine wo (Spec.assign Has.int) ?_
 refine Walk.nil ?_
 refine Leaf.thenN ?_
 refine CWalk.seq ?_
 refine CWalk.region ?_
 refine wo (Spec.loadObj (ls := [(false, 1, Fact.rep [] a0.Id), (false, 1, Fact.rep [] a0.Members), (false, 1, Fact.rep [] a0.Chunk), (false, 1, Fact.rep [] a0.Rows), (false, 1, Fact.rep [] a0.Log), (false, 1, Fact.rep [] a0.Heads)]) ty24 rfl rfl (Has.s rfl) rfl (HasGs.cons (HasG.s rfl) (HasGs.cons (HasG.s rfl) (HasGs.cons (HasG.s rfl) (HasGs.cons (HasG.s rfl) (HasGs.cons (HasG.s rfl) (HasGs.cons (HasG.s rfl) HasGs.nil))))))) ?_
 obtain ⟨x1, hx1, hm⟩ := bind_some hm
 refine wo (f := Fact.tup2 (Fact.rep [] x1.1) (Fact.rep [] x1.2)) (Spec.callE [] 24 rfl en31 (shape_Stripes_c a0 hx1) (HasAll.cons (Has.fl (Has.cv (Has.s rfl) (Cv.trans (Cv.flds (CvL.cons Cv.fl (CvL.cons Cv.fl (CvL.cons Cv.fl (CvL.cons Cv.fl (CvL.cons Cv.fl (CvL.cons Cv.fl CvL.nil))))))) (Cv.close (T := []) (chConfig a0))))) HasAll.nil)) ?_
 refine mv ?_
 refine wo (Spec.ext0 (Has.s rfl)) ?_
 refine wo (Spec.ext1 (Has.s rfl)) ?_
 refine wo (Spec.assign (Has.s rfl)) ?_
 refine wo (Spec.assign (Has.s rfl)) ?_
 refine Walk.nil ?_
 refine Leaf.thenN ?_
 refine CWalk.seq ?_
 refine CWalk.seq ?_
 refine CWalk.region ?_
 refine mv ?_
 refine wo (Spec.neqI (Has.s rfl) Has.int) ?_
 refine mv ?_
 refine wg rfl rfl (fun hb => Spec.fieldAddrO fd28_0 (Has.cv (Has.s rfl) (Cv.isvP rfl))) ?_
 refine wg rfl rfl (fun hb => Spec.loadF (i := 0) ty3 rfl (Has.u rfl hb) rfl (HasG.s rfl)) ?_
 refine wg rfl rfl (fun hb => Spec.lssI (Has.u rfl hb) Has.int) ?_
 refine wo (Spec.or (Has.s rfl) (fun h => Has.u rfl h)) ?_
 refine mv ?_
 refine wg rfl rfl (fun hb => Spec.fieldAddrO fd28_0 (Has.cv (Has.s rfl) (Cv.isvP rfl))) ?_
 refine wg rfl rfl (fun hb => Spec.loadF (i := 0) ty3 rfl (Has.u rfl hb) rfl (HasG.s rfl)) ?_
 refine wg rfl rfl (fun hb => Spec.move (Has.s rfl)) ?_
 refine wg rfl rfl (fun hb => Spec.geqI (Has.u rfl hb) (Has.u rfl hb)) ?_
 refine wo (Spec.or (Has.s rfl) (fun h => Has.u rfl h)) ?_
 refine mv ?_
 refine wg rfl rfl (fun hb => Spec.fieldAddrO fd28_1 (Has.cv (Has.s rfl) (Cv.isvP rfl))) ?_
 refine wg rfl rfl (fun hb => Spec.loadF (i := 1) ty25 rfl (Has.u rfl hb) rfl (HasG.s rfl)) ?_
 refine wg rfl rfl (fun hb => Spec.len (Has.u rfl hb) Try.underlying25) ?_
 refine wg rfl rfl (fun hb => Spec.fieldAddrO fd24_1 (Has.cv (Has.s rfl) (Cv.isvP rfl))) ?_
 refine wg rfl rfl (fun hb => Spec.loadF (i := 1) ty3 rfl (Has.u rfl hb) rfl (HasG.s rfl)) ?_
 refine wg rfl rfl (fun hb => Spec.neqI (Has.u rfl hb) (Has.u rfl hb)) ?_
 refine wo (Spec.or (Has.s rfl) (fun h => Has.u rfl h)) ?_
 refine mv ?_
 refine wg rfl rfl (fun hb => Spec.fieldAddrO fd28_2 (Has.cv (Has.s rfl) (Cv.isvP rfl))) ?_
 refine wg rfl rfl (fun hb => Spec.loadF (i := 2) ty26 rfl (Has.u rfl hb) rfl (HasG.s rfl)) ?_
 refine wg rfl rfl (fun hb => Spec.len (Has.u rfl hb) Try.underlying26) ?_
 refine wg rfl rfl (fun hb => Spec.fieldAddrO fd24_1 (Has.cv (Has.s rfl) (Cv.isvP rfl))) ?_
 refine wg rfl rfl (fun hb => Spec.loadF (i := 1) ty3 rfl (Has.u rfl hb) rfl (HasG.s rfl)) ?_
 refine wg rfl rfl (fun hb => Spec.subI (Has.u rfl hb) Has.int) ?_
 refine wg rfl rfl (fun hb => Spec.neqI (Has.u rfl hb) (Has.u rfl hb)) ?_
 refine wo (Spec.or (Has.s rfl) (fun h => Has.u rfl h)) ?_
 refine mv ?_
 refine wg rfl rfl (fun hb => Spec.fieldAddrO fd28_3 (Has.cv (Has.s rfl) (Cv.isvP rfl))) ?_
 refine wg rfl rfl (fun hb => Spec.loadF (i := 3) ty5 rfl (Has.u rfl hb) rfl (HasG.s rfl)) ?_
 refine wg rfl rfl (fun hb => Spec.gtrN (α := UInt8) (Has.u rfl hb) (Has.u8 4 rfl)) ?_
 refine wo (Spec.or (Has.s rfl) (fun h => Has.u rfl h)) ?_
 refine mv ?_
 refine wg rfl rfl (fun hb => Spec.fieldAddrO fd28_1 (Has.cv (Has.s rfl) (Cv.isvP rfl))) ?_
 refine wg rfl rfl (fun hb => Spec.loadF (i := 1) ty25 rfl (Has.u rfl hb) rfl (HasG.s rfl)) ?_
 obtain ⟨x2, hx2, hm⟩ := bind_some hm
 refine wg (f := Fact.rep [] (x2 : Bool)) rfl rfl (fun hb => Spec.callE [0] 25 rfl en32 (slices_ContainsFunc_byte_byte_c a1.Blocks (fun y => head_odd y) (gO_t hx2 (not_t hb))) (HasAll.cons (Has.m (Has.u rfl hb) rfl) (HasAll.cons (Has.cv Has.func (Cv.fn (pu := []) (pc := []) (shc := []) en33 CvF.nil CvF.nil (fun y r h => head_odd_c y h))) HasAll.nil))) ?_
 refine wo (Spec.or (Has.s rfl) (fun h => Has.u rfl h)) ?_
 refine Walk.nil ?_
 refine Leaf.thenN ?_
 refine CWalk.cond rfl (fun hb => ?_) (fun hb => ?_)
 ·have hm := cond_t hb hm
  refine CWalk.seq ?_
  refine CWalk.region ?_
  refine wo (Spec.assign Has.int) ?_
  refine Walk.nil ?_
  refine Leaf.thenN ?_
  refine CWalk.ret ?_
  refine Leaf.thenR ?_
  obtain rfl := Option.some.inj hm
  exact Leaf.retC1 rfl (HasR.cv (HasR.tmp (Has.s rfl)) Cv.fl)
 ·have hm := cond_f hb hm
  refine CWalk.skip ?_
  refine Leaf.thenN ?_
  refine CWalk.seq ?_
  refine CWalk.region ?_
  refine wo (Spec.assign Has.bool) ?_
  refine Walk.nil ?_
  refine Leaf.thenN ?_
  refine CWalk.seq ?_
  refine CWalk.seq ?_
  refine CWalk.region ?_
  refine wo (Spec.fieldAddrO fd28_2 (Has.cv (Has.s rfl) (Cv.isvP rfl))) ?_
  refine wo (Spec.loadF (i := 2) ty26 rfl (Has.s rfl) rfl (HasG.s rfl)) ?_
  refine wo (Spec.len (Has.s rfl) Try.underlying26) ?_
  refine wo (Spec.move Has.int) ?_
  refine Walk.nil ?_
  refine Leaf.thenN ?_
  refine CWalk.block ?_
  obtain ⟨b8, hb8, hm⟩ := bind_some hm
  refine CWalk.loop (fun s : Bool × Int => [.fact 2 (.isv 10), .fact 3 (.isv 17), .fact 7 (.rep [] s.1), .fact 58 (.rep [0] a1.Dirty), .fact 59 (.rep [] (((a1.Dirty).length : Int) : Int)), .fact 60 (.rep [] s.2), .fact 100011 (.at 11 (.rep [] a0.Id)), .fact 100012 (.at 12 (.rep [] a0.Members)), .fact 100013 (.at 13 (.rep [] a0.Chunk)), .fact 100014 (.at 14 (.rep [] a0.Rows)), .fact 100015 (.at 15 (.rep [] a0.Log)), .fact 100016 (.at 16 (.rep [] a0.Heads)), .fact 100018 (.at 18 (.rep [] a1.Stripe)), .fact 100019 (.at 19 (.rep [0] a1.Blocks)), .fact 100020 (.at 20 (.rep [0] a1.Dirty)), .fact 100021 (.at 21 (.rep [] a1.Phase)), .fact 100022 (.at 22 (.rep [] a1.Deals)), .fact 100023 (.at 23 (.rep [] a1.Seq)), .fact 100010 (.obj 10 [(false, 1), (false, 1), (false, 1), (false, 1), (false, 1), (false, 1)]), .fact 100017 (.obj 17 [(false, 1), (false, 1), (false, 1), (false, 1), (false, 1), (false, 1)])]) (fun b : (Bool) ⊕ (Unit) => Sum.elim (fun b => (Exit.exit 0, [.fact 2 (.isv 10), .fact 3 (.isv 17), .fact 7 (.rep [] (b : Bool)), .fact 100011 (.at 11 (.rep [] a0.Id)), .fact 100012 (.at 12 (.rep [] a0.Members)), .fact 100013 (.at 13 (.rep [] a0.Chunk)), .fact 100014 (.at 14 (.rep [] a0.Rows)), .fact 100015 (.at 15 (.rep [] a0.Log)), .fact 100016 (.at 16 (.rep [] a0.Heads)), .fact 100018 (.at 18 (.rep [] a1.Stripe)), .fact 100019 (.at 19 (.rep [0] a1.Blocks)), .fact 100020 (.at 20 (.rep [0] a1.Dirty)), .fact 100021 (.at 21 (.rep [] a1.Phase)), .fact 100022 (.at 22 (.rep [] a1.Deals)), .fact 100023 (.at 23 (.rep [] a1.Seq)), .fact 100010 (.obj 10 [(false, 1), (false, 1), (false, 1), (false, 1), (false, 1), (false, 1)]), .fact 100017 (.obj 17 [(false, 1), (false, 1), (false, 1), (false, 1), (false, 1), (false, 1)])])) (fun b => (Exit.ret, [.fact 4 (.rep [] ((8 : Int) : Int))])) b) hb8 (sn (sn (st (su (st (st (sf (sf (sf (sf (sf (sf (sf (sm (sm (sf (sf (sf (sn (sn Sub.nil)))))))))))))))))))) ?_ ?_
  ·rintro ⟨s3, s4⟩ c5 hm
   replace hm : head_Check_L1 a1 s3 s4 = some c5 := hm
   unfold head_Check_L1 at hm
   show CWalk _ [.fact 2 (.isv 10), .fact 3 (.isv 17), .fact 7 (.rep [] (s3 : Bool)), .fact 58 (.rep [0] a1.Dirty), .fact 59 (.rep [] (((a1.Dirty).length : Int) : Int)), .fact 60 (.rep [] (s4 : Int)), .fact 100011 (.at 11 (.rep [] a0.Id)), .fact 100012 (.at 12 (.rep [] a0.Members)), .fact 100013 (.at 13 (.rep [] a0.Chunk)), .fact 100014 (.at 14 (.rep [] a0.Rows)), .fact 100015 (.at 15 (.rep [] a0.Log)), .fact 100016 (.at 16 (.rep [] a0.Heads)), .fact 100018 (.at 18 (.rep [] a1.Stripe)), .fact 100019 (.at 19 (.rep [0] a1.Blocks)), .fact 100020 (.at 20 (.rep [0] a1.Dirty)), .fact 100021 (.at 21 (.rep [] a1.Phase)), .fact 100022 (.at 22 (.rep [] a1.Deals)), .fact 100023 (.at 23 (.rep [] a1.Seq)), .fact 100010 (.obj 10 [(false, 1), (false, 1), (false, 1), (false, 1), (false, 1), (false, 1)]), .fact 100017 (.obj 17 [(false, 1), (false, 1), (false, 1), (false, 1), (false, 1), (false, 1)])] _ _
   refine CWalk.seq ?_
   refine CWalk.region ?_
   refine wo (Spec.lssI (Has.s rfl) (Has.s rfl)) ?_
   refine Walk.nil ?_
   refine Leaf.thenN ?_
   refine CWalk.seq ?_
   refine CWalk.cond rfl (fun hb => ?_) (fun hb => ?_)
   ·have hm := cond_t hb hm
    refine CWalk.skip ?_
    refine Leaf.thenN ?_
    refine CWalk.seq ?_
    refine CWalk.block ?_
    refine CWalk.seq ?_
    refine CWalk.region ?_
    refine mv ?_
    obtain ⟨x6, hx6, hm⟩ := bind_some hm
    refine wo (Spec.indexAddr hx6 sl26 (Has.s rfl) (Has.s rfl)) ?_
    refine wo ((Spec.load ty4 (Has.s rfl)).flat (T' := [])) ?_
    refine wo (Spec.assign (Has.s rfl)) ?_
    refine wo (Spec.assign (Has.s rfl)) ?_
    refine Walk.nil ?_
    refine Leaf.thenN ?_
    refine CWalk.seq ?_
    refine CWalk.seq ?_
    refine CWalk.region ?_
    refine mv ?_
    refine mv ?_
    refine wg rfl rfl (fun hb => Spec.fieldAddrO fd28_1 (Has.cv (Has.s rfl) (Cv.isvP rfl))) ?_
    refine wg rfl rfl (fun hb => Spec.loadF (i := 1) ty25 rfl (Has.u rfl hb) rfl (HasG.s rfl)) ?_
    refine wg rfl rfl (fun hb => Spec.move (Has.s rfl)) ?_
    obtain ⟨x7, hx7, hm⟩ := bind_some hm
    refine wg rfl rfl (fun hb => Spec.indexAddr (gO_t hx7 hb) sl25 (Has.u rfl hb) (Has.u rfl hb)) ?_
    refine wg rfl rfl (fun hb => Spec.load ty46 (Has.u rfl hb)) ?_
    refine wg rfl rfl (fun hb => Spec.len (Has.u rfl hb) Try.underlying46) ?_
    refine wg rfl rfl (fun hb => Spec.eqlI (Has.u rfl hb) Has.int) ?_
    refine wo (Spec.and (Has.s rfl) (fun h => Has.u rfl h)) ?_
    refine Walk.nil ?_
    refine Leaf.thenN ?_
    refine CWalk.cond rfl (fun hb => ?_) (fun hb => ?_)
    ·have hm := cond_t hb hm
     refine CWalk.seq ?_
     refine CWalk.region ?_
     refine wo (Spec.assign Has.int) ?_
     refine Walk.nil ?_
     refine Leaf.thenN ?_
     refine CWalk.ret ?_
     refine Leaf.thenR ?_
     refine Leaf.blockR ?_
     refine Leaf.thenR ?_
     exact Leaf.brk hm (fun h => nomatch h) rfl (st Sub.nil)
    ·have hm := cond_f hb hm
     refine CWalk.skip ?_
     refine Leaf.thenN ?_
     refine CWalk.region ?_
     refine mv ?_
     refine mv ?_
     refine wg rfl rfl (fun hb => Spec.move (Has.s rfl)) ?_
     refine wo (Spec.or (Has.s rfl) (fun h => Has.u rfl h)) ?_
     refine wo (Spec.assign (Has.s rfl)) ?_
     refine Walk.nil ?_
     refine Leaf.blockN ?_
     refine Leaf.thenN ?_
     refine CWalk.region ?_
     refine wo (Spec.addI (Has.s rfl) Has.int) ?_
     refine mv ?_
     refine Walk.nil ?_
     exact Leaf.next hm (sn (sn (st (su (st (st (sf (sf (sf (sf (sf (sf (sf (sm (sm (sf (sf (sf (sn (sn Sub.nil))))))))))))))))))))
   ·have hm := cond_f hb hm
    refine CWalk.exit ?_
    refine Leaf.thenE ?_
    exact Leaf.brk hm (fun h => nomatch h) rfl (sn (sn (st (sf (sf (sf (sf (sf (sf (sf (sm (sm (sf (sf (sf (sn (sn Sub.nil)))))))))))))))))
  ·intro _
   rcases b8 with b9 | b11
   ·have hm := selim_l hm
    refine Leaf.blockE ?_
    refine Leaf.thenN ?_
    refine CWalk.seq ?_
    obtain ⟨x10, hx10, hm⟩ := bind_some hm
    refine CWalk.drawM [[], [0], [0, 1], [], [3], [], [5], [5, 6], [3, 4, 5, 6, 7], [3, 4, 5, 6, 7, 8], [3, 4, 5, 6, 7, 8, 9], [3, 4, 5, 6, 7, 8, 9, 10], [0, 1, 2], [0, 1, 2, 3, 4, 5, 6, 7, 8, 9, 10, 11, 12]] [[.fact 80 (.pto 17 3)], [.fact 81 (.rep [] a1.Phase)], [.fact 82 (.rep [] ((a1.Phase == (0 : UInt8)) : Bool))], [.fact 83 (.pto 17 1)], [.fact 84 (.rep [0] a1.Blocks)], [.fact 85 (.pto 10 1)], [.fact 86 (.rep [] a0.Members)], [.fact 87 (.rep [] ((wI (a0.Members - (1 : Int))) : Int))], [.fact 88 (.ptr [0] (x10 : List UInt8))], [.fact 89 (.rep [0] (x10 : List UInt8))], [.fact 90 (.rep [] (((x10).length : Int) : Int))], [.fact 91 (.rep [] ((decide (((x10).length : Int) > (0 : Int))) : Bool))], [.fact 10 (.rep [] ((a1.Phase == (0 : UInt8)) : Bool))], [.fact 11 (.rep [] ((decide (((x10).length : Int) > (0 : Int))) : Bool))]] mixed (by kernel_rfl) (ao (so (Spec.fieldAddrO fd28_3 (Has.cv (Has.s rfl) (Cv.isvP rfl)))) (ao (so (Spec.loadF (i := 3) ty5 rfl (Has.s rfl) rfl (HasG.s rfl))) (ao (so (Spec.eqlB (Has.s rfl) (Has.u8 0 rfl))) (ao (so (Spec.fieldAddrO fd28_1 (Has.cv (Has.s rfl) (Cv.isvP rfl)))) (ao (so (Spec.loadF (i := 1) ty25 rfl (Has.s rfl) rfl (HasG.s rfl))) (ao (so (Spec.fieldAddrO fd24_1 (Has.cv (Has.s rfl) (Cv.isvP rfl)))) (ao (so (Spec.loadF (i := 1) ty3 rfl (Has.s rfl) rfl (HasG.s rfl))) (ao (so (Spec.subI (Has.s rfl) Has.int)) (ao (so (Spec.indexAddr hx10 sl25 (Has.s rfl) (Has.s rfl))) (ao (so (Spec.load ty46 (Has.s rfl))) (ao (so (Spec.len (Has.s rfl) Try.underlying46)) (ao (so (Spec.gtrI (Has.s rfl) Has.int)) (ao (so (Spec.assign (Has.s rfl))) (ao (so (Spec.assign (Has.s rfl))) AllM.nil)))))))))))))) ?_
    refine Leaf.thenN ?_
    refine CWalk.seq ?_
    refine CWalk.seq ?_
    refine CWalk.region ?_
    refine mv ?_
    refine mv ?_
    refine wo (Spec.eqlT (Has.s rfl) (Has.s rfl) Try.underlying4) ?_
    refine mv ?_
    refine wg rfl rfl (fun hb => Spec.move (Has.s rfl)) ?_
    refine wg rfl rfl (fun hb => Spec.not (Has.u rfl hb)) ?_
    refine wg rfl rfl (fun hb => Spec.move (Has.u rfl hb)) ?_
    refine Walk.opgu rfl rfl rfl (fun hb => Spec.move (Has.s rfl)) ?_
    refine Walk.opgu rfl rfl rfl (fun hb => Spec.not (Has.u rfl hb)) ?_
    refine wg rfl rfl (fun hb => Spec.and (Has.u rfl hb) (fun h => Has.u rfl ⟨hb, h⟩)) ?_
    refine wo (Spec.or (Has.s rfl) (fun h => Has.u rfl h)) ?_
    refine mv ?_
    refine wg rfl rfl (fun hb => Spec.fieldAddrO fd28_3 (Has.cv (Has.s rfl) (Cv.isvP rfl))) ?_
    refine wg rfl rfl (fun hb => Spec.loadF (i := 3) ty5 rfl (Has.u rfl hb) rfl (HasG.s rfl)) ?_
    refine wg rfl rfl (fun hb => Spec.leqN (α := UInt8) (Has.u rfl hb) (Has.u8 1 rfl)) ?_
    refine wg rfl rfl (fun hb => Spec.move (Has.u rfl hb)) ?_
    refine Walk.opgu rfl rfl rfl (fun hb => Spec.fieldAddrO fd28_5 (Has.cv (Has.s rfl) (Cv.isvP rfl))) ?_
    refine Walk.opgu rfl rfl rfl (fun hb => Spec.loadF (i := 5) ty22 rfl (Has.u rfl hb) rfl (HasG.s rfl)) ?_
    refine Walk.opgu rfl rfl rfl (fun hb => Spec.neqN (α := UInt32) (Has.u rfl hb) (Has.u32 0 rfl)) ?_
    refine wg rfl rfl (fun hb => Spec.and (Has.u rfl hb) (fun h => Has.u rfl ⟨hb, h⟩)) ?_
    refine wo (Spec.or (Has.s rfl) (fun h => Has.u rfl h)) ?_
    refine mv ?_
    refine wg rfl rfl (fun hb => Spec.fieldAddrO fd28_4 (Has.cv (Has.s rfl) (Cv.isvP rfl))) ?_
    refine wg rfl rfl (fun hb => Spec.loadF (i := 4) ty4 rfl (Has.u rfl hb) rfl (HasG.s rfl)) ?_
    refine wg rfl rfl (fun hb => Spec.move (Has.u rfl hb)) ?_
    refine Walk.opgu rfl rfl rfl (fun hb => Spec.move (Has.s rfl)) ?_
    refine Walk.opgu rfl rfl rfl (fun hb => Spec.not (Has.u rfl hb)) ?_
    refine Walk.opgu rfl rfl rfl (fun hb => Spec.move (Has.u rfl hb)) ?_
    refine Walk.opgu rfl rfl rfl (fun hb => Spec.fieldAddrO fd28_3 (Has.cv (Has.s rfl) (Cv.isvP rfl))) ?_
    refine Walk.opgu rfl rfl rfl (fun hb => Spec.loadF (i := 3) ty5 rfl (Has.u rfl hb) rfl (HasG.s rfl)) ?_
    refine Walk.opgu rfl rfl rfl (fun hb => Spec.gtrN (α := UInt8) (Has.u rfl hb) (Has.u8 1 rfl)) ?_
    refine Walk.opgu rfl rfl rfl (fun hb => Spec.or (Has.u rfl hb) (fun h => Has.u rfl ⟨hb, h⟩)) ?_
    refine wg rfl rfl (fun hb => Spec.and (Has.u rfl hb) (fun h => Has.u rfl ⟨hb, h⟩)) ?_
    refine wo (Spec.or (Has.s rfl) (fun h => Has.u rfl h)) ?_
    refine Walk.nil ?_
    refine Leaf.thenN ?_
    refine CWalk.cond rfl (fun hb => ?_) (fun hb => ?_)
    ·have hm := cond_t hb hm
     refine CWalk.seq ?_
     refine CWalk.region ?_
     refine wo (Spec.assign Has.int) ?_
     refine Walk.nil ?_
     refine Leaf.thenN ?_
     refine CWalk.ret ?_
     refine Leaf.thenR ?_
     obtain rfl := Option.some.inj hm
     exact Leaf.retC1 rfl (HasR.cv (HasR.tmp (Has.s rfl)) Cv.fl)
    ·have hm := cond_f hb hm
     refine CWalk.skip ?_
     refine Leaf.thenN ?_
     refine CWalk.seq ?_
     refine CWalk.region ?_
     refine wo (Spec.assign Has.int) ?_
     refine Walk.nil ?_
     refine Leaf.thenN ?_
     refine CWalk.ret ?_
     obtain rfl := Option.some.inj hm
     exact Leaf.retC1 rfl (HasR.cv (HasR.tmp (Has.s rfl)) Cv.fl)
   ·have hm := selim_r hm
    refine Leaf.blockR ?_
    refine Leaf.thenR ?_
    obtain rfl := Option.some.inj hm
    exact Leaf.retC1 rfl (HasR.cv (HasR.tmp (Has.s rfl)) Cv.fl)

def slices_Index_bool_bool_L1 (a0 : List Bool) (a1 : Bool) (s1 : Int) : Option (Ctl (Int) ((Unit) ⊕ (Int))) :=
  (bif (decide (s1 < ((a0).length : Int))) then Option.bind (idx a0 s1) (fun x3 => (bif (a1 == x3) then some (Ctl.brk (Sum.inr s1)) else some (Ctl.next (wI (s1 + (1 : Int)))))) else some (Ctl.brk (Sum.inl ())))
/-- slices.Index[[]bool,bool] -/
def slices_Index_bool_bool (a0 : List Bool) (a1 : Bool) : Option (Int) :=
  Option.bind (loopM (fun s : Int => slices_Index_bool_bool_L1 a0 a1 s) FUEL (0 : Int)) (fun b4 => Sum.elim (fun b5 => some (-1 : Int)) (fun b6 => some b6) b4)
set_option maxRecDepth 100000 in
set_option maxHeartbeats 2000000 in
theorem slices_Index_bool_bool_c (a0 : List Bool) (a1 : Bool) {r : Int} (hm : slices_Index_bool_bool a0 a1 = some r) : Ctr Try.prog 36 [.rep 0 a0, .rep 0 a1] (.fl r) [] := by
 refine ctr_of_walk [[]] 19 Try.func36 rfl rfl rfl rfl (fun w0 om => ?_)
 unfold slices_Index_bool_bool at hm
 refine CWalk.sub (G' := [.fact 0 (.rep [0] (a0 : List Bool)), .fact 1 (.rep [] (a1 : Bool))]) (sn (Sub.cons (Has.fl (Has.s rfl)) Sub.nil)) ?_
 refine CWalk.seq ?_
 refine CWalk.region ?_
 refine wo (Spec.assign Has.int) ?_
 refine Walk.nil ?_
 refine Leaf.thenN ?_
 refine CWalk.seq ?_
 refine CWalk.seq ?_
 refine CWalk.region ?_
 refine mv ?_
 refine wo (Spec.len (Has.s rfl) Try.underlying26) ?_
 refine wo (Spec.move Has.int) ?_
 refine Walk.nil ?_
 refine Leaf.thenN ?_
 refine CWalk.block ?_
 obtain ⟨b4, hb4, hm⟩ := bind_some hm
 refine CWalk.loop (fun s : Int => [.fact 0 (.rep [0] (a0 : List Bool)), .fact 1 (.rep [] (a1 : Bool)), .fact 7 (.rep [] (((a0).length : Int) : Int)), .fact 8 (.rep [] (s : Int))]) (fun b : (Unit) ⊕ (Int) => Sum.elim (fun b => (Exit.exit 0, [])) (fun b => (Exit.ret, [.fact 4 (.rep [] (b : Int))])) b) hb4 (su (st (st (st Sub.nil)))) ?_ ?_
 ·rintro s1 c2 hm
  replace hm : slices_Index_bool_bool_L1 a0 a1 s1 = some c2 := hm
  unfold slices_Index_bool_bool_L1 at hm
  show CWalk _ [.fact 0 (.rep [0] (a0 : List Bool)), .fact 1 (.rep [] (a1 : Bool)), .fact 7 (.rep [] (((a0).length : Int) : Int)), .fact 8 (.rep [] (s1 : Int))] _ _
  refine CWalk.seq ?_
  refine CWalk.region ?_
  refine wo (Spec.lssI (Has.s rfl) (Has.s rfl)) ?_
  refine Walk.nil ?_
  refine Leaf.thenN ?_
  refine CWalk.seq ?_
  refine CWalk.cond rfl (fun hb => ?_) (fun hb => ?_)
  ·have hm := cond_t hb hm
   refine CWalk.skip ?_
   refine Leaf.thenN ?_
   refine CWalk.seq ?_
   refine CWalk.block ?_
   refine CWalk.seq ?_
   refine CWalk.region ?_
   refine mv ?_
   refine wo (Spec.assign (Has.s rfl)) ?_
   refine Walk.nil ?_
   refine Leaf.thenN ?_
   refine CWalk.seq ?_
   refine CWalk.region ?_
   refine mv ?_
   refine mv ?_
   refine mv ?_
   obtain ⟨x3, hx3, hm⟩ := bind_some hm
   refine wo (Spec.indexAddr hx3 sl26 (Has.s rfl) (Has.s rfl)) ?_
   refine wo ((Spec.load ty4 (Has.s rfl)).flat (T' := [])) ?_
   refine wo (Spec.eqlT (Has.s rfl) (Has.s rfl) Try.underlying4) ?_
   refine Walk.nil ?_
   refine Leaf.thenN ?_
   refine CWalk.cond rfl (fun hb => ?_) (fun hb => ?_)
   ·have hm := cond_t hb hm
    refine CWalk.seq ?_
    refine CWalk.region ?_
    refine mv ?_
    refine wo (Spec.assign (Has.s rfl)) ?_
    refine Walk.nil ?_
    refine Leaf.thenN ?_
    refine CWalk.ret ?_
    refine Leaf.blockR ?_
    refine Leaf.thenR ?_
    exact Leaf.brk hm (fun h => nomatch h) rfl (st Sub.nil)
   ·have hm := cond_f hb hm
    refine CWalk.skip ?_
    refine Leaf.blockN ?_
    refine Leaf.thenN ?_
    refine CWalk.region ?_
    refine wo (Spec.addI (Has.s rfl) Has.int) ?_
    refine mv ?_
    refine Walk.nil ?_
    exact Leaf.next hm (su (st (st (st Sub.nil))))
  ·have hm := cond_f hb hm
   refine CWalk.exit ?_
   refine Leaf.thenE ?_
   exact Leaf.brk hm (fun h => nomatch h) rfl (Sub.nil)
 ·intro _
  rcases b4 with b5 | b6
  ·have hm := selim_l hm
   refine Leaf.blockE ?_
   refine Leaf.thenN ?_
   refine CWalk.seq ?_
   refine CWalk.region ?_
   refine wo (Spec.assign Has.int) ?_
   refine Walk.nil ?_
   refine Leaf.thenN ?_
   refine CWalk.ret ?_
   obtain rfl := Option.some.inj hm
   exact Leaf.retC1 rfl (HasR.cv (HasR.tmp (Has.s rfl)) Cv.fl)
  ·have hm := selim_r hm
   refine Leaf.blockR ?_
   refine Leaf.thenR ?_
   obtain rfl := Option.some.inj hm
   exact Leaf.retC1 rfl (HasR.cv (HasR.tmp (Has.s rfl)) Cv.fl)

/-- slices.Contains[[]bool,bool] -/
def slices_Contains_bool_bool (a0 : List Bool) (a1 : Bool) : Option (Bool) :=
  Option.bind (slices_Index_bool_bool a0 a1) (fun x1 => some (decide (x1 ≥ (0 : Int))))
set_option maxRecDepth 100000 in
set_option maxHeartbeats 2000000 in
theorem slices_Contains_bool_bool_c (a0 : List Bool) (a1 : Bool) {r : Bool} (hm : slices_Contains_bool_bool a0 a1 = some r) : Ctr Try.prog 20 [.rep 0 a0, .rep 0 a1] (.fl r) [] := by
 refine ctr_of_walk [[]] 9 Try.func20 rfl rfl rfl rfl (fun w0 om => ?_)
 unfold slices_Contains_bool_bool at hm
 refine CWalk.sub (G' := [.fact 0 (.rep [0] (a0 : List Bool)), .fact 1 (.rep [] (a1 : Bool))]) (sn (Sub.cons (Has.fl (Has.s rfl)) Sub.nil)) ?_
 refine CWalk.seq ?_
 refine CWalk.region ?_
 refine wo (Spec.assign Has.bool) ?_
 refine Walk.nil ?_
 refine Leaf.thenN ?_
 refine CWalk.seq ?_
 refine CWalk.region ?_
 refine mv ?_
 refine mv ?_
 obtain ⟨x1, hx1, hm⟩ := bind_some hm
 refine wo (f := Fact.rep [] (x1 : Int)) (Spec.callE [0] 10 rfl en36 (slices_Index_bool_bool_c a0 a1 hx1) (HasAll.cons (Has.m (Has.s rfl) rfl) (HasAll.cons (Has.fl (Has.s rfl)) HasAll.nil))) ?_
 refine wo (Spec.geqI (Has.s rfl) Has.int) ?_
 refine wo (Spec.assign (Has.s rfl)) ?_
 refine Walk.nil ?_
 refine Leaf.thenN ?_
 refine CWalk.ret ?_
 obtain rfl := Option.some.inj hm
 exact Leaf.retC1 rfl (HasR.cv (HasR.tmp (Has.s rfl)) Cv.fl)

/-- freeboard/turn.divide -/
def turn_divide (a0 : Int) (a1 : Int) : Option (Int × Int) :=
  Option.bind (quoI a0 a1) (fun x1 => Option.bind (remI a0 a1) (fun x2 => some (x1, x2)))
set_option maxRecDepth 100000 in
set_option maxHeartbeats 2000000 in
theorem turn_divide_c (a0 : Int) (a1 : Int) {r : Int × Int} (hm : turn_divide a0 a1 = some r) : Ctr Try.prog 51 [.rep 0 a0, .rep 0 a1] (.tup2 (.fl r.1) (.fl r.2)) [] := by
 refine ctr_of_walk [[]] 12 Try.func51 rfl rfl rfl rfl (fun w0 om => ?_)
 unfold turn_divide at hm
 refine CWalk.sub (G' := [.fact 0 (.rep [] (a0 : Int)), .fact 1 (.rep [] (a1 : Int))]) (Sub.cons (Has.fl (Has.s rfl)) (Sub.cons (Has.fl (Has.s rfl)) Sub.nil)) ?_
 refine CWalk.seq ?_
 refine CWalk.region ?_
 refine wo (Spec.assign Has.int) ?_
 refine wo (Spec.assign Has.int) ?_
 refine Walk.nil ?_
 refine Leaf.thenN ?_
 refine CWalk.seq ?_
 obtain ⟨x1, hx1, hm⟩ := bind_some hm
 obtain ⟨x2, hx2, hm⟩ := bind_some hm
 refine CWalk.drawM [[], [], [0, 1], [], [], [3, 4], [0, 1, 2], [0, 1, 2, 3, 4, 5, 6]] [[.fact 6 (.rep [] (a0 : Int))], [.fact 7 (.rep [] (a1 : Int))], [.fact 8 (.rep [] (x1 : Int))], [.fact 9 (.rep [] (a0 : Int))], [.fact 10 (.rep [] (a1 : Int))], [.fact 11 (.rep [] (x2 : Int))], [.fact 4 (.rep [] (x1 : Int))], [.fact 5 (.rep [] (x2 : Int))]] mixed (by kernel_rfl) (ao (so (Spec.move (Has.s rfl))) (ao (so (Spec.move (Has.s rfl))) (ao (so (Spec.quoI hx1 (Has.s rfl) (Has.s rfl))) (ao (so (Spec.move (Has.s rfl))) (ao (so (Spec.move (Has.s rfl))) (ao (so (Spec.remI hx2 (Has.s rfl) (Has.s rfl))) (ao (so (Spec.assign (Has.s rfl))) (ao (so (Spec.assign (Has.s rfl))) AllM.nil)))))))) ?_
 refine Leaf.thenN ?_
 refine CWalk.ret ?_
 obtain rfl := Option.some.inj hm
 exact Leaf.retC2 rfl (HasR.cv (HasR.tmp (Has.s rfl)) Cv.fl) (HasR.cv (HasR.tmp (Has.s rfl)) Cv.fl)

def turn_at_J1 (a0 : Config) (a1 : Int) (j2 : Bool) : Option (Row66 × Int) :=
  (bif j2 then some ((Row66.mk (Config.mk (0 : UInt32) (0 : Int) (0 : Int) (0 : Int) (0 : Int) (0 : Int)) (0 : Int)), (2 : Int)) else Option.bind (turn_divide a1 a0.Chunk) (fun x3 => some ((Row66.mk a0 x3.1), (0 : Int))))
/-- freeboard/turn.at -/
def turn_at (a0 : Config) (a1 : Int) (a2 : Int) (a3 : Int) : Option (Row66 × Int) :=
  Option.bind (shape_Stripes a0) (fun x1 => (bif (x1.2 != (0 : Int)) then some ((Row66.mk (Config.mk (0 : UInt32) (0 : Int) (0 : Int) (0 : Int) (0 : Int) (0 : Int)) (0 : Int)), x1.2) else (bif (decide (a1 < (0 : Int))) then (turn_at_J1 a0 a1 (decide (a1 < (0 : Int)))) else (bif (decide (a1 ≥ x1.1)) then (turn_at_J1 a0 a1 (decide (a1 ≥ x1.1))) else (bif (decide (a2 < (0 : Int))) then (turn_at_J1 a0 a1 (decide (a2 < (0 : Int)))) else (turn_at_J1 a0 a1 (decide (a2 ≥ a3))))))))
set_option maxRecDepth 100000 in
set_option maxHeartbeats 2000000 in
theorem turn_at_c (a0 : Config) (a1 : Int) (a2 : Int) (a3 : Int) {r : Row66 × Int} (hm : turn_at a0 a1 a2 a3 = some r) : Ctr Try.prog 34 [.rep 0 a0, .rep 0 a1, .rep 0 a2, .rep 0 a3] (.tup2 (.fl r.1) (.fl r.2)) [] := by
 refine ctr_of_walk [[]] 46 Try.func34 rfl rfl rfl rfl (fun w0 om => ?_)
 unfold turn_at at hm
 refine CWalk.sub (G' := [.fact 0 (.rep [] (a0 : Config)), .fact 1 (.rep [] (a1 : Int)), .fact 2 (.rep [] (a2 : Int)), .fact 3 (.rep [] (a3 : Int))]) (Sub.cons (Has.fl (Has.s rfl)) (Sub.cons (Has.fl (Has.s rfl)) (Sub.cons (Has.fl (Has.s rfl)) (Sub.cons (Has.fl (Has.s rfl)) Sub.nil)))) ?_
 refine CWalk.seq ?_
 refine CWalk.region ?_
 refine ws (Step.boxObj (ls := [(false, 1, Fact.rep [] a0.Id), (false, 1, Fact.rep [] a0.Members), (false, 1, Fact.rep [] a0.Chunk), (false, 1, Fact.rep [] a0.Rows), (false, 1, Fact.rep [] a0.Log), (false, 1, Fact.rep [] a0.Heads)]) 10 rfl rfl rfl rfl (HasL.flds (Has.cv (Has.s rfl) (Cv.trans (Cv.opens (chConfig a0)) (Cv.flds (CvL.cons Cv.fl (CvL.cons Cv.fl (CvL.cons Cv.fl (CvL.cons Cv.fl (CvL.cons Cv.fl (CvL.cons Cv.fl CvL.nil))))))))))) ?_
 refine ws (Step.allocObj (ls := [(false, 1, Fact.rep [] ((0 : UInt32) : UInt32)), (false, 1, Fact.rep [] ((0 : Int) : Int)), (false, 1, Fact.rep [] ((0 : Int) : Int)), (false, 1, Fact.rep [] ((0 : Int) : Int)), (false, 1, Fact.rep [] ((0 : Int) : Int)), (false, 1, Fact.rep [] ((0 : Int) : Int)), (false, 1, Fact.rep [] ((0 : Int) : Int))]) 17 rfl rfl rfl rfl zl66) ?_
 refine wo (Spec.assign Has.int) ?_
 refine Walk.nil ?_
 refine Leaf.thenN ?_
 refine CWalk.seq ?_
 refine CWalk.region ?_
 refine wo (Spec.loadObj (ls := [(false, 1, Fact.rep [] a0.Id), (false, 1, Fact.rep [] a0.Members), (false, 1, Fact.rep [] a0.Chunk), (false, 1, Fact.rep [] a0.Rows), (false, 1, Fact.rep [] a0.Log), (false, 1, Fact.rep [] a0.Heads)]) ty24 rfl rfl (Has.s rfl) rfl (HasGs.cons (HasG.s rfl) (HasGs.cons (HasG.s rfl) (HasGs.cons (HasG.s rfl) (HasGs.cons (HasG.s rfl) (HasGs.cons (HasG.s rfl) (HasGs.cons (HasG.s rfl) HasGs.nil))))))) ?_
 obtain ⟨x1, hx1, hm⟩ := bind_some hm
 refine wo (f := Fact.tup2 (Fact.rep [] x1.1) (Fact.rep [] x1.2)) (Spec.callE [] 25 rfl en31 (shape_Stripes_c a0 hx1) (HasAll.cons (Has.fl (Has.cv (Has.s rfl) (Cv.trans (Cv.flds (CvL.cons Cv.fl (CvL.cons Cv.fl (CvL.cons Cv.fl (CvL.cons Cv.fl (CvL.cons Cv.fl (CvL.cons Cv.fl CvL.nil))))))) (Cv.close (T := []) (chConfig a0))))) HasAll.nil)) ?_
 refine mv ?_
 refine wo (Spec.ext0 (Has.s rfl)) ?_
 refine wo (Spec.ext1 (Has.s rfl)) ?_
 refine wo (Spec.assign (Has.s rfl)) ?_
 refine wo (Spec.assign (Has.s rfl)) ?_
 refine Walk.nil ?_
 refine Leaf.thenN ?_
 refine CWalk.seq ?_
 refine CWalk.block ?_
 refine CWalk.seq ?_
 refine CWalk.region ?_
 refine mv ?_
 refine wo (Spec.neqI (Has.s rfl) Has.int) ?_
 refine wo (Spec.assign (Has.s rfl)) ?_
 refine Walk.nil ?_
 refine Leaf.thenN ?_
 refine CWalk.cond rfl (fun hb => ?_) (fun hb => ?_)
 ·have hm := cond_t hb hm
  refine CWalk.seq ?_
  refine CWalk.region ?_
  refine wo (Spec.build (us := []) (ls' := [(true, 6, Fact.flds [(false, 1, Fact.rep [] ((0 : UInt32) : UInt32)), (false, 1, Fact.rep [] ((0 : Int) : Int)), (false, 1, Fact.rep [] ((0 : Int) : Int)), (false, 1, Fact.rep [] ((0 : Int) : Int)), (false, 1, Fact.rep [] ((0 : Int) : Int)), (false, 1, Fact.rep [] ((0 : Int) : Int))]), (false, 1, Fact.rep [] ((0 : Int) : Int))]) bd66 rfl BP.nil) ?_
  refine mv ?_
  refine ws (Step.storeObj (ls := [(false, 1, Fact.rep [] ((0 : UInt32) : UInt32)), (false, 1, Fact.rep [] ((0 : Int) : Int)), (false, 1, Fact.rep [] ((0 : Int) : Int)), (false, 1, Fact.rep [] ((0 : Int) : Int)), (false, 1, Fact.rep [] ((0 : Int) : Int)), (false, 1, Fact.rep [] ((0 : Int) : Int)), (false, 1, Fact.rep [] ((0 : Int) : Int))]) rfl ty66 rfl rfl (Has.s rfl) rfl (HasL.flds (Has.cv (Has.s rfl) (Cv.flat (FlatR.sub (FlatR.cons (FlatR.cons (FlatR.cons (FlatR.cons (FlatR.cons (FlatR.cons FlatR.nil)))))) rfl (FlatR.cons FlatR.nil))))) rfl) ?_
  refine wo (Spec.assign (Has.s rfl)) ?_
  refine Walk.nil ?_
  refine Leaf.thenN ?_
  refine CWalk.ret ?_
  refine Leaf.blockR ?_
  refine Leaf.thenR ?_
  obtain rfl := Option.some.inj hm
  exact Leaf.retC2 rfl (HasR.cv (HasR.cv (HasR.obj (ls := [(false, 1, Fact.rep [] ((0 : UInt32) : UInt32)), (false, 1, Fact.rep [] ((0 : Int) : Int)), (false, 1, Fact.rep [] ((0 : Int) : Int)), (false, 1, Fact.rep [] ((0 : Int) : Int)), (false, 1, Fact.rep [] ((0 : Int) : Int)), (false, 1, Fact.rep [] ((0 : Int) : Int)), (false, 1, Fact.rep [] ((0 : Int) : Int))]) ty66 rfl rfl (Has.s rfl) rfl (HasGs.cons (HasG.s rfl) (HasGs.cons (HasG.s rfl) (HasGs.cons (HasG.s rfl) (HasGs.cons (HasG.s rfl) (HasGs.cons (HasG.s rfl) (HasGs.cons (HasG.s rfl) (HasGs.cons (HasG.s rfl) HasGs.nil)))))))) (Cv.unflat (FlatR.sub (FlatR.cons (FlatR.cons (FlatR.cons (FlatR.cons (FlatR.cons (FlatR.cons FlatR.nil)))))) rfl (FlatR.cons FlatR.nil)))) (Cv.trans (Cv.trans (Cv.flds (CvL.cons (Cv.trans (Cv.trans (Cv.flds (CvL.cons Cv.fl (CvL.cons Cv.fl (CvL.cons Cv.fl (CvL.cons Cv.fl (CvL.cons Cv.fl (CvL.cons Cv.fl CvL.nil))))))) (Cv.close (T := []) (chConfig (Config.mk (0 : UInt32) (0 : Int) (0 : Int) (0 : Int) (0 : Int) (0 : Int))))) Cv.fl) (CvL.cons Cv.fl CvL.nil))) (Cv.close (T := []) (chRow66 (Row66.mk (Config.mk (0 : UInt32) (0 : Int) (0 : Int) (0 : Int) (0 : Int) (0 : Int)) (0 : Int))))) Cv.fl)) (HasR.cv (HasR.tmp (Has.s rfl)) Cv.fl)
 ·have hm := cond_f hb hm
  refine CWalk.seqJ (fun p : Bool => [.fact 1 (.rep [] (a1 : Int)), .fact 4 (.isv 10), .fact 8 (.isv 17), .fact 24 (.rep [] (p : Bool)), .fact 100011 (.at 11 (.rep [] a0.Id)), .fact 100012 (.at 12 (.rep [] a0.Members)), .fact 100013 (.at 13 (.rep [] a0.Chunk)), .fact 100014 (.at 14 (.rep [] a0.Rows)), .fact 100015 (.at 15 (.rep [] a0.Log)), .fact 100016 (.at 16 (.rep [] a0.Heads)), .fact 100018 (.at 18 (.rep [] ((0 : UInt32) : UInt32))), .fact 100019 (.at 19 (.rep [] ((0 : Int) : Int))), .fact 100020 (.at 20 (.rep [] ((0 : Int) : Int))), .fact 100021 (.at 21 (.rep [] ((0 : Int) : Int))), .fact 100022 (.at 22 (.rep [] ((0 : Int) : Int))), .fact 100023 (.at 23 (.rep [] ((0 : Int) : Int))), .fact 100024 (.at 24 (.rep [] ((0 : Int) : Int))), .fact 100010 (.obj 10 [(false, 1), (false, 1), (false, 1), (false, 1), (false, 1), (false, 1)]), .fact 100017 (.obj 17 [(false, 1), (false, 1), (false, 1), (false, 1), (false, 1), (false, 1), (false, 1)])]) (fun p : Bool => turn_at_J1 a0 a1 p = some r) ?_ ?_
  ·rintro j2 hm
   replace hm : turn_at_J1 a0 a1 j2 = some r := hm
   unfold turn_at_J1 at hm
   show CWalk _ [.fact 1 (.rep [] (a1 : Int)), .fact 4 (.isv 10), .fact 8 (.isv 17), .fact 24 (.rep [] (j2 : Bool)), .fact 100011 (.at 11 (.rep [] a0.Id)), .fact 100012 (.at 12 (.rep [] a0.Members)), .fact 100013 (.at 13 (.rep [] a0.Chunk)), .fact 100014 (.at 14 (.rep [] a0.Rows)), .fact 100015 (.at 15 (.rep [] a0.Log)), .fact 100016 (.at 16 (.rep [] a0.Heads)), .fact 100018 (.at 18 (.rep [] ((0 : UInt32) : UInt32))), .fact 100019 (.at 19 (.rep [] ((0 : Int) : Int))), .fact 100020 (.at 20 (.rep [] ((0 : Int) : Int))), .fact 100021 (.at 21 (.rep [] ((0 : Int) : Int))), .fact 100022 (.at 22 (.rep [] ((0 : Int) : Int))), .fact 100023 (.at 23 (.rep [] ((0 : Int) : Int))), .fact 100024 (.at 24 (.rep [] ((0 : Int) : Int))), .fact 100010 (.obj 10 [(false, 1), (false, 1), (false, 1), (false, 1), (false, 1), (false, 1)]), .fact 100017 (.obj 17 [(false, 1), (false, 1), (false, 1), (false, 1), (false, 1), (false, 1), (false, 1)])] _ _
   refine CWalk.cond rfl (fun hb => ?_) (fun hb => ?_)
   ·have hm := cond_t hb hm
    refine CWalk.seq ?_
    refine CWalk.region ?_
    refine wo (Spec.build (us := []) (ls' := [(true, 6, Fact.flds [(false, 1, Fact.rep [] ((0 : UInt32) : UInt32)), (false, 1, Fact.rep [] ((0 : Int) : Int)), (false, 1, Fact.rep [] ((0 : Int) : Int)), (false, 1, Fact.rep [] ((0 : Int) : Int)), (false, 1, Fact.rep [] ((0 : Int) : Int)), (false, 1, Fact.rep [] ((0 : Int) : Int))]), (false, 1, Fact.rep [] ((0 : Int) : Int))]) bd66 rfl BP.nil) ?_
    refine ws (Step.storeObj (ls := [(false, 1, Fact.rep [] ((0 : UInt32) : UInt32)), (false, 1, Fact.rep [] ((0 : Int) : Int)), (false, 1, Fact.rep [] ((0 : Int) : Int)), (false, 1, Fact.rep [] ((0 : Int) : Int)), (false, 1, Fact.rep [] ((0 : Int) : Int)), (false, 1, Fact.rep [] ((0 : Int) : Int)), (false, 1, Fact.rep [] ((0 : Int) : Int))]) rfl ty66 rfl rfl (Has.s rfl) rfl (HasL.flds (Has.cv (Has.s rfl) (Cv.flat (FlatR.sub (FlatR.cons (FlatR.cons (FlatR.cons (FlatR.cons (FlatR.cons (FlatR.cons FlatR.nil)))))) rfl (FlatR.cons FlatR.nil))))) rfl) ?_
    refine wo (Spec.assign Has.int) ?_
    refine Walk.nil ?_
    refine Leaf.thenN ?_
    refine CWalk.ret ?_
    refine Leaf.blockR ?_
    refine Leaf.thenR ?_
    obtain rfl := Option.some.inj hm
    exact Leaf.retC2 rfl (HasR.cv (HasR.cv (HasR.obj (ls := [(false, 1, Fact.rep [] ((0 : UInt32) : UInt32)), (false, 1, Fact.rep [] ((0 : Int) : Int)), (false, 1, Fact.rep [] ((0 : Int) : Int)), (false, 1, Fact.rep [] ((0 : Int) : Int)), (false, 1, Fact.rep [] ((0 : Int) : Int)), (false, 1, Fact.rep [] ((0 : Int) : Int)), (false, 1, Fact.rep [] ((0 : Int) : Int))]) ty66 rfl rfl (Has.s rfl) rfl (HasGs.cons (HasG.s rfl) (HasGs.cons (HasG.s rfl) (HasGs.cons (HasG.s rfl) (HasGs.cons (HasG.s rfl) (HasGs.cons (HasG.s rfl) (HasGs.cons (HasG.s rfl) (HasGs.cons (HasG.s rfl) HasGs.nil)))))))) (Cv.unflat (FlatR.sub (FlatR.cons (FlatR.cons (FlatR.cons (FlatR.cons (FlatR.cons (FlatR.cons FlatR.nil)))))) rfl (FlatR.cons FlatR.nil)))) (Cv.trans (Cv.trans (Cv.flds (CvL.cons (Cv.trans (Cv.trans (Cv.flds (CvL.cons Cv.fl (CvL.cons Cv.fl (CvL.cons Cv.fl (CvL.cons Cv.fl (CvL.cons Cv.fl (CvL.cons Cv.fl CvL.nil))))))) (Cv.close (T := []) (chConfig (Config.mk (0 : UInt32) (0 : Int) (0 : Int) (0 : Int) (0 : Int) (0 : Int))))) Cv.fl) (CvL.cons Cv.fl CvL.nil))) (Cv.close (T := []) (chRow66 (Row66.mk (Config.mk (0 : UInt32) (0 : Int) (0 : Int) (0 : Int) (0 : Int) (0 : Int)) (0 : Int))))) Cv.fl)) (HasR.cv (HasR.tmp (Has.s rfl)) Cv.fl)
   ·have hm := cond_f hb hm
    refine CWalk.skip ?_
    refine Leaf.blockN ?_
    refine Leaf.thenN ?_
    refine CWalk.seq ?_
    refine CWalk.region ?_
    refine mv ?_
    refine wo (Spec.fieldAddrO fd24_2 (Has.cv (Has.s rfl) (Cv.isvP rfl))) ?_
    refine wo (Spec.loadF (i := 2) ty3 rfl (Has.s rfl) rfl (HasG.s rfl)) ?_
    obtain ⟨x3, hx3, hm⟩ := bind_some hm
    refine wo (f := Fact.tup2 (Fact.rep [] x3.1) (Fact.rep [] x3.2)) (Spec.callE [] 26 rfl en51 (turn_divide_c a1 a0.Chunk hx3) (HasAll.cons (Has.fl (Has.s rfl)) (HasAll.cons (Has.fl (Has.s rfl)) HasAll.nil))) ?_
    refine mv ?_
    refine wo (Spec.ext0 (Has.s rfl)) ?_
    refine wo (Spec.ext1 (Has.s rfl)) ?_
    refine wo (Spec.assign (Has.s rfl)) ?_
    refine wo (Spec.assign (Has.s rfl)) ?_
    refine Walk.nil ?_
    refine Leaf.thenN ?_
    refine CWalk.seq ?_
    refine CWalk.region ?_
    refine wo (Spec.loadObj (ls := [(false, 1, Fact.rep [] a0.Id), (false, 1, Fact.rep [] a0.Members), (false, 1, Fact.rep [] a0.Chunk), (false, 1, Fact.rep [] a0.Rows), (false, 1, Fact.rep [] a0.Log), (false, 1, Fact.rep [] a0.Heads)]) ty24 rfl rfl (Has.s rfl) rfl (HasGs.cons (HasG.s rfl) (HasGs.cons (HasG.s rfl) (HasGs.cons (HasG.s rfl) (HasGs.cons (HasG.s rfl) (HasGs.cons (HasG.s rfl) (HasGs.cons (HasG.s rfl) HasGs.nil))))))) ?_
    refine mv ?_
    refine wo (Spec.build (us := [(0, .tmp 43), (1, .tmp 44)]) (ls' := [(true, 6, Fact.flds [(false, 1, Fact.rep [] a0.Id), (false, 1, Fact.rep [] a0.Members), (false, 1, Fact.rep [] a0.Chunk), (false, 1, Fact.rep [] a0.Rows), (false, 1, Fact.rep [] a0.Log), (false, 1, Fact.rep [] a0.Heads)]), (false, 1, Fact.rep [] x3.1)]) bd66 rfl (BP.cons rfl rfl (Has.cv (Has.s rfl) (Cv.trans (Cv.flds (CvL.cons Cv.fl (CvL.cons Cv.fl (CvL.cons Cv.fl (CvL.cons Cv.fl (CvL.cons Cv.fl (CvL.cons Cv.fl CvL.nil))))))) (Cv.close (T := []) (chConfig a0)))) (Has.s rfl) (BP.cons rfl rfl (Has.s rfl) (Has.s rfl) BP.nil))) ?_
    refine ws (Step.storeObj (ls := [(false, 1, Fact.rep [] a0.Id), (false, 1, Fact.rep [] a0.Members), (false, 1, Fact.rep [] a0.Chunk), (false, 1, Fact.rep [] a0.Rows), (false, 1, Fact.rep [] a0.Log), (false, 1, Fact.rep [] a0.Heads), (false, 1, Fact.rep [] x3.1)]) rfl ty66 rfl rfl (Has.s rfl) rfl (HasL.flds (Has.cv (Has.s rfl) (Cv.flat (FlatR.sub (FlatR.cons (FlatR.cons (FlatR.cons (FlatR.cons (FlatR.cons (FlatR.cons FlatR.nil)))))) rfl (FlatR.cons FlatR.nil))))) rfl) ?_
    refine wo (Spec.assign Has.int) ?_
    refine Walk.nil ?_
    refine Leaf.thenN ?_
    refine CWalk.ret ?_
    obtain rfl := Option.some.inj hm
    exact Leaf.retC2 rfl (HasR.cv (HasR.cv (HasR.obj (ls := [(false, 1, Fact.rep [] a0.Id), (false, 1, Fact.rep [] a0.Members), (false, 1, Fact.rep [] a0.Chunk), (false, 1, Fact.rep [] a0.Rows), (false, 1, Fact.rep [] a0.Log), (false, 1, Fact.rep [] a0.Heads), (false, 1, Fact.rep [] x3.1)]) ty66 rfl rfl (Has.s rfl) rfl (HasGs.cons (HasG.s rfl) (HasGs.cons (HasG.s rfl) (HasGs.cons (HasG.s rfl) (HasGs.cons (HasG.s rfl) (HasGs.cons (HasG.s rfl) (HasGs.cons (HasG.s rfl) (HasGs.cons (HasG.s rfl) HasGs.nil)))))))) (Cv.unflat (FlatR.sub (FlatR.cons (FlatR.cons (FlatR.cons (FlatR.cons (FlatR.cons (FlatR.cons FlatR.nil)))))) rfl (FlatR.cons FlatR.nil)))) (Cv.trans (Cv.trans (Cv.flds (CvL.cons (Cv.trans (Cv.trans (Cv.flds (CvL.cons Cv.fl (CvL.cons Cv.fl (CvL.cons Cv.fl (CvL.cons Cv.fl (CvL.cons Cv.fl (CvL.cons Cv.fl CvL.nil))))))) (Cv.close (T := []) (chConfig a0))) Cv.fl) (CvL.cons Cv.fl CvL.nil))) (Cv.close (T := []) (chRow66 (Row66.mk a0 x3.1)))) Cv.fl)) (HasR.cv (HasR.tmp (Has.s rfl)) Cv.fl)
  ·refine CWalk.seq ?_
   refine CWalk.region ?_
   refine mv ?_
   refine wo (Spec.lssI (Has.s rfl) Has.int) ?_
   refine wo (Spec.assign (Has.s rfl)) ?_
   refine Walk.nil ?_
   refine Leaf.thenN ?_
   refine CWalk.cond rfl (fun hb => ?_) (fun hb => ?_)
   ·have hm := cond_t hb hm
    refine CWalk.skip ?_
    exact Leaf.join (decide (a1 < (0 : Int))) hm (st (sn (sn (st (sf (sf (sf (sf (sf (sf (sf (sf (sf (sf (sf (sf (sf (sn (sn Sub.nil)))))))))))))))))))
   ·have hm := cond_f hb hm
    refine CWalk.seq ?_
    refine CWalk.region ?_
    refine mv ?_
    refine mv ?_
    refine wo (Spec.geqI (Has.s rfl) (Has.s rfl)) ?_
    refine wo (Spec.assign (Has.s rfl)) ?_
    refine Walk.nil ?_
    refine Leaf.thenN ?_
    refine CWalk.cond rfl (fun hb => ?_) (fun hb => ?_)
    ·have hm := cond_t hb hm
     refine CWalk.skip ?_
     exact Leaf.join (decide (a1 ≥ x1.1)) hm (st (sn (sn (st (sf (sf (sf (sf (sf (sf (sf (sf (sf (sf (sf (sf (sf (sn (sn Sub.nil)))))))))))))))))))
    ·have hm := cond_f hb hm
     refine CWalk.seq ?_
     refine CWalk.region ?_
     refine mv ?_
     refine wo (Spec.lssI (Has.s rfl) Has.int) ?_
     refine wo (Spec.assign (Has.s rfl)) ?_
     refine Walk.nil ?_
     refine Leaf.thenN ?_
     refine CWalk.cond rfl (fun hb => ?_) (fun hb => ?_)
     ·have hm := cond_t hb hm
      refine CWalk.skip ?_
      exact Leaf.join (decide (a2 < (0 : Int))) hm (st (sn (sn (st (sf (sf (sf (sf (sf (sf (sf (sf (sf (sf (sf (sf (sf (sn (sn Sub.nil)))))))))))))))))))
     ·have hm := cond_f hb hm
      refine CWalk.region ?_
      refine mv ?_
      refine mv ?_
      refine wo (Spec.geqI (Has.s rfl) (Has.s rfl)) ?_
      refine wo (Spec.assign (Has.s rfl)) ?_
      refine Walk.nil ?_
      exact Leaf.join (decide (a2 ≥ a3)) hm (st (sn (sn (st (sf (sf (sf (sf (sf (sf (sf (sf (sf (sf (sf (sf (sf (sn (sn Sub.nil)))))))))))))))))))

/-- (freeboard/turn.row).parity -/
def turn_row_parity (a0 : Row66) : Option (Int) :=
  Option.bind (turn_divide a0.n a0.Config.Members) (fun x1 => some (wI ((wI (a0.Config.Members - (1 : Int))) - x1.2)))
set_option maxRecDepth 100000 in
set_option maxHeartbeats 2000000 in
theorem turn_row_parity_c (a0 : Row66) {r : Int} (hm : turn_row_parity a0 = some r) : Ctr Try.prog 52 [.rep 0 a0] (.fl r) [] := by
 refine ctr_of_walk [[]] 20 Try.func52 rfl rfl rfl rfl (fun w0 om => ?_)
 unfold turn_row_parity at hm
 refine CWalk.sub (G' := [.fact 0 (.rep [] (a0 : Row66))]) (Sub.cons (Has.fl (Has.s rfl)) Sub.nil) ?_
 refine CWalk.seq ?_
 refine CWalk.region ?_
 refine ws (Step.boxObj (ls := [(false, 1, Fact.rep [] a0.Config.Id), (false, 1, Fact.rep [] a0.Config.Members), (false, 1, Fact.rep [] a0.Config.Chunk), (false, 1, Fact.rep [] a0.Config.Rows), (false, 1, Fact.rep [] a0.Config.Log), (false, 1, Fact.rep [] a0.Config.Heads), (false, 1, Fact.rep [] a0.n)]) 10 rfl rfl rfl rfl (HasL.flds (Has.cv (Has.s rfl) (Cv.trans (Cv.trans (Cv.trans (Cv.opens (chRow66 a0)) (Cv.flds (CvL.cons Cv.fl (CvL.cons Cv.fl CvL.nil)))) (Cv.flds (ls := [(true, 6, Fact.rep [] a0.Config), (false, 1, Fact.rep [] a0.n)]) (ms := [(true, 6, Fact.flds [(false, 1, Fact.rep [] a0.Config.Id), (false, 1, Fact.rep [] a0.Config.Members), (false, 1, Fact.rep [] a0.Config.Chunk), (false, 1, Fact.rep [] a0.Config.Rows), (false, 1, Fact.rep [] a0.Config.Log), (false, 1, Fact.rep [] a0.Config.Heads)]), (false, 1, Fact.rep [] a0.n)]) (CvL.cons (Cv.trans (Cv.opens (chConfig a0.Config)) (Cv.flds (CvL.cons Cv.fl (CvL.cons Cv.fl (CvL.cons Cv.fl (CvL.cons Cv.fl (CvL.cons Cv.fl (CvL.cons Cv.fl CvL.nil)))))))) (CvL.cons Cv.refl CvL.nil)))) (Cv.flat (FlatR.sub (FlatR.cons (FlatR.cons (FlatR.cons (FlatR.cons (FlatR.cons (FlatR.cons FlatR.nil)))))) rfl (FlatR.cons FlatR.nil))))))) ?_
 refine wo (Spec.assign Has.int) ?_
 refine Walk.nil ?_
 refine Leaf.thenN ?_
 refine CWalk.seq ?_
 refine CWalk.region ?_
 refine wo (Spec.fieldAddrO fd66_1 (Has.cv (Has.s rfl) (Cv.isvP rfl))) ?_
 refine wo (Spec.loadF (i := 6) ty3 rfl (Has.s rfl) rfl (HasG.s rfl)) ?_
 refine wo (Spec.fieldAddrO fd66_0 (Has.cv (Has.s rfl) (Cv.isvP rfl))) ?_
 refine wo (Spec.fieldAddrO fd24_1 (Has.s rfl)) ?_
 refine wo (Spec.loadF (i := 1) ty3 rfl (Has.s rfl) rfl (HasG.s rfl)) ?_
 obtain ⟨x1, hx1, hm⟩ := bind_some hm
 refine wo (f := Fact.tup2 (Fact.rep [] x1.1) (Fact.rep [] x1.2)) (Spec.callE [] 18 rfl en51 (turn_divide_c a0.n a0.Config.Members hx1) (HasAll.cons (Has.fl (Has.s rfl)) (HasAll.cons (Has.fl (Has.s rfl)) HasAll.nil))) ?_
 refine mv ?_
 refine wo (Spec.ext0 (Has.s rfl)) ?_
 refine wo (Spec.ext1 (Has.s rfl)) ?_
 refine wo (Spec.assign (Has.s rfl)) ?_
 refine wo (Spec.assign (Has.s rfl)) ?_
 refine Walk.nil ?_
 refine Leaf.thenN ?_
 refine CWalk.seq ?_
 refine CWalk.region ?_
 refine wo (Spec.fieldAddrO fd66_0 (Has.cv (Has.s rfl) (Cv.isvP rfl))) ?_
 refine wo (Spec.fieldAddrO fd24_1 (Has.s rfl)) ?_
 refine wo (Spec.loadF (i := 1) ty3 rfl (Has.s rfl) rfl (HasG.s rfl)) ?_
 refine wo (Spec.subI (Has.s rfl) Has.int) ?_
 refine mv ?_
 refine wo (Spec.subI (Has.s rfl) (Has.s rfl)) ?_
 refine wo (Spec.assign (Has.s rfl)) ?_
 refine Walk.nil ?_
 refine Leaf.thenN ?_
 refine CWalk.ret ?_
 obtain rfl := Option.some.inj hm
 exact Leaf.retC1 rfl (HasR.cv (HasR.tmp (Has.s rfl)) Cv.fl)

/-- (freeboard/turn.row).slot -/
def turn_row_slot (a0 : Row66) (a1 : Int) : Option (Int) :=
  Option.bind (turn_row_parity a0) (fun x1 => Option.bind (turn_divide (wI ((wI ((wI (a1 + a0.Config.Members)) - x1)) - (1 : Int))) a0.Config.Members) (fun x2 => some x2.2))
set_option maxRecDepth 100000 in
set_option maxHeartbeats 2000000 in
theorem turn_row_slot_c (a0 : Row66) (a1 : Int) {r : Int} (hm : turn_row_slot a0 a1 = some r) : Ctr Try.prog 54 [.rep 0 a0, .rep 0 a1] (.fl r) [] := by
 refine ctr_of_walk [[]] 24 Try.func54 rfl rfl rfl rfl (fun w0 om => ?_)
 unfold turn_row_slot at hm
 refine CWalk.sub (G' := [.fact 0 (.rep [] (a0 : Row66)), .fact 1 (.rep [] (a1 : Int))]) (Sub.cons (Has.fl (Has.s rfl)) (Sub.cons (Has.fl (Has.s rfl)) Sub.nil)) ?_
 refine CWalk.seq ?_
 refine CWalk.region ?_
 refine ws (Step.boxObj (ls := [(false, 1, Fact.rep [] a0.Config.Id), (false, 1, Fact.rep [] a0.Config.Members), (false, 1, Fact.rep [] a0.Config.Chunk), (false, 1, Fact.rep [] a0.Config.Rows), (false, 1, Fact.rep [] a0.Config.Log), (false, 1, Fact.rep [] a0.Config.Heads), (false, 1, Fact.rep [] a0.n)]) 10 rfl rfl rfl rfl (HasL.flds (Has.cv (Has.s rfl) (Cv.trans (Cv.trans (Cv.trans (Cv.opens (chRow66 a0)) (Cv.flds (CvL.cons Cv.fl (CvL.cons Cv.fl CvL.nil)))) (Cv.flds (ls := [(true, 6, Fact.rep [] a0.Config), (false, 1, Fact.rep [] a0.n)]) (ms := [(true, 6, Fact.flds [(false, 1, Fact.rep [] a0.Config.Id), (false, 1, Fact.rep [] a0.Config.Members), (false, 1, Fact.rep [] a0.Config.Chunk), (false, 1, Fact.rep [] a0.Config.Rows), (false, 1, Fact.rep [] a0.Config.Log), (false, 1, Fact.rep [] a0.Config.Heads)]), (false, 1, Fact.rep [] a0.n)]) (CvL.cons (Cv.trans (Cv.opens (chConfig a0.Config)) (Cv.flds (CvL.cons Cv.fl (CvL.cons Cv.fl (CvL.cons Cv.fl (CvL.cons Cv.fl (CvL.cons Cv.fl (CvL.cons Cv.fl CvL.nil)))))))) (CvL.cons Cv.refl CvL.nil)))) (Cv.flat (FlatR.sub (FlatR.cons (FlatR.cons (FlatR.cons (FlatR.cons (FlatR.cons (FlatR.cons FlatR.nil)))))) rfl (FlatR.cons FlatR.nil))))))) ?_
 refine wo (Spec.assign Has.int) ?_
 refine Walk.nil ?_
 refine Leaf.thenN ?_
 refine CWalk.seq ?_
 obtain ⟨x1, hx1, hm⟩ := bind_some hm
 obtain ⟨x2, hx2, hm⟩ := bind_some hm
 refine CWalk.drawM [[], [], [1], [1, 2], [0, 1, 2, 3], [], [5], [0, 1, 2, 3, 4, 5, 6], [0, 1, 2, 3, 4, 5, 6, 7], [], [9], [9, 10], [0, 1, 2, 3, 4, 5, 6, 7, 8, 9, 10, 11], [0, 1, 2, 3, 4, 5, 6, 7, 8, 9, 10, 11, 12], [0, 1, 2, 3, 4, 5, 6, 7, 8, 9, 10, 11, 12, 13], [0, 1, 2, 3, 4, 5, 6, 7, 8, 9, 10, 11, 12, 13], [0, 1, 2, 3, 4, 5, 6, 7, 8, 9, 10, 11, 12, 13, 14], [0, 1, 2, 3, 4, 5, 6, 7, 8, 9, 10, 11, 12, 13, 14, 15, 16]] [[.fact 8 (.rep [] (a1 : Int))], [.fact 9 (.pto 10 0)], [.fact 10 (.pto 10 1)], [.fact 11 (.rep [] a0.Config.Members)], [.fact 12 (.rep [] ((wI (a1 + a0.Config.Members)) : Int))], [.fact 13 (.flds [(true, 6, Fact.flds [(false, 1, Fact.rep [] a0.Config.Id), (false, 1, Fact.rep [] a0.Config.Members), (false, 1, Fact.rep [] a0.Config.Chunk), (false, 1, Fact.rep [] a0.Config.Rows), (false, 1, Fact.rep [] a0.Config.Log), (false, 1, Fact.rep [] a0.Config.Heads)]), (false, 1, Fact.rep [] a0.n)])], [.fact 14 (.rep [] (x1 : Int))], [.fact 15 (.rep [] ((wI ((wI (a1 + a0.Config.Members)) - x1)) : Int))], [.fact 16 (.rep [] ((wI ((wI ((wI (a1 + a0.Config.Members)) - x1)) - (1 : Int))) : Int))], [.fact 17 (.pto 10 0)], [.fact 18 (.pto 10 1)], [.fact 19 (.rep [] a0.Config.Members)], [.fact 20 (.tup2 (Fact.rep [] x2.1) (Fact.rep [] x2.2))], [.fact 7 (.tup2 (Fact.rep [] x2.1) (Fact.rep [] x2.2))], [.fact 21 (.rep [] x2.1)], [.fact 22 (.rep [] x2.2)], [.fact 5 (.rep [] x2.1)], [.fact 6 (.rep [] x2.2)]] mixed (by kernel_rfl) (ao (so (Spec.move (Has.s rfl))) (ao (so (Spec.fieldAddrO fd66_0 (Has.cv (Has.s rfl) (Cv.isvP rfl)))) (ao (so (Spec.fieldAddrO fd24_1 (Has.s rfl))) (ao (so (Spec.loadF (i := 1) ty3 rfl (Has.s rfl) rfl (HasG.s rfl))) (ao (so (Spec.addI (Has.s rfl) (Has.s rfl))) (ao (so (Spec.unflat (FlatR.sub (FlatR.cons (FlatR.cons (FlatR.cons (FlatR.cons (FlatR.cons (FlatR.cons FlatR.nil)))))) rfl (FlatR.cons FlatR.nil)) (Spec.loadObj (ls := [(false, 1, Fact.rep [] a0.Config.Id), (false, 1, Fact.rep [] a0.Config.Members), (false, 1, Fact.rep [] a0.Config.Chunk), (false, 1, Fact.rep [] a0.Config.Rows), (false, 1, Fact.rep [] a0.Config.Log), (false, 1, Fact.rep [] a0.Config.Heads), (false, 1, Fact.rep [] a0.n)]) ty66 rfl rfl (Has.s rfl) rfl (HasGs.cons (HasG.s rfl) (HasGs.cons (HasG.s rfl) (HasGs.cons (HasG.s rfl) (HasGs.cons (HasG.s rfl) (HasGs.cons (HasG.s rfl) (HasGs.cons (HasG.s rfl) (HasGs.cons (HasG.s rfl) HasGs.nil)))))))))) (ao (so (Spec.callE [] 18 rfl en52 (turn_row_parity_c a0 hx1) (HasAll.cons (Has.fl (Has.cv (Has.s rfl) (Cv.trans (Cv.flds (CvL.cons (Cv.trans (Cv.trans (Cv.flds (CvL.cons Cv.fl (CvL.cons Cv.fl (CvL.cons Cv.fl (CvL.cons Cv.fl (CvL.cons Cv.fl (CvL.cons Cv.fl CvL.nil))))))) (Cv.close (T := []) (chConfig a0.Config))) Cv.fl) (CvL.cons Cv.fl CvL.nil))) (Cv.close (T := []) (chRow66 a0))))) HasAll.nil))) (ao (so (Spec.subI (Has.s rfl) (Has.s rfl))) (ao (so (Spec.subI (Has.s rfl) Has.int)) (ao (so (Spec.fieldAddrO fd66_0 (Has.cv (Has.s rfl) (Cv.isvP rfl)))) (ao (so (Spec.fieldAddrO fd24_1 (Has.s rfl))) (ao (so (Spec.loadF (i := 1) ty3 rfl (Has.s rfl) rfl (HasG.s rfl))) (ao (so (Spec.callE [] 19 rfl en51 (turn_divide_c (wI ((wI ((wI (a1 + a0.Config.Members)) - x1)) - (1 : Int))) a0.Config.Members hx2) (HasAll.cons (Has.fl (Has.s rfl)) (HasAll.cons (Has.fl (Has.s rfl)) HasAll.nil)))) (ao (so (Spec.move (Has.s rfl))) (ao (so (Spec.ext0 (Has.s rfl))) (ao (so (Spec.ext1 (Has.s rfl))) (ao (so (Spec.assign (Has.s rfl))) (ao (so (Spec.assign (Has.s rfl))) AllM.nil)))))))))))))))))) ?_
 refine Leaf.thenN ?_
 refine CWalk.seq ?_
 refine CWalk.region ?_
 refine mv ?_
 refine wo (Spec.assign (Has.s rfl)) ?_
 refine Walk.nil ?_
 refine Leaf.thenN ?_
 refine CWalk.ret ?_
 obtain rfl := Option.some.inj hm
 exact Leaf.retC1 rfl (HasR.cv (HasR.tmp (Has.s rfl)) Cv.fl)

/-- freeboard/turn.Slot -/
def turn_Slot (a0 : Config) (a1 : Int) (a2 : Int) : Option (Int × Int) :=
  Option.bind (turn_at a0 a1 a2 a0.Members) (fun x1 => (bif (x1.2 != (0 : Int)) then some ((0 : Int), x1.2) else Option.bind (turn_row_slot x1.1 a2) (fun x2 => some (x2, (0 : Int)))))
set_option maxRecDepth 100000 in
set_option maxHeartbeats 2000000 in
theorem turn_Slot_c (a0 : Config) (a1 : Int) (a2 : Int) {r : Int × Int} (hm : turn_Slot a0 a1 a2 = some r) : Ctr Try.prog 38 [.rep 0 a0, .rep 0 a1, .rep 0 a2] (.tup2 (.fl r.1) (.fl r.2)) [] := by
 refine ctr_of_walk [[]] 25 Try.func38 rfl rfl rfl rfl (fun w0 om => ?_)
 unfold turn_Slot at hm
 refine CWalk.sub (G' := [.fact 0 (.rep [] (a0 : Config)), .fact 1 (.rep [] (a1 : Int)), .fact 2 (.rep [] (a2 : Int))]) (Sub.cons (Has.fl (Has.s rfl)) (Sub.cons (Has.fl (Has.s rfl)) (Sub.cons (Has.fl (Has.s rfl)) Sub.nil))) ?_
 refine CWalk.seq ?_
 refine CWalk.region ?_
 refine ws (Step.boxObj (ls := [(false, 1, Fact.rep [] a0.Id), (false, 1, Fact.rep [] a0.Members), (false, 1, Fact.rep [] a0.Chunk), (false, 1, Fact.rep [] a0.Rows), (false, 1, Fact.rep [] a0.Log), (false, 1, Fact.rep [] a0.Heads)]) 10 rfl rfl rfl rfl (HasL.flds (Has.cv (Has.s rfl) (Cv.trans (Cv.opens (chConfig a0)) (Cv.flds (CvL.cons Cv.fl (CvL.cons Cv.fl (CvL.cons Cv.fl (CvL.cons Cv.fl (CvL.cons Cv.fl (CvL.cons Cv.fl CvL.nil))))))))))) ?_
 refine wo (Spec.assign Has.int) ?_
 refine wo (Spec.assign Has.int) ?_
 refine Walk.nil ?_
 refine Leaf.thenN ?_
 refine CWalk.seq ?_
 refine CWalk.region ?_
 refine wo (Spec.loadObj (ls := [(false, 1, Fact.rep [] a0.Id), (false, 1, Fact.rep [] a0.Members), (false, 1, Fact.rep [] a0.Chunk), (false, 1, Fact.rep [] a0.Rows), (false, 1, Fact.rep [] a0.Log), (false, 1, Fact.rep [] a0.Heads)]) ty24 rfl rfl (Has.s rfl) rfl (HasGs.cons (HasG.s rfl) (HasGs.cons (HasG.s rfl) (HasGs.cons (HasG.s rfl) (HasGs.cons (HasG.s rfl) (HasGs.cons (HasG.s rfl) (HasGs.cons (HasG.s rfl) HasGs.nil))))))) ?_
 refine mv ?_
 refine mv ?_
 refine wo (Spec.fieldAddrO fd24_1 (Has.cv (Has.s rfl) (Cv.isvP rfl))) ?_
 refine wo (Spec.loadF (i := 1) ty3 rfl (Has.s rfl) rfl (HasG.s rfl)) ?_
 obtain ⟨x1, hx1, hm⟩ := bind_some hm
 refine wo (f := Fact.tup2 (Fact.rep [] x1.1) (Fact.rep [] x1.2)) (Spec.callE [] 17 rfl en34 (turn_at_c a0 a1 a2 a0.Members hx1) (HasAll.cons (Has.fl (Has.cv (Has.s rfl) (Cv.trans (Cv.flds (CvL.cons Cv.fl (CvL.cons Cv.fl (CvL.cons Cv.fl (CvL.cons Cv.fl (CvL.cons Cv.fl (CvL.cons Cv.fl CvL.nil))))))) (Cv.close (T := []) (chConfig a0))))) (HasAll.cons (Has.fl (Has.s rfl)) (HasAll.cons (Has.fl (Has.s rfl)) (HasAll.cons (Has.fl (Has.s rfl)) HasAll.nil))))) ?_
 refine mv ?_
 refine wo (Spec.ext0 (Has.s rfl)) ?_
 refine wo (Spec.ext1 (Has.s rfl)) ?_
 refine ws (Step.allocObj (ls := [(false, 1, Fact.rep [] ((0 : UInt32) : UInt32)), (false, 1, Fact.rep [] ((0 : Int) : Int)), (false, 1, Fact.rep [] ((0 : Int) : Int)), (false, 1, Fact.rep [] ((0 : Int) : Int)), (false, 1, Fact.rep [] ((0 : Int) : Int)), (false, 1, Fact.rep [] ((0 : Int) : Int)), (false, 1, Fact.rep [] ((0 : Int) : Int))]) 18 rfl rfl rfl rfl zl66) ?_
 refine ws (Step.storeObj (ls := [(false, 1, Fact.rep [] x1.1.Config.Id), (false, 1, Fact.rep [] x1.1.Config.Members), (false, 1, Fact.rep [] x1.1.Config.Chunk), (false, 1, Fact.rep [] x1.1.Config.Rows), (false, 1, Fact.rep [] x1.1.Config.Log), (false, 1, Fact.rep [] x1.1.Config.Heads), (false, 1, Fact.rep [] x1.1.n)]) rfl ty66 rfl rfl (Has.s rfl) rfl (HasL.flds (Has.cv (Has.s rfl) (Cv.trans (Cv.trans (Cv.trans (Cv.opens (chRow66 x1.1)) (Cv.flds (CvL.cons Cv.fl (CvL.cons Cv.fl CvL.nil)))) (Cv.flds (ls := [(true, 6, Fact.rep [] x1.1.Config), (false, 1, Fact.rep [] x1.1.n)]) (ms := [(true, 6, Fact.flds [(false, 1, Fact.rep [] x1.1.Config.Id), (false, 1, Fact.rep [] x1.1.Config.Members), (false, 1, Fact.rep [] x1.1.Config.Chunk), (false, 1, Fact.rep [] x1.1.Config.Rows), (false, 1, Fact.rep [] x1.1.Config.Log), (false, 1, Fact.rep [] x1.1.Config.Heads)]), (false, 1, Fact.rep [] x1.1.n)]) (CvL.cons (Cv.trans (Cv.opens (chConfig x1.1.Config)) (Cv.flds (CvL.cons Cv.fl (CvL.cons Cv.fl (CvL.cons Cv.fl (CvL.cons Cv.fl (CvL.cons Cv.fl (CvL.cons Cv.fl CvL.nil)))))))) (CvL.cons Cv.refl CvL.nil)))) (Cv.flat (FlatR.sub (FlatR.cons (FlatR.cons (FlatR.cons (FlatR.cons (FlatR.cons (FlatR.cons FlatR.nil)))))) rfl (FlatR.cons FlatR.nil)))))) rfl) ?_
 refine wo (Spec.assign (Has.s rfl)) ?_
 refine Walk.nil ?_
 refine Leaf.thenN ?_
 refine CWalk.seq ?_
 refine CWalk.seq ?_
 refine CWalk.region ?_
 refine mv ?_
 refine wo (Spec.neqI (Has.s rfl) Has.int) ?_
 refine Walk.nil ?_
 refine Leaf.thenN ?_
 refine CWalk.cond rfl (fun hb => ?_) (fun hb => ?_)
 ·have hm := cond_t hb hm
  refine CWalk.seq ?_
  refine CWalk.region ?_
  refine mv ?_
  refine wo (Spec.assign Has.int) ?_
  refine wo (Spec.assign (Has.s rfl)) ?_
  refine Walk.nil ?_
  refine Leaf.thenN ?_
  refine CWalk.ret ?_
  refine Leaf.thenR ?_
  obtain rfl := Option.some.inj hm
  exact Leaf.retC2 rfl (HasR.cv (HasR.tmp (Has.s rfl)) Cv.fl) (HasR.cv (HasR.tmp (Has.s rfl)) Cv.fl)
 ·have hm := cond_f hb hm
  refine CWalk.skip ?_
  refine Leaf.thenN ?_
  refine CWalk.seq ?_
  refine CWalk.region ?_
  refine wo (Spec.unflat (FlatR.sub (FlatR.cons (FlatR.cons (FlatR.cons (FlatR.cons (FlatR.cons (FlatR.cons FlatR.nil)))))) rfl (FlatR.cons FlatR.nil)) (Spec.loadObj (ls := [(false, 1, Fact.rep [] x1.1.Config.Id), (false, 1, Fact.rep [] x1.1.Config.Members), (false, 1, Fact.rep [] x1.1.Config.Chunk), (false, 1, Fact.rep [] x1.1.Config.Rows), (false, 1, Fact.rep [] x1.1.Config.Log), (false, 1, Fact.rep [] x1.1.Config.Heads), (false, 1, Fact.rep [] x1.1.n)]) ty66 rfl rfl (Has.s rfl) rfl (HasGs.cons (HasG.s rfl) (HasGs.cons (HasG.s rfl) (HasGs.cons (HasG.s rfl) (HasGs.cons (HasG.s rfl) (HasGs.cons (HasG.s rfl) (HasGs.cons (HasG.s rfl) (HasGs.cons (HasG.s rfl) HasGs.nil))))))))) ?_
  refine mv ?_
  obtain ⟨x2, hx2, hm⟩ := bind_some hm
  refine wo (f := Fact.rep [] (x2 : Int)) (Spec.callE [] 26 rfl en54 (turn_row_slot_c x1.1 a2 hx2) (HasAll.cons (Has.fl (Has.cv (Has.s rfl) (Cv.trans (Cv.flds (CvL.cons (Cv.trans (Cv.trans (Cv.flds (CvL.cons Cv.fl (CvL.cons Cv.fl (CvL.cons Cv.fl (CvL.cons Cv.fl (CvL.cons Cv.fl (CvL.cons Cv.fl CvL.nil))))))) (Cv.close (T := []) (chConfig x1.1.Config))) Cv.fl) (CvL.cons Cv.fl CvL.nil))) (Cv.close (T := []) (chRow66 x1.1))))) (HasAll.cons (Has.fl (Has.s rfl)) HasAll.nil))) ?_
  refine wo (Spec.assign (Has.s rfl)) ?_
  refine wo (Spec.assign Has.int) ?_
  refine Walk.nil ?_
  refine Leaf.thenN ?_
  refine CWalk.ret ?_
  obtain rfl := Option.some.inj hm
  exact Leaf.retC2 rfl (HasR.cv (HasR.tmp (Has.s rfl)) Cv.fl) (HasR.cv (HasR.tmp (Has.s rfl)) Cv.fl)

/-- freeboard/plan.lost -/
def plan_lost (a0 : Config) (a1 : Int) (a2 : Int) : Option (Int) :=
  (bif (a2 == (-1 : Int)) then some (-1 : Int) else Option.bind (turn_Slot a0 a1 a2) (fun x1 => some x1.1))
set_option maxRecDepth 100000 in
set_option maxHeartbeats 2000000 in
theorem plan_lost_c (a0 : Config) (a1 : Int) (a2 : Int) {r : Int} (hm : plan_lost a0 a1 a2 = some r) : Ctr Try.prog 23 [.rep 0 a0, .rep 0 a1, .rep 0 a2] (.fl r) [] := by
 refine ctr_of_walk [[]] 19 Try.func23 rfl rfl rfl rfl (fun w0 om => ?_)
 unfold plan_lost at hm
 refine CWalk.sub (G' := [.fact 0 (.rep [] (a0 : Config)), .fact 1 (.rep [] (a1 : Int)), .fact 2 (.rep [] (a2 : Int))]) (Sub.cons (Has.fl (Has.s rfl)) (Sub.cons (Has.fl (Has.s rfl)) (Sub.cons (Has.fl (Has.s rfl)) Sub.nil))) ?_
 refine CWalk.seq ?_
 refine CWalk.region ?_
 refine ws (Step.boxObj (ls := [(false, 1, Fact.rep [] a0.Id), (false, 1, Fact.rep [] a0.Members), (false, 1, Fact.rep [] a0.Chunk), (false, 1, Fact.rep [] a0.Rows), (false, 1, Fact.rep [] a0.Log), (false, 1, Fact.rep [] a0.Heads)]) 10 rfl rfl rfl rfl (HasL.flds (Has.cv (Has.s rfl) (Cv.trans (Cv.opens (chConfig a0)) (Cv.flds (CvL.cons Cv.fl (CvL.cons Cv.fl (CvL.cons Cv.fl (CvL.cons Cv.fl (CvL.cons Cv.fl (CvL.cons Cv.fl CvL.nil))))))))))) ?_
 refine wo (Spec.assign Has.int) ?_
 refine Walk.nil ?_
 refine Leaf.thenN ?_
 refine CWalk.seq ?_
 refine CWalk.seq ?_
 refine CWalk.region ?_
 refine mv ?_
 refine wo (Spec.eqlI (Has.s rfl) Has.int) ?_
 refine Walk.nil ?_
 refine Leaf.thenN ?_
 refine CWalk.cond rfl (fun hb => ?_) (fun hb => ?_)
 ·have hm := cond_t hb hm
  refine CWalk.seq ?_
  refine CWalk.region ?_
  refine wo (Spec.assign Has.int) ?_
  refine Walk.nil ?_
  refine Leaf.thenN ?_
  refine CWalk.ret ?_
  refine Leaf.thenR ?_
  obtain rfl := Option.some.inj hm
  exact Leaf.retC1 rfl (HasR.cv (HasR.tmp (Has.s rfl)) Cv.fl)
 ·have hm := cond_f hb hm
  refine CWalk.skip ?_
  refine Leaf.thenN ?_
  refine CWalk.seq ?_
  refine CWalk.region ?_
  refine wo (Spec.loadObj (ls := [(false, 1, Fact.rep [] a0.Id), (false, 1, Fact.rep [] a0.Members), (false, 1, Fact.rep [] a0.Chunk), (false, 1, Fact.rep [] a0.Rows), (false, 1, Fact.rep [] a0.Log), (false, 1, Fact.rep [] a0.Heads)]) ty24 rfl rfl (Has.s rfl) rfl (HasGs.cons (HasG.s rfl) (HasGs.cons (HasG.s rfl) (HasGs.cons (HasG.s rfl) (HasGs.cons (HasG.s rfl) (HasGs.cons (HasG.s rfl) (HasGs.cons (HasG.s rfl) HasGs.nil))))))) ?_
  refine mv ?_
  refine mv ?_
  obtain ⟨x1, hx1, hm⟩ := bind_some hm
  refine wo (f := Fact.tup2 (Fact.rep [] x1.1) (Fact.rep [] x1.2)) (Spec.callE [] 17 rfl en38 (turn_Slot_c a0 a1 a2 hx1) (HasAll.cons (Has.fl (Has.cv (Has.s rfl) (Cv.trans (Cv.flds (CvL.cons Cv.fl (CvL.cons Cv.fl (CvL.cons Cv.fl (CvL.cons Cv.fl (CvL.cons Cv.fl (CvL.cons Cv.fl CvL.nil))))))) (Cv.close (T := []) (chConfig a0))))) (HasAll.cons (Has.fl (Has.s rfl)) (HasAll.cons (Has.fl (Has.s rfl)) HasAll.nil)))) ?_
  refine mv ?_
  refine wo (Spec.ext0 (Has.s rfl)) ?_
  refine wo (Spec.ext1 (Has.s rfl)) ?_
  refine wo (Spec.assign (Has.s rfl)) ?_
  refine wo (Spec.assign (Has.s rfl)) ?_
  refine Walk.nil ?_
  refine Leaf.thenN ?_
  refine CWalk.seq ?_
  refine CWalk.region ?_
  refine mv ?_
  refine wo (Spec.assign (Has.s rfl)) ?_
  refine Walk.nil ?_
  refine Leaf.thenN ?_
  refine CWalk.ret ?_
  obtain rfl := Option.some.inj hm
  exact Leaf.retC1 rfl (HasR.cv (HasR.tmp (Has.s rfl)) Cv.fl)

def slices_Index_int_int_L1 (a0 : List Int) (a1 : Int) (s1 : Int) : Option (Ctl (Int) ((Unit) ⊕ (Int))) :=
  (bif (decide (s1 < ((a0).length : Int))) then Option.bind (idx a0 s1) (fun x3 => (bif (a1 == x3) then some (Ctl.brk (Sum.inr s1)) else some (Ctl.next (wI (s1 + (1 : Int)))))) else some (Ctl.brk (Sum.inl ())))
/-- slices.Index[[]int,int] -/
def slices_Index_int_int (a0 : List Int) (a1 : Int) : Option (Int) :=
  Option.bind (loopM (fun s : Int => slices_Index_int_int_L1 a0 a1 s) FUEL (0 : Int)) (fun b4 => Sum.elim (fun b5 => some (-1 : Int)) (fun b6 => some b6) b4)
set_option maxRecDepth 100000 in
set_option maxHeartbeats 2000000 in
theorem slices_Index_int_int_c (a0 : List Int) (a1 : Int) {r : Int} (hm : slices_Index_int_int a0 a1 = some r) : Ctr Try.prog 53 [.rep 0 a0, .rep 0 a1] (.fl r) [] := by
 refine ctr_of_walk [[]] 19 Try.func53 rfl rfl rfl rfl (fun w0 om => ?_)
 unfold slices_Index_int_int at hm
 refine CWalk.sub (G' := [.fact 0 (.rep [0] (a0 : List Int)), .fact 1 (.rep [] (a1 : Int))]) (sn (Sub.cons (Has.fl (Has.s rfl)) Sub.nil)) ?_
 refine CWalk.seq ?_
 refine CWalk.region ?_
 refine wo (Spec.assign Has.int) ?_
 refine Walk.nil ?_
 refine Leaf.thenN ?_
 refine CWalk.seq ?_
 refine CWalk.seq ?_
 refine CWalk.region ?_
 refine mv ?_
 refine wo (Spec.len (Has.s rfl) Try.underlying31) ?_
 refine wo (Spec.move Has.int) ?_
 refine Walk.nil ?_
 refine Leaf.thenN ?_
 refine CWalk.block ?_
 obtain ⟨b4, hb4, hm⟩ := bind_some hm
 refine CWalk.loop (fun s : Int => [.fact 0 (.rep [0] (a0 : List Int)), .fact 1 (.rep [] (a1 : Int)), .fact 7 (.rep [] (((a0).length : Int) : Int)), .fact 8 (.rep [] (s : Int))]) (fun b : (Unit) ⊕ (Int) => Sum.elim (fun b => (Exit.exit 0, [])) (fun b => (Exit.ret, [.fact 4 (.rep [] (b : Int))])) b) hb4 (su (st (st (st Sub.nil)))) ?_ ?_
 ·rintro s1 c2 hm
  replace hm : slices_Index_int_int_L1 a0 a1 s1 = some c2 := hm
  unfold slices_Index_int_int_L1 at hm
  show CWalk _ [.fact 0 (.rep [0] (a0 : List Int)), .fact 1 (.rep [] (a1 : Int)), .fact 7 (.rep [] (((a0).length : Int) : Int)), .fact 8 (.rep [] (s1 : Int))] _ _
  refine CWalk.seq ?_
  refine CWalk.region ?_
  refine wo (Spec.lssI (Has.s rfl) (Has.s rfl)) ?_
  refine Walk.nil ?_
  refine Leaf.thenN ?_
  refine CWalk.seq ?_
  refine CWalk.cond rfl (fun hb => ?_) (fun hb => ?_)
  ·have hm := cond_t hb hm
   refine CWalk.skip ?_
   refine Leaf.thenN ?_
   refine CWalk.seq ?_
   refine CWalk.block ?_
   refine CWalk.seq ?_
   refine CWalk.region ?_
   refine mv ?_
   refine wo (Spec.assign (Has.s rfl)) ?_
   refine Walk.nil ?_
   refine Leaf.thenN ?_
   refine CWalk.seq ?_
   refine CWalk.region ?_
   refine mv ?_
   refine mv ?_
   refine mv ?_
   obtain ⟨x3, hx3, hm⟩ := bind_some hm
   refine wo (Spec.indexAddr hx3 sl31 (Has.s rfl) (Has.s rfl)) ?_
   refine wo ((Spec.load ty3 (Has.s rfl)).flat (T' := [])) ?_
   refine wo (Spec.eqlI (Has.s rfl) (Has.s rfl)) ?_
   refine Walk.nil ?_
   refine Leaf.thenN ?_
   refine CWalk.cond rfl (fun hb => ?_) (fun hb => ?_)
   ·have hm := cond_t hb hm
    refine CWalk.seq ?_
    refine CWalk.region ?_
    refine mv ?_
    refine wo (Spec.assign (Has.s rfl)) ?_
    refine Walk.nil ?_
    refine Leaf.thenN ?_
    refine CWalk.ret ?_
    refine Leaf.blockR ?_
    refine Leaf.thenR ?_
    exact Leaf.brk hm (fun h => nomatch h) rfl (st Sub.nil)
   ·have hm := cond_f hb hm
    refine CWalk.skip ?_
    refine Leaf.blockN ?_
    refine Leaf.thenN ?_
    refine CWalk.region ?_
    refine wo (Spec.addI (Has.s rfl) Has.int) ?_
    refine mv ?_
    refine Walk.nil ?_
    exact Leaf.next hm (su (st (st (st Sub.nil))))
  ·have hm := cond_f hb hm
   refine CWalk.exit ?_
   refine Leaf.thenE ?_
   exact Leaf.brk hm (fun h => nomatch h) rfl (Sub.nil)
 ·intro _
  rcases b4 with b5 | b6
  ·have hm := selim_l hm
   refine Leaf.blockE ?_
   refine Leaf.thenN ?_
   refine CWalk.seq ?_
   refine CWalk.region ?_
   refine wo (Spec.assign Has.int) ?_
   refine Walk.nil ?_
   refine Leaf.thenN ?_
   refine CWalk.ret ?_
   obtain rfl := Option.some.inj hm
   exact Leaf.retC1 rfl (HasR.cv (HasR.tmp (Has.s rfl)) Cv.fl)
  ·have hm := selim_r hm
   refine Leaf.blockR ?_
   refine Leaf.thenR ?_
   obtain rfl := Option.some.inj hm
   exact Leaf.retC1 rfl (HasR.cv (HasR.tmp (Has.s rfl)) Cv.fl)

/-- slices.Contains[[]int,int] -/
def slices_Contains_int_int (a0 : List Int) (a1 : Int) : Option (Bool) :=
  Option.bind (slices_Index_int_int a0 a1) (fun x1 => some (decide (x1 ≥ (0 : Int))))
set_option maxRecDepth 100000 in
set_option maxHeartbeats 2000000 in
theorem slices_Contains_int_int_c (a0 : List Int) (a1 : Int) {r : Bool} (hm : slices_Contains_int_int a0 a1 = some r) : Ctr Try.prog 37 [.rep 0 a0, .rep 0 a1] (.fl r) [] := by
 refine ctr_of_walk [[]] 9 Try.func37 rfl rfl rfl rfl (fun w0 om => ?_)
 unfold slices_Contains_int_int at hm
 refine CWalk.sub (G' := [.fact 0 (.rep [0] (a0 : List Int)), .fact 1 (.rep [] (a1 : Int))]) (sn (Sub.cons (Has.fl (Has.s rfl)) Sub.nil)) ?_
 refine CWalk.seq ?_
 refine CWalk.region ?_
 refine wo (Spec.assign Has.bool) ?_
 refine Walk.nil ?_
 refine Leaf.thenN ?_
 refine CWalk.seq ?_
 refine CWalk.region ?_
 refine mv ?_
 refine mv ?_
 obtain ⟨x1, hx1, hm⟩ := bind_some hm
 refine wo (f := Fact.rep [] (x1 : Int)) (Spec.callE [0] 10 rfl en53 (slices_Index_int_int_c a0 a1 hx1) (HasAll.cons (Has.m (Has.s rfl) rfl) (HasAll.cons (Has.fl (Has.s rfl)) HasAll.nil))) ?_
 refine wo (Spec.geqI (Has.s rfl) Has.int) ?_
 refine wo (Spec.assign (Has.s rfl)) ?_
 refine Walk.nil ?_
 refine Leaf.thenN ?_
 refine CWalk.ret ?_
 obtain rfl := Option.some.inj hm
 exact Leaf.retC1 rfl (HasR.cv (HasR.tmp (Has.s rfl)) Cv.fl)

def plan_some_J2 (s2 : Int) (j4 : List Plan) : Option (Ctl ((List Plan) × Int) ((List Plan))) :=
  some (Ctl.next (j4, (wI (s2 + (1 : Int)))))
def plan_some_L1 (a0 : Int) (a1 : List Plan) (s1 : List Plan) (s2 : Int) : Option (Ctl ((List Plan) × Int) ((List Plan))) :=
  (bif (decide (s2 < ((a1).length : Int))) then Option.bind (idx a1 s2) (fun x5 => Option.bind (slices_Contains_int_int x5.Reads a0) (fun x6 => (bif (!x6) then Option.bind (app s1 ([x5])) (fun x7 => (plan_some_J2 s2 x7)) else (plan_some_J2 s2 s1)))) else some (Ctl.brk s1))
/-- freeboard/plan.some -/
def plan_some (a0 : Int) (a1 : List Plan) : Option ((List Plan)) :=
  Option.bind (loopM (fun s : (List Plan) × Int => plan_some_L1 a0 a1 s.1 s.2) FUEL (([] : List Plan), (0 : Int))) (fun b8 => some b8)
set_option maxRecDepth 100000 in
set_option maxHeartbeats 2000000 in
theorem plan_some_c (a0 : Int) (a1 : List Plan) {r : (List Plan)} (hm : plan_some a0 a1 = some r) : Ctr Try.prog 22 [.rep 0 a0, .rep 0 a1] (.own 0 (some 1) 33 r) [1] := by
 refine ctr_of_walk [[15], [0, 14]] 25 Try.func22 rfl rfl rfl rfl (fun w0 om => ?_)
 unfold plan_some at hm
 refine CWalk.sub (G' := [.fact 0 (.rep [] (a0 : Int)), .fact 1 (.rep [0] (a1 : List Plan))]) (Sub.cons (Has.fl (Has.s rfl)) (sn Sub.nil)) ?_
 refine CWalk.seq ?_
 refine CWalk.region ?_
 refine wo (Spec.assign Has.nilv) ?_
 refine Walk.nil ?_
 refine Leaf.thenN ?_
 refine CWalk.seq ?_
 refine CWalk.region ?_
 refine wo (Spec.assign Has.nilv) ?_
 refine Walk.nil ?_
 refine Leaf.thenN ?_
 refine CWalk.seq ?_
 refine CWalk.seq ?_
 refine CWalk.region ?_
 refine mv ?_
 refine wo (Spec.len (Has.s rfl) Try.underlying52) ?_
 refine wo (Spec.move Has.int) ?_
 refine Walk.nil ?_
 refine Leaf.thenN ?_
 refine CWalk.block ?_
 obtain ⟨b8, hb8, hm⟩ := bind_some hm
 refine CWalk.loop (fun s : (List Plan) × Int => [.fact 0 (.rep [] (a0 : Int)), .fact 5 (.ow [15] [0, 14] 33 (s.1 : List Plan)), .fact 8 (.rep [0] (a1 : List Plan)), .fact 9 (.rep [] (((a1).length : Int) : Int)), .fact 10 (.rep [] s.2)]) (fun b : (List Plan) => (Exit.exit 0, [.fact 5 (.ow [15] [0, 14] 33 (b : List Plan))])) hb8 (st (Sub.cons (Has.cv (Has.s rfl) (Cv.trans Cv.nilOw (Cv.owM (T := []) (te := []) rfl rfl))) (su (st (st Sub.nil))))) ?_ ?_
 ·rintro ⟨s1, s2⟩ c3 hm
  replace hm : plan_some_L1 a0 a1 s1 s2 = some c3 := hm
  unfold plan_some_L1 at hm
  show CWalk _ [.fact 0 (.rep [] (a0 : Int)), .fact 5 (.ow [15] [0, 14] 33 (s1 : List Plan)), .fact 8 (.rep [0] (a1 : List Plan)), .fact 9 (.rep [] (((a1).length : Int) : Int)), .fact 10 (.rep [] (s2 : Int))] _ _
  refine CWalk.seq ?_
  refine CWalk.region ?_
  refine wo (Spec.lssI (Has.s rfl) (Has.s rfl)) ?_
  refine Walk.nil ?_
  refine Leaf.thenN ?_
  refine CWalk.seq ?_
  refine CWalk.cond rfl (fun hb => ?_) (fun hb => ?_)
  ·have hm := cond_t hb hm
   refine CWalk.skip ?_
   refine Leaf.thenN ?_
   refine CWalk.seqJ (fun p : (List Plan) => [.fact 0 (.rep [] (a0 : Int)), .fact 5 (.ow [15] [0, 14] 33 (p : List Plan)), .fact 8 (.rep [0] (a1 : List Plan)), .fact 9 (.rep [] (((a1).length : Int) : Int)), .fact 10 (.rep [] (s2 : Int))]) (fun p : (List Plan) => plan_some_J2 s2 p = some c3) ?_ ?_
   ·rintro j4 hm
    replace hm : plan_some_J2 s2 j4 = some c3 := hm
    unfold plan_some_J2 at hm
    show CWalk _ [.fact 0 (.rep [] (a0 : Int)), .fact 5 (.ow [15] [0, 14] 33 (j4 : List Plan)), .fact 8 (.rep [0] (a1 : List Plan)), .fact 9 (.rep [] (((a1).length : Int) : Int)), .fact 10 (.rep [] (s2 : Int))] _ _
    refine CWalk.region ?_
    refine wo (Spec.addI (Has.s rfl) Has.int) ?_
    refine mv ?_
    refine Walk.nil ?_
    exact Leaf.next hm (st (Sub.cons (Has.cv (Has.s rfl) (Cv.owM (T := [15]) (te := [0, 14]) rfl rfl)) (su (st (st Sub.nil)))))
   ·refine CWalk.block ?_
    refine CWalk.seq ?_
    refine CWalk.region ?_
    obtain ⟨x5, hx5, hm⟩ := bind_some hm
    refine wo (Spec.indexAddr hx5 sl52 (Has.s rfl) (Has.s rfl)) ?_
    refine wo (Spec.load ty33 (Has.s rfl)) ?_
    refine ws (Step.allocObj (ls := [(false, 1, Fact.rep [] ((0 : UInt8) : UInt8)), (false, 1, Fact.nilv)]) 10 rfl rfl rfl rfl zl33) ?_
    refine ws (Step.storeObj (ls := [(false, 1, Fact.rep [] x5.Kind), (false, 1, Fact.rep [0] x5.Reads)]) rfl ty33 rfl rfl (Has.s rfl) rfl (HasL.flds (Has.cv (Has.s rfl) (Cv.trans (Cv.opens (chPlan x5)) (Cv.flds (CvL.cons Cv.fl (CvL.cons Cv.refl CvL.nil)))))) rfl) ?_
    refine Walk.nil ?_
    refine Leaf.thenN ?_
    refine CWalk.seq ?_
    refine CWalk.region ?_
    refine wo (Spec.fieldAddrO fd33_1 (Has.cv (Has.s rfl) (Cv.isvP rfl))) ?_
    refine wo (Spec.loadF (i := 1) ty31 rfl (Has.s rfl) rfl (HasG.s rfl)) ?_
    refine mv ?_
    obtain ⟨x6, hx6, hm⟩ := bind_some hm
    refine wo (f := Fact.rep [] (x6 : Bool)) (Spec.callE [0] 13 rfl en37 (slices_Contains_int_int_c x5.Reads a0 hx6) (HasAll.cons (Has.m (Has.s rfl) rfl) (HasAll.cons (Has.fl (Has.s rfl)) HasAll.nil))) ?_
    refine wo (Spec.not (Has.s rfl)) ?_
    refine Walk.nil ?_
    refine Leaf.thenN ?_
    refine CWalk.cond rfl (fun hb => ?_) (fun hb => ?_)
    ·have hm := cond_t hb hm
     refine CWalk.region ?_
     refine mv ?_
     refine wo (Spec.loadObj (ls := [(false, 1, Fact.rep [] x5.Kind), (false, 1, Fact.rep [0] x5.Reads)]) ty33 rfl rfl (Has.s rfl) rfl (HasGs.cons (HasG.s rfl) (HasGs.cons (HasG.s rfl) HasGs.nil))) ?_
     refine wo (Spec.lit (xs := [.tmp 20]) (T := [0]) 14 rfl ow52 rfl rfl rfl rfl (HasEach.cons (Has.m (Has.cv (Has.s rfl) (Cv.trans (Cv.flds (CvL.cons Cv.fl (CvL.cons (Cv.m rfl) CvL.nil))) (Cv.close (T := [0]) (chPlan x5)))) rfl) HasEach.nil)) ?_
     obtain ⟨x7, hx7, hm⟩ := bind_some hm
     refine ws (Step.appendOw (T := [15]) (te' := [0, 14]) hx7 rfl rfl rfl ow52 (Has.s rfl) (Has.s rfl) (ElKeeps.tags rfl rfl) (ElKeeps.tags rfl rfl)) ?_
     refine wo (Spec.assign (Has.s rfl)) ?_
     refine Walk.nil ?_
     refine Leaf.blockN ?_
     exact Leaf.join x7 hm (st (Sub.cons (Has.cv (Has.s rfl) (Cv.owM (T := [15]) (te := [0, 14]) rfl rfl)) (su (st (st Sub.nil)))))
    ·have hm := cond_f hb hm
     refine CWalk.skip ?_
     refine Leaf.blockN ?_
     exact Leaf.join s1 hm (st (Sub.cons (Has.cv (Has.s rfl) (Cv.owM (T := [15]) (te := [0, 14]) rfl rfl)) (su (st (st Sub.nil)))))
  ·have hm := cond_f hb hm
   refine CWalk.exit ?_
   refine Leaf.thenE ?_
   exact Leaf.brk hm (fun h => nomatch h) rfl (Sub.cons (Has.cv (Has.s rfl) (Cv.owM (T := [15]) (te := [0, 14]) rfl rfl)) Sub.nil)
 ·intro _
  refine Leaf.blockE ?_
  refine Leaf.thenN ?_
  refine CWalk.seq ?_
  refine CWalk.region ?_
  refine mv ?_
  refine wo (Spec.assign (Has.s rfl)) ?_
  refine Walk.nil ?_
  refine Leaf.thenN ?_
  refine CWalk.ret ?_
  obtain rfl := Option.some.inj hm
  exact Leaf.retC1 rfl (HasR.cv (HasR.tmp (Has.s rfl)) (Cv.owM (T := [15]) (te := [0, 14]) rfl rfl))

def slices_MinFunc_api_Plan_api_Plan_J3 (s2 : Int) (j6 : UInt8) (j7 : List Int) : Option (Ctl (Int × UInt8 × (List Int)) (UInt8 × (List Int))) :=
  some (Ctl.next ((wI (s2 + (1 : Int))), j6, j7))
def slices_MinFunc_api_Plan_api_Plan_L2 (a0 : List Plan) (a1 : (Plan × Plan) → Option Int) (s2 : Int) (s3 : UInt8) (s4 : List Int) : Option (Ctl (Int × UInt8 × (List Int)) (UInt8 × (List Int))) :=
  (bif (decide (s2 < ((a0).length : Int))) then Option.bind (idx a0 s2) (fun x8 => Option.bind (a1 (x8, (Plan.mk s3 s4))) (fun x9 => (bif (decide (x9 < (0 : Int))) then Option.bind (idx a0 s2) (fun x10 => (slices_MinFunc_api_Plan_api_Plan_J3 s2 x10.Kind x10.Reads)) else (slices_MinFunc_api_Plan_api_Plan_J3 s2 s3 s4)))) else some (Ctl.brk (s3, s4)))
def slices_MinFunc_api_Plan_api_Plan_J1 (a0 : List Plan) (a1 : (Plan × Plan) → Option Int) : Option (Plan) :=
  Option.bind (idx a0 (0 : Int)) (fun x1 => Option.bind (loopM (fun s : Int × UInt8 × (List Int) => slices_MinFunc_api_Plan_api_Plan_L2 a0 a1 s.1 s.2.1 s.2.2) FUEL ((1 : Int), x1.Kind, x1.Reads)) (fun b11 => some (Plan.mk b11.1 b11.2)))
/-- slices.MinFunc[[]freeboard/api.Plan,freeboard/api.Plan] -/
def slices_MinFunc_api_Plan_api_Plan (a0 : List Plan) (a1 : (Plan × Plan) → Option Int) : Option (Plan) :=
  (bif (decide (((a0).length : Int) < (1 : Int))) then none else (slices_MinFunc_api_Plan_api_Plan_J1 a0 a1))
set_option maxRecDepth 100000 in
set_option maxHeartbeats 2000000 in
theorem slices_MinFunc_api_Plan_api_Plan_c (a0 : List Plan) (a1 : (Plan × Plan) → Option Int) {r : Plan} (hm : slices_MinFunc_api_Plan_api_Plan a0 a1 = some r) : Ctr Try.prog 21 [.rep 0 a0, .fn Try.prog pre2 0 a1] (.flds [(false, 1, (.fl r.Kind)), (false, 1, (.rep 0 r.Reads))]) [0] := by
 refine ctr_of_walk [[0]] 33 Try.func21 rfl rfl rfl rfl (fun w0 om => ?_)
 unfold slices_MinFunc_api_Plan_api_Plan at hm
 refine CWalk.sub (G' := [.fact 0 (.rep [0] (a0 : List Plan)), .fact 1 (.fn Try.prog pre2 [0] (a1))]) (sn (sn Sub.nil)) ?_
 refine CWalk.seq ?_
 refine CWalk.region ?_
 refine ws (Step.allocObj (ls := [(false, 1, Fact.rep [] ((0 : UInt8) : UInt8)), (false, 1, Fact.nilv)]) 10 rfl rfl rfl rfl zl33) ?_
 refine Walk.nil ?_
 refine Leaf.thenN ?_
 refine CWalk.seqJ (fun p : Unit => [.fact 0 (.rep [0] (a0 : List Plan)), .fact 1 (.fn Try.prog pre2 [0] (a1)), .fact 4 (.isv 10), .fact 100011 (.at 11 (.rep [] ((0 : UInt8) : UInt8))), .fact 100012 (.at 12 (.nilv)), .fact 100010 (.obj 10 [(false, 1), (false, 1)])]) (fun p : Unit => slices_MinFunc_api_Plan_api_Plan_J1 a0 a1 = some r) ?_ ?_
 ·rintro _ hm
  replace hm : slices_MinFunc_api_Plan_api_Plan_J1 a0 a1 = some r := hm
  unfold slices_MinFunc_api_Plan_api_Plan_J1 at hm
  show CWalk _ [.fact 0 (.rep [0] (a0 : List Plan)), .fact 1 (.fn Try.prog pre2 [0] (a1)), .fact 4 (.isv 10), .fact 100011 (.at 11 (.rep [] ((0 : UInt8) : UInt8))), .fact 100012 (.at 12 (.nilv)), .fact 100010 (.obj 10 [(false, 1), (false, 1)])] _ _
  refine CWalk.seq ?_
  refine CWalk.region ?_
  refine mv ?_
  obtain ⟨x1, hx1, hm⟩ := bind_some hm
  refine wo (Spec.indexAddr hx1 sl52 (Has.s rfl) Has.int) ?_
  refine wo (Spec.load ty33 (Has.s rfl)) ?_
  refine ws (Step.allocObj (ls := [(false, 1, Fact.rep [] ((0 : UInt8) : UInt8)), (false, 1, Fact.nilv)]) 13 rfl rfl rfl rfl zl33) ?_
  refine ws (Step.storeObj (ls := [(false, 1, Fact.rep [] x1.Kind), (false, 1, Fact.rep [0] x1.Reads)]) rfl ty33 rfl rfl (Has.s rfl) rfl (HasL.flds (Has.cv (Has.s rfl) (Cv.trans (Cv.opens (chPlan x1)) (Cv.flds (CvL.cons Cv.fl (CvL.cons Cv.refl CvL.nil)))))) rfl) ?_
  refine Walk.nil ?_
  refine Leaf.thenN ?_
  refine CWalk.seq ?_
  refine CWalk.seq ?_
  refine CWalk.region ?_
  refine wo (Spec.assign Has.int) ?_
  refine Walk.nil ?_
  refine Leaf.thenN ?_
  refine CWalk.block ?_
  obtain ⟨b11, hb11, hm⟩ := bind_some hm
  refine CWalk.loop (fun s : Int × UInt8 × (List Int) => [.fact 0 (.rep [0] (a0 : List Plan)), .fact 1 (.fn Try.prog pre2 [0] (a1)), .fact 4 (.isv 10), .fact 5 (.isv 13), .fact 6 (.rep [] s.1), .fact 100011 (.at 11 (.rep [] ((0 : UInt8) : UInt8))), .fact 100012 (.at 12 (.nilv)), .fact 100014 (.at 14 (.rep [] s.2.1)), .fact 100015 (.at 15 (.rep [0] s.2.2)), .fact 100010 (.obj 10 [(false, 1), (false, 1)]), .fact 100013 (.obj 13 [(false, 1), (false, 1)])]) (fun b : UInt8 × (List Int) => (Exit.exit 0, [.fact 4 (.isv 10), .fact 5 (.isv 13), .fact 100011 (.at 11 (.rep [] ((0 : UInt8) : UInt8))), .fact 100012 (.at 12 (.nilv)), .fact 100014 (.at 14 (.rep [] b.1)), .fact 100015 (.at 15 (.rep [0] b.2)), .fact 100010 (.obj 10 [(false, 1), (false, 1)]), .fact 100013 (.obj 13 [(false, 1), (false, 1)])])) hb11 (su (sn (sn (sn (st (sf (sg (sf (sm (sn (sn Sub.nil))))))))))) ?_ ?_
  ·rintro ⟨s2, s3, s4⟩ c5 hm
   replace hm : slices_MinFunc_api_Plan_api_Plan_L2 a0 a1 s2 s3 s4 = some c5 := hm
   unfold slices_MinFunc_api_Plan_api_Plan_L2 at hm
   show CWalk _ [.fact 0 (.rep [0] (a0 : List Plan)), .fact 1 (.fn Try.prog pre2 [0] (a1)), .fact 4 (.isv 10), .fact 5 (.isv 13), .fact 6 (.rep [] (s2 : Int)), .fact 100011 (.at 11 (.rep [] ((0 : UInt8) : UInt8))), .fact 100012 (.at 12 (.nilv)), .fact 100014 (.at 14 (.rep [] (s3 : UInt8))), .fact 100015 (.at 15 (.rep [0] (s4 : List Int))), .fact 100010 (.obj 10 [(false, 1), (false, 1)]), .fact 100013 (.obj 13 [(false, 1), (false, 1)])] _ _
   refine CWalk.seq ?_
   refine CWalk.seq ?_
   refine CWalk.region ?_
   refine mv ?_
   refine mv ?_
   refine wo (Spec.len (Has.s rfl) Try.underlying52) ?_
   refine wo (Spec.lssI (Has.s rfl) (Has.s rfl)) ?_
   refine Walk.nil ?_
   refine Leaf.thenN ?_
   refine CWalk.cond rfl (fun hb => ?_) (fun hb => ?_)
   ·have hm := cond_t hb hm
    refine CWalk.skip ?_
    refine Leaf.thenN ?_
    refine CWalk.seqJ (fun p : UInt8 × (List Int) => [.fact 0 (.rep [0] (a0 : List Plan)), .fact 1 (.fn Try.prog pre2 [0] (a1)), .fact 4 (.isv 10), .fact 5 (.isv 13), .fact 6 (.rep [] (s2 : Int)), .fact 100011 (.at 11 (.rep [] ((0 : UInt8) : UInt8))), .fact 100012 (.at 12 (.nilv)), .fact 100014 (.at 14 (.rep [] p.1)), .fact 100015 (.at 15 (.rep [0] p.2)), .fact 100010 (.obj 10 [(false, 1), (false, 1)]), .fact 100013 (.obj 13 [(false, 1), (false, 1)])]) (fun p : UInt8 × (List Int) => slices_MinFunc_api_Plan_api_Plan_J3 s2 p.1 p.2 = some c5) ?_ ?_
    ·rintro ⟨j6, j7⟩ hm
     replace hm : slices_MinFunc_api_Plan_api_Plan_J3 s2 j6 j7 = some c5 := hm
     unfold slices_MinFunc_api_Plan_api_Plan_J3 at hm
     show CWalk _ [.fact 0 (.rep [0] (a0 : List Plan)), .fact 1 (.fn Try.prog pre2 [0] (a1)), .fact 4 (.isv 10), .fact 5 (.isv 13), .fact 6 (.rep [] (s2 : Int)), .fact 100011 (.at 11 (.rep [] ((0 : UInt8) : UInt8))), .fact 100012 (.at 12 (.nilv)), .fact 100014 (.at 14 (.rep [] (j6 : UInt8))), .fact 100015 (.at 15 (.rep [0] (j7 : List Int))), .fact 100010 (.obj 10 [(false, 1), (false, 1)]), .fact 100013 (.obj 13 [(false, 1), (false, 1)])] _ _
     refine CWalk.region ?_
     refine mv ?_
     refine wo (Spec.addI (Has.s rfl) Has.int) ?_
     refine wo (Spec.assign (Has.s rfl)) ?_
     refine Walk.nil ?_
     exact Leaf.next hm (su (sn (sn (sn (st (sf (sg (sf (sm (sn (sn Sub.nil)))))))))))
    ·refine CWalk.block ?_
     refine CWalk.seq ?_
     obtain ⟨x8, hx8, hm⟩ := bind_some hm
     obtain ⟨x9, hx9, hm⟩ := bind_some hm
     refine CWalk.drawM [[], [], [], [1, 2], [1, 2, 3], [], [0, 1, 2, 3, 4, 5], [0, 1, 2, 3, 4, 5, 6]] [[.fact 20 (.fn Try.prog pre2 [0] (a1))], [.fact 21 (.rep [0] (a0 : List Plan))], [.fact 22 (.rep [] (s2 : Int))], [.fact 23 (.ptr [0] (x8 : Plan))], [.fact 24 (.rep [0] (x8 : Plan))], [.fact 25 (.flds [(false, 1, Fact.rep [] (s3 : UInt8)), (false, 1, Fact.rep [0] (s4 : List Int))])], [.fact 26 (.rep [] (x9 : Int))], [.fact 27 (.rep [] ((decide (x9 < (0 : Int))) : Bool))]] mixed (by kernel_rfl) (ao (so (Spec.move (Has.s rfl))) (ao (so (Spec.move (Has.s rfl))) (ao (so (Spec.move (Has.s rfl))) (ao (so (Spec.indexAddr hx8 sl52 (Has.s rfl) (Has.s rfl))) (ao (so (Spec.load ty33 (Has.s rfl))) (ao (so (Spec.loadObj (ls := [(false, 1, Fact.rep [] (s3 : UInt8)), (false, 1, Fact.rep [0] (s4 : List Int))]) ty33 rfl rfl (Has.s rfl) rfl (HasGs.cons (HasG.s rfl) (HasGs.cons (HasG.s rfl) HasGs.nil)))) (ao (so (Spec.callFn (xs := [.tmp 24, .tmp 25]) (x := (x8, (Plan.mk s3 s4))) [0] 16 rfl hx9 (Has.s rfl) (HasAll.cons (Has.m (Has.s rfl) rfl) (HasAll.cons (Has.m (Has.cv (Has.s rfl) (Cv.trans (Cv.flds (CvL.cons Cv.fl (CvL.cons (Cv.m rfl) CvL.nil))) (Cv.close (T := [0]) (chPlan (Plan.mk s3 s4))))) rfl) HasAll.nil)))) (ao (so (Spec.lssI (Has.s rfl) Has.int)) AllM.nil)))))))) ?_
     refine Leaf.thenN ?_
     refine CWalk.cond rfl (fun hb => ?_) (fun hb => ?_)
     ·have hm := cond_t hb hm
      refine CWalk.region ?_
      refine mv ?_
      refine mv ?_
      obtain ⟨x10, hx10, hm⟩ := bind_some hm
      refine wo (Spec.indexAddr hx10 sl52 (Has.s rfl) (Has.s rfl)) ?_
      refine wo (Spec.load ty33 (Has.s rfl)) ?_
      refine ws (Step.storeObj (ls := [(false, 1, Fact.rep [] x10.Kind), (false, 1, Fact.rep [0] x10.Reads)]) rfl ty33 rfl rfl (Has.s rfl) rfl (HasL.flds (Has.cv (Has.s rfl) (Cv.trans (Cv.opens (chPlan x10)) (Cv.flds (CvL.cons Cv.fl (CvL.cons Cv.refl CvL.nil)))))) rfl) ?_
      refine Walk.nil ?_
      refine Leaf.blockN ?_
      exact Leaf.join (x10.Kind, x10.Reads) hm (su (sn (sn (sn (st (sf (sg (sf (sm (sn (sn Sub.nil)))))))))))
     ·have hm := cond_f hb hm
      refine CWalk.skip ?_
      refine Leaf.blockN ?_
      exact Leaf.join (s3, s4) hm (su (sn (sn (sn (st (sf (sg (sf (sm (sn (sn Sub.nil)))))))))))
   ·have hm := cond_f hb hm
    refine CWalk.exit ?_
    refine Leaf.thenE ?_
    exact Leaf.brk hm (fun h => nomatch h) rfl (sn (sn (sf (sg (sf (sm (sn (sn Sub.nil))))))))
  ·intro _
   refine Leaf.blockE ?_
   refine Leaf.thenN ?_
   refine CWalk.seq ?_
   refine CWalk.region ?_
   refine wo (Spec.loadObj (ls := [(false, 1, Fact.rep [] b11.1), (false, 1, Fact.rep [0] b11.2)]) ty33 rfl rfl (Has.s rfl) rfl (HasGs.cons (HasG.s rfl) (HasGs.cons (HasG.s rfl) HasGs.nil))) ?_
   refine ws (Step.storeObj (ls := [(false, 1, Fact.rep [] b11.1), (false, 1, Fact.rep [0] b11.2)]) rfl ty33 rfl rfl (Has.s rfl) rfl (HasL.flds (Has.s rfl)) rfl) ?_
   refine Walk.nil ?_
   refine Leaf.thenN ?_
   refine CWalk.ret ?_
   obtain rfl := Option.some.inj hm
   exact Leaf.retC1 rfl (HasR.cv (HasR.obj (ls := [(false, 1, Fact.rep [] b11.1), (false, 1, Fact.rep [0] b11.2)]) ty33 rfl rfl (Has.s rfl) rfl (HasGs.cons (HasG.s rfl) (HasGs.cons (HasG.s rfl) HasGs.nil))) (Cv.flds (CvL.cons Cv.fl (CvL.cons (Cv.m rfl) CvL.nil))))
 ·refine CWalk.seq ?_
  refine CWalk.region ?_
  refine mv ?_
  refine wo (Spec.len (Has.s rfl) Try.underlying52) ?_
  refine wo (Spec.lssI (Has.s rfl) Has.int) ?_
  refine Walk.nil ?_
  refine Leaf.thenN ?_
  refine CWalk.cond rfl (fun hb => ?_) (fun hb => ?_)
  ·have hm := cond_t hb hm
   refine CWalk.region ?_
   exact nomatch hm
  ·have hm := cond_f hb hm
   refine CWalk.skip ?_
   exact Leaf.join () hm (su (sn (sn (sf (sg (sn Sub.nil))))))

/-- cmp.isNaN[int] -/
def cmp_isNaN_int (a0 : Int) : Option (Bool) :=
  some (a0 != a0)
set_option maxRecDepth 100000 in
set_option maxHeartbeats 2000000 in
theorem cmp_isNaN_int_c (a0 : Int) {r : Bool} (hm : cmp_isNaN_int a0 = some r) : Ctr Try.prog 39 [.rep 0 a0] (.fl r) [] := by
 refine ctr_of_walk [[]] 6 Try.func39 rfl rfl rfl rfl (fun w0 om => ?_)
 unfold cmp_isNaN_int at hm
 refine CWalk.sub (G' := [.fact 0 (.rep [] (a0 : Int))]) (Sub.cons (Has.fl (Has.s rfl)) Sub.nil) ?_
 refine CWalk.seq ?_
 refine CWalk.region ?_
 refine wo (Spec.assign Has.bool) ?_
 refine Walk.nil ?_
 refine Leaf.thenN ?_
 refine CWalk.seq ?_
 refine CWalk.region ?_
 refine mv ?_
 refine mv ?_
 refine wo (Spec.neqI (Has.s rfl) (Has.s rfl)) ?_
 refine wo (Spec.assign (Has.s rfl)) ?_
 refine Walk.nil ?_
 refine Leaf.thenN ?_
 refine CWalk.ret ?_
 obtain rfl := Option.some.inj hm
 exact Leaf.retC1 rfl (HasR.cv (HasR.tmp (Has.s rfl)) Cv.fl)

/-- cmp.Compare[int] -/
def cmp_Compare_int (a0 : Int) (a1 : Int) : Option (Int) :=
  Option.bind (cmp_isNaN_int a0) (fun x1 => Option.bind (cmp_isNaN_int a1) (fun x2 => (bif x1 then (bif x2 then some (0 : Int) else some (-1 : Int)) else (bif x2 then some (1 : Int) else (bif (decide (a0 < a1)) then some (-1 : Int) else (bif (decide (a0 > a1)) then some (1 : Int) else some (0 : Int)))))))
set_option maxRecDepth 100000 in
set_option maxHeartbeats 2000000 in
theorem cmp_Compare_int_c (a0 : Int) (a1 : Int) {r : Int} (hm : cmp_Compare_int a0 a1 = some r) : Ctr Try.prog 25 [.rep 0 a0, .rep 0 a1] (.fl r) [] := by
 refine ctr_of_walk [[]] 20 Try.func25 rfl rfl rfl rfl (fun w0 om => ?_)
 unfold cmp_Compare_int at hm
 refine CWalk.sub (G' := [.fact 0 (.rep [] (a0 : Int)), .fact 1 (.rep [] (a1 : Int))]) (Sub.cons (Has.fl (Has.s rfl)) (Sub.cons (Has.fl (Has.s rfl)) Sub.nil)) ?_
 refine CWalk.seq ?_
 refine CWalk.region ?_
 refine wo (Spec.assign Has.int) ?_
 refine Walk.nil ?_
 refine Leaf.thenN ?_
 refine CWalk.seq ?_
 refine CWalk.region ?_
 refine mv ?_
 obtain ⟨x1, hx1, hm⟩ := bind_some hm
 refine wo (f := Fact.rep [] (x1 : Bool)) (Spec.callE [] 10 rfl en39 (cmp_isNaN_int_c a0 hx1) (HasAll.cons (Has.fl (Has.s rfl)) HasAll.nil)) ?_
 refine wo (Spec.assign (Has.s rfl)) ?_
 refine Walk.nil ?_
 refine Leaf.thenN ?_
 refine CWalk.seq ?_
 refine CWalk.region ?_
 refine mv ?_
 obtain ⟨x2, hx2, hm⟩ := bind_some hm
 refine wo (f := Fact.rep [] (x2 : Bool)) (Spec.callE [] 11 rfl en39 (cmp_isNaN_int_c a1 hx2) (HasAll.cons (Has.fl (Has.s rfl)) HasAll.nil)) ?_
 refine wo (Spec.assign (Has.s rfl)) ?_
 refine Walk.nil ?_
 refine Leaf.thenN ?_
 refine CWalk.seq ?_
 refine CWalk.seq ?_
 refine CWalk.region ?_
 refine mv ?_
 refine Walk.nil ?_
 refine Leaf.thenN ?_
 refine CWalk.cond rfl (fun hb => ?_) (fun hb => ?_)
 ·have hm := cond_t hb hm
  refine CWalk.seq ?_
  refine CWalk.seq ?_
  refine CWalk.region ?_
  refine mv ?_
  refine Walk.nil ?_
  refine Leaf.thenN ?_
  refine CWalk.cond rfl (fun hb => ?_) (fun hb => ?_)
  ·have hm := cond_t hb hm
   refine CWalk.seq ?_
   refine CWalk.region ?_
   refine wo (Spec.assign Has.int) ?_
   refine Walk.nil ?_
   refine Leaf.thenN ?_
   refine CWalk.ret ?_
   refine Leaf.thenR ?_
   refine Leaf.thenR ?_
   obtain rfl := Option.some.inj hm
   exact Leaf.retC1 rfl (HasR.cv (HasR.tmp (Has.s rfl)) Cv.fl)
  ·have hm := cond_f hb hm
   refine CWalk.skip ?_
   refine Leaf.thenN ?_
   refine CWalk.seq ?_
   refine CWalk.region ?_
   refine wo (Spec.assign Has.int) ?_
   refine Walk.nil ?_
   refine Leaf.thenN ?_
   refine CWalk.ret ?_
   refine Leaf.thenR ?_
   obtain rfl := Option.some.inj hm
   exact Leaf.retC1 rfl (HasR.cv (HasR.tmp (Has.s rfl)) Cv.fl)
 ·have hm := cond_f hb hm
  refine CWalk.skip ?_
  refine Leaf.thenN ?_
  refine CWalk.seq ?_
  refine CWalk.seq ?_
  refine CWalk.region ?_
  refine mv ?_
  refine Walk.nil ?_
  refine Leaf.thenN ?_
  refine CWalk.cond rfl (fun hb => ?_) (fun hb => ?_)
  ·have hm := cond_t hb hm
   refine CWalk.seq ?_
   refine CWalk.region ?_
   refine wo (Spec.assign Has.int) ?_
   refine Walk.nil ?_
   refine Leaf.thenN ?_
   refine CWalk.ret ?_
   refine Leaf.thenR ?_
   obtain rfl := Option.some.inj hm
   exact Leaf.retC1 rfl (HasR.cv (HasR.tmp (Has.s rfl)) Cv.fl)
  ·have hm := cond_f hb hm
   refine CWalk.skip ?_
   refine Leaf.thenN ?_
   refine CWalk.seq ?_
   refine CWalk.seq ?_
   refine CWalk.region ?_
   refine mv ?_
   refine mv ?_
   refine wo (Spec.lssI (Has.s rfl) (Has.s rfl)) ?_
   refine Walk.nil ?_
   refine Leaf.thenN ?_
   refine CWalk.cond rfl (fun hb => ?_) (fun hb => ?_)
   ·have hm := cond_t hb hm
    refine CWalk.seq ?_
    refine CWalk.region ?_
    refine wo (Spec.assign Has.int) ?_
    refine Walk.nil ?_
    refine Leaf.thenN ?_
    refine CWalk.ret ?_
    refine Leaf.thenR ?_
    obtain rfl := Option.some.inj hm
    exact Leaf.retC1 rfl (HasR.cv (HasR.tmp (Has.s rfl)) Cv.fl)
   ·have hm := cond_f hb hm
    refine CWalk.skip ?_
    refine Leaf.thenN ?_
    refine CWalk.seq ?_
    refine CWalk.seq ?_
    refine CWalk.region ?_
    refine mv ?_
    refine mv ?_
    refine wo (Spec.gtrI (Has.s rfl) (Has.s rfl)) ?_
    refine Walk.nil ?_
    refine Leaf.thenN ?_
    refine CWalk.cond rfl (fun hb => ?_) (fun hb => ?_)
    ·have hm := cond_t hb hm
     refine CWalk.seq ?_
     refine CWalk.region ?_
     refine wo (Spec.assign Has.int) ?_
     refine Walk.nil ?_
     refine Leaf.thenN ?_
     refine CWalk.ret ?_
     refine Leaf.thenR ?_
     obtain rfl := Option.some.inj hm
     exact Leaf.retC1 rfl (HasR.cv (HasR.tmp (Has.s rfl)) Cv.fl)
    ·have hm := cond_f hb hm
     refine CWalk.skip ?_
     refine Leaf.thenN ?_
     refine CWalk.seq ?_
     refine CWalk.region ?_
     refine wo (Spec.assign Has.int) ?_
     refine Walk.nil ?_
     refine Leaf.thenN ?_
     refine CWalk.ret ?_
     obtain rfl := Option.some.inj hm
     exact Leaf.retC1 rfl (HasR.cv (HasR.tmp (Has.s rfl)) Cv.fl)

/-- freeboard/plan.Of$1 -/
def plan_Of_1 (a0 : Plan) (a1 : Plan) : Option (Int) :=
  Option.bind (cmp_Compare_int ((a0.Reads).length : Int) ((a1.Reads).length : Int)) (fun x1 => some x1)
set_option maxRecDepth 100000 in
set_option maxHeartbeats 2000000 in
theorem plan_Of_1_c (a0 : Plan) (a1 : Plan) {r : Int} (hm : plan_Of_1 a0 a1 = some r) : Ctr Try.prog 24 [.rep 0 a0, .rep 0 a1] (.fl r) [] := by
 refine ctr_of_walk [[]] 12 Try.func24 rfl rfl rfl rfl (fun w0 om => ?_)
 unfold plan_Of_1 at hm
 refine CWalk.sub (G' := [.fact 0 (.rep [0] (a0 : Plan)), .fact 1 (.rep [0] (a1 : Plan))]) (sn (sn Sub.nil)) ?_
 refine CWalk.seq ?_
 refine CWalk.region ?_
 refine ws (Step.boxObj (ls := [(false, 1, Fact.rep [] a0.Kind), (false, 1, Fact.rep [0] a0.Reads)]) 10 rfl rfl rfl rfl (HasL.flds (Has.cv (Has.s rfl) (Cv.trans (Cv.opens (chPlan a0)) (Cv.flds (CvL.cons Cv.fl (CvL.cons Cv.refl CvL.nil))))))) ?_
 refine ws (Step.boxObj (ls := [(false, 1, Fact.rep [] a1.Kind), (false, 1, Fact.rep [0] a1.Reads)]) 13 rfl rfl rfl rfl (HasL.flds (Has.cv (Has.s rfl) (Cv.trans (Cv.opens (chPlan a1)) (Cv.flds (CvL.cons Cv.fl (CvL.cons Cv.refl CvL.nil))))))) ?_
 refine wo (Spec.assign Has.int) ?_
 refine Walk.nil ?_
 refine Leaf.thenN ?_
 refine CWalk.seq ?_
 refine CWalk.region ?_
 refine wo (Spec.fieldAddrO fd33_1 (Has.cv (Has.s rfl) (Cv.isvP rfl))) ?_
 refine wo (Spec.loadF (i := 1) ty31 rfl (Has.s rfl) rfl (HasG.s rfl)) ?_
 refine wo (Spec.len (Has.s rfl) Try.underlying31) ?_
 refine wo (Spec.fieldAddrO fd33_1 (Has.cv (Has.s rfl) (Cv.isvP rfl))) ?_
 refine wo (Spec.loadF (i := 1) ty31 rfl (Has.s rfl) rfl (HasG.s rfl)) ?_
 refine wo (Spec.len (Has.s rfl) Try.underlying31) ?_
 obtain ⟨x1, hx1, hm⟩ := bind_some hm
 refine wo (f := Fact.rep [] (x1 : Int)) (Spec.callE [] 16 rfl en25 (cmp_Compare_int_c ((a0.Reads).length : Int) ((a1.Reads).length : Int) hx1) (HasAll.cons (Has.fl (Has.s rfl)) (HasAll.cons (Has.fl (Has.s rfl)) HasAll.nil))) ?_
 refine wo (Spec.assign (Has.s rfl)) ?_
 refine Walk.nil ?_
 refine Leaf.thenN ?_
 refine CWalk.ret ?_
 obtain rfl := Option.some.inj hm
 exact Leaf.retC1 rfl (HasR.cv (HasR.tmp (Has.s rfl)) Cv.fl)

def plan_Of_J2 (s3 : Int) (j7 : List Int) (j8 : List Int) : Option (Ctl (Int × (List Int) × (List Int)) ((List Int) × (List Int))) :=
  some (Ctl.next ((wI (s3 + (1 : Int))), j7, j8))
def plan_Of_J3 (a1 : Head) (s3 : Int) (s4 : List Int) (j10 : List Int) : Option (Ctl (Int × (List Int) × (List Int)) ((List Int) × (List Int))) :=
  Option.bind (idx a1.Blocks s3) (fun x11 => (bif (((x11).length : Int) == (0 : Int)) then Option.bind (app s4 ([s3])) (fun x12 => (plan_Of_J2 s3 x12 j10)) else (plan_Of_J2 s3 s4 j10)))
def plan_Of_L1 (a1 : Head) (s3 : Int) (s4 : List Int) (s5 : List Int) : Option (Ctl (Int × (List Int) × (List Int)) ((List Int) × (List Int))) :=
  (bif (decide (s3 < ((a1.Dirty).length : Int))) then Option.bind (idx a1.Dirty s3) (fun x9 => (bif x9 then Option.bind (app s5 ([s3])) (fun x13 => (plan_Of_J3 a1 s3 s4 x13)) else (plan_Of_J3 a1 s3 s4 s5))) else some (Ctl.brk (s4, s5)))
/-- freeboard/plan.Of -/
def plan_Of (a0 : Config) (a1 : Head) (a2 : Int) : Option (Plan × Int) :=
  Option.bind (head_Check a0 a1) (fun x1 => (bif (x1 != (0 : Int)) then some ((Plan.mk (0 : UInt8) ([] : List Int)), x1) else (bif ((decide (a2 < (-1 : Int))) || (decide (a2 ≥ a0.Members))) then some ((Plan.mk (0 : UInt8) ([] : List Int)), (2 : Int)) else Option.bind (gO (!(a1.Phase != (0 : UInt8))) (slices_Contains_bool_bool a1.Dirty true)) (fun x2 => (bif ((a1.Phase != (0 : UInt8)) || (!x2)) then some ((Plan.mk (0 : UInt8) ([] : List Int)), (6 : Int)) else Option.bind (loopM (fun s : Int × (List Int) × (List Int) => plan_Of_L1 a1 s.1 s.2.1 s.2.2) FUEL ((0 : Int), ([] : List Int), ([] : List Int))) (fun b14 => (bif (((b14.1).length : Int) == (0 : Int)) then some ((Plan.mk (1 : UInt8) ([] : List Int)), (0 : Int)) else Option.bind (app b14.2 ([(wI (a0.Members - (1 : Int)))])) (fun x15 => Option.bind (plan_lost a0 a1.Stripe a2) (fun x16 => Option.bind (plan_some x16 ([(Plan.mk (2 : UInt8) b14.1), (Plan.mk (3 : UInt8) x15)])) (fun x17 => Option.bind (slices_MinFunc_api_Plan_api_Plan x17 (fun y => plan_Of_1 y.1 y.2)) (fun x18 => some (x18, (0 : Int)))))))))))))
set_option maxRecDepth 100000 in
set_option maxHeartbeats 2000000 in
theorem plan_Of_c (a0 : Config) (a1 : Head) (a2 : Int) {r : Plan × Int} (hm : plan_Of a0 a1 a2 = some r) : Ctr Try.prog 9 [.rep 0 a0, .rep 0 a1, .rep 0 a2] (.tup2 (.flds [(false, 1, (.fl r.1.Kind)), (false, 1, (.rep 0 r.1.Reads))]) (.fl r.2)) [] := by
 refine ctr_of_walk [[36, 38, 41, 42, 43, 44]] 95 Try.func9 rfl rfl rfl rfl (fun w0 om => ?_)
 unfold plan_Of at hm
 refine CWalk.sub (G' := [.fact 0 (.rep [] (a0 : Config)), .fact 1 (.rep [0] (a1 : Head)), .fact 2 (.rep [] (a2 : Int))]) (Sub.cons (Has.fl (Has.s rfl)) (sn (Sub.cons (Has.fl (Has.s rfl)) Sub.nil))) ?_
 refine CWalk.seq ?_
 refine CWalk.region ?_
 refine ws (Step.boxObj (ls := [(false, 1, Fact.rep [] a0.Id), (false, 1, Fact.rep [] a0.Members), (false, 1, Fact.rep [] a0.Chunk), (false, 1, Fact.rep [] a0.Rows), (false, 1, Fact.rep [] a0.Log), (false, 1, Fact.rep [] a0.Heads)]) 10 rfl rfl rfl rfl (HasL.flds (Has.cv (Has.s rfl) (Cv.trans (Cv.opens (chConfig a0)) (Cv.flds (CvL.cons Cv.fl (CvL.cons Cv.fl (CvL.cons Cv.fl (CvL.cons Cv.fl (CvL.cons Cv.fl (CvL.cons Cv.fl CvL.nil))))))))))) ?_
 refine ws (Step.boxObj (ls := [(false, 1, Fact.rep [] a1.Stripe), (false, 1, Fact.rep [0] a1.Blocks), (false, 1, Fact.rep [0] a1.Dirty), (false, 1, Fact.rep [] a1.Phase), (false, 1, Fact.rep [] a1.Deals), (false, 1, Fact.rep [] a1.Seq)]) 17 rfl rfl rfl rfl (HasL.flds (Has.cv (Has.s rfl) (Cv.trans (Cv.opens (chHead a1)) (Cv.flds (CvL.cons Cv.fl (CvL.cons Cv.refl (CvL.cons Cv.refl (CvL.cons Cv.fl (CvL.cons Cv.fl (CvL.cons Cv.fl CvL.nil))))))))))) ?_
 refine ws (Step.allocObj (ls := [(false, 1, Fact.rep [] ((0 : UInt8) : UInt8)), (false, 1, Fact.nilv)]) 24 rfl rfl rfl rfl zl33) ?_
 refine wo (Spec.assign Has.int) ?_
 refine Walk.nil ?_
 refine Leaf.thenN ?_
 refine CWalk.seq ?_
 refine CWalk.seq ?_
 refine CWalk.region ?_
 refine wo (Spec.loadObj (ls := [(false, 1, Fact.rep [] a0.Id), (false, 1, Fact.rep [] a0.Members), (false, 1, Fact.rep [] a0.Chunk), (false, 1, Fact.rep [] a0.Rows), (false, 1, Fact.rep [] a0.Log), (false, 1, Fact.rep [] a0.Heads)]) ty24 rfl rfl (Has.s rfl) rfl (HasGs.cons (HasG.s rfl) (HasGs.cons (HasG.s rfl) (HasGs.cons (HasG.s rfl) (HasGs.cons (HasG.s rfl) (HasGs.cons (HasG.s rfl) (HasGs.cons (HasG.s rfl) HasGs.nil))))))) ?_
 refine wo (Spec.loadObj (ls := [(false, 1, Fact.rep [] a1.Stripe), (false, 1, Fact.rep [0] a1.Blocks), (false, 1, Fact.rep [0] a1.Dirty), (false, 1, Fact.rep [] a1.Phase), (false, 1, Fact.rep [] a1.Deals), (false, 1, Fact.rep [] a1.Seq)]) ty28 rfl rfl (Has.s rfl) rfl (HasGs.cons (HasG.s rfl) (HasGs.cons (HasG.s rfl) (HasGs.cons (HasG.s rfl) (HasGs.cons (HasG.s rfl) (HasGs.cons (HasG.s rfl) (HasGs.cons (HasG.s rfl) HasGs.nil))))))) ?_
 obtain ⟨x1, hx1, hm⟩ := bind_some hm
 refine wo (f := Fact.rep [] (x1 : Int)) (Spec.callE [0] 27 rfl en17 (head_Check_c a0 a1 hx1) (HasAll.cons (Has.fl (Has.cv (Has.s rfl) (Cv.trans (Cv.flds (CvL.cons Cv.fl (CvL.cons Cv.fl (CvL.cons Cv.fl (CvL.cons Cv.fl (CvL.cons Cv.fl (CvL.cons Cv.fl CvL.nil))))))) (Cv.close (T := []) (chConfig a0))))) (HasAll.cons (Has.m (Has.cv (Has.s rfl) (Cv.trans (Cv.flds (CvL.cons Cv.fl (CvL.cons (Cv.m rfl) (CvL.cons (Cv.m rfl) (CvL.cons Cv.fl (CvL.cons Cv.fl (CvL.cons Cv.fl CvL.nil))))))) (Cv.close (T := [0]) (chHead a1)))) rfl) HasAll.nil))) ?_
 refine wo (Spec.assign (Has.s rfl)) ?_
 refine Walk.nil ?_
 refine Leaf.thenN ?_
 refine CWalk.seq ?_
 refine CWalk.region ?_
 refine mv ?_
 refine wo (Spec.neqI (Has.s rfl) Has.int) ?_
 refine Walk.nil ?_
 refine Leaf.thenN ?_
 refine CWalk.cond rfl (fun hb => ?_) (fun hb => ?_)
 ·have hm := cond_t hb hm
  refine CWalk.seq ?_
  refine CWalk.region ?_
  refine wo (Spec.build (us := []) (ls' := [(false, 1, Fact.rep [] ((0 : UInt8) : UInt8)), (false, 1, Fact.nilv)]) bd33 rfl BP.nil) ?_
  refine mv ?_
  refine ws (Step.storeObj (ls := [(false, 1, Fact.rep [] ((0 : UInt8) : UInt8)), (false, 1, Fact.nilv)]) rfl ty33 rfl rfl (Has.s rfl) rfl (HasL.flds (Has.s rfl)) rfl) ?_
  refine wo (Spec.assign (Has.s rfl)) ?_
  refine Walk.nil ?_
  refine Leaf.thenN ?_
  refine CWalk.ret ?_
  refine Leaf.thenR ?_
  obtain rfl := Option.some.inj hm
  exact Leaf.retC2 rfl (HasR.cv (HasR.obj (ls := [(false, 1, Fact.rep [] ((0 : UInt8) : UInt8)), (false, 1, Fact.nilv)]) ty33 rfl rfl (Has.s rfl) rfl (HasGs.cons (HasG.s rfl) (HasGs.cons (HasG.s rfl) HasGs.nil))) (Cv.flds (CvL.cons Cv.fl (CvL.cons (Cv.trans (Cv.nil (T := [])) (Cv.m rfl)) CvL.nil)))) (HasR.cv (HasR.tmp (Has.s rfl)) Cv.fl)
 ·have hm := cond_f hb hm
  refine CWalk.skip ?_
  refine Leaf.thenN ?_
  refine CWalk.seq ?_
  refine CWalk.seq ?_
  refine CWalk.region ?_
  refine mv ?_
  refine wo (Spec.lssI (Has.s rfl) Has.int) ?_
  refine mv ?_
  refine wg rfl rfl (fun hb => Spec.move (Has.s rfl)) ?_
  refine wg rfl rfl (fun hb => Spec.fieldAddrO fd24_1 (Has.cv (Has.s rfl) (Cv.isvP rfl))) ?_
  refine wg rfl rfl (fun hb => Spec.loadF (i := 1) ty3 rfl (Has.u rfl hb) rfl (HasG.s rfl)) ?_
  refine wg rfl rfl (fun hb => Spec.geqI (Has.u rfl hb) (Has.u rfl hb)) ?_
  refine wo (Spec.or (Has.s rfl) (fun h => Has.u rfl h)) ?_
  refine Walk.nil ?_
  refine Leaf.thenN ?_
  refine CWalk.cond rfl (fun hb => ?_) (fun hb => ?_)
  ·have hm := cond_t hb hm
   refine CWalk.seq ?_
   refine CWalk.region ?_
   refine wo (Spec.build (us := []) (ls' := [(false, 1, Fact.rep [] ((0 : UInt8) : UInt8)), (false, 1, Fact.nilv)]) bd33 rfl BP.nil) ?_
   refine ws (Step.storeObj (ls := [(false, 1, Fact.rep [] ((0 : UInt8) : UInt8)), (false, 1, Fact.nilv)]) rfl ty33 rfl rfl (Has.s rfl) rfl (HasL.flds (Has.s rfl)) rfl) ?_
   refine wo (Spec.assign Has.int) ?_
   refine Walk.nil ?_
   refine Leaf.thenN ?_
   refine CWalk.ret ?_
   refine Leaf.thenR ?_
   obtain rfl := Option.some.inj hm
   exact Leaf.retC2 rfl (HasR.cv (HasR.obj (ls := [(false, 1, Fact.rep [] ((0 : UInt8) : UInt8)), (false, 1, Fact.nilv)]) ty33 rfl rfl (Has.s rfl) rfl (HasGs.cons (HasG.s rfl) (HasGs.cons (HasG.s rfl) HasGs.nil))) (Cv.flds (CvL.cons Cv.fl (CvL.cons (Cv.trans (Cv.nil (T := [])) (Cv.m rfl)) CvL.nil)))) (HasR.cv (HasR.tmp (Has.s rfl)) Cv.fl)
  ·have hm := cond_f hb hm
   refine CWalk.skip ?_
   refine Leaf.thenN ?_
   refine CWalk.seq ?_
   refine CWalk.seq ?_
   refine CWalk.region ?_
   refine wo (Spec.fieldAddrO fd28_3 (Has.cv (Has.s rfl) (Cv.isvP rfl))) ?_
   refine wo (Spec.loadF (i := 3) ty5 rfl (Has.s rfl) rfl (HasG.s rfl)) ?_
   refine wo (Spec.neqB (Has.s rfl) (Has.u8 0 rfl)) ?_
   refine mv ?_
   refine wg rfl rfl (fun hb => Spec.fieldAddrO fd28_2 (Has.cv (Has.s rfl) (Cv.isvP rfl))) ?_
   refine wg rfl rfl (fun hb => Spec.loadF (i := 2) ty26 rfl (Has.u rfl hb) rfl (HasG.s rfl)) ?_
   obtain ⟨x2, hx2, hm⟩ := bind_some hm
   refine wg (f := Fact.rep [] (x2 : Bool)) rfl rfl (fun hb => Spec.callE [0] 28 rfl en20 (slices_Contains_bool_bool_c a1.Dirty true (gO_t hx2 (not_t hb))) (HasAll.cons (Has.m (Has.u rfl hb) rfl) (HasAll.cons (Has.fl Has.bool) HasAll.nil))) ?_
   refine wg rfl rfl (fun hb => Spec.not (Has.u rfl hb)) ?_
   refine wo (Spec.or (Has.s rfl) (fun h => Has.u rfl h)) ?_
   refine Walk.nil ?_
   refine Leaf.thenN ?_
   refine CWalk.cond rfl (fun hb => ?_) (fun hb => ?_)
   ·have hm := cond_t hb hm
    refine CWalk.seq ?_
    refine CWalk.region ?_
    refine wo (Spec.build (us := []) (ls' := [(false, 1, Fact.rep [] ((0 : UInt8) : UInt8)), (false, 1, Fact.nilv)]) bd33 rfl BP.nil) ?_
    refine ws (Step.storeObj (ls := [(false, 1, Fact.rep [] ((0 : UInt8) : UInt8)), (false, 1, Fact.nilv)]) rfl ty33 rfl rfl (Has.s rfl) rfl (HasL.flds (Has.s rfl)) rfl) ?_
    refine wo (Spec.assign Has.int) ?_
    refine Walk.nil ?_
    refine Leaf.thenN ?_
    refine CWalk.ret ?_
    refine Leaf.thenR ?_
    obtain rfl := Option.some.inj hm
    exact Leaf.retC2 rfl (HasR.cv (HasR.obj (ls := [(false, 1, Fact.rep [] ((0 : UInt8) : UInt8)), (false, 1, Fact.nilv)]) ty33 rfl rfl (Has.s rfl) rfl (HasGs.cons (HasG.s rfl) (HasGs.cons (HasG.s rfl) HasGs.nil))) (Cv.flds (CvL.cons Cv.fl (CvL.cons (Cv.trans (Cv.nil (T := [])) (Cv.m rfl)) CvL.nil)))) (HasR.cv (HasR.tmp (Has.s rfl)) Cv.fl)
   ·have hm := cond_f hb hm
    refine CWalk.skip ?_
    refine Leaf.thenN ?_
    refine CWalk.seq ?_
    refine CWalk.region ?_
    refine wo (Spec.build (us := [(0, .const (.int .u8 2))]) (ls' := [(false, 1, Fact.rep [] ((2 : UInt8) : UInt8)), (false, 1, Fact.nilv)]) bd33 rfl (BP.cons rfl rfl (Has.u8 2 rfl) (Has.u8 2 rfl) BP.nil)) ?_
    refine wo (Spec.build (us := [(0, .const (.int .u8 3))]) (ls' := [(false, 1, Fact.rep [] ((3 : UInt8) : UInt8)), (false, 1, Fact.nilv)]) bd33 rfl (BP.cons rfl rfl (Has.u8 3 rfl) (Has.u8 3 rfl) BP.nil)) ?_
    refine ws (Step.allocObj (ls := [(false, 1, Fact.rep [] ((0 : UInt8) : UInt8)), (false, 1, Fact.nilv)]) 29 rfl rfl rfl rfl zl33) ?_
    refine ws (Step.allocObj (ls := [(false, 1, Fact.rep [] ((0 : UInt8) : UInt8)), (false, 1, Fact.nilv)]) 32 rfl rfl rfl rfl zl33) ?_
    refine ws (Step.storeObj (ls := [(false, 1, Fact.rep [] ((2 : UInt8) : UInt8)), (false, 1, Fact.nilv)]) rfl ty33 rfl rfl (Has.s rfl) rfl (HasL.flds (Has.s rfl)) rfl) ?_
    refine ws (Step.storeObj (ls := [(false, 1, Fact.rep [] ((3 : UInt8) : UInt8)), (false, 1, Fact.nilv)]) rfl ty33 rfl rfl (Has.s rfl) rfl (HasL.flds (Has.s rfl)) rfl) ?_
    refine Walk.nil ?_
    refine Leaf.thenN ?_
    refine CWalk.seq ?_
    refine CWalk.seq ?_
    refine CWalk.region ?_
    refine wo (Spec.fieldAddrO fd28_2 (Has.cv (Has.s rfl) (Cv.isvP rfl))) ?_
    refine wo (Spec.loadF (i := 2) ty26 rfl (Has.s rfl) rfl (HasG.s rfl)) ?_
    refine wo (Spec.len (Has.s rfl) Try.underlying26) ?_
    refine wo (Spec.move Has.int) ?_
    refine Walk.nil ?_
    refine Leaf.thenN ?_
    refine CWalk.block ?_
    obtain ⟨b14, hb14, hm⟩ := bind_some hm
    refine CWalk.loop (fun s : Int × (List Int) × (List Int) => [.fact 2 (.rep [] (a2 : Int)), .fact 3 (.isv 10), .fact 4 (.isv 17), .fact 6 (.isv 24), .fact 9 (.isv 29), .fact 10 (.isv 32), .fact 43 (.rep [0] a1.Dirty), .fact 44 (.rep [] (((a1.Dirty).length : Int) : Int)), .fact 45 (.rep [] s.1), .fact 100011 (.at 11 (.rep [] a0.Id)), .fact 100012 (.at 12 (.rep [] a0.Members)), .fact 100013 (.at 13 (.rep [] a0.Chunk)), .fact 100014 (.at 14 (.rep [] a0.Rows)), .fact 100015 (.at 15 (.rep [] a0.Log)), .fact 100016 (.at 16 (.rep [] a0.Heads)), .fact 100018 (.at 18 (.rep [] a1.Stripe)), .fact 100019 (.at 19 (.rep [0] a1.Blocks)), .fact 100020 (.at 20 (.rep [0] a1.Dirty)), .fact 100021 (.at 21 (.rep [] a1.Phase)), .fact 100022 (.at 22 (.rep [] a1.Deals)), .fact 100023 (.at 23 (.rep [] a1.Seq)), .fact 100025 (.at 25 (.rep [] ((0 : UInt8) : UInt8))), .fact 100026 (.at 26 (.nilv)), .fact 100030 (.at 30 (.rep [] ((2 : UInt8) : UInt8))), .fact 100031 (.at 31 (.ow [38] [] 3 (s.2.1 : List Int))), .fact 100033 (.at 33 (.rep [] ((3 : UInt8) : UInt8))), .fact 100034 (.at 34 (.ow [36] [] 3 (s.2.2 : List Int))), .fact 100010 (.obj 10 [(false, 1), (false, 1), (false, 1), (false, 1), (false, 1), (false, 1)]), .fact 100017 (.obj 17 [(false, 1), (false, 1), (false, 1), (false, 1), (false, 1), (false, 1)]), .fact 100024 (.obj 24 [(false, 1), (false, 1)]), .fact 100029 (.obj 29 [(false, 1), (false, 1)]), .fact 100032 (.obj 32 [(false, 1), (false, 1)])]) (fun b : (List Int) × (List Int) => (Exit.exit 0, [.fact 2 (.rep [] (a2 : Int)), .fact 3 (.isv 10), .fact 4 (.isv 17), .fact 6 (.isv 24), .fact 9 (.isv 29), .fact 10 (.isv 32), .fact 100011 (.at 11 (.rep [] a0.Id)), .fact 100012 (.at 12 (.rep [] a0.Members)), .fact 100013 (.at 13 (.rep [] a0.Chunk)), .fact 100014 (.at 14 (.rep [] a0.Rows)), .fact 100015 (.at 15 (.rep [] a0.Log)), .fact 100016 (.at 16 (.rep [] a0.Heads)), .fact 100018 (.at 18 (.rep [] a1.Stripe)), .fact 100019 (.at 19 (.rep [0] a1.Blocks)), .fact 100020 (.at 20 (.rep [0] a1.Dirty)), .fact 100021 (.at 21 (.rep [] a1.Phase)), .fact 100022 (.at 22 (.rep [] a1.Deals)), .fact 100023 (.at 23 (.rep [] a1.Seq)), .fact 100025 (.at 25 (.rep [] ((0 : UInt8) : UInt8))), .fact 100026 (.at 26 (.nilv)), .fact 100030 (.at 30 (.rep [] ((2 : UInt8) : UInt8))), .fact 100031 (.at 31 (.ow [38] [] 3 (b.1 : List Int))), .fact 100033 (.at 33 (.rep [] ((3 : UInt8) : UInt8))), .fact 100034 (.at 34 (.ow [36] [] 3 (b.2 : List Int))), .fact 100010 (.obj 10 [(false, 1), (false, 1), (false, 1), (false, 1), (false, 1), (false, 1)]), .fact 100017 (.obj 17 [(false, 1), (false, 1), (false, 1), (false, 1), (false, 1), (false, 1)]), .fact 100024 (.obj 24 [(false, 1), (false, 1)]), .fact 100029 (.obj 29 [(false, 1), (false, 1)]), .fact 100032 (.obj 32 [(false, 1), (false, 1)])])) hb14 (st (sn (sn (sn (sn (sn (su (st (st (sf (sf (sf (sf (sf (sf (sf (sm (sm (sf (sf (sf (sf (sg (sf (Sub.cons (Has.at (HasG.cv (HasG.s rfl) (Cv.trans Cv.nilOw (Cv.owF (T := []) (te := []) rfl)))) (sf (Sub.cons (Has.at (HasG.cv (HasG.s rfl) (Cv.trans Cv.nilOw (Cv.owF (T := []) (te := []) rfl)))) (sn (sn (sn (sn (sn Sub.nil)))))))))))))))))))))))))))))))) ?_ ?_
    ·rintro ⟨s3, s4, s5⟩ c6 hm
     replace hm : plan_Of_L1 a1 s3 s4 s5 = some c6 := hm
     unfold plan_Of_L1 at hm
     show CWalk _ [.fact 2 (.rep [] (a2 : Int)), .fact 3 (.isv 10), .fact 4 (.isv 17), .fact 6 (.isv 24), .fact 9 (.isv 29), .fact 10 (.isv 32), .fact 43 (.rep [0] a1.Dirty), .fact 44 (.rep [] (((a1.Dirty).length : Int) : Int)), .fact 45 (.rep [] (s3 : Int)), .fact 100011 (.at 11 (.rep [] a0.Id)), .fact 100012 (.at 12 (.rep [] a0.Members)), .fact 100013 (.at 13 (.rep [] a0.Chunk)), .fact 100014 (.at 14 (.rep [] a0.Rows)), .fact 100015 (.at 15 (.rep [] a0.Log)), .fact 100016 (.at 16 (.rep [] a0.Heads)), .fact 100018 (.at 18 (.rep [] a1.Stripe)), .fact 100019 (.at 19 (.rep [0] a1.Blocks)), .fact 100020 (.at 20 (.rep [0] a1.Dirty)), .fact 100021 (.at 21 (.rep [] a1.Phase)), .fact 100022 (.at 22 (.rep [] a1.Deals)), .fact 100023 (.at 23 (.rep [] a1.Seq)), .fact 100025 (.at 25 (.rep [] ((0 : UInt8) : UInt8))), .fact 100026 (.at 26 (.nilv)), .fact 100030 (.at 30 (.rep [] ((2 : UInt8) : UInt8))), .fact 100031 (.at 31 (.ow [38] [] 3 (s4 : List Int))), .fact 100033 (.at 33 (.rep [] ((3 : UInt8) : UInt8))), .fact 100034 (.at 34 (.ow [36] [] 3 (s5 : List Int))), .fact 100010 (.obj 10 [(false, 1), (false, 1), (false, 1), (false, 1), (false, 1), (false, 1)]), .fact 100017 (.obj 17 [(false, 1), (false, 1), (false, 1), (false, 1), (false, 1), (false, 1)]), .fact 100024 (.obj 24 [(false, 1), (false, 1)]), .fact 100029 (.obj 29 [(false, 1), (false, 1)]), .fact 100032 (.obj 32 [(false, 1), (false, 1)])] _ _
     refine CWalk.seq ?_
     refine CWalk.region ?_
     refine wo (Spec.lssI (Has.s rfl) (Has.s rfl)) ?_
     refine Walk.nil ?_
     refine Leaf.thenN ?_
     refine CWalk.seq ?_
     refine CWalk.cond rfl (fun hb => ?_) (fun hb => ?_)
     ·have hm := cond_t hb hm
      refine CWalk.skip ?_
      refine Leaf.thenN ?_
      refine CWalk.seqJ (fun p : (List Int) × (List Int) => [.fact 2 (.rep [] (a2 : Int)), .fact 3 (.isv 10), .fact 4 (.isv 17), .fact 6 (.isv 24), .fact 9 (.isv 29), .fact 10 (.isv 32), .fact 43 (.rep [0] a1.Dirty), .fact 44 (.rep [] (((a1.Dirty).length : Int) : Int)), .fact 45 (.rep [] (s3 : Int)), .fact 100011 (.at 11 (.rep [] a0.Id)), .fact 100012 (.at 12 (.rep [] a0.Members)), .fact 100013 (.at 13 (.rep [] a0.Chunk)), .fact 100014 (.at 14 (.rep [] a0.Rows)), .fact 100015 (.at 15 (.rep [] a0.Log)), .fact 100016 (.at 16 (.rep [] a0.Heads)), .fact 100018 (.at 18 (.rep [] a1.Stripe)), .fact 100019 (.at 19 (.rep [0] a1.Blocks)), .fact 100020 (.at 20 (.rep [0] a1.Dirty)), .fact 100021 (.at 21 (.rep [] a1.Phase)), .fact 100022 (.at 22 (.rep [] a1.Deals)), .fact 100023 (.at 23 (.rep [] a1.Seq)), .fact 100025 (.at 25 (.rep [] ((0 : UInt8) : UInt8))), .fact 100026 (.at 26 (.nilv)), .fact 100030 (.at 30 (.rep [] ((2 : UInt8) : UInt8))), .fact 100031 (.at 31 (.ow [38] [] 3 (p.1 : List Int))), .fact 100033 (.at 33 (.rep [] ((3 : UInt8) : UInt8))), .fact 100034 (.at 34 (.ow [36] [] 3 (p.2 : List Int))), .fact 100010 (.obj 10 [(false, 1), (false, 1), (false, 1), (false, 1), (false, 1), (false, 1)]), .fact 100017 (.obj 17 [(false, 1), (false, 1), (false, 1), (false, 1), (false, 1), (false, 1)]), .fact 100024 (.obj 24 [(false, 1), (false, 1)]), .fact 100029 (.obj 29 [(false, 1), (false, 1)]), .fact 100032 (.obj 32 [(false, 1), (false, 1)])]) (fun p : (List Int) × (List Int) => plan_Of_J2 s3 p.1 p.2 = some c6) ?_ ?_
      ·rintro ⟨j7, j8⟩ hm
       replace hm : plan_Of_J2 s3 j7 j8 = some c6 := hm
       unfold plan_Of_J2 at hm
       show CWalk _ [.fact 2 (.rep [] (a2 : Int)), .fact 3 (.isv 10), .fact 4 (.isv 17), .fact 6 (.isv 24), .fact 9 (.isv 29), .fact 10 (.isv 32), .fact 43 (.rep [0] a1.Dirty), .fact 44 (.rep [] (((a1.Dirty).length : Int) : Int)), .fact 45 (.rep [] (s3 : Int)), .fact 100011 (.at 11 (.rep [] a0.Id)), .fact 100012 (.at 12 (.rep [] a0.Members)), .fact 100013 (.at 13 (.rep [] a0.Chunk)), .fact 100014 (.at 14 (.rep [] a0.Rows)), .fact 100015 (.at 15 (.rep [] a0.Log)), .fact 100016 (.at 16 (.rep [] a0.Heads)), .fact 100018 (.at 18 (.rep [] a1.Stripe)), .fact 100019 (.at 19 (.rep [0] a1.Blocks)), .fact 100020 (.at 20 (.rep [0] a1.Dirty)), .fact 100021 (.at 21 (.rep [] a1.Phase)), .fact 100022 (.at 22 (.rep [] a1.Deals)), .fact 100023 (.at 23 (.rep [] a1.Seq)), .fact 100025 (.at 25 (.rep [] ((0 : UInt8) : UInt8))), .fact 100026 (.at 26 (.nilv)), .fact 100030 (.at 30 (.rep [] ((2 : UInt8) : UInt8))), .fact 100031 (.at 31 (.ow [38] [] 3 (j7 : List Int))), .fact 100033 (.at 33 (.rep [] ((3 : UInt8) : UInt8))), .fact 100034 (.at 34 (.ow [36] [] 3 (j8 : List Int))), .fact 100010 (.obj 10 [(false, 1), (false, 1), (false, 1), (false, 1), (false, 1), (false, 1)]), .fact 100017 (.obj 17 [(false, 1), (false, 1), (false, 1), (false, 1), (false, 1), (false, 1)]), .fact 100024 (.obj 24 [(false, 1), (false, 1)]), .fact 100029 (.obj 29 [(false, 1), (false, 1)]), .fact 100032 (.obj 32 [(false, 1), (false, 1)])] _ _
       refine CWalk.region ?_
       refine wo (Spec.addI (Has.s rfl) Has.int) ?_
       refine mv ?_
       refine Walk.nil ?_
       exact Leaf.next hm (st (sn (sn (sn (sn (sn (su (st (st (sf (sf (sf (sf (sf (sf (sf (sm (sm (sf (sf (sf (sf (sg (sf (Sub.cons (Has.at (HasG.cv (HasG.s rfl) (Cv.owF (T := [38]) (te := []) rfl))) (sf (Sub.cons (Has.at (HasG.cv (HasG.s rfl) (Cv.owF (T := [36]) (te := []) rfl))) (sn (sn (sn (sn (sn Sub.nil))))))))))))))))))))))))))))))))
      ·refine CWalk.block ?_
       refine CWalk.seq ?_
       refine CWalk.region ?_
       refine mv ?_
       obtain ⟨x9, hx9, hm⟩ := bind_some hm
       refine wo (Spec.indexAddr hx9 sl26 (Has.s rfl) (Has.s rfl)) ?_
       refine wo ((Spec.load ty4 (Has.s rfl)).flat (T' := [])) ?_
       refine wo (Spec.assign (Has.s rfl)) ?_
       refine wo (Spec.assign (Has.s rfl)) ?_
       refine Walk.nil ?_
       refine Leaf.thenN ?_
       refine CWalk.seqJ (fun p : (List Int) => [.fact 2 (.rep [] (a2 : Int)), .fact 3 (.isv 10), .fact 4 (.isv 17), .fact 6 (.isv 24), .fact 9 (.isv 29), .fact 10 (.isv 32), .fact 11 (.rep [] (s3 : Int)), .fact 43 (.rep [0] a1.Dirty), .fact 44 (.rep [] (((a1.Dirty).length : Int) : Int)), .fact 45 (.rep [] (s3 : Int)), .fact 100011 (.at 11 (.rep [] a0.Id)), .fact 100012 (.at 12 (.rep [] a0.Members)), .fact 100013 (.at 13 (.rep [] a0.Chunk)), .fact 100014 (.at 14 (.rep [] a0.Rows)), .fact 100015 (.at 15 (.rep [] a0.Log)), .fact 100016 (.at 16 (.rep [] a0.Heads)), .fact 100018 (.at 18 (.rep [] a1.Stripe)), .fact 100019 (.at 19 (.rep [0] a1.Blocks)), .fact 100020 (.at 20 (.rep [0] a1.Dirty)), .fact 100021 (.at 21 (.rep [] a1.Phase)), .fact 100022 (.at 22 (.rep [] a1.Deals)), .fact 100023 (.at 23 (.rep [] a1.Seq)), .fact 100025 (.at 25 (.rep [] ((0 : UInt8) : UInt8))), .fact 100026 (.at 26 (.nilv)), .fact 100030 (.at 30 (.rep [] ((2 : UInt8) : UInt8))), .fact 100031 (.at 31 (.ow [38] [] 3 (s4 : List Int))), .fact 100033 (.at 33 (.rep [] ((3 : UInt8) : UInt8))), .fact 100034 (.at 34 (.ow [36] [] 3 (p : List Int))), .fact 100010 (.obj 10 [(false, 1), (false, 1), (false, 1), (false, 1), (false, 1), (false, 1)]), .fact 100017 (.obj 17 [(false, 1), (false, 1), (false, 1), (false, 1), (false, 1), (false, 1)]), .fact 100024 (.obj 24 [(false, 1), (false, 1)]), .fact 100029 (.obj 29 [(false, 1), (false, 1)]), .fact 100032 (.obj 32 [(false, 1), (false, 1)])]) (fun p : (List Int) => plan_Of_J3 a1 s3 s4 p = some c6) ?_ ?_
       ·rintro j10 hm
        replace hm : plan_Of_J3 a1 s3 s4 j10 = some c6 := hm
        unfold plan_Of_J3 at hm
        show CWalk _ [.fact 2 (.rep [] (a2 : Int)), .fact 3 (.isv 10), .fact 4 (.isv 17), .fact 6 (.isv 24), .fact 9 (.isv 29), .fact 10 (.isv 32), .fact 11 (.rep [] (s3 : Int)), .fact 43 (.rep [0] a1.Dirty), .fact 44 (.rep [] (((a1.Dirty).length : Int) : Int)), .fact 45 (.rep [] (s3 : Int)), .fact 100011 (.at 11 (.rep [] a0.Id)), .fact 100012 (.at 12 (.rep [] a0.Members)), .fact 100013 (.at 13 (.rep [] a0.Chunk)), .fact 100014 (.at 14 (.rep [] a0.Rows)), .fact 100015 (.at 15 (.rep [] a0.Log)), .fact 100016 (.at 16 (.rep [] a0.Heads)), .fact 100018 (.at 18 (.rep [] a1.Stripe)), .fact 100019 (.at 19 (.rep [0] a1.Blocks)), .fact 100020 (.at 20 (.rep [0] a1.Dirty)), .fact 100021 (.at 21 (.rep [] a1.Phase)), .fact 100022 (.at 22 (.rep [] a1.Deals)), .fact 100023 (.at 23 (.rep [] a1.Seq)), .fact 100025 (.at 25 (.rep [] ((0 : UInt8) : UInt8))), .fact 100026 (.at 26 (.nilv)), .fact 100030 (.at 30 (.rep [] ((2 : UInt8) : UInt8))), .fact 100031 (.at 31 (.ow [38] [] 3 (s4 : List Int))), .fact 100033 (.at 33 (.rep [] ((3 : UInt8) : UInt8))), .fact 100034 (.at 34 (.ow [36] [] 3 (j10 : List Int))), .fact 100010 (.obj 10 [(false, 1), (false, 1), (false, 1), (false, 1), (false, 1), (false, 1)]), .fact 100017 (.obj 17 [(false, 1), (false, 1), (false, 1), (false, 1), (false, 1), (false, 1)]), .fact 100024 (.obj 24 [(false, 1), (false, 1)]), .fact 100029 (.obj 29 [(false, 1), (false, 1)]), .fact 100032 (.obj 32 [(false, 1), (false, 1)])] _ _
        refine CWalk.seq ?_
        refine CWalk.region ?_
        refine wo (Spec.fieldAddrO fd28_1 (Has.cv (Has.s rfl) (Cv.isvP rfl))) ?_
        refine wo (Spec.loadF (i := 1) ty25 rfl (Has.s rfl) rfl (HasG.s rfl)) ?_
        refine mv ?_
        obtain ⟨x11, hx11, hm⟩ := bind_some hm
        refine wo (Spec.indexAddr hx11 sl25 (Has.s rfl) (Has.s rfl)) ?_
        refine wo (Spec.load ty46 (Has.s rfl)) ?_
        refine wo (Spec.len (Has.s rfl) Try.underlying46) ?_
        refine wo (Spec.eqlI (Has.s rfl) Has.int) ?_
        refine Walk.nil ?_
        refine Leaf.thenN ?_
        refine CWalk.cond rfl (fun hb => ?_) (fun hb => ?_)
        ·have hm := cond_t hb hm
         refine CWalk.region ?_
         refine wo (Spec.fieldAddrO fd33_1 (Has.cv (Has.s rfl) (Cv.isvP rfl))) ?_
         refine wo (Spec.loadF (i := 1) ty31 rfl (Has.s rfl) rfl (HasG.s rfl)) ?_
         refine mv ?_
         refine wo (Spec.lit (xs := [.tmp 66]) (T := []) 37 rfl ow31 rfl rfl rfl rfl (HasEach.cons (Has.fl (Has.s rfl)) HasEach.nil)) ?_
         obtain ⟨x12, hx12, hm⟩ := bind_some hm
         refine ws (Step.appendOw (T := [38]) (te' := []) hx12 rfl rfl rfl ow31 (Has.s rfl) (Has.s rfl) ElKeeps.flat ElKeeps.flat) ?_
         refine wo (Spec.fieldAddrO fd33_1 (Has.cv (Has.s rfl) (Cv.isvP rfl))) ?_
         refine ws (Step.storeF (i := 1) (f := Fact.ow [38] [] 3 (x12 : List Int)) rfl ty31 rfl (Has.s rfl) rfl (Has.cv (Has.s rfl) (Cv.trans Cv.owSl (Cv.slRep (T' := [38]) rfl rfl))) (Has.s rfl) rfl) ?_
         refine Walk.nil ?_
         refine Leaf.blockN ?_
         exact Leaf.join (x12, j10) hm (st (sn (sn (sn (sn (sn (su (st (st (sf (sf (sf (sf (sf (sf (sf (sm (sm (sf (sf (sf (sf (sg (sf (Sub.cons (Has.at (HasG.cv (HasG.s rfl) (Cv.owF (T := [38]) (te := []) rfl))) (sf (Sub.cons (Has.at (HasG.cv (HasG.s rfl) (Cv.owF (T := [36]) (te := []) rfl))) (sn (sn (sn (sn (sn Sub.nil))))))))))))))))))))))))))))))))
        ·have hm := cond_f hb hm
         refine CWalk.skip ?_
         refine Leaf.blockN ?_
         exact Leaf.join (s4, j10) hm (st (sn (sn (sn (sn (sn (su (st (st (sf (sf (sf (sf (sf (sf (sf (sm (sm (sf (sf (sf (sf (sg (sf (Sub.cons (Has.at (HasG.cv (HasG.s rfl) (Cv.owF (T := [38]) (te := []) rfl))) (sf (Sub.cons (Has.at (HasG.cv (HasG.s rfl) (Cv.owF (T := [36]) (te := []) rfl))) (sn (sn (sn (sn (sn Sub.nil))))))))))))))))))))))))))))))))
       ·refine CWalk.seq ?_
        refine CWalk.region ?_
        refine mv ?_
        refine Walk.nil ?_
        refine Leaf.thenN ?_
        refine CWalk.cond rfl (fun hb => ?_) (fun hb => ?_)
        ·have hm := cond_t hb hm
         refine CWalk.region ?_
         refine wo (Spec.fieldAddrO fd33_1 (Has.cv (Has.s rfl) (Cv.isvP rfl))) ?_
         refine wo (Spec.loadF (i := 1) ty31 rfl (Has.s rfl) rfl (HasG.s rfl)) ?_
         refine mv ?_
         refine wo (Spec.lit (xs := [.tmp 53]) (T := []) 35 rfl ow31 rfl rfl rfl rfl (HasEach.cons (Has.fl (Has.s rfl)) HasEach.nil)) ?_
         obtain ⟨x13, hx13, hm⟩ := bind_some hm
         refine ws (Step.appendOw (T := [36]) (te' := []) hx13 rfl rfl rfl ow31 (Has.s rfl) (Has.s rfl) ElKeeps.flat ElKeeps.flat) ?_
         refine wo (Spec.fieldAddrO fd33_1 (Has.cv (Has.s rfl) (Cv.isvP rfl))) ?_
         refine ws (Step.storeF (i := 1) (f := Fact.ow [36] [] 3 (x13 : List Int)) rfl ty31 rfl (Has.s rfl) rfl (Has.cv (Has.s rfl) (Cv.trans Cv.owSl (Cv.slRep (T' := [36]) rfl rfl))) (Has.s rfl) rfl) ?_
         refine Walk.nil ?_
         exact Leaf.join x13 hm (st (sn (sn (sn (sn (sn (st (su (st (st (sf (sf (sf (sf (sf (sf (sf (sm (sm (sf (sf (sf (sf (sg (sf (Sub.cons (Has.at (HasG.cv (HasG.s rfl) (Cv.owF (T := [38]) (te := []) rfl))) (sf (Sub.cons (Has.at (HasG.cv (HasG.s rfl) (Cv.owF (T := [36]) (te := []) rfl))) (sn (sn (sn (sn (sn Sub.nil)))))))))))))))))))))))))))))))))
        ·have hm := cond_f hb hm
         refine CWalk.skip ?_
         exact Leaf.join s5 hm (st (sn (sn (sn (sn (sn (st (su (st (st (sf (sf (sf (sf (sf (sf (sf (sm (sm (sf (sf (sf (sf (sg (sf (Sub.cons (Has.at (HasG.cv (HasG.s rfl) (Cv.owF (T := [38]) (te := []) rfl))) (sf (Sub.cons (Has.at (HasG.cv (HasG.s rfl) (Cv.owF (T := [36]) (te := []) rfl))) (sn (sn (sn (sn (sn Sub.nil)))))))))))))))))))))))))))))))))
     ·have hm := cond_f hb hm
      refine CWalk.exit ?_
      refine Leaf.thenE ?_
      exact Leaf.brk hm (fun h => nomatch h) rfl (st (sn (sn (sn (sn (sn (sf (sf (sf (sf (sf (sf (sf (sm (sm (sf (sf (sf (sf (sg (sf (Sub.cons (Has.at (HasG.cv (HasG.s rfl) (Cv.owF (T := [38]) (te := []) rfl))) (sf (Sub.cons (Has.at (HasG.cv (HasG.s rfl) (Cv.owF (T := [36]) (te := []) rfl))) (sn (sn (sn (sn (sn Sub.nil)))))))))))))))))))))))))))))
    ·intro _
     refine Leaf.blockE ?_
     refine Leaf.thenN ?_
     refine CWalk.seq ?_
     refine CWalk.seq ?_
     refine CWalk.region ?_
     refine wo (Spec.fieldAddrO fd33_1 (Has.cv (Has.s rfl) (Cv.isvP rfl))) ?_
     refine wo (Spec.loadF (i := 1) ty31 rfl (Has.s rfl) rfl (HasG.s rfl)) ?_
     refine wo (Spec.len (Has.cv (Has.s rfl) (Cv.trans Cv.owSl (Cv.slRep (T' := [38]) rfl rfl))) Try.underlying31) ?_
     refine wo (Spec.eqlI (Has.s rfl) Has.int) ?_
     refine Walk.nil ?_
     refine Leaf.thenN ?_
     refine CWalk.cond rfl (fun hb => ?_) (fun hb => ?_)
     ·have hm := cond_t hb hm
      refine CWalk.seq ?_
      refine CWalk.region ?_
      refine wo (Spec.build (us := [(0, .const (.int .u8 1))]) (ls' := [(false, 1, Fact.rep [] ((1 : UInt8) : UInt8)), (false, 1, Fact.nilv)]) bd33 rfl (BP.cons rfl rfl (Has.u8 1 rfl) (Has.u8 1 rfl) BP.nil)) ?_
      refine ws (Step.storeObj (ls := [(false, 1, Fact.rep [] ((1 : UInt8) : UInt8)), (false, 1, Fact.nilv)]) rfl ty33 rfl rfl (Has.s rfl) rfl (HasL.flds (Has.s rfl)) rfl) ?_
      refine wo (Spec.assign Has.int) ?_
      refine Walk.nil ?_
      refine Leaf.thenN ?_
      refine CWalk.ret ?_
      refine Leaf.thenR ?_
      obtain rfl := Option.some.inj hm
      exact Leaf.retC2 rfl (HasR.cv (HasR.obj (ls := [(false, 1, Fact.rep [] ((1 : UInt8) : UInt8)), (false, 1, Fact.nilv)]) ty33 rfl rfl (Has.s rfl) rfl (HasGs.cons (HasG.s rfl) (HasGs.cons (HasG.s rfl) HasGs.nil))) (Cv.flds (CvL.cons Cv.fl (CvL.cons (Cv.trans (Cv.nil (T := [])) (Cv.m rfl)) CvL.nil)))) (HasR.cv (HasR.tmp (Has.s rfl)) Cv.fl)
     ·have hm := cond_f hb hm
      refine CWalk.skip ?_
      refine Leaf.thenN ?_
      refine CWalk.seq ?_
      refine CWalk.region ?_
      refine wo (Spec.fieldAddrO fd33_1 (Has.cv (Has.s rfl) (Cv.isvP rfl))) ?_
      refine wo (Spec.loadF (i := 1) ty31 rfl (Has.s rfl) rfl (HasG.s rfl)) ?_
      refine wo (Spec.fieldAddrO fd24_1 (Has.cv (Has.s rfl) (Cv.isvP rfl))) ?_
      refine wo (Spec.loadF (i := 1) ty3 rfl (Has.s rfl) rfl (HasG.s rfl)) ?_
      refine wo (Spec.subI (Has.s rfl) Has.int) ?_
      refine wo (Spec.lit (xs := [.tmp 80]) (T := []) 39 rfl ow31 rfl rfl rfl rfl (HasEach.cons (Has.fl (Has.s rfl)) HasEach.nil)) ?_
      obtain ⟨x15, hx15, hm⟩ := bind_some hm
      refine ws (Step.appendOw (T := [36]) (te' := []) hx15 rfl rfl rfl ow31 (Has.s rfl) (Has.s rfl) ElKeeps.flat ElKeeps.flat) ?_
      refine wo (Spec.fieldAddrO fd33_1 (Has.cv (Has.s rfl) (Cv.isvP rfl))) ?_
      refine ws (Step.storeF (i := 1) (f := Fact.ow [36] [] 3 (x15 : List Int)) rfl ty31 rfl (Has.s rfl) rfl (Has.cv (Has.s rfl) (Cv.trans Cv.owSl (Cv.slRep (T' := [36]) rfl rfl))) (Has.s rfl) rfl) ?_
      refine Walk.nil ?_
      refine Leaf.thenN ?_
      refine CWalk.seq ?_
      obtain ⟨x16, hx16, hm⟩ := bind_some hm
      obtain ⟨x17, hx17, hm⟩ := bind_some hm
      obtain ⟨x18, hx18, hm⟩ := bind_some hm
      refine CWalk.drawM [[], [], [1], [], [0, 1, 2, 3], [], [], [5, 6], [0, 1, 2, 3, 4, 5, 6, 7], [0, 1, 2, 3, 4, 5, 6, 7, 8], [], [0, 1, 2, 3, 4, 5, 6, 7, 8, 9, 10]] [[.fact 84 (.flds [(false, 1, Fact.rep [] a0.Id), (false, 1, Fact.rep [] a0.Members), (false, 1, Fact.rep [] a0.Chunk), (false, 1, Fact.rep [] a0.Rows), (false, 1, Fact.rep [] a0.Log), (false, 1, Fact.rep [] a0.Heads)])], [.fact 85 (.pto 17 0)], [.fact 86 (.rep [] a1.Stripe)], [.fact 87 (.rep [] (a2 : Int))], [.fact 88 (.rep [] (x16 : Int))], [.fact 89 (.flds [(false, 1, Fact.rep [] ((2 : UInt8) : UInt8)), (false, 1, Fact.ow [38] [] 3 (b14.1 : List Int))])], [.fact 90 (.flds [(false, 1, Fact.rep [] ((3 : UInt8) : UInt8)), (false, 1, Fact.ow [36] [] 3 (x15 : List Int))])], [.fact 91 (.rep [41, 36, 38] ([(Plan.mk (2 : UInt8) b14.1), (Plan.mk (3 : UInt8) x15)] : List Plan))], [.fact 92 (.ow [42] [43, 36, 38, 41] 33 (x17 : List Plan))], [.fact 93 (.flds [(false, 1, Fact.rep [] x18.Kind), (false, 1, Fact.rep [44, 36, 38, 41, 42, 43] x18.Reads)])], [.fact 13 (.isv 45), .fact 100045 (.obj 45 [(false, 1), (false, 1)]), .fact 100046 (.at 46 (.rep [] ((0 : UInt8) : UInt8))), .fact 100047 (.at 47 (.nilv)), .killId 45, .killId 46, .killId 47], [.fact 100045 (.obj 45 [(false, 1), (false, 1)]), .fact 100046 (.at 46 (.rep [] x18.Kind)), .fact 100047 (.at 47 (.rep [44, 36, 38, 41, 42, 43] x18.Reads)), .kill 45, .killId 46, .killId 47]] mixed (by kernel_rfl) (ao (so (Spec.loadObj (ls := [(false, 1, Fact.rep [] a0.Id), (false, 1, Fact.rep [] a0.Members), (false, 1, Fact.rep [] a0.Chunk), (false, 1, Fact.rep [] a0.Rows), (false, 1, Fact.rep [] a0.Log), (false, 1, Fact.rep [] a0.Heads)]) ty24 rfl rfl (Has.s rfl) rfl (HasGs.cons (HasG.s rfl) (HasGs.cons (HasG.s rfl) (HasGs.cons (HasG.s rfl) (HasGs.cons (HasG.s rfl) (HasGs.cons (HasG.s rfl) (HasGs.cons (HasG.s rfl) HasGs.nil)))))))) (ao (so (Spec.fieldAddrO fd28_0 (Has.cv (Has.s rfl) (Cv.isvP rfl)))) (ao (so (Spec.loadF (i := 0) ty3 rfl (Has.s rfl) rfl (HasG.s rfl))) (ao (so (Spec.move (Has.s rfl))) (ao (so (Spec.callE [] 40 rfl en23 (plan_lost_c a0 a1.Stripe a2 hx16) (HasAll.cons (Has.fl (Has.cv (Has.s rfl) (Cv.trans (Cv.flds (CvL.cons Cv.fl (CvL.cons Cv.fl (CvL.cons Cv.fl (CvL.cons Cv.fl (CvL.cons Cv.fl (CvL.cons Cv.fl CvL.nil))))))) (Cv.close (T := []) (chConfig a0))))) (HasAll.cons (Has.fl (Has.s rfl)) (HasAll.cons (Has.fl (Has.s rfl)) HasAll.nil))))) (ao (so (Spec.loadObj (ls := [(false, 1, Fact.rep [] ((2 : UInt8) : UInt8)), (false, 1, Fact.ow [38] [] 3 (b14.1 : List Int))]) ty33 rfl rfl (Has.s rfl) rfl (HasGs.cons (HasG.s rfl) (HasGs.cons (HasG.s rfl) HasGs.nil)))) (ao (so (Spec.loadObj (ls := [(false, 1, Fact.rep [] ((3 : UInt8) : UInt8)), (false, 1, Fact.ow [36] [] 3 (x15 : List Int))]) ty33 rfl rfl (Has.s rfl) rfl (HasGs.cons (HasG.s rfl) (HasGs.cons (HasG.s rfl) HasGs.nil)))) (ao (so (Spec.lit (xs := [.tmp 89, .tmp 90]) (T := [36, 38]) 41 rfl ow52 rfl rfl rfl rfl (HasEach.cons (Has.m (Has.cv (Has.s rfl) (Cv.trans (Cv.flds (CvL.cons Cv.fl (CvL.cons (Cv.trans (Cv.trans Cv.owSl (Cv.slRep (T' := [38]) rfl rfl)) (Cv.m rfl)) CvL.nil))) (Cv.close (T := [38]) (chPlan (Plan.mk (2 : UInt8) b14.1))))) rfl) (HasEach.cons (Has.m (Has.cv (Has.s rfl) (Cv.trans (Cv.flds (CvL.cons Cv.fl (CvL.cons (Cv.trans (Cv.trans Cv.owSl (Cv.slRep (T' := [36]) rfl rfl)) (Cv.m rfl)) CvL.nil))) (Cv.close (T := [36]) (chPlan (Plan.mk (3 : UInt8) x15))))) rfl) HasEach.nil)))) (ao (so (Spec.callE [36, 38, 41] 42 rfl en22 (plan_some_c x16 ([(Plan.mk (2 : UInt8) b14.1), (Plan.mk (3 : UInt8) x15)]) hx17) (HasAll.cons (Has.fl (Has.s rfl)) (HasAll.cons (Has.m (Has.s rfl) rfl) HasAll.nil)))) (ao (so (Spec.callE [36, 38, 41, 42, 43] 44 rfl en21 (slices_MinFunc_api_Plan_api_Plan_c x17 (fun y => plan_Of_1 y.1 y.2) hx18) (HasAll.cons (Has.m (Has.cv (Has.s rfl) (Cv.trans Cv.owSl (Cv.slRep (T' := [36, 38, 41, 42, 43]) rfl rfl))) rfl) (HasAll.cons (Has.cv Has.func (Cv.fn (pu := []) (pc := []) (shc := []) en24 CvF.nil CvF.nil (fun y r h => plan_Of_1_c y.1 y.2 h))) HasAll.nil)))) (ao (StepG.stE (Step.allocObj (ls := [(false, 1, Fact.rep [] ((0 : UInt8) : UInt8)), (false, 1, Fact.nilv)]) 45 rfl rfl rfl rfl zl33)) (ao (StepG.stE (Step.storeObj (ls := [(false, 1, Fact.rep [] x18.Kind), (false, 1, Fact.rep [44, 36, 38, 41, 42, 43] x18.Reads)]) rfl ty33 rfl rfl (Has.s rfl) rfl (HasL.flds (Has.s rfl)) rfl)) AllM.nil)))))))))))) ?_
      refine Leaf.thenN ?_
      refine CWalk.seq ?_
      refine CWalk.region ?_
      refine wo (Spec.loadObj (ls := [(false, 1, Fact.rep [] x18.Kind), (false, 1, Fact.rep [44, 36, 38, 41, 42, 43] x18.Reads)]) ty33 rfl rfl (Has.s rfl) rfl (HasGs.cons (HasG.s rfl) (HasGs.cons (HasG.s rfl) HasGs.nil))) ?_
      refine ws (Step.storeObj (ls := [(false, 1, Fact.rep [] x18.Kind), (false, 1, Fact.rep [44, 36, 38, 41, 42, 43] x18.Reads)]) rfl ty33 rfl rfl (Has.s rfl) rfl (HasL.flds (Has.s rfl)) rfl) ?_
      refine wo (Spec.assign Has.int) ?_
      refine Walk.nil ?_
      refine Leaf.thenN ?_
      refine CWalk.ret ?_
      obtain rfl := Option.some.inj hm
      exact Leaf.retC2 rfl (HasR.cv (HasR.obj (ls := [(false, 1, Fact.rep [] x18.Kind), (false, 1, Fact.rep [44, 36, 38, 41, 42, 43] x18.Reads)]) ty33 rfl rfl (Has.s rfl) rfl (HasGs.cons (HasG.s rfl) (HasGs.cons (HasG.s rfl) HasGs.nil))) (Cv.flds (CvL.cons Cv.fl (CvL.cons (Cv.m rfl) CvL.nil)))) (HasR.cv (HasR.tmp (Has.s rfl)) Cv.fl)

/-- freeboard/freeboardref06.in -/
def ref06_in (a0 : Int) (a1 : Int) (a2 : Int) : Option (Bool) :=
  some ((decide (a0 ≥ a1)) && (decide (a0 ≤ a2)))
set_option maxRecDepth 100000 in
set_option maxHeartbeats 2000000 in
theorem ref06_in_c (a0 : Int) (a1 : Int) (a2 : Int) {r : Bool} (hm : ref06_in a0 a1 a2 = some r) : Ctr Try.prog 55 [.rep 0 a0, .rep 0 a1, .rep 0 a2] (.fl r) [] := by
 refine ctr_of_walk [[]] 15 Try.func55 rfl rfl rfl rfl (fun w0 om => ?_)
 unfold ref06_in at hm
 refine CWalk.sub (G' := [.fact 0 (.rep [] (a0 : Int)), .fact 1 (.rep [] (a1 : Int)), .fact 2 (.rep [] (a2 : Int))]) (Sub.cons (Has.fl (Has.s rfl)) (Sub.cons (Has.fl (Has.s rfl)) (Sub.cons (Has.fl (Has.s rfl)) Sub.nil))) ?_
 refine CWalk.seq ?_
 refine CWalk.region ?_
 refine wo (Spec.assign Has.bool) ?_
 refine Walk.nil ?_
 refine Leaf.thenN ?_
 refine CWalk.seq ?_
 refine CWalk.region ?_
 refine mv ?_
 refine mv ?_
 refine wo (Spec.geqI (Has.s rfl) (Has.s rfl)) ?_
 refine mv ?_
 refine wg rfl rfl (fun hb => Spec.move (Has.s rfl)) ?_
 refine wg rfl rfl (fun hb => Spec.move (Has.s rfl)) ?_
 refine wg rfl rfl (fun hb => Spec.leqI (Has.u rfl hb) (Has.u rfl hb)) ?_
 refine wo (Spec.and (Has.s rfl) (fun h => Has.u rfl h)) ?_
 refine wo (Spec.assign (Has.s rfl)) ?_
 refine Walk.nil ?_
 refine Leaf.thenN ?_
 refine CWalk.ret ?_
 obtain rfl := Option.some.inj hm
 exact Leaf.retC1 rfl (HasR.cv (HasR.tmp (Has.s rfl)) Cv.fl)

/-- freeboard/freeboardref06.Need -/
def ref06_Need (a0 : Config) : Option (Int) :=
  some (wI (a0.Members + (1 : Int)))
set_option maxRecDepth 100000 in
set_option maxHeartbeats 2000000 in
theorem ref06_Need_c (a0 : Config) {r : Int} (hm : ref06_Need a0 = some r) : Ctr Try.prog 56 [.rep 0 a0] (.fl r) [] := by
 refine ctr_of_walk [[]] 6 Try.func56 rfl rfl rfl rfl (fun w0 om => ?_)
 unfold ref06_Need at hm
 refine CWalk.sub (G' := [.fact 0 (.rep [] (a0 : Config))]) (Sub.cons (Has.fl (Has.s rfl)) Sub.nil) ?_
 refine CWalk.seq ?_
 refine CWalk.region ?_
 refine ws (Step.boxObj (ls := [(false, 1, Fact.rep [] a0.Id), (false, 1, Fact.rep [] a0.Members), (false, 1, Fact.rep [] a0.Chunk), (false, 1, Fact.rep [] a0.Rows), (false, 1, Fact.rep [] a0.Log), (false, 1, Fact.rep [] a0.Heads)]) 10 rfl rfl rfl rfl (HasL.flds (Has.cv (Has.s rfl) (Cv.trans (Cv.opens (chConfig a0)) (Cv.flds (CvL.cons Cv.fl (CvL.cons Cv.fl (CvL.cons Cv.fl (CvL.cons Cv.fl (CvL.cons Cv.fl (CvL.cons Cv.fl CvL.nil))))))))))) ?_
 refine wo (Spec.assign Has.int) ?_
 refine Walk.nil ?_
 refine Leaf.thenN ?_
 refine CWalk.seq ?_
 refine CWalk.region ?_
 refine wo (Spec.fieldAddrO fd24_1 (Has.cv (Has.s rfl) (Cv.isvP rfl))) ?_
 refine wo (Spec.loadF (i := 1) ty3 rfl (Has.s rfl) rfl (HasG.s rfl)) ?_
 refine wo (Spec.addI (Has.s rfl) Has.int) ?_
 refine wo (Spec.assign (Has.s rfl)) ?_
 refine Walk.nil ?_
 refine Leaf.thenN ?_
 refine CWalk.ret ?_
 obtain rfl := Option.some.inj hm
 exact Leaf.retC1 rfl (HasR.cv (HasR.tmp (Has.s rfl)) Cv.fl)

/-- freeboard/freeboardref06.May -/
def ref06_May (a0 : Config) : Option (Bool) :=
  Option.bind (ref06_in a0.Members (3 : Int) (16 : Int)) (fun x1 => Option.bind (gO (!(!x1)) (ref06_in a0.Chunk (1 : Int) (8 : Int))) (fun x2 => Option.bind (gO (!((!x1) || (!x2))) (ref06_in a0.Rows (1 : Int) (8 : Int))) (fun x3 => Option.bind (gO (!(((!x1) || (!x2)) || (!x3))) (ref06_in a0.Heads (2 : Int) (8 : Int))) (fun x4 => (bif ((((!x1) || (!x2)) || (!x3)) || (!x4)) then some false else Option.bind (ref06_Need a0) (fun x5 => Option.bind (ref06_in a0.Log (wI (x5 * (wI (a0.Heads + (1 : Int))))) (255 : Int)) (fun x6 => some x6)))))))
set_option maxRecDepth 100000 in
set_option maxHeartbeats 2000000 in
theorem ref06_May_c (a0 : Config) {r : Bool} (hm : ref06_May a0 = some r) : Ctr Try.prog 40 [.rep 0 a0] (.fl r) [] := by
 refine ctr_of_walk [[]] 34 Try.func40 rfl rfl rfl rfl (fun w0 om => ?_)
 unfold ref06_May at hm
 refine CWalk.sub (G' := [.fact 0 (.rep [] (a0 : Config))]) (Sub.cons (Has.fl (Has.s rfl)) Sub.nil) ?_
 refine CWalk.seq ?_
 refine CWalk.region ?_
 refine ws (Step.boxObj (ls := [(false, 1, Fact.rep [] a0.Id), (false, 1, Fact.rep [] a0.Members), (false, 1, Fact.rep [] a0.Chunk), (false, 1, Fact.rep [] a0.Rows), (false, 1, Fact.rep [] a0.Log), (false, 1, Fact.rep [] a0.Heads)]) 10 rfl rfl rfl rfl (HasL.flds (Has.cv (Has.s rfl) (Cv.trans (Cv.opens (chConfig a0)) (Cv.flds (CvL.cons Cv.fl (CvL.cons Cv.fl (CvL.cons Cv.fl (CvL.cons Cv.fl (CvL.cons Cv.fl (CvL.cons Cv.fl CvL.nil))))))))))) ?_
 refine wo (Spec.assign Has.bool) ?_
 refine Walk.nil ?_
 refine Leaf.thenN ?_
 refine CWalk.seq ?_
 refine CWalk.seq ?_
 refine CWalk.region ?_
 refine wo (Spec.fieldAddrO fd24_1 (Has.cv (Has.s rfl) (Cv.isvP rfl))) ?_
 refine wo (Spec.loadF (i := 1) ty3 rfl (Has.s rfl) rfl (HasG.s rfl)) ?_
 obtain ⟨x1, hx1, hm⟩ := bind_some hm
 refine wo (f := Fact.rep [] (x1 : Bool)) (Spec.callE [] 17 rfl en55 (ref06_in_c a0.Members (3 : Int) (16 : Int) hx1) (HasAll.cons (Has.fl (Has.s rfl)) (HasAll.cons (Has.fl Has.int) (HasAll.cons (Has.fl Has.int) HasAll.nil)))) ?_
 refine wo (Spec.not (Has.s rfl)) ?_
 refine mv ?_
 refine wg rfl rfl (fun hb => Spec.fieldAddrO fd24_2 (Has.cv (Has.s rfl) (Cv.isvP rfl))) ?_
 refine wg rfl rfl (fun hb => Spec.loadF (i := 2) ty3 rfl (Has.u rfl hb) rfl (HasG.s rfl)) ?_
 obtain ⟨x2, hx2, hm⟩ := bind_some hm
 refine wg (f := Fact.rep [] (x2 : Bool)) rfl rfl (fun hb => Spec.callE [] 18 rfl en55 (ref06_in_c a0.Chunk (1 : Int) (8 : Int) (gO_t hx2 (not_t hb))) (HasAll.cons (Has.fl (Has.u rfl hb)) (HasAll.cons (Has.fl Has.int) (HasAll.cons (Has.fl Has.int) HasAll.nil)))) ?_
 refine wg rfl rfl (fun hb => Spec.not (Has.u rfl hb)) ?_
 refine wo (Spec.or (Has.s rfl) (fun h => Has.u rfl h)) ?_
 refine mv ?_
 refine wg rfl rfl (fun hb => Spec.fieldAddrO fd24_3 (Has.cv (Has.s rfl) (Cv.isvP rfl))) ?_
 refine wg rfl rfl (fun hb => Spec.loadF (i := 3) ty3 rfl (Has.u rfl hb) rfl (HasG.s rfl)) ?_
 obtain ⟨x3, hx3, hm⟩ := bind_some hm
 refine wg (f := Fact.rep [] (x3 : Bool)) rfl rfl (fun hb => Spec.callE [] 19 rfl en55 (ref06_in_c a0.Rows (1 : Int) (8 : Int) (gO_t hx3 (not_t hb))) (HasAll.cons (Has.fl (Has.u rfl hb)) (HasAll.cons (Has.fl Has.int) (HasAll.cons (Has.fl Has.int) HasAll.nil)))) ?_
 refine wg rfl rfl (fun hb => Spec.not (Has.u rfl hb)) ?_
 refine wo (Spec.or (Has.s rfl) (fun h => Has.u rfl h)) ?_
 refine mv ?_
 refine wg rfl rfl (fun hb => Spec.fieldAddrO fd24_5 (Has.cv (Has.s rfl) (Cv.isvP rfl))) ?_
 refine wg rfl rfl (fun hb => Spec.loadF (i := 5) ty3 rfl (Has.u rfl hb) rfl (HasG.s rfl)) ?_
 obtain ⟨x4, hx4, hm⟩ := bind_some hm
 refine wg (f := Fact.rep [] (x4 : Bool)) rfl rfl (fun hb => Spec.callE [] 20 rfl en55 (ref06_in_c a0.Heads (2 : Int) (8 : Int) (gO_t hx4 (not_t hb))) (HasAll.cons (Has.fl (Has.u rfl hb)) (HasAll.cons (Has.fl Has.int) (HasAll.cons (Has.fl Has.int) HasAll.nil)))) ?_
 refine wg rfl rfl (fun hb => Spec.not (Has.u rfl hb)) ?_
 refine wo (Spec.or (Has.s rfl) (fun h => Has.u rfl h)) ?_
 refine Walk.nil ?_
 refine Leaf.thenN ?_
 refine CWalk.cond rfl (fun hb => ?_) (fun hb => ?_)
 ·have hm := cond_t hb hm
  refine CWalk.seq ?_
  refine CWalk.region ?_
  refine wo (Spec.assign Has.bool) ?_
  refine Walk.nil ?_
  refine Leaf.thenN ?_
  refine CWalk.ret ?_
  refine Leaf.thenR ?_
  obtain rfl := Option.some.inj hm
  exact Leaf.retC1 rfl (HasR.cv (HasR.tmp (Has.s rfl)) Cv.fl)
 ·have hm := cond_f hb hm
  refine CWalk.skip ?_
  refine Leaf.thenN ?_
  refine CWalk.seq ?_
  obtain ⟨x5, hx5, hm⟩ := bind_some hm
  obtain ⟨x6, hx6, hm⟩ := bind_some hm
  refine CWalk.drawM [[], [0], [], [2], [], [4], [4, 5], [2, 3, 4, 5, 6], [0, 1, 2, 3, 4, 5, 6, 7], [0, 1, 2, 3, 4, 5, 6, 7, 8]] [[.fact 25 (.pto 10 4)], [.fact 26 (.rep [] a0.Log)], [.fact 27 (.flds [(false, 1, Fact.rep [] a0.Id), (false, 1, Fact.rep [] a0.Members), (false, 1, Fact.rep [] a0.Chunk), (false, 1, Fact.rep [] a0.Rows), (false, 1, Fact.rep [] a0.Log), (false, 1, Fact.rep [] a0.Heads)])], [.fact 28 (.rep [] (x5 : Int))], [.fact 29 (.pto 10 5)], [.fact 30 (.rep [] a0.Heads)], [.fact 31 (.rep [] ((wI (a0.Heads + (1 : Int))) : Int))], [.fact 32 (.rep [] ((wI (x5 * (wI (a0.Heads + (1 : Int))))) : Int))], [.fact 33 (.rep [] (x6 : Bool))], [.fact 2 (.rep [] (x6 : Bool))]] mixed (by kernel_rfl) (ao (so (Spec.fieldAddrO fd24_4 (Has.cv (Has.s rfl) (Cv.isvP rfl)))) (ao (so (Spec.loadF (i := 4) ty3 rfl (Has.s rfl) rfl (HasG.s rfl))) (ao (so (Spec.loadObj (ls := [(false, 1, Fact.rep [] a0.Id), (false, 1, Fact.rep [] a0.Members), (false, 1, Fact.rep [] a0.Chunk), (false, 1, Fact.rep [] a0.Rows), (false, 1, Fact.rep [] a0.Log), (false, 1, Fact.rep [] a0.Heads)]) ty24 rfl rfl (Has.s rfl) rfl (HasGs.cons (HasG.s rfl) (HasGs.cons (HasG.s rfl) (HasGs.cons (HasG.s rfl) (HasGs.cons (HasG.s rfl) (HasGs.cons (HasG.s rfl) (HasGs.cons (HasG.s rfl) HasGs.nil)))))))) (ao (so (Spec.callE [] 21 rfl en56 (ref06_Need_c a0 hx5) (HasAll.cons (Has.fl (Has.cv (Has.s rfl) (Cv.trans (Cv.flds (CvL.cons Cv.fl (CvL.cons Cv.fl (CvL.cons Cv.fl (CvL.cons Cv.fl (CvL.cons Cv.fl (CvL.cons Cv.fl CvL.nil))))))) (Cv.close (T := []) (chConfig a0))))) HasAll.nil))) (ao (so (Spec.fieldAddrO fd24_5 (Has.cv (Has.s rfl) (Cv.isvP rfl)))) (ao (so (Spec.loadF (i := 5) ty3 rfl (Has.s rfl) rfl (HasG.s rfl))) (ao (so (Spec.addI (Has.s rfl) Has.int)) (ao (so (Spec.mulI (Has.s rfl) (Has.s rfl))) (ao (so (Spec.callE [] 22 rfl en55 (ref06_in_c a0.Log (wI (x5 * (wI (a0.Heads + (1 : Int))))) (255 : Int) hx6) (HasAll.cons (Has.fl (Has.s rfl)) (HasAll.cons (Has.fl (Has.s rfl)) (HasAll.cons (Has.fl Has.int) HasAll.nil))))) (ao (so (Spec.assign (Has.s rfl))) AllM.nil)))))))))) ?_
  refine Leaf.thenN ?_
  refine CWalk.ret ?_
  obtain rfl := Option.some.inj hm
  exact Leaf.retC1 rfl (HasR.cv (HasR.tmp (Has.s rfl)) Cv.fl)

/-- freeboard/freeboardref06.Stripes -/
def ref06_Stripes (a0 : Config) : Option (Int) :=
  some (wI (a0.Chunk * a0.Rows))
set_option maxRecDepth 100000 in
set_option maxHeartbeats 2000000 in
theorem ref06_Stripes_c (a0 : Config) {r : Int} (hm : ref06_Stripes a0 = some r) : Ctr Try.prog 57 [.rep 0 a0] (.fl r) [] := by
 refine ctr_of_walk [[]] 8 Try.func57 rfl rfl rfl rfl (fun w0 om => ?_)
 unfold ref06_Stripes at hm
 refine CWalk.sub (G' := [.fact 0 (.rep [] (a0 : Config))]) (Sub.cons (Has.fl (Has.s rfl)) Sub.nil) ?_
 refine CWalk.seq ?_
 refine CWalk.region ?_
 refine ws (Step.boxObj (ls := [(false, 1, Fact.rep [] a0.Id), (false, 1, Fact.rep [] a0.Members), (false, 1, Fact.rep [] a0.Chunk), (false, 1, Fact.rep [] a0.Rows), (false, 1, Fact.rep [] a0.Log), (false, 1, Fact.rep [] a0.Heads)]) 10 rfl rfl rfl rfl (HasL.flds (Has.cv (Has.s rfl) (Cv.trans (Cv.opens (chConfig a0)) (Cv.flds (CvL.cons Cv.fl (CvL.cons Cv.fl (CvL.cons Cv.fl (CvL.cons Cv.fl (CvL.cons Cv.fl (CvL.cons Cv.fl CvL.nil))))))))))) ?_
 refine wo (Spec.assign Has.int) ?_
 refine Walk.nil ?_
 refine Leaf.thenN ?_
 refine CWalk.seq ?_
 refine CWalk.region ?_
 refine wo (Spec.fieldAddrO fd24_2 (Has.cv (Has.s rfl) (Cv.isvP rfl))) ?_
 refine wo (Spec.loadF (i := 2) ty3 rfl (Has.s rfl) rfl (HasG.s rfl)) ?_
 refine wo (Spec.fieldAddrO fd24_3 (Has.cv (Has.s rfl) (Cv.isvP rfl))) ?_
 refine wo (Spec.loadF (i := 3) ty3 rfl (Has.s rfl) rfl (HasG.s rfl)) ?_
 refine wo (Spec.mulI (Has.s rfl) (Has.s rfl)) ?_
 refine wo (Spec.assign (Has.s rfl)) ?_
 refine Walk.nil ?_
 refine Leaf.thenN ?_
 refine CWalk.ret ?_
 obtain rfl := Option.some.inj hm
 exact Leaf.retC1 rfl (HasR.cv (HasR.tmp (Has.s rfl)) Cv.fl)

/-- freeboard/freeboardref04.Sized -/
def ref04_Sized (a0 : List UInt8) : Option (Bool) :=
  some ((((a0).length : Int) == (0 : Int)) || (((a0).length : Int) == (128 : Int)))
set_option maxRecDepth 100000 in
set_option maxHeartbeats 2000000 in
theorem ref04_Sized_c (a0 : List UInt8) {r : Bool} (hm : ref04_Sized a0 = some r) : Ctr Try.prog 58 [.rep 0 a0] (.fl r) [] := by
 refine ctr_of_walk [[]] 11 Try.func58 rfl rfl rfl rfl (fun w0 om => ?_)
 unfold ref04_Sized at hm
 refine CWalk.sub (G' := [.fact 0 (.rep [0] (a0 : List UInt8))]) (sn Sub.nil) ?_
 refine CWalk.seq ?_
 refine CWalk.region ?_
 refine wo (Spec.assign Has.bool) ?_
 refine Walk.nil ?_
 refine Leaf.thenN ?_
 refine CWalk.seq ?_
 refine CWalk.region ?_
 refine mv ?_
 refine wo (Spec.len (Has.s rfl) Try.underlying46) ?_
 refine wo (Spec.eqlI (Has.s rfl) Has.int) ?_
 refine mv ?_
 refine wg rfl rfl (fun hb => Spec.move (Has.s rfl)) ?_
 refine wg rfl rfl (fun hb => Spec.len (Has.u rfl hb) Try.underlying46) ?_
 refine wg rfl rfl (fun hb => Spec.eqlI (Has.u rfl hb) Has.int) ?_
 refine wo (Spec.or (Has.s rfl) (fun h => Has.u rfl h)) ?_
 refine wo (Spec.assign (Has.s rfl)) ?_
 refine Walk.nil ?_
 refine Leaf.thenN ?_
 refine CWalk.ret ?_
 obtain rfl := Option.some.inj hm
 exact Leaf.retC1 rfl (HasR.cv (HasR.tmp (Has.s rfl)) Cv.fl)

def ref16_Dirty_L1 (a0 : Head) (s1 : Int) : Option (Ctl (Int) ((Unit) ⊕ (Unit))) :=
  (bif (decide (s1 < ((a0.Dirty).length : Int))) then Option.bind (idx a0.Dirty s1) (fun x3 => (bif x3 then some (Ctl.brk (Sum.inr ())) else some (Ctl.next (wI (s1 + (1 : Int)))))) else some (Ctl.brk (Sum.inl ())))
/-- freeboard/freeboardref16.Dirty -/
def ref16_Dirty (a0 : Head) : Option (Bool) :=
  Option.bind (loopM (fun s : Int => ref16_Dirty_L1 a0 s) FUEL (0 : Int)) (fun b4 => Sum.elim (fun b5 => some false) (fun b6 => some true) b4)
set_option maxRecDepth 100000 in
set_option maxHeartbeats 2000000 in
theorem ref16_Dirty_c (a0 : Head) {r : Bool} (hm : ref16_Dirty a0 = some r) : Ctr Try.prog 18 [.rep 0 a0] (.fl r) [] := by
 refine ctr_of_walk [[]] 16 Try.func18 rfl rfl rfl rfl (fun w0 om => ?_)
 unfold ref16_Dirty at hm
 refine CWalk.sub (G' := [.fact 0 (.rep [0] (a0 : Head))]) (sn Sub.nil) ?_
 refine CWalk.seq ?_
 refine CWalk.region ?_
 refine ws (Step.boxObj (ls := [(false, 1, Fact.rep [] a0.Stripe), (false, 1, Fact.rep [0] a0.Blocks), (false, 1, Fact.rep [0] a0.Dirty), (false, 1, Fact.rep [] a0.Phase), (false, 1, Fact.rep [] a0.Deals), (false, 1, Fact.rep [] a0.Seq)]) 10 rfl rfl rfl rfl (HasL.flds (Has.cv (Has.s rfl) (Cv.trans (Cv.opens (chHead a0)) (Cv.flds (CvL.cons Cv.fl (CvL.cons Cv.refl (CvL.cons Cv.refl (CvL.cons Cv.fl (CvL.cons Cv.fl (CvL.cons Cv.fl CvL.nil))))))))))) ?_
 refine wo (Spec.assign Has.bool) ?_
 refine Walk.nil ?_
 refine Leaf.thenN ?_
 refine CWalk.seq ?_
 refine CWalk.seq ?_
 refine CWalk.region ?_
 refine wo (Spec.assign Has.int) ?_
 refine Walk.nil ?_
 refine Leaf.thenN ?_
 refine CWalk.block ?_
 obtain ⟨b4, hb4, hm⟩ := bind_some hm
 refine CWalk.loop (fun s : Int => [.fact 1 (.isv 10), .fact 3 (.rep [] (s : Int)), .fact 100011 (.at 11 (.rep [] a0.Stripe)), .fact 100012 (.at 12 (.rep [0] a0.Blocks)), .fact 100013 (.at 13 (.rep [0] a0.Dirty)), .fact 100014 (.at 14 (.rep [] a0.Phase)), .fact 100015 (.at 15 (.rep [] a0.Deals)), .fact 100016 (.at 16 (.rep [] a0.Seq)), .fact 100010 (.obj 10 [(false, 1), (false, 1), (false, 1), (false, 1), (false, 1), (false, 1)])]) (fun b : (Unit) ⊕ (Unit) => Sum.elim (fun b => (Exit.exit 0, [])) (fun b => (Exit.ret, [.fact 2 (.rep [] (true : Bool))])) b) hb4 (sn (st (sf (sm (sm (sf (sf (sf (sn Sub.nil))))))))) ?_ ?_
 ·rintro s1 c2 hm
  replace hm : ref16_Dirty_L1 a0 s1 = some c2 := hm
  unfold ref16_Dirty_L1 at hm
  show CWalk _ [.fact 1 (.isv 10), .fact 3 (.rep [] (s1 : Int)), .fact 100011 (.at 11 (.rep [] a0.Stripe)), .fact 100012 (.at 12 (.rep [0] a0.Blocks)), .fact 100013 (.at 13 (.rep [0] a0.Dirty)), .fact 100014 (.at 14 (.rep [] a0.Phase)), .fact 100015 (.at 15 (.rep [] a0.Deals)), .fact 100016 (.at 16 (.rep [] a0.Seq)), .fact 100010 (.obj 10 [(false, 1), (false, 1), (false, 1), (false, 1), (false, 1), (false, 1)])] _ _
  refine CWalk.seq ?_
  refine CWalk.seq ?_
  refine CWalk.region ?_
  refine mv ?_
  refine wo (Spec.fieldAddrO fd28_2 (Has.cv (Has.s rfl) (Cv.isvP rfl))) ?_
  refine wo (Spec.loadF (i := 2) ty26 rfl (Has.s rfl) rfl (HasG.s rfl)) ?_
  refine wo (Spec.len (Has.s rfl) Try.underlying26) ?_
  refine wo (Spec.lssI (Has.s rfl) (Has.s rfl)) ?_
  refine Walk.nil ?_
  refine Leaf.thenN ?_
  refine CWalk.cond rfl (fun hb => ?_) (fun hb => ?_)
  ·have hm := cond_t hb hm
   refine CWalk.skip ?_
   refine Leaf.thenN ?_
   refine CWalk.seq ?_
   refine CWalk.block ?_
   refine CWalk.seq ?_
   refine CWalk.region ?_
   refine wo (Spec.fieldAddrO fd28_2 (Has.cv (Has.s rfl) (Cv.isvP rfl))) ?_
   refine wo (Spec.loadF (i := 2) ty26 rfl (Has.s rfl) rfl (HasG.s rfl)) ?_
   refine mv ?_
   obtain ⟨x3, hx3, hm⟩ := bind_some hm
   refine wo (Spec.indexAddr hx3 sl26 (Has.s rfl) (Has.s rfl)) ?_
   refine wo ((Spec.load ty4 (Has.s rfl)).flat (T' := [])) ?_
   refine Walk.nil ?_
   refine Leaf.thenN ?_
   refine CWalk.cond rfl (fun hb => ?_) (fun hb => ?_)
   ·have hm := cond_t hb hm
    refine CWalk.seq ?_
    refine CWalk.region ?_
    refine wo (Spec.assign Has.bool) ?_
    refine Walk.nil ?_
    refine Leaf.thenN ?_
    refine CWalk.ret ?_
    refine Leaf.blockR ?_
    refine Leaf.thenR ?_
    exact Leaf.brk hm (fun h => nomatch h) rfl (st Sub.nil)
   ·have hm := cond_f hb hm
    refine CWalk.skip ?_
    refine Leaf.blockN ?_
    refine Leaf.thenN ?_
    refine CWalk.region ?_
    refine mv ?_
    refine wo (Spec.addI (Has.s rfl) Has.int) ?_
    refine wo (Spec.assign (Has.s rfl)) ?_
    refine Walk.nil ?_
    exact Leaf.next hm (sn (st (sf (sm (sm (sf (sf (sf (sn Sub.nil)))))))))
  ·have hm := cond_f hb hm
   refine CWalk.exit ?_
   refine Leaf.thenE ?_
   exact Leaf.brk hm (fun h => nomatch h) rfl (Sub.nil)
 ·intro _
  rcases b4 with b5 | b6
  ·have hm := selim_l hm
   refine Leaf.blockE ?_
   refine Leaf.thenN ?_
   refine CWalk.seq ?_
   refine CWalk.region ?_
   refine wo (Spec.assign Has.bool) ?_
   refine Walk.nil ?_
   refine Leaf.thenN ?_
   refine CWalk.ret ?_
   obtain rfl := Option.some.inj hm
   exact Leaf.retC1 rfl (HasR.cv (HasR.tmp (Has.s rfl)) Cv.fl)
  ·have hm := selim_r hm
   refine Leaf.blockR ?_
   refine Leaf.thenR ?_
   obtain rfl := Option.some.inj hm
   exact Leaf.retC1 rfl (HasR.cv (HasR.tmp (Has.s rfl)) Cv.fl)

def ref16_May_L1 (a0 : Config) (a1 : Head) (s2 : Int) : Option (Ctl (Int) ((Unit) ⊕ (Unit))) :=
  (bif (decide (s2 < a0.Members)) then Option.bind (idx a1.Blocks s2) (fun x4 => Option.bind (ref04_Sized x4) (fun x5 => Option.bind (gO ((!(!x5)) && ((decide (s2 < (wI (a0.Members - (1 : Int))))))) (idx a1.Dirty s2)) (fun x6 => Option.bind (gO ((!(!x5)) && (((decide (s2 < (wI (a0.Members - (1 : Int))))) && x6))) (idx a1.Blocks s2)) (fun x7 => (bif ((!x5) || (((decide (s2 < (wI (a0.Members - (1 : Int))))) && x6) && (((x7).length : Int) == (0 : Int)))) then some (Ctl.brk (Sum.inr ())) else some (Ctl.next (wI (s2 + (1 : Int))))))))) else some (Ctl.brk (Sum.inl ())))
/-- freeboard/freeboardref16.May -/
def ref16_May (a0 : Config) (a1 : Head) : Option (Bool) :=
  Option.bind (gO (!(decide (a1.Stripe < (0 : Int)))) (ref06_Stripes a0)) (fun x1 => (bif (((((decide (a1.Stripe < (0 : Int))) || (decide (a1.Stripe ≥ x1))) || (((a1.Blocks).length : Int) != a0.Members)) || (((a1.Dirty).length : Int) != (wI (a0.Members - (1 : Int))))) || (decide ((a1.Phase.toNat : Int) > ((4 : UInt8).toNat : Int)))) then some false else Option.bind (loopM (fun s : Int => ref16_May_L1 a0 a1 s) FUEL (0 : Int)) (fun b8 => Sum.elim (fun b9 => Option.bind (gO ((a1.Phase == (0 : UInt8))) (idx a1.Blocks (wI (a0.Members - (1 : Int))))) (fun x10 => (bif ((a1.Phase == (0 : UInt8)) && ((decide (((x10).length : Int) > (0 : Int))) || ((a1.Seq.toNat : Int) != ((0 : UInt32).toNat : Int)))) then some false else Option.bind (gO ((decide ((a1.Phase.toNat : Int) > ((0 : UInt8).toNat : Int)))) (idx a1.Blocks (wI (a0.Members - (1 : Int))))) (fun x11 => Option.bind (gO (((decide ((a1.Phase.toNat : Int) > ((0 : UInt8).toNat : Int)))) && (!(((x11).length : Int) == (0 : Int)))) (ref16_Dirty a1)) (fun x12 => (bif (((decide ((a1.Phase.toNat : Int) > ((0 : UInt8).toNat : Int))) && ((((x11).length : Int) == (0 : Int)) || (!x12))) || ((a1.Phase == (1 : UInt8)) && ((a1.Seq.toNat : Int) != ((0 : UInt32).toNat : Int)))) then some false else Option.bind (gO (!(!a1.Deals)) (ref16_Dirty a1)) (fun x13 => some ((!a1.Deals) || (x13 && (decide ((a1.Phase.toNat : Int) ≤ ((1 : UInt8).toNat : Int)))))))))))) (fun b14 => some false) b8)))
set_option maxRecDepth 100000 in
set_option maxHeartbeats 2000000 in
theorem ref16_May_c (a0 : Config) (a1 : Head) {r : Bool} (hm : ref16_May a0 a1 = some r) : Ctr Try.prog 41 [.rep 0 a0, .rep 0 a1] (.fl r) [] := by
 refine ctr_of_walk [[]] 131 Try.func41 rfl rfl rfl rfl (fun w0 om => ?_)
 unfold ref16_May at hm
 refine CWalk.sub (G' := [.fact 0 (.rep [] (a0 : Config)), .fact 1 (.rep [0] (a1 : Head))]) (Sub.cons (Has.fl (Has.s rfl)) (sn Sub.nil)) ?_
 refine CWalk.seq ?_
 refine CWalk.region ?_
 refine ws (Step.boxObj (ls := [(false, 1, Fact.rep [] a0.Id), (false, 1, Fact.rep [] a0.Members), (false, 1, Fact.rep [] a0.Chunk), (false, 1, Fact.rep [] a0.Rows), (false, 1, Fact.rep [] a0.Log), (false, 1, Fact.rep [] a0.Heads)]) 10 rfl rfl rfl rfl (HasL.flds (Has.cv (Has.s rfl) (Cv.trans (Cv.opens (chConfig a0)) (Cv.flds (CvL.cons Cv.fl (CvL.cons Cv.fl (CvL.cons Cv.fl (CvL.cons Cv.fl (CvL.cons Cv.fl (CvL.cons Cv.fl CvL.nil))))))))))) ?_
 refine ws (Step.boxObj (ls := [(false, 1, Fact.rep [] a1.Stripe), (false, 1, Fact.rep [0] a1.Blocks), (false, 1, Fact.rep [0] a1.Dirty), (false, 1, Fact.rep [] a1.Phase), (false, 1, Fact.rep [] a1.Deals), (false, 1, Fact.rep [] a1.Seq)]) 17 rfl rfl rfl rfl (HasL.flds (Has.cv (Has.s rfl) (Cv.trans (Cv.opens (chHead a1)) (Cv.flds (CvL.cons Cv.fl (CvL.cons Cv.refl (CvL.cons Cv.refl (CvL.cons Cv.fl (CvL.cons Cv.fl (CvL.cons Cv.fl CvL.nil))))))))))) ?_
 refine wo (Spec.assign Has.bool) ?_
 refine Walk.nil ?_
 refine Leaf.thenN ?_
 refine CWalk.seq ?_
 refine CWalk.region ?_
 refine wo (Spec.fieldAddrO fd24_1 (Has.cv (Has.s rfl) (Cv.isvP rfl))) ?_
 refine wo (Spec.loadF (i := 1) ty3 rfl (Has.s rfl) rfl (HasG.s rfl)) ?_
 refine wo (Spec.assign (Has.s rfl)) ?_
 refine Walk.nil ?_
 refine Leaf.thenN ?_
 refine CWalk.seq ?_
 refine CWalk.seq ?_
 obtain ⟨x1, hx1, hm⟩ := bind_some hm
 refine CWalk.drawM [[], [0], [0, 1], [0, 1, 2], [0, 1, 2, 3], [0, 1, 2, 3, 4], [0, 1, 2, 3], [0, 1, 2, 3, 6], [0, 1, 2, 3, 4, 5, 6, 7], [0, 1, 2, 3, 4, 5, 6, 7, 8], [0, 1, 2, 3, 4, 5, 6, 7, 8, 9], [0, 1, 2, 3, 4, 5, 6, 7, 8, 9, 10], [0, 1, 2, 3, 4, 5, 6, 7, 8, 9, 10, 11], [0, 1, 2, 3, 4, 5, 6, 7, 8, 9, 10, 11, 12], [0, 1, 2, 3, 4, 5, 6, 7, 8, 9, 10], [0, 1, 2, 3, 4, 5, 6, 7, 8, 9, 10, 11, 12, 13, 14], [0, 1, 2, 3, 4, 5, 6, 7, 8, 9, 10, 11, 12, 13, 14, 15], [0, 1, 2, 3, 4, 5, 6, 7, 8, 9, 10, 11, 12, 13, 14, 15, 16], [0, 1, 2, 3, 4, 5, 6, 7, 8, 9, 10, 11, 12, 13, 14, 15, 16, 17], [0, 1, 2, 3, 4, 5, 6, 7, 8, 9, 10, 11, 12, 13, 14, 15, 16, 17, 18], [0, 1, 2, 3, 4, 5, 6, 7, 8, 9, 10, 11, 12, 13, 14, 15, 16, 17, 18, 19], [0, 1, 2, 3, 4, 5, 6, 7, 8, 9, 10, 11, 12, 13, 14, 15, 16, 17], [0, 1, 2, 3, 4, 5, 6, 7, 8, 9, 10, 11, 12, 13, 14, 15, 16, 17, 21], [0, 1, 2, 3, 4, 5, 6, 7, 8, 9, 10, 11, 12, 13, 14, 15, 16, 17, 18, 19, 20, 21, 22], [0, 1, 2, 3, 4, 5, 6, 7, 8, 9, 10, 11, 12, 13, 14, 15, 16, 17, 18, 19, 20, 21, 22, 23], [0, 1, 2, 3, 4, 5, 6, 7, 8, 9, 10, 11, 12, 13, 14, 15, 16, 17, 18, 19, 20, 21, 22, 23, 24], [0, 1, 2, 3, 4, 5, 6, 7, 8, 9, 10, 11, 12, 13, 14, 15, 16, 17, 18, 19, 20, 21, 22, 23, 24, 25], [0, 1, 2, 3, 4, 5, 6, 7, 8, 9, 10, 11, 12, 13, 14, 15, 16, 17, 18, 19, 20, 21, 22, 23, 24, 25, 26], [0, 1, 2, 3, 4, 5, 6, 7, 8, 9, 10, 11, 12, 13, 14, 15, 16, 17, 18, 19, 20, 21, 22, 23, 24, 25, 26, 27], [0, 1, 2, 3, 4, 5, 6, 7, 8, 9, 10, 11, 12, 13, 14, 15, 16, 17, 18, 19, 20, 21, 22, 23, 24, 25, 26, 27, 28]] [[.fact 9 (.pto 17 0)], [.fact 10 (.rep [] a1.Stripe)], [.fact 11 (.rep [] ((decide (a1.Stripe < (0 : Int))) : Bool))], [.fact 12 (.rep [] ((decide (a1.Stripe < (0 : Int))) : Bool))], [.fact 13 (.under ((decide (a1.Stripe < (0 : Int))) = false) (.pto 17 0))], [.fact 14 (.under ((decide (a1.Stripe < (0 : Int))) = false) (.rep [] a1.Stripe))], [.fact 15 (.under ((decide (a1.Stripe < (0 : Int))) = false) (.flds [(false, 1, Fact.rep [] a0.Id), (false, 1, Fact.rep [] a0.Members), (false, 1, Fact.rep [] a0.Chunk), (false, 1, Fact.rep [] a0.Rows), (false, 1, Fact.rep [] a0.Log), (false, 1, Fact.rep [] a0.Heads)]))], [.fact 16 (.under ((decide (a1.Stripe < (0 : Int))) = false) (.rep [] (x1 : Int)))], [.fact 17 (.under ((decide (a1.Stripe < (0 : Int))) = false) (.rep [] ((decide (a1.Stripe ≥ x1)) : Bool)))], [.fact 18 (.rep [] (((decide (a1.Stripe < (0 : Int))) || (decide (a1.Stripe ≥ x1))) : Bool))], [.fact 19 (.rep [] (((decide (a1.Stripe < (0 : Int))) || (decide (a1.Stripe ≥ x1))) : Bool))], [.fact 20 (.under (((decide (a1.Stripe < (0 : Int))) || (decide (a1.Stripe ≥ x1))) = false) (.pto 17 1))], [.fact 21 (.under (((decide (a1.Stripe < (0 : Int))) || (decide (a1.Stripe ≥ x1))) = false) (.rep [0] a1.Blocks))], [.fact 22 (.under (((decide (a1.Stripe < (0 : Int))) || (decide (a1.Stripe ≥ x1))) = false) (.rep [] (((a1.Blocks).length : Int) : Int)))], [.fact 23 (.under (((decide (a1.Stripe < (0 : Int))) || (decide (a1.Stripe ≥ x1))) = false) (.rep [] a0.Members))], [.fact 24 (.under (((decide (a1.Stripe < (0 : Int))) || (decide (a1.Stripe ≥ x1))) = false) (.rep [] ((((a1.Blocks).length : Int) != a0.Members) : Bool)))], [.fact 25 (.rep [] ((((decide (a1.Stripe < (0 : Int))) || (decide (a1.Stripe ≥ x1))) || (((a1.Blocks).length : Int) != a0.Members)) : Bool))], [.fact 26 (.rep [] ((((decide (a1.Stripe < (0 : Int))) || (decide (a1.Stripe ≥ x1))) || (((a1.Blocks).length : Int) != a0.Members)) : Bool))], [.fact 27 (.under ((((decide (a1.Stripe < (0 : Int))) || (decide (a1.Stripe ≥ x1))) || (((a1.Blocks).length : Int) != a0.Members)) = false) (.pto 17 2))], [.fact 28 (.under ((((decide (a1.Stripe < (0 : Int))) || (decide (a1.Stripe ≥ x1))) || (((a1.Blocks).length : Int) != a0.Members)) = false) (.rep [0] a1.Dirty))], [.fact 29 (.under ((((decide (a1.Stripe < (0 : Int))) || (decide (a1.Stripe ≥ x1))) || (((a1.Blocks).length : Int) != a0.Members)) = false) (.rep [] (((a1.Dirty).length : Int) : Int)))], [.fact 30 (.under ((((decide (a1.Stripe < (0 : Int))) || (decide (a1.Stripe ≥ x1))) || (((a1.Blocks).length : Int) != a0.Members)) = false) (.rep [] a0.Members))], [.fact 31 (.under ((((decide (a1.Stripe < (0 : Int))) || (decide (a1.Stripe ≥ x1))) || (((a1.Blocks).length : Int) != a0.Members)) = false) (.rep [] ((wI (a0.Members - (1 : Int))) : Int)))], [.fact 32 (.under ((((decide (a1.Stripe < (0 : Int))) || (decide (a1.Stripe ≥ x1))) || (((a1.Blocks).length : Int) != a0.Members)) = false) (.rep [] ((((a1.Dirty).length : Int) != (wI (a0.Members - (1 : Int)))) : Bool)))], [.fact 33 (.rep [] (((((decide (a1.Stripe < (0 : Int))) || (decide (a1.Stripe ≥ x1))) || (((a1.Blocks).length : Int) != a0.Members)) || (((a1.Dirty).length : Int) != (wI (a0.Members - (1 : Int))))) : Bool))], [.fact 34 (.rep [] (((((decide (a1.Stripe < (0 : Int))) || (decide (a1.Stripe ≥ x1))) || (((a1.Blocks).length : Int) != a0.Members)) || (((a1.Dirty).length : Int) != (wI (a0.Members - (1 : Int))))) : Bool))], [.fact 35 (.under (((((decide (a1.Stripe < (0 : Int))) || (decide (a1.Stripe ≥ x1))) || (((a1.Blocks).length : Int) != a0.Members)) || (((a1.Dirty).length : Int) != (wI (a0.Members - (1 : Int))))) = false) (.pto 17 3))], [.fact 36 (.under (((((decide (a1.Stripe < (0 : Int))) || (decide (a1.Stripe ≥ x1))) || (((a1.Blocks).length : Int) != a0.Members)) || (((a1.Dirty).length : Int) != (wI (a0.Members - (1 : Int))))) = false) (.rep [] a1.Phase))], [.fact 37 (.under (((((decide (a1.Stripe < (0 : Int))) || (decide (a1.Stripe ≥ x1))) || (((a1.Blocks).length : Int) != a0.Members)) || (((a1.Dirty).length : Int) != (wI (a0.Members - (1 : Int))))) = false) (.rep [] ((decide ((a1.Phase.toNat : Int) > ((4 : UInt8).toNat : Int))) : Bool)))], [.fact 38 (.rep [] ((((((decide (a1.Stripe < (0 : Int))) || (decide (a1.Stripe ≥ x1))) || (((a1.Blocks).length : Int) != a0.Members)) || (((a1.Dirty).length : Int) != (wI (a0.Members - (1 : Int))))) || (decide ((a1.Phase.toNat : Int) > ((4 : UInt8).toNat : Int)))) : Bool))]] mixed (by kernel_rfl) (ao (so (Spec.fieldAddrO fd28_0 (Has.cv (Has.s rfl) (Cv.isvP rfl)))) (ao (so (Spec.loadF (i := 0) ty3 rfl (Has.s rfl) rfl (HasG.s rfl))) (ao (so (Spec.lssI (Has.s rfl) Has.int)) (ao (so (Spec.move (Has.s rfl))) (ao (StepG.opg rfl rfl rfl (fun hb => Spec.fieldAddrO fd28_0 (Has.cv (Has.s rfl) (Cv.isvP rfl)))) (ao (StepG.opg rfl rfl rfl (fun hb => Spec.loadF (i := 0) ty3 rfl (Has.u rfl hb) rfl (HasG.s rfl))) (ao (StepG.opg rfl rfl rfl (fun hb => Spec.loadObj (ls := [(false, 1, Fact.rep [] a0.Id), (false, 1, Fact.rep [] a0.Members), (false, 1, Fact.rep [] a0.Chunk), (false, 1, Fact.rep [] a0.Rows), (false, 1, Fact.rep [] a0.Log), (false, 1, Fact.rep [] a0.Heads)]) ty24 rfl rfl (Has.s rfl) rfl (HasGs.cons (HasG.s rfl) (HasGs.cons (HasG.s rfl) (HasGs.cons (HasG.s rfl) (HasGs.cons (HasG.s rfl) (HasGs.cons (HasG.s rfl) (HasGs.cons (HasG.s rfl) HasGs.nil)))))))) (ao (StepG.opg rfl rfl rfl (fun hb => Spec.callE [] 24 rfl en57 (ref06_Stripes_c a0 (gO_t hx1 (not_t hb))) (HasAll.cons (Has.fl (Has.cv (Has.u rfl hb) (Cv.trans (Cv.flds (CvL.cons Cv.fl (CvL.cons Cv.fl (CvL.cons Cv.fl (CvL.cons Cv.fl (CvL.cons Cv.fl (CvL.cons Cv.fl CvL.nil))))))) (Cv.close (T := []) (chConfig a0))))) HasAll.nil))) (ao (StepG.opg rfl rfl rfl (fun hb => Spec.geqI (Has.u rfl hb) (Has.u rfl hb))) (ao (so (Spec.or (Has.s rfl) (fun h => Has.u rfl h))) (ao (so (Spec.move (Has.s rfl))) (ao (StepG.opg rfl rfl rfl (fun hb => Spec.fieldAddrO fd28_1 (Has.cv (Has.s rfl) (Cv.isvP rfl)))) (ao (StepG.opg rfl rfl rfl (fun hb => Spec.loadF (i := 1) ty25 rfl (Has.u rfl hb) rfl (HasG.s rfl))) (ao (StepG.opg rfl rfl rfl (fun hb => Spec.len (Has.u rfl hb) Try.underlying25)) (ao (StepG.opg rfl rfl rfl (fun hb => Spec.move (Has.s rfl))) (ao (StepG.opg rfl rfl rfl (fun hb => Spec.neqI (Has.u rfl hb) (Has.u rfl hb))) (ao (so (Spec.or (Has.s rfl) (fun h => Has.u rfl h))) (ao (so (Spec.move (Has.s rfl))) (ao (StepG.opg rfl rfl rfl (fun hb => Spec.fieldAddrO fd28_2 (Has.cv (Has.s rfl) (Cv.isvP rfl)))) (ao (StepG.opg rfl rfl rfl (fun hb => Spec.loadF (i := 2) ty26 rfl (Has.u rfl hb) rfl (HasG.s rfl))) (ao (StepG.opg rfl rfl rfl (fun hb => Spec.len (Has.u rfl hb) Try.underlying26)) (ao (StepG.opg rfl rfl rfl (fun hb => Spec.move (Has.s rfl))) (ao (StepG.opg rfl rfl rfl (fun hb => Spec.subI (Has.u rfl hb) Has.int)) (ao (StepG.opg rfl rfl rfl (fun hb => Spec.neqI (Has.u rfl hb) (Has.u rfl hb))) (ao (so (Spec.or (Has.s rfl) (fun h => Has.u rfl h))) (ao (so (Spec.move (Has.s rfl))) (ao (StepG.opg rfl rfl rfl (fun hb => Spec.fieldAddrO fd28_3 (Has.cv (Has.s rfl) (Cv.isvP rfl)))) (ao (StepG.opg rfl rfl rfl (fun hb => Spec.loadF (i := 3) ty5 rfl (Has.u rfl hb) rfl (HasG.s rfl))) (ao (StepG.opg rfl rfl rfl (fun hb => Spec.gtrN (α := UInt8) (Has.u rfl hb) (Has.u8 4 rfl))) (ao (so (Spec.or (Has.s rfl) (fun h => Has.u rfl h))) AllM.nil)))))))))))))))))))))))))))))) ?_
 refine Leaf.thenN ?_
 refine CWalk.cond rfl (fun hb => ?_) (fun hb => ?_)
 ·have hm := cond_t hb hm
  refine CWalk.seq ?_
  refine CWalk.region ?_
  refine wo (Spec.assign Has.bool) ?_
  refine Walk.nil ?_
  refine Leaf.thenN ?_
  refine CWalk.ret ?_
  refine Leaf.thenR ?_
  obtain rfl := Option.some.inj hm
  exact Leaf.retC1 rfl (HasR.cv (HasR.tmp (Has.s rfl)) Cv.fl)
 ·have hm := cond_f hb hm
  refine CWalk.skip ?_
  refine Leaf.thenN ?_
  refine CWalk.seq ?_
  refine CWalk.seq ?_
  refine CWalk.region ?_
  refine wo (Spec.assign Has.int) ?_
  refine Walk.nil ?_
  refine Leaf.thenN ?_
  refine CWalk.block ?_
  obtain ⟨b8, hb8, hm⟩ := bind_some hm
  refine CWalk.loop (fun s : Int => [.fact 3 (.isv 17), .fact 5 (.rep [] a0.Members), .fact 6 (.rep [] (s : Int)), .fact 100018 (.at 18 (.rep [] a1.Stripe)), .fact 100019 (.at 19 (.rep [0] a1.Blocks)), .fact 100020 (.at 20 (.rep [0] a1.Dirty)), .fact 100021 (.at 21 (.rep [] a1.Phase)), .fact 100022 (.at 22 (.rep [] a1.Deals)), .fact 100023 (.at 23 (.rep [] a1.Seq)), .fact 100017 (.obj 17 [(false, 1), (false, 1), (false, 1), (false, 1), (false, 1), (false, 1)])]) (fun b : (Unit) ⊕ (Unit) => Sum.elim (fun b => (Exit.exit 0, [.fact 3 (.isv 17), .fact 5 (.rep [] a0.Members), .fact 100018 (.at 18 (.rep [] a1.Stripe)), .fact 100019 (.at 19 (.rep [0] a1.Blocks)), .fact 100020 (.at 20 (.rep [0] a1.Dirty)), .fact 100021 (.at 21 (.rep [] a1.Phase)), .fact 100022 (.at 22 (.rep [] a1.Deals)), .fact 100023 (.at 23 (.rep [] a1.Seq)), .fact 100017 (.obj 17 [(false, 1), (false, 1), (false, 1), (false, 1), (false, 1), (false, 1)])])) (fun b => (Exit.ret, [.fact 4 (.rep [] (false : Bool))])) b) hb8 (sn (st (st (sf (sm (sm (sf (sf (sf (sn Sub.nil)))))))))) ?_ ?_
  ·rintro s2 c3 hm
   replace hm : ref16_May_L1 a0 a1 s2 = some c3 := hm
   unfold ref16_May_L1 at hm
   show CWalk _ [.fact 3 (.isv 17), .fact 5 (.rep [] a0.Members), .fact 6 (.rep [] (s2 : Int)), .fact 100018 (.at 18 (.rep [] a1.Stripe)), .fact 100019 (.at 19 (.rep [0] a1.Blocks)), .fact 100020 (.at 20 (.rep [0] a1.Dirty)), .fact 100021 (.at 21 (.rep [] a1.Phase)), .fact 100022 (.at 22 (.rep [] a1.Deals)), .fact 100023 (.at 23 (.rep [] a1.Seq)), .fact 100017 (.obj 17 [(false, 1), (false, 1), (false, 1), (false, 1), (false, 1), (false, 1)])] _ _
   refine CWalk.seq ?_
   refine CWalk.seq ?_
   refine CWalk.region ?_
   refine mv ?_
   refine mv ?_
   refine wo (Spec.lssI (Has.s rfl) (Has.s rfl)) ?_
   refine Walk.nil ?_
   refine Leaf.thenN ?_
   refine CWalk.cond rfl (fun hb => ?_) (fun hb => ?_)
   ·have hm := cond_t hb hm
    refine CWalk.skip ?_
    refine Leaf.thenN ?_
    refine CWalk.seq ?_
    refine CWalk.block ?_
    refine CWalk.seq ?_
    refine CWalk.region ?_
    refine wo (Spec.fieldAddrO fd28_1 (Has.cv (Has.s rfl) (Cv.isvP rfl))) ?_
    refine wo (Spec.loadF (i := 1) ty25 rfl (Has.s rfl) rfl (HasG.s rfl)) ?_
    refine mv ?_
    obtain ⟨x4, hx4, hm⟩ := bind_some hm
    refine wo (Spec.indexAddr hx4 sl25 (Has.s rfl) (Has.s rfl)) ?_
    refine wo (Spec.load ty46 (Has.s rfl)) ?_
    obtain ⟨x5, hx5, hm⟩ := bind_some hm
    refine wo (f := Fact.rep [] (x5 : Bool)) (Spec.callE [0] 25 rfl en58 (ref04_Sized_c x4 hx5) (HasAll.cons (Has.m (Has.s rfl) rfl) HasAll.nil)) ?_
    refine wo (Spec.not (Has.s rfl)) ?_
    refine mv ?_
    refine wg rfl rfl (fun hb => Spec.move (Has.s rfl)) ?_
    refine wg rfl rfl (fun hb => Spec.move (Has.s rfl)) ?_
    refine wg rfl rfl (fun hb => Spec.subI (Has.u rfl hb) Has.int) ?_
    refine wg rfl rfl (fun hb => Spec.lssI (Has.u rfl hb) (Has.u rfl hb)) ?_
    refine wg rfl rfl (fun hb => Spec.move (Has.u rfl hb)) ?_
    refine Walk.opgu rfl rfl rfl (fun hb => Spec.fieldAddrO fd28_2 (Has.cv (Has.s rfl) (Cv.isvP rfl))) ?_
    refine Walk.opgu rfl rfl rfl (fun hb => Spec.loadF (i := 2) ty26 rfl (Has.u rfl hb) rfl (HasG.s rfl)) ?_
    refine Walk.opgu rfl rfl rfl (fun hb => Spec.move (Has.s rfl)) ?_
    obtain ⟨x6, hx6, hm⟩ := bind_some hm
    refine Walk.opgu rfl rfl rfl (fun hb => Spec.indexAddr (gO_t hx6 (and_t (not_t hb.1) hb.2)) sl26 (Has.u rfl hb) (Has.u rfl hb)) ?_
    refine Walk.opgu rfl rfl rfl (fun hb => (Spec.load ty4 (Has.u rfl hb)).flat (T' := [])) ?_
    refine wg rfl rfl (fun hb => Spec.and (Has.u rfl hb) (fun h => Has.u rfl ⟨hb, h⟩)) ?_
    refine wg rfl rfl (fun hb => Spec.move (Has.u rfl hb)) ?_
    refine Walk.opgu rfl rfl rfl (fun hb => Spec.fieldAddrO fd28_1 (Has.cv (Has.s rfl) (Cv.isvP rfl))) ?_
    refine Walk.opgu rfl rfl rfl (fun hb => Spec.loadF (i := 1) ty25 rfl (Has.u rfl hb) rfl (HasG.s rfl)) ?_
    refine Walk.opgu rfl rfl rfl (fun hb => Spec.move (Has.s rfl)) ?_
    obtain ⟨x7, hx7, hm⟩ := bind_some hm
    refine Walk.opgu rfl rfl rfl (fun hb => Spec.indexAddr (gO_t hx7 (and_t (not_t hb.1) hb.2)) sl25 (Has.u rfl hb) (Has.u rfl hb)) ?_
    refine Walk.opgu rfl rfl rfl (fun hb => Spec.load ty46 (Has.u rfl hb)) ?_
    refine Walk.opgu rfl rfl rfl (fun hb => Spec.len (Has.u rfl hb) Try.underlying46) ?_
    refine Walk.opgu rfl rfl rfl (fun hb => Spec.eqlI (Has.u rfl hb) Has.int) ?_
    refine wg rfl rfl (fun hb => Spec.and (Has.u rfl hb) (fun h => Has.u rfl ⟨hb, h⟩)) ?_
    refine wo (Spec.or (Has.s rfl) (fun h => Has.u rfl h)) ?_
    refine Walk.nil ?_
    refine Leaf.thenN ?_
    refine CWalk.cond rfl (fun hb => ?_) (fun hb => ?_)
    ·have hm := cond_t hb hm
     refine CWalk.seq ?_
     refine CWalk.region ?_
     refine wo (Spec.assign Has.bool) ?_
     refine Walk.nil ?_
     refine Leaf.thenN ?_
     refine CWalk.ret ?_
     refine Leaf.blockR ?_
     refine Leaf.thenR ?_
     exact Leaf.brk hm (fun h => nomatch h) rfl (st Sub.nil)
    ·have hm := cond_f hb hm
     refine CWalk.skip ?_
     refine Leaf.blockN ?_
     refine Leaf.thenN ?_
     refine CWalk.region ?_
     refine mv ?_
     refine wo (Spec.addI (Has.s rfl) Has.int) ?_
     refine wo (Spec.assign (Has.s rfl)) ?_
     refine Walk.nil ?_
     exact Leaf.next hm (sn (st (st (sf (sm (sm (sf (sf (sf (sn Sub.nil))))))))))
   ·have hm := cond_f hb hm
    refine CWalk.exit ?_
    refine Leaf.thenE ?_
    exact Leaf.brk hm (fun h => nomatch h) rfl (sn (st (sf (sm (sm (sf (sf (sf (sn Sub.nil)))))))))
  ·intro _
   rcases b8 with b9 | b14
   ·have hm := selim_l hm
    refine Leaf.blockE ?_
    refine Leaf.thenN ?_
    refine CWalk.seq ?_
    refine CWalk.seq ?_
    refine CWalk.region ?_
    refine wo (Spec.fieldAddrO fd28_3 (Has.cv (Has.s rfl) (Cv.isvP rfl))) ?_
    refine wo (Spec.loadF (i := 3) ty5 rfl (Has.s rfl) rfl (HasG.s rfl)) ?_
    refine wo (Spec.eqlB (Has.s rfl) (Has.u8 0 rfl)) ?_
    refine mv ?_
    refine wg rfl rfl (fun hb => Spec.fieldAddrO fd28_1 (Has.cv (Has.s rfl) (Cv.isvP rfl))) ?_
    refine wg rfl rfl (fun hb => Spec.loadF (i := 1) ty25 rfl (Has.u rfl hb) rfl (HasG.s rfl)) ?_
    refine wg rfl rfl (fun hb => Spec.move (Has.s rfl)) ?_
    refine wg rfl rfl (fun hb => Spec.subI (Has.u rfl hb) Has.int) ?_
    obtain ⟨x10, hx10, hm⟩ := bind_some hm
    refine wg rfl rfl (fun hb => Spec.indexAddr (gO_t hx10 hb) sl25 (Has.u rfl hb) (Has.u rfl hb)) ?_
    refine wg rfl rfl (fun hb => Spec.load ty46 (Has.u rfl hb)) ?_
    refine wg rfl rfl (fun hb => Spec.len (Has.u rfl hb) Try.underlying46) ?_
    refine wg rfl rfl (fun hb => Spec.gtrI (Has.u rfl hb) Has.int) ?_
    refine wg rfl rfl (fun hb => Spec.move (Has.u rfl hb)) ?_
    refine Walk.opgu rfl rfl rfl (fun hb => Spec.fieldAddrO fd28_5 (Has.cv (Has.s rfl) (Cv.isvP rfl))) ?_
    refine Walk.opgu rfl rfl rfl (fun hb => Spec.loadF (i := 5) ty22 rfl (Has.u rfl hb) rfl (HasG.s rfl)) ?_
    refine Walk.opgu rfl rfl rfl (fun hb => Spec.neqN (α := UInt32) (Has.u rfl hb) (Has.u32 0 rfl)) ?_
    refine wg rfl rfl (fun hb => Spec.or (Has.u rfl hb) (fun h => Has.u rfl ⟨hb, h⟩)) ?_
    refine wo (Spec.and (Has.s rfl) (fun h => Has.u rfl h)) ?_
    refine Walk.nil ?_
    refine Leaf.thenN ?_
    refine CWalk.cond rfl (fun hb => ?_) (fun hb => ?_)
    ·have hm := cond_t hb hm
     refine CWalk.seq ?_
     refine CWalk.region ?_
     refine wo (Spec.assign Has.bool) ?_
     refine Walk.nil ?_
     refine Leaf.thenN ?_
     refine CWalk.ret ?_
     refine Leaf.thenR ?_
     obtain rfl := Option.some.inj hm
     exact Leaf.retC1 rfl (HasR.cv (HasR.tmp (Has.s rfl)) Cv.fl)
    ·have hm := cond_f hb hm
     refine CWalk.skip ?_
     refine Leaf.thenN ?_
     refine CWalk.seq ?_
     refine CWalk.seq ?_
     refine CWalk.region ?_
     refine wo (Spec.fieldAddrO fd28_3 (Has.cv (Has.s rfl) (Cv.isvP rfl))) ?_
     refine wo (Spec.loadF (i := 3) ty5 rfl (Has.s rfl) rfl (HasG.s rfl)) ?_
     refine wo (Spec.gtrN (α := UInt8) (Has.s rfl) (Has.u8 0 rfl)) ?_
     refine mv ?_
     refine wg rfl rfl (fun hb => Spec.fieldAddrO fd28_1 (Has.cv (Has.s rfl) (Cv.isvP rfl))) ?_
     refine wg rfl rfl (fun hb => Spec.loadF (i := 1) ty25 rfl (Has.u rfl hb) rfl (HasG.s rfl)) ?_
     refine wg rfl rfl (fun hb => Spec.move (Has.s rfl)) ?_
     refine wg rfl rfl (fun hb => Spec.subI (Has.u rfl hb) Has.int) ?_
     obtain ⟨x11, hx11, hm⟩ := bind_some hm
     refine wg rfl rfl (fun hb => Spec.indexAddr (gO_t hx11 hb) sl25 (Has.u rfl hb) (Has.u rfl hb)) ?_
     refine wg rfl rfl (fun hb => Spec.load ty46 (Has.u rfl hb)) ?_
     refine wg rfl rfl (fun hb => Spec.len (Has.u rfl hb) Try.underlying46) ?_
     refine wg rfl rfl (fun hb => Spec.eqlI (Has.u rfl hb) Has.int) ?_
     refine wg rfl rfl (fun hb => Spec.move (Has.u rfl hb)) ?_
     refine Walk.opgu rfl rfl rfl (fun hb => Spec.loadObj (ls := [(false, 1, Fact.rep [] a1.Stripe), (false, 1, Fact.rep [0] a1.Blocks), (false, 1, Fact.rep [0] a1.Dirty), (false, 1, Fact.rep [] a1.Phase), (false, 1, Fact.rep [] a1.Deals), (false, 1, Fact.rep [] a1.Seq)]) ty28 rfl rfl (Has.s rfl) rfl (HasGs.cons (HasG.s rfl) (HasGs.cons (HasG.s rfl) (HasGs.cons (HasG.s rfl) (HasGs.cons (HasG.s rfl) (HasGs.cons (HasG.s rfl) (HasGs.cons (HasG.s rfl) HasGs.nil))))))) ?_
     obtain ⟨x12, hx12, hm⟩ := bind_some hm
     refine Walk.opgu (f := Fact.rep [] (x12 : Bool)) rfl rfl rfl (fun hb => Spec.callE [0] 26 rfl en18 (ref16_Dirty_c a1 (gO_t hx12 (and_t hb.1 (not_t hb.2)))) (HasAll.cons (Has.m (Has.cv (Has.u rfl hb) (Cv.trans (Cv.flds (CvL.cons Cv.fl (CvL.cons (Cv.m rfl) (CvL.cons (Cv.m rfl) (CvL.cons Cv.fl (CvL.cons Cv.fl (CvL.cons Cv.fl CvL.nil))))))) (Cv.close (T := [0]) (chHead a1)))) rfl) HasAll.nil)) ?_
     refine Walk.opgu rfl rfl rfl (fun hb => Spec.not (Has.u rfl hb)) ?_
     refine wg rfl rfl (fun hb => Spec.or (Has.u rfl hb) (fun h => Has.u rfl ⟨hb, h⟩)) ?_
     refine wo (Spec.and (Has.s rfl) (fun h => Has.u rfl h)) ?_
     refine mv ?_
     refine wg rfl rfl (fun hb => Spec.fieldAddrO fd28_3 (Has.cv (Has.s rfl) (Cv.isvP rfl))) ?_
     refine wg rfl rfl (fun hb => Spec.loadF (i := 3) ty5 rfl (Has.u rfl hb) rfl (HasG.s rfl)) ?_
     refine wg rfl rfl (fun hb => Spec.eqlB (Has.u rfl hb) (Has.u8 1 rfl)) ?_
     refine wg rfl rfl (fun hb => Spec.move (Has.u rfl hb)) ?_
     refine Walk.opgu rfl rfl rfl (fun hb => Spec.fieldAddrO fd28_5 (Has.cv (Has.s rfl) (Cv.isvP rfl))) ?_
     refine Walk.opgu rfl rfl rfl (fun hb => Spec.loadF (i := 5) ty22 rfl (Has.u rfl hb) rfl (HasG.s rfl)) ?_
     refine Walk.opgu rfl rfl rfl (fun hb => Spec.neqN (α := UInt32) (Has.u rfl hb) (Has.u32 0 rfl)) ?_
     refine wg rfl rfl (fun hb => Spec.and (Has.u rfl hb) (fun h => Has.u rfl ⟨hb, h⟩)) ?_
     refine wo (Spec.or (Has.s rfl) (fun h => Has.u rfl h)) ?_
     refine Walk.nil ?_
     refine Leaf.thenN ?_
     refine CWalk.cond rfl (fun hb => ?_) (fun hb => ?_)
     ·have hm := cond_t hb hm
      refine CWalk.seq ?_
      refine CWalk.region ?_
      refine wo (Spec.assign Has.bool) ?_
      refine Walk.nil ?_
      refine Leaf.thenN ?_
      refine CWalk.ret ?_
      refine Leaf.thenR ?_
      obtain rfl := Option.some.inj hm
      exact Leaf.retC1 rfl (HasR.cv (HasR.tmp (Has.s rfl)) Cv.fl)
     ·have hm := cond_f hb hm
      refine CWalk.skip ?_
      refine Leaf.thenN ?_
      refine CWalk.seq ?_
      refine CWalk.region ?_
      refine wo (Spec.fieldAddrO fd28_4 (Has.cv (Has.s rfl) (Cv.isvP rfl))) ?_
      refine wo (Spec.loadF (i := 4) ty4 rfl (Has.s rfl) rfl (HasG.s rfl)) ?_
      refine wo (Spec.not (Has.s rfl)) ?_
      refine mv ?_
      refine wg rfl rfl (fun hb => Spec.loadObj (ls := [(false, 1, Fact.rep [] a1.Stripe), (false, 1, Fact.rep [0] a1.Blocks), (false, 1, Fact.rep [0] a1.Dirty), (false, 1, Fact.rep [] a1.Phase), (false, 1, Fact.rep [] a1.Deals), (false, 1, Fact.rep [] a1.Seq)]) ty28 rfl rfl (Has.s rfl) rfl (HasGs.cons (HasG.s rfl) (HasGs.cons (HasG.s rfl) (HasGs.cons (HasG.s rfl) (HasGs.cons (HasG.s rfl) (HasGs.cons (HasG.s rfl) (HasGs.cons (HasG.s rfl) HasGs.nil))))))) ?_
      obtain ⟨x13, hx13, hm⟩ := bind_some hm
      refine wg (f := Fact.rep [] (x13 : Bool)) rfl rfl (fun hb => Spec.callE [0] 27 rfl en18 (ref16_Dirty_c a1 (gO_t hx13 (not_t hb))) (HasAll.cons (Has.m (Has.cv (Has.u rfl hb) (Cv.trans (Cv.flds (CvL.cons Cv.fl (CvL.cons (Cv.m rfl) (CvL.cons (Cv.m rfl) (CvL.cons Cv.fl (CvL.cons Cv.fl (CvL.cons Cv.fl CvL.nil))))))) (Cv.close (T := [0]) (chHead a1)))) rfl) HasAll.nil)) ?_
      refine wg rfl rfl (fun hb => Spec.move (Has.u rfl hb)) ?_
      refine Walk.opgu rfl rfl rfl (fun hb => Spec.fieldAddrO fd28_3 (Has.cv (Has.s rfl) (Cv.isvP rfl))) ?_
      refine Walk.opgu rfl rfl rfl (fun hb => Spec.loadF (i := 3) ty5 rfl (Has.u rfl hb) rfl (HasG.s rfl)) ?_
      refine Walk.opgu rfl rfl rfl (fun hb => Spec.leqN (α := UInt8) (Has.u rfl hb) (Has.u8 1 rfl)) ?_
      refine wg rfl rfl (fun hb => Spec.and (Has.u rfl hb) (fun h => Has.u rfl ⟨hb, h⟩)) ?_
      refine wo (Spec.or (Has.s rfl) (fun h => Has.u rfl h)) ?_
      refine wo (Spec.assign (Has.s rfl)) ?_
      refine Walk.nil ?_
      refine Leaf.thenN ?_
      refine CWalk.ret ?_
      obtain rfl := Option.some.inj hm
      exact Leaf.retC1 rfl (HasR.cv (HasR.tmp (Has.s rfl)) Cv.fl)
   ·have hm := selim_r hm
    refine Leaf.blockR ?_
    refine Leaf.thenR ?_
    obtain rfl := Option.some.inj hm
    exact Leaf.retC1 rfl (HasR.cv (HasR.tmp (Has.s rfl)) Cv.fl)

/-- freeboard/freeboardref16.Check -/
def ref16_Check (a0 : Config) (a1 : Head) : Option (Int) :=
  Option.bind (ref06_May a0) (fun x1 => Option.bind (gO (!(!x1)) (ref16_May a0 a1)) (fun x2 => (bif ((!x1) || (!x2)) then some (8 : Int) else some (0 : Int))))
set_option maxRecDepth 100000 in
set_option maxHeartbeats 2000000 in
theorem ref16_Check_c (a0 : Config) (a1 : Head) {r : Int} (hm : ref16_Check a0 a1 = some r) : Ctr Try.prog 26 [.rep 0 a0, .rep 0 a1] (.fl r) [] := by
 refine ctr_of_walk [[]] 14 Try.func26 rfl rfl rfl rfl (fun w0 om => ?_)
 unfold ref16_Check at hm
 refine CWalk.sub (G' := [.fact 0 (.rep [] (a0 : Config)), .fact 1 (.rep [0] (a1 : Head))]) (Sub.cons (Has.fl (Has.s rfl)) (sn Sub.nil)) ?_
 refine CWalk.seq ?_
 refine CWalk.region ?_
 refine ws (Step.boxObj (ls := [(false, 1, Fact.rep [] a0.Id), (false, 1, Fact.rep [] a0.Members), (false, 1, Fact.rep [] a0.Chunk), (false, 1, Fact.rep [] a0.Rows), (false, 1, Fact.rep [] a0.Log), (false, 1, Fact.rep [] a0.Heads)]) 10 rfl rfl rfl rfl (HasL.flds (Has.cv (Has.s rfl) (Cv.trans (Cv.opens (chConfig a0)) (Cv.flds (CvL.cons Cv.fl (CvL.cons Cv.fl (CvL.cons Cv.fl (CvL.cons Cv.fl (CvL.cons Cv.fl (CvL.cons Cv.fl CvL.nil))))))))))) ?_
 refine ws (Step.boxObj (ls := [(false, 1, Fact.rep [] a1.Stripe), (false, 1, Fact.rep [0] a1.Blocks), (false, 1, Fact.rep [0] a1.Dirty), (false, 1, Fact.rep [] a1.Phase), (false, 1, Fact.rep [] a1.Deals), (false, 1, Fact.rep [] a1.Seq)]) 17 rfl rfl rfl rfl (HasL.flds (Has.cv (Has.s rfl) (Cv.trans (Cv.opens (chHead a1)) (Cv.flds (CvL.cons Cv.fl (CvL.cons Cv.refl (CvL.cons Cv.refl (CvL.cons Cv.fl (CvL.cons Cv.fl (CvL.cons Cv.fl CvL.nil))))))))))) ?_
 refine wo (Spec.assign Has.int) ?_
 refine Walk.nil ?_
 refine Leaf.thenN ?_
 refine CWalk.seq ?_
 refine CWalk.seq ?_
 refine CWalk.region ?_
 refine wo (Spec.loadObj (ls := [(false, 1, Fact.rep [] a0.Id), (false, 1, Fact.rep [] a0.Members), (false, 1, Fact.rep [] a0.Chunk), (false, 1, Fact.rep [] a0.Rows), (false, 1, Fact.rep [] a0.Log), (false, 1, Fact.rep [] a0.Heads)]) ty24 rfl rfl (Has.s rfl) rfl (HasGs.cons (HasG.s rfl) (HasGs.cons (HasG.s rfl) (HasGs.cons (HasG.s rfl) (HasGs.cons (HasG.s rfl) (HasGs.cons (HasG.s rfl) (HasGs.cons (HasG.s rfl) HasGs.nil))))))) ?_
 obtain ⟨x1, hx1, hm⟩ := bind_some hm
 refine wo (f := Fact.rep [] (x1 : Bool)) (Spec.callE [] 24 rfl en40 (ref06_May_c a0 hx1) (HasAll.cons (Has.fl (Has.cv (Has.s rfl) (Cv.trans (Cv.flds (CvL.cons Cv.fl (CvL.cons Cv.fl (CvL.cons Cv.fl (CvL.cons Cv.fl (CvL.cons Cv.fl (CvL.cons Cv.fl CvL.nil))))))) (Cv.close (T := []) (chConfig a0))))) HasAll.nil)) ?_
 refine wo (Spec.not (Has.s rfl)) ?_
 refine mv ?_
 refine wg rfl rfl (fun hb => Spec.loadObj (ls := [(false, 1, Fact.rep [] a0.Id), (false, 1, Fact.rep [] a0.Members), (false, 1, Fact.rep [] a0.Chunk), (false, 1, Fact.rep [] a0.Rows), (false, 1, Fact.rep [] a0.Log), (false, 1, Fact.rep [] a0.Heads)]) ty24 rfl rfl (Has.s rfl) rfl (HasGs.cons (HasG.s rfl) (HasGs.cons (HasG.s rfl) (HasGs.cons (HasG.s rfl) (HasGs.cons (HasG.s rfl) (HasGs.cons (HasG.s rfl) (HasGs.cons (HasG.s rfl) HasGs.nil))))))) ?_
 refine wg rfl rfl (fun hb => Spec.loadObj (ls := [(false, 1, Fact.rep [] a1.Stripe), (false, 1, Fact.rep [0] a1.Blocks), (false, 1, Fact.rep [0] a1.Dirty), (false, 1, Fact.rep [] a1.Phase), (false, 1, Fact.rep [] a1.Deals), (false, 1, Fact.rep [] a1.Seq)]) ty28 rfl rfl (Has.s rfl) rfl (HasGs.cons (HasG.s rfl) (HasGs.cons (HasG.s rfl) (HasGs.cons (HasG.s rfl) (HasGs.cons (HasG.s rfl) (HasGs.cons (HasG.s rfl) (HasGs.cons (HasG.s rfl) HasGs.nil))))))) ?_
 obtain ⟨x2, hx2, hm⟩ := bind_some hm
 refine wg (f := Fact.rep [] (x2 : Bool)) rfl rfl (fun hb => Spec.callE [0] 25 rfl en41 (ref16_May_c a0 a1 (gO_t hx2 (not_t hb))) (HasAll.cons (Has.fl (Has.cv (Has.u rfl hb) (Cv.trans (Cv.flds (CvL.cons Cv.fl (CvL.cons Cv.fl (CvL.cons Cv.fl (CvL.cons Cv.fl (CvL.cons Cv.fl (CvL.cons Cv.fl CvL.nil))))))) (Cv.close (T := []) (chConfig a0))))) (HasAll.cons (Has.m (Has.cv (Has.u rfl hb) (Cv.trans (Cv.flds (CvL.cons Cv.fl (CvL.cons (Cv.m rfl) (CvL.cons (Cv.m rfl) (CvL.cons Cv.fl (CvL.cons Cv.fl (CvL.cons Cv.fl CvL.nil))))))) (Cv.close (T := [0]) (chHead a1)))) rfl) HasAll.nil))) ?_
 refine wg rfl rfl (fun hb => Spec.not (Has.u rfl hb)) ?_
 refine wo (Spec.or (Has.s rfl) (fun h => Has.u rfl h)) ?_
 refine Walk.nil ?_
 refine Leaf.thenN ?_
 refine CWalk.cond rfl (fun hb => ?_) (fun hb => ?_)
 ·have hm := cond_t hb hm
  refine CWalk.seq ?_
  refine CWalk.region ?_
  refine wo (Spec.assign Has.int) ?_
  refine Walk.nil ?_
  refine Leaf.thenN ?_
  refine CWalk.ret ?_
  refine Leaf.thenR ?_
  obtain rfl := Option.some.inj hm
  exact Leaf.retC1 rfl (HasR.cv (HasR.tmp (Has.s rfl)) Cv.fl)
 ·have hm := cond_f hb hm
  refine CWalk.skip ?_
  refine Leaf.thenN ?_
  refine CWalk.seq ?_
  refine CWalk.region ?_
  refine wo (Spec.assign Has.int) ?_
  refine Walk.nil ?_
  refine Leaf.thenN ?_
  refine CWalk.ret ?_
  obtain rfl := Option.some.inj hm
  exact Leaf.retC1 rfl (HasR.cv (HasR.tmp (Has.s rfl)) Cv.fl)

def ref17_Rest_J2 (s2 : Int) (j4 : List Int) : Option (Ctl ((List Int) × Int) ((List Int))) :=
  some (Ctl.next (j4, (wI (s2 + (1 : Int)))))
def ref17_Rest_L1 (a0 : Config) (a1 : Head) (s1 : List Int) (s2 : Int) : Option (Ctl ((List Int) × Int) ((List Int))) :=
  (bif (decide (s2 < (wI (a0.Members - (1 : Int))))) then Option.bind (idx a1.Blocks s2) (fun x5 => (bif (((x5).length : Int) == (0 : Int)) then Option.bind (app s1 ([s2])) (fun x6 => (ref17_Rest_J2 s2 x6)) else (ref17_Rest_J2 s2 s1))) else some (Ctl.brk s1))
/-- freeboard/freeboardref17.Rest -/
def ref17_Rest (a0 : Config) (a1 : Head) : Option ((List Int)) :=
  Option.bind (loopM (fun s : (List Int) × Int => ref17_Rest_L1 a0 a1 s.1 s.2) FUEL (([] : List Int), (0 : Int))) (fun b7 => some b7)
set_option maxRecDepth 100000 in
set_option maxHeartbeats 2000000 in
theorem ref17_Rest_c (a0 : Config) (a1 : Head) {r : (List Int)} (hm : ref17_Rest a0 a1 = some r) : Ctr Try.prog 42 [.rep 0 a0, .rep 0 a1] (.own 0 none 3 r) [] := by
 refine ctr_of_walk [[25]] 26 Try.func42 rfl rfl rfl rfl (fun w0 om => ?_)
 unfold ref17_Rest at hm
 refine CWalk.sub (G' := [.fact 0 (.rep [] (a0 : Config)), .fact 1 (.rep [0] (a1 : Head))]) (Sub.cons (Has.fl (Has.s rfl)) (sn Sub.nil)) ?_
 refine CWalk.seq ?_
 refine CWalk.region ?_
 refine ws (Step.boxObj (ls := [(false, 1, Fact.rep [] a0.Id), (false, 1, Fact.rep [] a0.Members), (false, 1, Fact.rep [] a0.Chunk), (false, 1, Fact.rep [] a0.Rows), (false, 1, Fact.rep [] a0.Log), (false, 1, Fact.rep [] a0.Heads)]) 10 rfl rfl rfl rfl (HasL.flds (Has.cv (Has.s rfl) (Cv.trans (Cv.opens (chConfig a0)) (Cv.flds (CvL.cons Cv.fl (CvL.cons Cv.fl (CvL.cons Cv.fl (CvL.cons Cv.fl (CvL.cons Cv.fl (CvL.cons Cv.fl CvL.nil))))))))))) ?_
 refine ws (Step.boxObj (ls := [(false, 1, Fact.rep [] a1.Stripe), (false, 1, Fact.rep [0] a1.Blocks), (false, 1, Fact.rep [0] a1.Dirty), (false, 1, Fact.rep [] a1.Phase), (false, 1, Fact.rep [] a1.Deals), (false, 1, Fact.rep [] a1.Seq)]) 17 rfl rfl rfl rfl (HasL.flds (Has.cv (Has.s rfl) (Cv.trans (Cv.opens (chHead a1)) (Cv.flds (CvL.cons Cv.fl (CvL.cons Cv.refl (CvL.cons Cv.refl (CvL.cons Cv.fl (CvL.cons Cv.fl (CvL.cons Cv.fl CvL.nil))))))))))) ?_
 refine wo (Spec.assign Has.nilv) ?_
 refine Walk.nil ?_
 refine Leaf.thenN ?_
 refine CWalk.seq ?_
 refine CWalk.region ?_
 refine wo (Spec.assign Has.nilv) ?_
 refine Walk.nil ?_
 refine Leaf.thenN ?_
 refine CWalk.seq ?_
 refine CWalk.seq ?_
 refine CWalk.region ?_
 refine wo (Spec.assign Has.int) ?_
 refine Walk.nil ?_
 refine Leaf.thenN ?_
 refine CWalk.block ?_
 obtain ⟨b7, hb7, hm⟩ := bind_some hm
 refine CWalk.loop (fun s : (List Int) × Int => [.fact 2 (.isv 10), .fact 3 (.isv 17), .fact 5 (.ow [25] [] 3 (s.1 : List Int)), .fact 6 (.rep [] s.2), .fact 100011 (.at 11 (.rep [] a0.Id)), .fact 100012 (.at 12 (.rep [] a0.Members)), .fact 100013 (.at 13 (.rep [] a0.Chunk)), .fact 100014 (.at 14 (.rep [] a0.Rows)), .fact 100015 (.at 15 (.rep [] a0.Log)), .fact 100016 (.at 16 (.rep [] a0.Heads)), .fact 100018 (.at 18 (.rep [] a1.Stripe)), .fact 100019 (.at 19 (.rep [0] a1.Blocks)), .fact 100020 (.at 20 (.rep [0] a1.Dirty)), .fact 100021 (.at 21 (.rep [] a1.Phase)), .fact 100022 (.at 22 (.rep [] a1.Deals)), .fact 100023 (.at 23 (.rep [] a1.Seq)), .fact 100010 (.obj 10 [(false, 1), (false, 1), (false, 1), (false, 1), (false, 1), (false, 1)]), .fact 100017 (.obj 17 [(false, 1), (false, 1), (false, 1), (false, 1), (false, 1), (false, 1)])]) (fun b : (List Int) => (Exit.exit 0, [.fact 5 (.ow [25] [] 3 (b : List Int))])) hb7 (sn (sn (Sub.cons (Has.cv (Has.s rfl) (Cv.trans Cv.nilOw (Cv.owF (T := []) (te := []) rfl))) (st (sf (sf (sf (sf (sf (sf (sf (sm (sm (sf (sf (sf (sn (sn Sub.nil)))))))))))))))))) ?_ ?_
 ·rintro ⟨s1, s2⟩ c3 hm
  replace hm : ref17_Rest_L1 a0 a1 s1 s2 = some c3 := hm
  unfold ref17_Rest_L1 at hm
  show CWalk _ [.fact 2 (.isv 10), .fact 3 (.isv 17), .fact 5 (.ow [25] [] 3 (s1 : List Int)), .fact 6 (.rep [] (s2 : Int)), .fact 100011 (.at 11 (.rep [] a0.Id)), .fact 100012 (.at 12 (.rep [] a0.Members)), .fact 100013 (.at 13 (.rep [] a0.Chunk)), .fact 100014 (.at 14 (.rep [] a0.Rows)), .fact 100015 (.at 15 (.rep [] a0.Log)), .fact 100016 (.at 16 (.rep [] a0.Heads)), .fact 100018 (.at 18 (.rep [] a1.Stripe)), .fact 100019 (.at 19 (.rep [0] a1.Blocks)), .fact 100020 (.at 20 (.rep [0] a1.Dirty)), .fact 100021 (.at 21 (.rep [] a1.Phase)), .fact 100022 (.at 22 (.rep [] a1.Deals)), .fact 100023 (.at 23 (.rep [] a1.Seq)), .fact 100010 (.obj 10 [(false, 1), (false, 1), (false, 1), (false, 1), (false, 1), (false, 1)]), .fact 100017 (.obj 17 [(false, 1), (false, 1), (false, 1), (false, 1), (false, 1), (false, 1)])] _ _
  refine CWalk.seq ?_
  refine CWalk.seq ?_
  refine CWalk.region ?_
  refine mv ?_
  refine wo (Spec.fieldAddrO fd24_1 (Has.cv (Has.s rfl) (Cv.isvP rfl))) ?_
  refine wo (Spec.loadF (i := 1) ty3 rfl (Has.s rfl) rfl (HasG.s rfl)) ?_
  refine wo (Spec.subI (Has.s rfl) Has.int) ?_
  refine wo (Spec.lssI (Has.s rfl) (Has.s rfl)) ?_
  refine Walk.nil ?_
  refine Leaf.thenN ?_
  refine CWalk.cond rfl (fun hb => ?_) (fun hb => ?_)
  ·have hm := cond_t hb hm
   refine CWalk.skip ?_
   refine Leaf.thenN ?_
   refine CWalk.seqJ (fun p : (List Int) => [.fact 2 (.isv 10), .fact 3 (.isv 17), .fact 5 (.ow [25] [] 3 (p : List Int)), .fact 6 (.rep [] (s2 : Int)), .fact 100011 (.at 11 (.rep [] a0.Id)), .fact 100012 (.at 12 (.rep [] a0.Members)), .fact 100013 (.at 13 (.rep [] a0.Chunk)), .fact 100014 (.at 14 (.rep [] a0.Rows)), .fact 100015 (.at 15 (.rep [] a0.Log)), .fact 100016 (.at 16 (.rep [] a0.Heads)), .fact 100018 (.at 18 (.rep [] a1.Stripe)), .fact 100019 (.at 19 (.rep [0] a1.Blocks)), .fact 100020 (.at 20 (.rep [0] a1.Dirty)), .fact 100021 (.at 21 (.rep [] a1.Phase)), .fact 100022 (.at 22 (.rep [] a1.Deals)), .fact 100023 (.at 23 (.rep [] a1.Seq)), .fact 100010 (.obj 10 [(false, 1), (false, 1), (false, 1), (false, 1), (false, 1), (false, 1)]), .fact 100017 (.obj 17 [(false, 1), (false, 1), (false, 1), (false, 1), (false, 1), (false, 1)])]) (fun p : (List Int) => ref17_Rest_J2 s2 p = some c3) ?_ ?_
   ·rintro j4 hm
    replace hm : ref17_Rest_J2 s2 j4 = some c3 := hm
    unfold ref17_Rest_J2 at hm
    show CWalk _ [.fact 2 (.isv 10), .fact 3 (.isv 17), .fact 5 (.ow [25] [] 3 (j4 : List Int)), .fact 6 (.rep [] (s2 : Int)), .fact 100011 (.at 11 (.rep [] a0.Id)), .fact 100012 (.at 12 (.rep [] a0.Members)), .fact 100013 (.at 13 (.rep [] a0.Chunk)), .fact 100014 (.at 14 (.rep [] a0.Rows)), .fact 100015 (.at 15 (.rep [] a0.Log)), .fact 100016 (.at 16 (.rep [] a0.Heads)), .fact 100018 (.at 18 (.rep [] a1.Stripe)), .fact 100019 (.at 19 (.rep [0] a1.Blocks)), .fact 100020 (.at 20 (.rep [0] a1.Dirty)), .fact 100021 (.at 21 (.rep [] a1.Phase)), .fact 100022 (.at 22 (.rep [] a1.Deals)), .fact 100023 (.at 23 (.rep [] a1.Seq)), .fact 100010 (.obj 10 [(false, 1), (false, 1), (false, 1), (false, 1), (false, 1), (false, 1)]), .fact 100017 (.obj 17 [(false, 1), (false, 1), (false, 1), (false, 1), (false, 1), (false, 1)])] _ _
    refine CWalk.region ?_
    refine mv ?_
    refine wo (Spec.addI (Has.s rfl) Has.int) ?_
    refine wo (Spec.assign (Has.s rfl)) ?_
    refine Walk.nil ?_
    exact Leaf.next hm (sn (sn (Sub.cons (Has.cv (Has.s rfl) (Cv.owF (T := [25]) (te := []) rfl)) (st (sf (sf (sf (sf (sf (sf (sf (sm (sm (sf (sf (sf (sn (sn Sub.nil))))))))))))))))))
   ·refine CWalk.block ?_
    refine CWalk.seq ?_
    refine CWalk.region ?_
    refine wo (Spec.fieldAddrO fd28_1 (Has.cv (Has.s rfl) (Cv.isvP rfl))) ?_
    refine wo (Spec.loadF (i := 1) ty25 rfl (Has.s rfl) rfl (HasG.s rfl)) ?_
    refine mv ?_
    obtain ⟨x5, hx5, hm⟩ := bind_some hm
    refine wo (Spec.indexAddr hx5 sl25 (Has.s rfl) (Has.s rfl)) ?_
    refine wo (Spec.load ty46 (Has.s rfl)) ?_
    refine wo (Spec.len (Has.s rfl) Try.underlying46) ?_
    refine wo (Spec.eqlI (Has.s rfl) Has.int) ?_
    refine Walk.nil ?_
    refine Leaf.thenN ?_
    refine CWalk.cond rfl (fun hb => ?_) (fun hb => ?_)
    ·have hm := cond_t hb hm
     refine CWalk.region ?_
     refine mv ?_
     refine mv ?_
     refine wo (Spec.lit (xs := [.tmp 22]) (T := []) 24 rfl ow31 rfl rfl rfl rfl (HasEach.cons (Has.fl (Has.s rfl)) HasEach.nil)) ?_
     obtain ⟨x6, hx6, hm⟩ := bind_some hm
     refine ws (Step.appendOw (T := [25]) (te' := []) hx6 rfl rfl rfl ow31 (Has.s rfl) (Has.s rfl) ElKeeps.flat ElKeeps.flat) ?_
     refine wo (Spec.assign (Has.s rfl)) ?_
     refine Walk.nil ?_
     refine Leaf.blockN ?_
     exact Leaf.join x6 hm (sn (sn (Sub.cons (Has.cv (Has.s rfl) (Cv.owF (T := [25]) (te := []) rfl)) (st (sf (sf (sf (sf (sf (sf (sf (sm (sm (sf (sf (sf (sn (sn Sub.nil))))))))))))))))))
    ·have hm := cond_f hb hm
     refine CWalk.skip ?_
     refine Leaf.blockN ?_
     exact Leaf.join s1 hm (sn (sn (Sub.cons (Has.cv (Has.s rfl) (Cv.owF (T := [25]) (te := []) rfl)) (st (sf (sf (sf (sf (sf (sf (sf (sm (sm (sf (sf (sf (sn (sn Sub.nil))))))))))))))))))
  ·have hm := cond_f hb hm
   refine CWalk.exit ?_
   refine Leaf.thenE ?_
   exact Leaf.brk hm (fun h => nomatch h) rfl (Sub.cons (Has.cv (Has.s rfl) (Cv.owF (T := [25]) (te := []) rfl)) Sub.nil)
 ·intro _
  refine Leaf.blockE ?_
  refine Leaf.thenN ?_
  refine CWalk.seq ?_
  refine CWalk.region ?_
  refine mv ?_
  refine wo (Spec.assign (Has.s rfl)) ?_
  refine Walk.nil ?_
  refine Leaf.thenN ?_
  refine CWalk.ret ?_
  obtain rfl := Option.some.inj hm
  exact Leaf.retC1 rfl (HasR.cv (HasR.tmp (Has.s rfl)) (Cv.owF (T := [25]) (te := []) rfl))

def ref17_Old_J2 (s2 : Int) (j4 : List Int) : Option (Ctl ((List Int) × Int) ((List Int))) :=
  some (Ctl.next (j4, (wI (s2 + (1 : Int)))))
def ref17_Old_L1 (a0 : Config) (a1 : Head) (s1 : List Int) (s2 : Int) : Option (Ctl ((List Int) × Int) ((List Int))) :=
  (bif (decide (s2 < (wI (a0.Members - (1 : Int))))) then Option.bind (idx a1.Dirty s2) (fun x5 => (bif x5 then Option.bind (app s1 ([s2])) (fun x6 => (ref17_Old_J2 s2 x6)) else (ref17_Old_J2 s2 s1))) else some (Ctl.brk s1))
/-- freeboard/freeboardref17.Old -/
def ref17_Old (a0 : Config) (a1 : Head) : Option ((List Int)) :=
  Option.bind (loopM (fun s : (List Int) × Int => ref17_Old_L1 a0 a1 s.1 s.2) FUEL (([] : List Int), (0 : Int))) (fun b7 => Option.bind (app b7 ([(wI (a0.Members - (1 : Int)))])) (fun x8 => some x8))
set_option maxRecDepth 100000 in
set_option maxHeartbeats 2000000 in
theorem ref17_Old_c (a0 : Config) (a1 : Head) {r : (List Int)} (hm : ref17_Old a0 a1 = some r) : Ctr Try.prog 43 [.rep 0 a0, .rep 0 a1] (.own 0 none 3 r) [] := by
 refine ctr_of_walk [[25]] 29 Try.func43 rfl rfl rfl rfl (fun w0 om => ?_)
 unfold ref17_Old at hm
 refine CWalk.sub (G' := [.fact 0 (.rep [] (a0 : Config)), .fact 1 (.rep [0] (a1 : Head))]) (Sub.cons (Has.fl (Has.s rfl)) (sn Sub.nil)) ?_
 refine CWalk.seq ?_
 refine CWalk.region ?_
 refine ws (Step.boxObj (ls := [(false, 1, Fact.rep [] a0.Id), (false, 1, Fact.rep [] a0.Members), (false, 1, Fact.rep [] a0.Chunk), (false, 1, Fact.rep [] a0.Rows), (false, 1, Fact.rep [] a0.Log), (false, 1, Fact.rep [] a0.Heads)]) 10 rfl rfl rfl rfl (HasL.flds (Has.cv (Has.s rfl) (Cv.trans (Cv.opens (chConfig a0)) (Cv.flds (CvL.cons Cv.fl (CvL.cons Cv.fl (CvL.cons Cv.fl (CvL.cons Cv.fl (CvL.cons Cv.fl (CvL.cons Cv.fl CvL.nil))))))))))) ?_
 refine ws (Step.boxObj (ls := [(false, 1, Fact.rep [] a1.Stripe), (false, 1, Fact.rep [0] a1.Blocks), (false, 1, Fact.rep [0] a1.Dirty), (false, 1, Fact.rep [] a1.Phase), (false, 1, Fact.rep [] a1.Deals), (false, 1, Fact.rep [] a1.Seq)]) 17 rfl rfl rfl rfl (HasL.flds (Has.cv (Has.s rfl) (Cv.trans (Cv.opens (chHead a1)) (Cv.flds (CvL.cons Cv.fl (CvL.cons Cv.refl (CvL.cons Cv.refl (CvL.cons Cv.fl (CvL.cons Cv.fl (CvL.cons Cv.fl CvL.nil))))))))))) ?_
 refine wo (Spec.assign Has.nilv) ?_
 refine Walk.nil ?_
 refine Leaf.thenN ?_
 refine CWalk.seq ?_
 refine CWalk.region ?_
 refine wo (Spec.assign Has.nilv) ?_
 refine Walk.nil ?_
 refine Leaf.thenN ?_
 refine CWalk.seq ?_
 refine CWalk.seq ?_
 refine CWalk.region ?_
 refine wo (Spec.assign Has.int) ?_
 refine Walk.nil ?_
 refine Leaf.thenN ?_
 refine CWalk.block ?_
 obtain ⟨b7, hb7, hm⟩ := bind_some hm
 refine CWalk.loop (fun s : (List Int) × Int => [.fact 2 (.isv 10), .fact 3 (.isv 17), .fact 5 (.ow [25] [] 3 (s.1 : List Int)), .fact 6 (.rep [] s.2), .fact 100011 (.at 11 (.rep [] a0.Id)), .fact 100012 (.at 12 (.rep [] a0.Members)), .fact 100013 (.at 13 (.rep [] a0.Chunk)), .fact 100014 (.at 14 (.rep [] a0.Rows)), .fact 100015 (.at 15 (.rep [] a0.Log)), .fact 100016 (.at 16 (.rep [] a0.Heads)), .fact 100018 (.at 18 (.rep [] a1.Stripe)), .fact 100019 (.at 19 (.rep [0] a1.Blocks)), .fact 100020 (.at 20 (.rep [0] a1.Dirty)), .fact 100021 (.at 21 (.rep [] a1.Phase)), .fact 100022 (.at 22 (.rep [] a1.Deals)), .fact 100023 (.at 23 (.rep [] a1.Seq)), .fact 100010 (.obj 10 [(false, 1), (false, 1), (false, 1), (false, 1), (false, 1), (false, 1)]), .fact 100017 (.obj 17 [(false, 1), (false, 1), (false, 1), (false, 1), (false, 1), (false, 1)])]) (fun b : (List Int) => (Exit.exit 0, [.fact 2 (.isv 10), .fact 5 (.ow [25] [] 3 (b : List Int)), .fact 100011 (.at 11 (.rep [] a0.Id)), .fact 100012 (.at 12 (.rep [] a0.Members)), .fact 100013 (.at 13 (.rep [] a0.Chunk)), .fact 100014 (.at 14 (.rep [] a0.Rows)), .fact 100015 (.at 15 (.rep [] a0.Log)), .fact 100016 (.at 16 (.rep [] a0.Heads)), .fact 100010 (.obj 10 [(false, 1), (false, 1), (false, 1), (false, 1), (false, 1), (false, 1)])])) hb7 (sn (sn (Sub.cons (Has.cv (Has.s rfl) (Cv.trans Cv.nilOw (Cv.owF (T := []) (te := []) rfl))) (st (sf (sf (sf (sf (sf (sf (sf (sm (sm (sf (sf (sf (sn (sn Sub.nil)))))))))))))))))) ?_ ?_
 ·rintro ⟨s1, s2⟩ c3 hm
  replace hm : ref17_Old_L1 a0 a1 s1 s2 = some c3 := hm
  unfold ref17_Old_L1 at hm
  show CWalk _ [.fact 2 (.isv 10), .fact 3 (.isv 17), .fact 5 (.ow [25] [] 3 (s1 : List Int)), .fact 6 (.rep [] (s2 : Int)), .fact 100011 (.at 11 (.rep [] a0.Id)), .fact 100012 (.at 12 (.rep [] a0.Members)), .fact 100013 (.at 13 (.rep [] a0.Chunk)), .fact 100014 (.at 14 (.rep [] a0.Rows)), .fact 100015 (.at 15 (.rep [] a0.Log)), .fact 100016 (.at 16 (.rep [] a0.Heads)), .fact 100018 (.at 18 (.rep [] a1.Stripe)), .fact 100019 (.at 19 (.rep [0] a1.Blocks)), .fact 100020 (.at 20 (.rep [0] a1.Dirty)), .fact 100021 (.at 21 (.rep [] a1.Phase)), .fact 100022 (.at 22 (.rep [] a1.Deals)), .fact 100023 (.at 23 (.rep [] a1.Seq)), .fact 100010 (.obj 10 [(false, 1), (false, 1), (false, 1), (false, 1), (false, 1), (false, 1)]), .fact 100017 (.obj 17 [(false, 1), (false, 1), (false, 1), (false, 1), (false, 1), (false, 1)])] _ _
  refine CWalk.seq ?_
  refine CWalk.seq ?_
  refine CWalk.region ?_
  refine mv ?_
  refine wo (Spec.fieldAddrO fd24_1 (Has.cv (Has.s rfl) (Cv.isvP rfl))) ?_
  refine wo (Spec.loadF (i := 1) ty3 rfl (Has.s rfl) rfl (HasG.s rfl)) ?_
  refine wo (Spec.subI (Has.s rfl) Has.int) ?_
  refine wo (Spec.lssI (Has.s rfl) (Has.s rfl)) ?_
  refine Walk.nil ?_
  refine Leaf.thenN ?_
  refine CWalk.cond rfl (fun hb => ?_) (fun hb => ?_)
  ·have hm := cond_t hb hm
   refine CWalk.skip ?_
   refine Leaf.thenN ?_
   refine CWalk.seqJ (fun p : (List Int) => [.fact 2 (.isv 10), .fact 3 (.isv 17), .fact 5 (.ow [25] [] 3 (p : List Int)), .fact 6 (.rep [] (s2 : Int)), .fact 100011 (.at 11 (.rep [] a0.Id)), .fact 100012 (.at 12 (.rep [] a0.Members)), .fact 100013 (.at 13 (.rep [] a0.Chunk)), .fact 100014 (.at 14 (.rep [] a0.Rows)), .fact 100015 (.at 15 (.rep [] a0.Log)), .fact 100016 (.at 16 (.rep [] a0.Heads)), .fact 100018 (.at 18 (.rep [] a1.Stripe)), .fact 100019 (.at 19 (.rep [0] a1.Blocks)), .fact 100020 (.at 20 (.rep [0] a1.Dirty)), .fact 100021 (.at 21 (.rep [] a1.Phase)), .fact 100022 (.at 22 (.rep [] a1.Deals)), .fact 100023 (.at 23 (.rep [] a1.Seq)), .fact 100010 (.obj 10 [(false, 1), (false, 1), (false, 1), (false, 1), (false, 1), (false, 1)]), .fact 100017 (.obj 17 [(false, 1), (false, 1), (false, 1), (false, 1), (false, 1), (false, 1)])]) (fun p : (List Int) => ref17_Old_J2 s2 p = some c3) ?_ ?_
   ·rintro j4 hm
    replace hm : ref17_Old_J2 s2 j4 = some c3 := hm
    unfold ref17_Old_J2 at hm
    show CWalk _ [.fact 2 (.isv 10), .fact 3 (.isv 17), .fact 5 (.ow [25] [] 3 (j4 : List Int)), .fact 6 (.rep [] (s2 : Int)), .fact 100011 (.at 11 (.rep [] a0.Id)), .fact 100012 (.at 12 (.rep [] a0.Members)), .fact 100013 (.at 13 (.rep [] a0.Chunk)), .fact 100014 (.at 14 (.rep [] a0.Rows)), .fact 100015 (.at 15 (.rep [] a0.Log)), .fact 100016 (.at 16 (.rep [] a0.Heads)), .fact 100018 (.at 18 (.rep [] a1.Stripe)), .fact 100019 (.at 19 (.rep [0] a1.Blocks)), .fact 100020 (.at 20 (.rep [0] a1.Dirty)), .fact 100021 (.at 21 (.rep [] a1.Phase)), .fact 100022 (.at 22 (.rep [] a1.Deals)), .fact 100023 (.at 23 (.rep [] a1.Seq)), .fact 100010 (.obj 10 [(false, 1), (false, 1), (false, 1), (false, 1), (false, 1), (false, 1)]), .fact 100017 (.obj 17 [(false, 1), (false, 1), (false, 1), (false, 1), (false, 1), (false, 1)])] _ _
    refine CWalk.region ?_
    refine mv ?_
    refine wo (Spec.addI (Has.s rfl) Has.int) ?_
    refine wo (Spec.assign (Has.s rfl)) ?_
    refine Walk.nil ?_
    exact Leaf.next hm (sn (sn (Sub.cons (Has.cv (Has.s rfl) (Cv.owF (T := [25]) (te := []) rfl)) (st (sf (sf (sf (sf (sf (sf (sf (sm (sm (sf (sf (sf (sn (sn Sub.nil))))))))))))))))))
   ·refine CWalk.block ?_
    refine CWalk.seq ?_
    refine CWalk.region ?_
    refine wo (Spec.fieldAddrO fd28_2 (Has.cv (Has.s rfl) (Cv.isvP rfl))) ?_
    refine wo (Spec.loadF (i := 2) ty26 rfl (Has.s rfl) rfl (HasG.s rfl)) ?_
    refine mv ?_
    obtain ⟨x5, hx5, hm⟩ := bind_some hm
    refine wo (Spec.indexAddr hx5 sl26 (Has.s rfl) (Has.s rfl)) ?_
    refine wo ((Spec.load ty4 (Has.s rfl)).flat (T' := [])) ?_
    refine Walk.nil ?_
    refine Leaf.thenN ?_
    refine CWalk.cond rfl (fun hb => ?_) (fun hb => ?_)
    ·have hm := cond_t hb hm
     refine CWalk.region ?_
     refine mv ?_
     refine mv ?_
     refine wo (Spec.lit (xs := [.tmp 20]) (T := []) 24 rfl ow31 rfl rfl rfl rfl (HasEach.cons (Has.fl (Has.s rfl)) HasEach.nil)) ?_
     obtain ⟨x6, hx6, hm⟩ := bind_some hm
     refine ws (Step.appendOw (T := [25]) (te' := []) hx6 rfl rfl rfl ow31 (Has.s rfl) (Has.s rfl) ElKeeps.flat ElKeeps.flat) ?_
     refine wo (Spec.assign (Has.s rfl)) ?_
     refine Walk.nil ?_
     refine Leaf.blockN ?_
     exact Leaf.join x6 hm (sn (sn (Sub.cons (Has.cv (Has.s rfl) (Cv.owF (T := [25]) (te := []) rfl)) (st (sf (sf (sf (sf (sf (sf (sf (sm (sm (sf (sf (sf (sn (sn Sub.nil))))))))))))))))))
    ·have hm := cond_f hb hm
     refine CWalk.skip ?_
     refine Leaf.blockN ?_
     exact Leaf.join s1 hm (sn (sn (Sub.cons (Has.cv (Has.s rfl) (Cv.owF (T := [25]) (te := []) rfl)) (st (sf (sf (sf (sf (sf (sf (sf (sm (sm (sf (sf (sf (sn (sn Sub.nil))))))))))))))))))
  ·have hm := cond_f hb hm
   refine CWalk.exit ?_
   refine Leaf.thenE ?_
   exact Leaf.brk hm (fun h => nomatch h) rfl (sn (Sub.cons (Has.cv (Has.s rfl) (Cv.owF (T := [25]) (te := []) rfl)) (sf (sf (sf (sf (sf (sf (sn Sub.nil)))))))))
 ·intro _
  refine Leaf.blockE ?_
  refine Leaf.thenN ?_
  refine CWalk.seq ?_
  refine CWalk.region ?_
  refine mv ?_
  refine wo (Spec.fieldAddrO fd24_1 (Has.cv (Has.s rfl) (Cv.isvP rfl))) ?_
  refine wo (Spec.loadF (i := 1) ty3 rfl (Has.s rfl) rfl (HasG.s rfl)) ?_
  refine wo (Spec.subI (Has.s rfl) Has.int) ?_
  refine wo (Spec.lit (xs := [.tmp 26]) (T := []) 26 rfl ow31 rfl rfl rfl rfl (HasEach.cons (Has.fl (Has.s rfl)) HasEach.nil)) ?_
  obtain ⟨x8, hx8, hm⟩ := bind_some hm
  refine ws (Step.appendOw (T := [25]) (te' := []) hx8 rfl rfl rfl ow31 (Has.s rfl) (Has.s rfl) ElKeeps.flat ElKeeps.flat) ?_
  refine wo (Spec.assign (Has.s rfl)) ?_
  refine Walk.nil ?_
  refine Leaf.thenN ?_
  refine CWalk.ret ?_
  obtain rfl := Option.some.inj hm
  exact Leaf.retC1 rfl (HasR.cv (HasR.tmp (Has.s rfl)) (Cv.owF (T := [25]) (te := []) rfl))

/-- freeboard/freeboardref07.On, at the depth where it is given up -/
def ref07_On_r2 (_a0 : Config) (_a1 : Int) (_a2 : Int) : Option (Int) :=
  none
theorem ref07_On_r2_c (a0 : Config) (a1 : Int) (a2 : Int) {r : Int} (hm : ref07_On_r2 a0 a1 a2 = some r) : Ctr Try.prog 59 [.rep 0 a0, .rep 0 a1, .rep 0 a2] (.fl r) [] := nomatch hm

def ref07_On_r1_L1 (a0 : Config) (a1 : Int) (s2 : Int) (s3 : Int) : Option (Ctl (Int × Int) (Int)) :=
  (bif (decide (s3 < (wI (a0.Members - (1 : Int))))) then Option.bind (ref07_On_r2 a0 a1 s3) (fun x5 => some (Ctl.next ((wI (s2 + x5)), (wI (s3 + (1 : Int)))))) else some (Ctl.brk s2))
/-- freeboard/freeboardref07.On -/
def ref07_On_r1 (a0 : Config) (a1 : Int) (a2 : Int) : Option (Int) :=
  Option.bind (quoI a1 a0.Chunk) (fun x1 => (bif (a2 == (wI (a0.Members - (1 : Int)))) then Option.bind (loopM (fun s : Int × Int => ref07_On_r1_L1 a0 a1 s.1 s.2) FUEL ((0 : Int), (0 : Int))) (fun b6 => Option.bind (quoI (wI (a0.Members * (wI (a0.Members - (1 : Int))))) (2 : Int)) (fun x7 => some (wI (x7 - b6)))) else Option.bind (remI (wI ((wI (x1 * (wI (a0.Members - (1 : Int))))) + a2)) a0.Members) (fun x8 => some x8)))
set_option maxRecDepth 100000 in
set_option maxHeartbeats 2000000 in
theorem ref07_On_r1_c (a0 : Config) (a1 : Int) (a2 : Int) {r : Int} (hm : ref07_On_r1 a0 a1 a2 = some r) : Ctr Try.prog 59 [.rep 0 a0, .rep 0 a1, .rep 0 a2] (.fl r) [] := by
 refine ctr_of_walk [[]] 51 Try.func59 rfl rfl rfl rfl (fun w0 om => ?_)
 unfold ref07_On_r1 at hm
 refine CWalk.sub (G' := [.fact 0 (.rep [] (a0 : Config)), .fact 1 (.rep [] (a1 : Int)), .fact 2 (.rep [] (a2 : Int))]) (Sub.cons (Has.fl (Has.s rfl)) (Sub.cons (Has.fl (Has.s rfl)) (Sub.cons (Has.fl (Has.s rfl)) Sub.nil))) ?_
 refine CWalk.seq ?_
 refine CWalk.region ?_
 refine ws (Step.boxObj (ls := [(false, 1, Fact.rep [] a0.Id), (false, 1, Fact.rep [] a0.Members), (false, 1, Fact.rep [] a0.Chunk), (false, 1, Fact.rep [] a0.Rows), (false, 1, Fact.rep [] a0.Log), (false, 1, Fact.rep [] a0.Heads)]) 10 rfl rfl rfl rfl (HasL.flds (Has.cv (Has.s rfl) (Cv.trans (Cv.opens (chConfig a0)) (Cv.flds (CvL.cons Cv.fl (CvL.cons Cv.fl (CvL.cons Cv.fl (CvL.cons Cv.fl (CvL.cons Cv.fl (CvL.cons Cv.fl CvL.nil))))))))))) ?_
 refine wo (Spec.assign Has.int) ?_
 refine Walk.nil ?_
 refine Leaf.thenN ?_
 refine CWalk.seq ?_
 refine CWalk.region ?_
 refine mv ?_
 refine wo (Spec.fieldAddrO fd24_2 (Has.cv (Has.s rfl) (Cv.isvP rfl))) ?_
 refine wo (Spec.loadF (i := 2) ty3 rfl (Has.s rfl) rfl (HasG.s rfl)) ?_
 obtain ⟨x1, hx1, hm⟩ := bind_some hm
 refine wo (Spec.quoI hx1 (Has.s rfl) (Has.s rfl)) ?_
 refine wo (Spec.assign (Has.s rfl)) ?_
 refine Walk.nil ?_
 refine Leaf.thenN ?_
 refine CWalk.seq ?_
 refine CWalk.seq ?_
 refine CWalk.region ?_
 refine mv ?_
 refine wo (Spec.fieldAddrO fd24_1 (Has.cv (Has.s rfl) (Cv.isvP rfl))) ?_
 refine wo (Spec.loadF (i := 1) ty3 rfl (Has.s rfl) rfl (HasG.s rfl)) ?_
 refine wo (Spec.subI (Has.s rfl) Has.int) ?_
 refine wo (Spec.eqlI (Has.s rfl) (Has.s rfl)) ?_
 refine Walk.nil ?_
 refine Leaf.thenN ?_
 refine CWalk.cond rfl (fun hb => ?_) (fun hb => ?_)
 ·have hm := cond_t hb hm
  refine CWalk.seq ?_
  refine CWalk.region ?_
  refine wo (Spec.assign Has.int) ?_
  refine Walk.nil ?_
  refine Leaf.thenN ?_
  refine CWalk.seq ?_
  refine CWalk.seq ?_
  refine CWalk.region ?_
  refine wo (Spec.assign Has.int) ?_
  refine Walk.nil ?_
  refine Leaf.thenN ?_
  refine CWalk.block ?_
  obtain ⟨b6, hb6, hm⟩ := bind_some hm
  refine CWalk.loop (fun s : Int × Int => [.fact 1 (.rep [] (a1 : Int)), .fact 3 (.isv 10), .fact 8 (.rep [] s.1), .fact 9 (.rep [] s.2), .fact 100011 (.at 11 (.rep [] a0.Id)), .fact 100012 (.at 12 (.rep [] a0.Members)), .fact 100013 (.at 13 (.rep [] a0.Chunk)), .fact 100014 (.at 14 (.rep [] a0.Rows)), .fact 100015 (.at 15 (.rep [] a0.Log)), .fact 100016 (.at 16 (.rep [] a0.Heads)), .fact 100010 (.obj 10 [(false, 1), (false, 1), (false, 1), (false, 1), (false, 1), (false, 1)])]) (fun b : Int => (Exit.exit 0, [.fact 3 (.isv 10), .fact 8 (.rep [] (b : Int)), .fact 100011 (.at 11 (.rep [] a0.Id)), .fact 100012 (.at 12 (.rep [] a0.Members)), .fact 100013 (.at 13 (.rep [] a0.Chunk)), .fact 100014 (.at 14 (.rep [] a0.Rows)), .fact 100015 (.at 15 (.rep [] a0.Log)), .fact 100016 (.at 16 (.rep [] a0.Heads)), .fact 100010 (.obj 10 [(false, 1), (false, 1), (false, 1), (false, 1), (false, 1), (false, 1)])])) hb6 (st (sn (st (st (sf (sf (sf (sf (sf (sf (sn Sub.nil))))))))))) ?_ ?_
  ·rintro ⟨s2, s3⟩ c4 hm
   replace hm : ref07_On_r1_L1 a0 a1 s2 s3 = some c4 := hm
   unfold ref07_On_r1_L1 at hm
   show CWalk _ [.fact 1 (.rep [] (a1 : Int)), .fact 3 (.isv 10), .fact 8 (.rep [] (s2 : Int)), .fact 9 (.rep [] (s3 : Int)), .fact 100011 (.at 11 (.rep [] a0.Id)), .fact 100012 (.at 12 (.rep [] a0.Members)), .fact 100013 (.at 13 (.rep [] a0.Chunk)), .fact 100014 (.at 14 (.rep [] a0.Rows)), .fact 100015 (.at 15 (.rep [] a0.Log)), .fact 100016 (.at 16 (.rep [] a0.Heads)), .fact 100010 (.obj 10 [(false, 1), (false, 1), (false, 1), (false, 1), (false, 1), (false, 1)])] _ _
   refine CWalk.seq ?_
   refine CWalk.seq ?_
   refine CWalk.region ?_
   refine mv ?_
   refine wo (Spec.fieldAddrO fd24_1 (Has.cv (Has.s rfl) (Cv.isvP rfl))) ?_
   refine wo (Spec.loadF (i := 1) ty3 rfl (Has.s rfl) rfl (HasG.s rfl)) ?_
   refine wo (Spec.subI (Has.s rfl) Has.int) ?_
   refine wo (Spec.lssI (Has.s rfl) (Has.s rfl)) ?_
   refine Walk.nil ?_
   refine Leaf.thenN ?_
   refine CWalk.cond rfl (fun hb => ?_) (fun hb => ?_)
   ·have hm := cond_t hb hm
    refine CWalk.skip ?_
    refine Leaf.thenN ?_
    refine CWalk.seq ?_
    refine CWalk.block ?_
    refine CWalk.region ?_
    refine mv ?_
    refine wo (Spec.loadObj (ls := [(false, 1, Fact.rep [] a0.Id), (false, 1, Fact.rep [] a0.Members), (false, 1, Fact.rep [] a0.Chunk), (false, 1, Fact.rep [] a0.Rows), (false, 1, Fact.rep [] a0.Log), (false, 1, Fact.rep [] a0.Heads)]) ty24 rfl rfl (Has.s rfl) rfl (HasGs.cons (HasG.s rfl) (HasGs.cons (HasG.s rfl) (HasGs.cons (HasG.s rfl) (HasGs.cons (HasG.s rfl) (HasGs.cons (HasG.s rfl) (HasGs.cons (HasG.s rfl) HasGs.nil))))))) ?_
    refine mv ?_
    refine mv ?_
    obtain ⟨x5, hx5, hm⟩ := bind_some hm
    refine wo (f := Fact.rep [] (x5 : Int)) (Spec.callE [] 17 rfl en59 (ref07_On_r2_c a0 a1 s3 hx5) (HasAll.cons (Has.fl (Has.cv (Has.s rfl) (Cv.trans (Cv.flds (CvL.cons Cv.fl (CvL.cons Cv.fl (CvL.cons Cv.fl (CvL.cons Cv.fl (CvL.cons Cv.fl (CvL.cons Cv.fl CvL.nil))))))) (Cv.close (T := []) (chConfig a0))))) (HasAll.cons (Has.fl (Has.s rfl)) (HasAll.cons (Has.fl (Has.s rfl)) HasAll.nil)))) ?_
    refine wo (Spec.addI (Has.s rfl) (Has.s rfl)) ?_
    refine wo (Spec.assign (Has.s rfl)) ?_
    refine Walk.nil ?_
    refine Leaf.blockN ?_
    refine Leaf.thenN ?_
    refine CWalk.region ?_
    refine mv ?_
    refine wo (Spec.addI (Has.s rfl) Has.int) ?_
    refine wo (Spec.assign (Has.s rfl)) ?_
    refine Walk.nil ?_
    exact Leaf.next hm (st (sn (st (st (sf (sf (sf (sf (sf (sf (sn Sub.nil)))))))))))
   ·have hm := cond_f hb hm
    refine CWalk.exit ?_
    refine Leaf.thenE ?_
    exact Leaf.brk hm (fun h => nomatch h) rfl (sn (st (sf (sf (sf (sf (sf (sf (sn Sub.nil)))))))))
  ·intro _
   refine Leaf.blockE ?_
   refine Leaf.thenN ?_
   refine CWalk.seq ?_
   refine CWalk.region ?_
   refine wo (Spec.fieldAddrO fd24_1 (Has.cv (Has.s rfl) (Cv.isvP rfl))) ?_
   refine wo (Spec.loadF (i := 1) ty3 rfl (Has.s rfl) rfl (HasG.s rfl)) ?_
   refine wo (Spec.fieldAddrO fd24_1 (Has.cv (Has.s rfl) (Cv.isvP rfl))) ?_
   refine wo (Spec.loadF (i := 1) ty3 rfl (Has.s rfl) rfl (HasG.s rfl)) ?_
   refine wo (Spec.subI (Has.s rfl) Has.int) ?_
   refine wo (Spec.mulI (Has.s rfl) (Has.s rfl)) ?_
   obtain ⟨x7, hx7, hm⟩ := bind_some hm
   refine wo (Spec.quoI hx7 (Has.s rfl) Has.int) ?_
   refine mv ?_
   refine wo (Spec.subI (Has.s rfl) (Has.s rfl)) ?_
   refine wo (Spec.assign (Has.s rfl)) ?_
   refine Walk.nil ?_
   refine Leaf.thenN ?_
   refine CWalk.ret ?_
   refine Leaf.thenR ?_
   obtain rfl := Option.some.inj hm
   exact Leaf.retC1 rfl (HasR.cv (HasR.tmp (Has.s rfl)) Cv.fl)
 ·have hm := cond_f hb hm
  refine CWalk.skip ?_
  refine Leaf.thenN ?_
  refine CWalk.seq ?_
  refine CWalk.region ?_
  refine mv ?_
  refine wo (Spec.fieldAddrO fd24_1 (Has.cv (Has.s rfl) (Cv.isvP rfl))) ?_
  refine wo (Spec.loadF (i := 1) ty3 rfl (Has.s rfl) rfl (HasG.s rfl)) ?_
  refine wo (Spec.subI (Has.s rfl) Has.int) ?_
  refine wo (Spec.mulI (Has.s rfl) (Has.s rfl)) ?_
  refine mv ?_
  refine wo (Spec.addI (Has.s rfl) (Has.s rfl)) ?_
  refine wo (Spec.fieldAddrO fd24_1 (Has.cv (Has.s rfl) (Cv.isvP rfl))) ?_
  refine wo (Spec.loadF (i := 1) ty3 rfl (Has.s rfl) rfl (HasG.s rfl)) ?_
  obtain ⟨x8, hx8, hm⟩ := bind_some hm
  refine wo (Spec.remI hx8 (Has.s rfl) (Has.s rfl)) ?_
  refine wo (Spec.assign (Has.s rfl)) ?_
  refine Walk.nil ?_
  refine Leaf.thenN ?_
  refine CWalk.ret ?_
  obtain rfl := Option.some.inj hm
  exact Leaf.retC1 rfl (HasR.cv (HasR.tmp (Has.s rfl)) Cv.fl)

end Go.Proofs.Ythdeieeckjhfpaa
